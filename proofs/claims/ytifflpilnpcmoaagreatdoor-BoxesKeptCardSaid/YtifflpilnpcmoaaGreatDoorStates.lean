/- State, States and Moments: of the program. -/
import Derived.Test.YtifflpilnpcmoaaGreatDoorEntry
import Derived.Test.YtifflpilnpcmoaaGreatDoorByP2
import Derived.Test.YtifflpilnpcmoaaGreatDoorArrs
import Derived.Test.YtifflpilnpcmoaaGreatDoorSort
import Derived.Laws.StructEq
/-! State, States and Moments: of the program. -/
namespace Go.Proofs.YtifflpilnpcmoaaGreatDoor
open Go.RowKit Go.Sort
set_option linter.unusedVariables false
set_option linter.unusedSimpArgs false

/-- A call and arrivals in memory. -/
structure CallIn (a f : Int) (s : List Skill) (a3 : Option Addr) (l : List Arv) (la : Option Addr) (w : World) : Prop where
  env : Env w
  hs : SA w a3 s
  hsl : s.length ≤ 1000000
  hsm : ∀ x ∈ s, x.1.size ≤ 1000
  hbd : ∀ x ∈ s, 0 ≤ x.2 ∧ x.2 ≤ 10000000
  ab : 0 ≤ a ∧ a ≤ 10000000 ∧ 0 ≤ f ∧ f ≤ 10000000
  hl : SA w la l
  hlf : la = none ∨ ∃ b off, la = some ⟨b, off, none⟩
  hll : l.length ≤ 100000
  hok : ∀ x ∈ l, ArvOk x
theorem CallIn.below {a f : Int} {s : List Skill} {a3 : Option Addr} {l : List Arv} {la : Option Addr} {w w' : World} (h : CallIn a f s a3 l la w) (hb : Below w.heap.size w w') : CallIn a f s a3 l la w' :=
  ⟨h.env.below hb, h.hs.below hb, h.hsl, h.hsm, h.hbd, h.ab, h.hl.below hb, h.hlf, h.hll, h.hok⟩
/-- A paper's arrivals that count, in order. -/
noncomputable def ownA (o a f : Int) (s : List Skill) (l : List Arv) (id : ByteArray) : List Arv := ownL (cntB o a f s) id (dedL (sortC cmpA l))
theorem ownA_ok (o a f : Int) (s : List Skill) (l : List Arv) (id : ByteArray) : OwnOk id (ownA o a f s l id) ∧ ∀ x, x ∈ ownA o a f s l id ↔ x ∈ l ∧ x.1 = id ∧ cntB o a f s x = true := own_ok (cntB o a f s) id l
theorem ownA_one {o a f : Int} {s : List Skill} {l : List Arv} {id : ByteArray} : ∀ x ∈ ownA o a f s l id, x.1 = id := fun x hx => ((ownA_ok o a f s l id).2 x).1 hx |>.2.1
theorem ownA_kind {o a f : Int} {s : List Skill} {l : List Arv} {id : ByteArray} (h : arrsFault o a f s l = 0) : ∀ x ∈ ownA o a f s l id, 1 ≤ x.2.2.1 ∧ x.2.2.1 ≤ 3 := fun x hx =>
  kindB_of (arrival_kind ((arrsFault_mem h).2.2 x (((ownA_ok o a f s l id).2 x).1 hx).1))
theorem ownA_len (o a f : Int) (s : List Skill) (l : List Arv) (id : ByteArray) : (ownA o a f s l id).length ≤ l.length := by
  have h1 := ownL_len (cntB o a f s) id (dedL (sortC cmpA l))
  have h2 := dedL_len (sortC cmpA l)
  rw [sortC_len totC_A] at h2
  unfold ownA
  omega
noncomputable def stE (o a f : Int) (s : List Skill) (l : List Arv) (id : ByteArray) (t : Int) : Int := if arrsFault o a f s l ≠ 0 then arrsFault o a f s l else if keyB id = false then 5 else if momB t = false then 1 else 0
noncomputable def stV (o a f : Int) (s : List Skill) (l : List Arv) (id : ByteArray) (t : Int) : Ent5 := if stE o a f s l id t = 0 then entL (ownA o a f s l id) id t else (⟨#[]⟩, 0, ⟨#[]⟩, ⟨#[]⟩, 0)
theorem nodup_lenA {α : Type} [DecidableEq α] {a b : List α} (h : a.Nodup) (hs : ∀ p ∈ a, p ∈ b) : a.length ≤ b.length := by
  induction a generalizing b with
  | nil => simp
  | cons x r ih =>
    rw [List.nodup_cons] at h
    have hx : x ∈ b := hs x (by simp)
    have h1 := ih h.2 (b := b.erase x) (fun p hp => (List.mem_erase_of_ne (fun (e : p = x) => h.1 (e ▸ hp))).2 (hs p (by simp [hp])))
    rw [List.length_erase_of_mem hx] at h1
    have h2 := List.length_pos_of_mem hx
    simp
    omega
set_option maxHeartbeats 1000000 in
theorem keysArr_any (b base : Nat) (K : List ByteArray) (F : ByteArray → List Arv) (es : List (ByteArray × Value)) (w : World) (h : ASl w b base K F es) (hK : K.length ≤ 1000000) (hsz : ∀ p ∈ K, p.size ≤ 1000) :
    Calls Tryz.prog 42 #[.func (.func 69) #[] #[.pointer (some ⟨w.heap.size, 0, none⟩)]] (w.alloc (.cells #[.map (some b)] 77)) (fun e w' => ∃ v, e = .returned v ∧ Own w.heap.size 9 w' v (keysS K) ∧ Below w.heap.size w w') := by
  have hmem : ∀ p, p ∈ es.map (·.1) → p ∈ K := fun p hp => (h.keys p).1 hp
  have hel : es.length ≤ K.length := by
    have := nodup_lenA h.nodup hmem
    simpa using this
  have hes : ∀ x ∈ es, x.1.size ≤ 1000000 := fun x hx => by
    have := hsz x.1 (hmem x.1 (List.mem_map_of_mem hx))
    omega
  obtain ⟨D, hown, hsize, hperm⟩ := h.box.owns h.nodup hes (by omega)
  have hfin : ∀ ss : List (List UInt8), ss.Perm (strKeys D) → (ss.mergeSort fun x y => decide (x ≤ y)).map ofL = keysS K := fun ss hss => by
    have hp := hss.trans hperm
    have hnd : ss.Nodup := by
      refine hp.nodup_iff.2 ?_
      refine List.pairwise_map.2 (h.nodup.imp fun {a b} hne e => hne ?_)
      rw [← ofL_toL a, e, ofL_toL]
    refine keysS_is (rise_sorted ss hnd) (fun p => ?_)
    rw [List.mem_map]
    constructor
    · rintro ⟨x, hx, rfl⟩
      rw [List.mem_mergeSort, hp.mem_iff, List.mem_map] at hx
      obtain ⟨q, hq, rfl⟩ := hx
      rw [ofL_toL]
      exact hmem q hq
    · intro hpl
      refine ⟨toL p, ?_, ofL_toL p⟩
      rw [List.mem_mergeSort, hp.mem_iff]
      exact List.mem_map_of_mem ((h.keys p).2 hpl)
  refine ((callsIn_wide (n := 5)).1 (Tryz.slices_Sorted_keys_42_43 b es.length D _ w hown (by rw [hsize]; unfold maxLen; omega) (by rw [hsize]; omega))).mono ?_
  rintro e w' ⟨v, ss, rfl, hS, hrow, hnil, hb⟩
  refine ⟨v, rfl, ?_, ((Below.refl _ w).alloc (Nat.le_refl _) _).trans (hb.mono (by simp))⟩
  rw [← hfin ss hS]
  unfold Own
  rw [← enc_ofL, List.length_map, List.length_mergeSort]
  exact ownsRow_base_a hrow (by simp)
set_option maxRecDepth 100000 in
set_option maxHeartbeats 4000000 in
theorem stateP_any (o a f : Int) (s : List Skill) (a3 : Option Addr) (c3 : Nat) (l : List Arv) (la : Option Addr) (cap : Nat) (id : ByteArray) (t : Int) (w : World) (h : CallIn a f s a3 l la w) (hid : id.size ≤ 1000) :
    Calls Tryz.prog 9 #[callAgg o a f s a3 c3, .slice la l.length cap, .string id, .int .i64 t] w (Gives (.tuple #[entAgg (stV o a f s l id t), .int .i64 (stE o a f s l id t)]) w) := by
  have HF := Lib.hid (fun W (h : CallIn a f s a3 l la W) => arrsFaultP_any o a f s a3 c3 l la cap W h.env h.hs h.hsl h.hsm h.hl h.hll h.hok)
  have HB := Lib.hid (fun W (h : CallIn a f s a3 l la W) => byPaper_any o a f s a3 c3 l la cap W h.hs h.hsl h.hbd h.ab.1 h.ab.2.1 h.ab.2.2.1 h.ab.2.2.2 h.hl h.hlf h.hll)
  have HEn := Lib.hid (fun (h0 : arrsFault o a f s l = 0) (W : World) (av : Option Addr) (cv : Nat) (hs : SA W av (ownA o a f s l id)) => entryP_any (ownA o a f s l id) av cv id t W hs (by have := ownA_len o a f s l id; have := h.hll; omega) (ownA_kind h0) ownA_one)
  have HVl := Lib.hid (show stV o a f s l id t = if stE o a f s l id t = 0 then entL (ownA o a f s l id) id t else (⟨#[]⟩, 0, ⟨#[]⟩, ⟨#[]⟩, 0) from rfl)
  have HEr := Lib.hid (show stE o a f s l id t = if arrsFault o a f s l ≠ 0 then arrsFault o a f s l else if keyB id = false then 5 else if momB t = false then 1 else 0 from rfl)
  generalize stV o a f s l id t = vl at *
  generalize stE o a f s l id t = er at *
  have Hown : Hid (∀ b base es W, ASl W b base ((dedL (sortC cmpA l)).map (·.1)) (fun p => ownL (cntB o a f s) p (dedL (sortC cmpA l))) es → ∃ av cv, valOf es id = .slice av (ownA o a f s l id).length cv ∧ SA W av (ownA o a f s l id)) := by
    intro b base es W hA
    obtain ⟨av, cv, e, hsa, -, -⟩ := (hA.vals id).form
    exact ⟨av, cv, e, hsa⟩
  generalize ownA o a f s l id = m at *
  generalize arrsFault o a f s l = pf at *
  unfold callAgg at *
  have hR0 := Box.newAt (w.alloc (.cells #[.int .i64 o, .int .i64 a, .int .i64 f, .slice a3 s.length c3] 28)) (w.heap.size + 1) 35 #[.string ⟨#[]⟩, .int .i64 0, .string ⟨#[]⟩, .string ⟨#[]⟩, .int .i64 0] (by simp)
  have hC0 := (Box.new w 28 #[.int .i64 o, .int .i64 a, .int .i64 f, .slice a3 s.length c3]).alloc (.cells #[.string ⟨#[]⟩, .int .i64 0, .string ⟨#[]⟩, .string ⟨#[]⟩, .int .i64 0] 35)
  have hb0 : Below w.heap.size w ((w.alloc (.cells #[.int .i64 o, .int .i64 a, .int .i64 f, .slice a3 s.length c3] 28)).alloc (.cells #[.string ⟨#[]⟩, .int .i64 0, .string ⟨#[]⟩, .string ⟨#[]⟩, .int .i64 0] 35)) := by (repeat' (first | exact Below.refl _ _ | assumption | refine Below.setCell ?_ ?_ _ | refine below_drewN ?_ _ | refine Below.drew ?_ | refine Below.alloc ?_ ?_ _ | (with_reducible refine Below.trans ?_ (Below.mono hb ?_)) | (with_reducible refine Below.trans ?_ (Below.mono hb0 ?_)) | (with_reducible refine Below.trans ?_ (Below.mono hb1 ?_)) | (with_reducible refine Below.trans ?_ (Below.mono hb2 ?_)) | (with_reducible refine Below.trans ?_ (Below.mono hb3 ?_)) | (with_reducible refine Below.trans ?_ (Below.mono hb4 ?_)) | (with_reducible refine Below.trans ?_ (Below.mono hb5 ?_)) | (with_reducible refine Below.trans ?_ (Below.mono hb6 ?_)) | (with_reducible refine Below.trans ?_ (Below.mono hb7 ?_)) | (with_reducible refine Below.trans ?_ (Below.mono hb8 ?_)) | (with_reducible refine Below.trans ?_ (Below.mono hb9 ?_)) | (with_reducible refine Below.trans ?_ (Below.mono hb10 ?_)) | (with_reducible refine Below.trans ?_ (Below.mono hb11 ?_)) | (with_reducible refine Below.trans ?_ (Below.mono hb12 ?_)) | (with_reducible refine Below.trans ?_ (Below.mono hb13 ?_)) | (with_reducible refine Below.trans ?_ (Below.mono hb14 ?_)) | (with_reducible refine Below.trans ?_ (Below.mono hb15 ?_)) | omega | (simp; done) | (simp; omega)))
  have hI0 := h.below hb0
  go_enter Tryz.func9, Tryz.ntmps9
  go_wp2_with fail
  refine (HF.out _ hI0).mono ?_
  rintro e w1 ⟨rfl, hb1⟩
  have hR := hR0.below hb1
  have hC := hC0.below hb1
  have hI := hI0.below hb1
  have hb := below_next hb0 hb1
  clear hR0 hC0 hb0 hI0 hb1 h
  by_cases h1 : pf = 0
  · subst h1
    rw [if_neg (fun e => e rfl)] at HEr
    replace HEn := Lib.hid (HEn.out rfl)
    cases hk : keyB id
    · have He : Hid (er = 5) := by show _ = _; rw [HEr.out, hk]; rfl
      have Hv : Hid (vl = (⟨#[]⟩, 0, ⟨#[]⟩, ⟨#[]⟩, 0)) := by show _ = _; rw [HVl.out, He.out]; rfl
      go_upto_region 4 with (fail)
      go_wp2_with fail
      refine (isKey_any id _ (by omega)).mono ?_
      rintro e w2 ⟨rfl, rfl⟩
      rw [hk]
      have hR_l := hR.lt; have hR_0 := hR.cell 0; have hR_1 := hR.cell 1; have hR_2 := hR.cell 2; have hR_3 := hR.cell 3; have hR_4 := hR.cell 4; simp at hR_0 hR_1 hR_2 hR_3 hR_4
      have hR_f0 := hR.frozen 0; have hR_f1 := hR.frozen 1; have hR_f2 := hR.frozen 2; have hR_f3 := hR.frozen 3; have hR_f4 := hR.frozen 4
      go_wp2_with fail
      refine bodyPost_ret (v := .tuple #[entAgg (⟨#[]⟩, 0, ⟨#[]⟩, ⟨#[]⟩, 0), .int .i64 5]) (by simp only [results, Tryz.results9]; go_simp; first | rfl | simp [entAgg]) rfl ?_
      refine ⟨?_, by (repeat' (first | exact Below.refl _ _ | assumption | refine Below.setCell ?_ ?_ _ | refine below_drewN ?_ _ | refine Below.drew ?_ | refine Below.alloc ?_ ?_ _ | (with_reducible refine Below.trans ?_ (Below.mono hb ?_)) | (with_reducible refine Below.trans ?_ (Below.mono hb0 ?_)) | (with_reducible refine Below.trans ?_ (Below.mono hb1 ?_)) | (with_reducible refine Below.trans ?_ (Below.mono hb2 ?_)) | (with_reducible refine Below.trans ?_ (Below.mono hb3 ?_)) | (with_reducible refine Below.trans ?_ (Below.mono hb4 ?_)) | (with_reducible refine Below.trans ?_ (Below.mono hb5 ?_)) | (with_reducible refine Below.trans ?_ (Below.mono hb6 ?_)) | (with_reducible refine Below.trans ?_ (Below.mono hb7 ?_)) | (with_reducible refine Below.trans ?_ (Below.mono hb8 ?_)) | (with_reducible refine Below.trans ?_ (Below.mono hb9 ?_)) | (with_reducible refine Below.trans ?_ (Below.mono hb10 ?_)) | (with_reducible refine Below.trans ?_ (Below.mono hb11 ?_)) | (with_reducible refine Below.trans ?_ (Below.mono hb12 ?_)) | (with_reducible refine Below.trans ?_ (Below.mono hb13 ?_)) | (with_reducible refine Below.trans ?_ (Below.mono hb14 ?_)) | (with_reducible refine Below.trans ?_ (Below.mono hb15 ?_)) | omega | (simp; done) | (simp; omega)))⟩
      rw [He.out, Hv.out]
    · rw [hk, if_neg (by decide)] at HEr
      cases ht : momB t
      · have He : Hid (er = 1) := by show _ = _; rw [HEr.out, ht]; rfl
        have Hv : Hid (vl = (⟨#[]⟩, 0, ⟨#[]⟩, ⟨#[]⟩, 0)) := by show _ = _; rw [HVl.out, He.out]; rfl
        go_upto_region 4 with (fail)
        go_wp2_with fail
        refine (isKey_any id _ (by omega)).mono ?_
        rintro e w2 ⟨rfl, rfl⟩
        rw [hk]
        go_wp2_with fail
        refine (isMoment_any t _).mono ?_
        rintro e w2 ⟨rfl, rfl⟩
        rw [ht]
        have hR_l := hR.lt; have hR_0 := hR.cell 0; have hR_1 := hR.cell 1; have hR_2 := hR.cell 2; have hR_3 := hR.cell 3; have hR_4 := hR.cell 4; simp at hR_0 hR_1 hR_2 hR_3 hR_4
        have hR_f0 := hR.frozen 0; have hR_f1 := hR.frozen 1; have hR_f2 := hR.frozen 2; have hR_f3 := hR.frozen 3; have hR_f4 := hR.frozen 4
        go_wp2_with fail
        refine bodyPost_ret (v := .tuple #[entAgg (⟨#[]⟩, 0, ⟨#[]⟩, ⟨#[]⟩, 0), .int .i64 1]) (by simp only [results, Tryz.results9]; go_simp; first | rfl | simp [entAgg]) rfl ?_
        refine ⟨?_, by (repeat' (first | exact Below.refl _ _ | assumption | refine Below.setCell ?_ ?_ _ | refine below_drewN ?_ _ | refine Below.drew ?_ | refine Below.alloc ?_ ?_ _ | (with_reducible refine Below.trans ?_ (Below.mono hb ?_)) | (with_reducible refine Below.trans ?_ (Below.mono hb0 ?_)) | (with_reducible refine Below.trans ?_ (Below.mono hb1 ?_)) | (with_reducible refine Below.trans ?_ (Below.mono hb2 ?_)) | (with_reducible refine Below.trans ?_ (Below.mono hb3 ?_)) | (with_reducible refine Below.trans ?_ (Below.mono hb4 ?_)) | (with_reducible refine Below.trans ?_ (Below.mono hb5 ?_)) | (with_reducible refine Below.trans ?_ (Below.mono hb6 ?_)) | (with_reducible refine Below.trans ?_ (Below.mono hb7 ?_)) | (with_reducible refine Below.trans ?_ (Below.mono hb8 ?_)) | (with_reducible refine Below.trans ?_ (Below.mono hb9 ?_)) | (with_reducible refine Below.trans ?_ (Below.mono hb10 ?_)) | (with_reducible refine Below.trans ?_ (Below.mono hb11 ?_)) | (with_reducible refine Below.trans ?_ (Below.mono hb12 ?_)) | (with_reducible refine Below.trans ?_ (Below.mono hb13 ?_)) | (with_reducible refine Below.trans ?_ (Below.mono hb14 ?_)) | (with_reducible refine Below.trans ?_ (Below.mono hb15 ?_)) | omega | (simp; done) | (simp; omega)))⟩
        rw [He.out, Hv.out]
      · have He : Hid (er = 0) := by show _ = _; rw [HEr.out, ht]; rfl
        have Hv : Hid (vl = entL m id t) := by show _ = _; rw [HVl.out, He.out]; rfl
        clear HVl HEr
        go_upto_region 4 with (fail)
        go_wp2_with fail
        refine (isKey_any id _ (by omega)).mono ?_
        rintro e w2 ⟨rfl, rfl⟩
        rw [hk]
        go_wp2_with fail
        refine (isMoment_any t _).mono ?_
        rintro e w2 ⟨rfl, rfl⟩
        rw [ht]
        have hC_l := hC.lt; have hC_0 := hC.cell 0; have hC_1 := hC.cell 1; have hC_2 := hC.cell 2; have hC_3 := hC.cell 3; simp at hC_0 hC_1 hC_2 hC_3
        go_wp2_with fail
        refine (HB.out _ hI).mono ?_
        rintro e w2 ⟨bm, base, es, rfl, hbm1, hbm2, hA, hb2⟩
        obtain ⟨av, cv, hv, hsav⟩ := Hown.out bm base es _ hA
        have hlk := hA.look id
        rw [hv] at hlk
        have hR2 := hR.below hb2
        have hbx := below_next hb hb2
        clear hv hA hC hC_l hC_0 hC_1 hC_2 hC_3 hb2 hI
        go_wp2_with fail
        refine (HEn.out _ av cv hsav).mono ?_
        rintro e w3 ⟨rfl, hb3⟩
        have hR3 := hR2.below hb3
        have hb4 := below_next hbx hb3
        clear hR hR2 hbx hb hb3 hlk hsav
        have hR := hR3
        clear hR3
        generalize entL m id t = en at *
        obtain ⟨n1, n2, n3, n4, n5⟩ := en
        have Hg : Hid (entAgg vl = .agg #[.string n1, .int .i64 n2, .string n3, .string n4, .int .i64 n5]) := by show _ = _; rw [Hv.out]; rfl
        rw [show entAgg (n1, n2, n3, n4, n5) = .agg #[.string n1, .int .i64 n2, .string n3, .string n4, .int .i64 n5] from rfl]
        have hR_l := hR.lt; have hR_0 := hR.cell 0; have hR_1 := hR.cell 1; have hR_2 := hR.cell 2; have hR_3 := hR.cell 3; have hR_4 := hR.cell 4; simp at hR_0 hR_1 hR_2 hR_3 hR_4
        have hR_f0 := hR.frozen 0; have hR_f1 := hR.frozen 1; have hR_f2 := hR.frozen 2; have hR_f3 := hR.frozen 3; have hR_f4 := hR.frozen 4
        go_wp2_with fail
        refine bodyPost_ret (v := .tuple #[.agg #[.string n1, .int .i64 n2, .string n3, .string n4, .int .i64 n5], .int .i64 0]) (by simp only [results, Tryz.results9]; go_simp; first | done | rfl | simp) rfl ?_
        refine ⟨?_, by (repeat' (first | exact Below.refl _ _ | assumption | refine Below.setCell ?_ ?_ _ | refine below_drewN ?_ _ | refine Below.drew ?_ | refine Below.alloc ?_ ?_ _ | (with_reducible refine Below.trans ?_ (Below.mono hb ?_)) | (with_reducible refine Below.trans ?_ (Below.mono hb0 ?_)) | (with_reducible refine Below.trans ?_ (Below.mono hb1 ?_)) | (with_reducible refine Below.trans ?_ (Below.mono hb2 ?_)) | (with_reducible refine Below.trans ?_ (Below.mono hb3 ?_)) | (with_reducible refine Below.trans ?_ (Below.mono hb4 ?_)) | (with_reducible refine Below.trans ?_ (Below.mono hb5 ?_)) | (with_reducible refine Below.trans ?_ (Below.mono hb6 ?_)) | (with_reducible refine Below.trans ?_ (Below.mono hb7 ?_)) | (with_reducible refine Below.trans ?_ (Below.mono hb8 ?_)) | (with_reducible refine Below.trans ?_ (Below.mono hb9 ?_)) | (with_reducible refine Below.trans ?_ (Below.mono hb10 ?_)) | (with_reducible refine Below.trans ?_ (Below.mono hb11 ?_)) | (with_reducible refine Below.trans ?_ (Below.mono hb12 ?_)) | (with_reducible refine Below.trans ?_ (Below.mono hb13 ?_)) | (with_reducible refine Below.trans ?_ (Below.mono hb14 ?_)) | (with_reducible refine Below.trans ?_ (Below.mono hb15 ?_)) | omega | (simp; done) | (simp; omega)))⟩
        rw [He.out, Hg.out]
  · have He : Hid (er = pf) := by show _ = _; rw [HEr.out, if_pos h1]
    have Hv : Hid (vl = (⟨#[]⟩, 0, ⟨#[]⟩, ⟨#[]⟩, 0)) := by show _ = _; rw [HVl.out, He.out, if_neg h1]
    have h1' : (pf != 0) = true := by simpa using h1
    clear h1
    have hR_l := hR.lt; have hR_0 := hR.cell 0; have hR_1 := hR.cell 1; have hR_2 := hR.cell 2; have hR_3 := hR.cell 3; have hR_4 := hR.cell 4; simp at hR_0 hR_1 hR_2 hR_3 hR_4
    have hR_f0 := hR.frozen 0; have hR_f1 := hR.frozen 1; have hR_f2 := hR.frozen 2; have hR_f3 := hR.frozen 3; have hR_f4 := hR.frozen 4
    go_wp2_with fail
    refine bodyPost_ret (v := .tuple #[entAgg (⟨#[]⟩, 0, ⟨#[]⟩, ⟨#[]⟩, 0), .int .i64 pf]) (by simp only [results, Tryz.results9]; go_simp; first | rfl | simp [entAgg]) rfl ?_
    refine ⟨?_, by (repeat' (first | exact Below.refl _ _ | assumption | refine Below.setCell ?_ ?_ _ | refine below_drewN ?_ _ | refine Below.drew ?_ | refine Below.alloc ?_ ?_ _ | (with_reducible refine Below.trans ?_ (Below.mono hb ?_)) | (with_reducible refine Below.trans ?_ (Below.mono hb0 ?_)) | (with_reducible refine Below.trans ?_ (Below.mono hb1 ?_)) | (with_reducible refine Below.trans ?_ (Below.mono hb2 ?_)) | (with_reducible refine Below.trans ?_ (Below.mono hb3 ?_)) | (with_reducible refine Below.trans ?_ (Below.mono hb4 ?_)) | (with_reducible refine Below.trans ?_ (Below.mono hb5 ?_)) | (with_reducible refine Below.trans ?_ (Below.mono hb6 ?_)) | (with_reducible refine Below.trans ?_ (Below.mono hb7 ?_)) | (with_reducible refine Below.trans ?_ (Below.mono hb8 ?_)) | (with_reducible refine Below.trans ?_ (Below.mono hb9 ?_)) | (with_reducible refine Below.trans ?_ (Below.mono hb10 ?_)) | (with_reducible refine Below.trans ?_ (Below.mono hb11 ?_)) | (with_reducible refine Below.trans ?_ (Below.mono hb12 ?_)) | (with_reducible refine Below.trans ?_ (Below.mono hb13 ?_)) | (with_reducible refine Below.trans ?_ (Below.mono hb14 ?_)) | (with_reducible refine Below.trans ?_ (Below.mono hb15 ?_)) | omega | (simp; done) | (simp; omega)))⟩
    rw [He.out, Hv.out]
end Go.Proofs.YtifflpilnpcmoaaGreatDoor

/-! States: of the program. -/
namespace Go.Proofs.YtifflpilnpcmoaaGreatDoor
open Go.RowKit
set_option linter.unusedVariables false
set_option linter.unusedSimpArgs false

def isEnt (x : Ent5) : Bool := !decide (x.2.1 = 1)
noncomputable def stsE (o a f : Int) (s : List Skill) (l : List Arv) (t : Int) : Int := if arrsFault o a f s l ≠ 0 then arrsFault o a f s l else if momB t = false then 1 else 0
noncomputable def stsV (o a f : Int) (s : List Skill) (l : List Arv) (t : Int) : List Ent5 := ((keysS (l.map (·.1))).map (fun id => entL (ownA o a f s l id) id t)).filter isEnt
theorem keysS_ded (l : List Arv) : keysS ((dedL (sortC cmpA l)).map (·.1)) = keysS (l.map (·.1)) := by
  refine keysS_is (keysS_rise _) (fun p => ?_)
  rw [keysS_mem, List.mem_map, List.mem_map]
  obtain ⟨-, hp, -⟩ := sortC_both totC_A l
  constructor
  · rintro ⟨x, hx, e⟩
    exact ⟨x, hp.mem_iff.1 (dedL_mem x |>.1 hx), e⟩
  · rintro ⟨x, hx, e⟩
    exact ⟨x, (dedL_mem x).2 (hp.mem_iff.2 hx), e⟩
theorem infoEnt : (Tryz.prog.info? 35).map (fun i => (i.zero, i.size, i.bytes)) = some (some (.agg #[.string ⟨#[]⟩, .int .i64 0, .string ⟨#[]⟩, .string ⟨#[]⟩, .int .i64 0]), 5, 64) := by kernel_rfl
set_option maxRecDepth 100000 in
set_option maxHeartbeats 4000000 in
theorem statesP_any (o a f : Int) (s : List Skill) (a3 : Option Addr) (c3 : Nat) (l : List Arv) (la : Option Addr) (cap : Nat) (t : Int) (w : World) (h : CallIn a f s a3 l la w) :
    Calls Tryz.prog 10 #[callAgg o a f s a3 c3, .slice la l.length cap, .int .i64 t] w (GivesList (stsV o a f s l t) (stsE o a f s l t) w) := by
  have HF := Lib.hid (fun W (h : CallIn a f s a3 l la W) => arrsFaultP_any o a f s a3 c3 l la cap W h.env h.hs h.hsl h.hsm h.hl h.hll h.hok)
  have HB := Lib.hid (fun W (h : CallIn a f s a3 l la W) => byPaper_any o a f s a3 c3 l la cap W h.hs h.hsl h.hbd h.ab.1 h.ab.2.1 h.ab.2.2.1 h.ab.2.2.2 h.hl h.hlf h.hll)
  have HEn := Lib.hid (fun (h0 : arrsFault o a f s l = 0) (id : ByteArray) (W : World) (av : Option Addr) (cv : Nat) (hs : SA W av (ownA o a f s l id)) => entryP_any (ownA o a f s l id) av cv id t W hs (by have := ownA_len o a f s l id; have := h.hll; omega) (ownA_kind h0) ownA_one)
  have hKl : ((dedL (sortC cmpA l)).map (·.1)).length ≤ 1000000 := by
    have h2 := dedL_len (sortC cmpA l)
    rw [sortC_len totC_A] at h2
    have := h.hll
    rw [List.length_map]
    omega
  have hKs : ∀ p ∈ (dedL (sortC cmpA l)).map (·.1), p.size ≤ 1000 := fun p hp => by
    obtain ⟨x, hx, rfl⟩ := List.mem_map.1 hp
    obtain ⟨-, hpm, -⟩ := sortC_both totC_A l
    exact (h.hok x (hpm.mem_iff.1 ((dedL_mem x).1 hx))).1
  have HKk := Lib.hid (keysS_ded l)
  have HVl := Lib.hid (show stsV o a f s l t = ((keysS (l.map (·.1))).map (fun id => entL (ownA o a f s l id) id t)).filter isEnt from rfl)
  have HEr := Lib.hid (show stsE o a f s l t = if arrsFault o a f s l ≠ 0 then arrsFault o a f s l else if momB t = false then 1 else 0 from rfl)
  generalize stsV o a f s l t = vl at *
  generalize stsE o a f s l t = er at *
  have Hown : Hid (∀ b base es W id, ASl W b base ((dedL (sortC cmpA l)).map (·.1)) (fun p => ownL (cntB o a f s) p (dedL (sortC cmpA l))) es → ∃ av cv, valOf es id = .slice av (ownA o a f s l id).length cv ∧ SA W av (ownA o a f s l id)) := by
    intro b base es W id hA
    obtain ⟨av, cv, e, hsa, -, -⟩ := (hA.vals id).form
    exact ⟨av, cv, e, hsa⟩
  generalize ownA o a f s l = m at *
  generalize arrsFault o a f s l = pf at *
  unfold callAgg at *
  have hC0 := Box.new w 28 #[.int .i64 o, .int .i64 a, .int .i64 f, .slice a3 s.length c3]
  have hb0 : Below w.heap.size w (w.alloc (.cells #[.int .i64 o, .int .i64 a, .int .i64 f, .slice a3 s.length c3] 28)) := by (repeat' (first | exact Below.refl _ _ | assumption | refine Below.setCell ?_ ?_ _ | refine below_drewN ?_ _ | refine Below.drew ?_ | refine Below.alloc ?_ ?_ _ | (with_reducible refine Below.trans ?_ (Below.mono hb ?_)) | (with_reducible refine Below.trans ?_ (Below.mono hb0 ?_)) | (with_reducible refine Below.trans ?_ (Below.mono hb1 ?_)) | (with_reducible refine Below.trans ?_ (Below.mono hb2 ?_)) | (with_reducible refine Below.trans ?_ (Below.mono hb3 ?_)) | (with_reducible refine Below.trans ?_ (Below.mono hb4 ?_)) | (with_reducible refine Below.trans ?_ (Below.mono hb5 ?_)) | (with_reducible refine Below.trans ?_ (Below.mono hb6 ?_)) | (with_reducible refine Below.trans ?_ (Below.mono hb7 ?_)) | (with_reducible refine Below.trans ?_ (Below.mono hb8 ?_)) | (with_reducible refine Below.trans ?_ (Below.mono hb9 ?_)) | (with_reducible refine Below.trans ?_ (Below.mono hb10 ?_)) | (with_reducible refine Below.trans ?_ (Below.mono hb11 ?_)) | (with_reducible refine Below.trans ?_ (Below.mono hb12 ?_)) | (with_reducible refine Below.trans ?_ (Below.mono hb13 ?_)) | (with_reducible refine Below.trans ?_ (Below.mono hb14 ?_)) | (with_reducible refine Below.trans ?_ (Below.mono hb15 ?_)) | omega | (simp; done) | (simp; omega)))
  have hI0 := h.below hb0
  go_enter Tryz.func10, Tryz.ntmps10
  go_wp2_with fail
  refine (HF.out _ hI0).mono ?_
  rintro e w1 ⟨rfl, hb1⟩
  have hC := hC0.below hb1
  have hI := hI0.below hb1
  have hb := below_next hb0 hb1
  clear hC0 hb0 hI0 hb1 h
  by_cases h1 : pf = 0
  · subst h1
    rw [if_neg (fun e => e rfl)] at HEr
    replace HEn := Lib.hid (HEn.out rfl)
    cases ht : momB t
    · have He : Hid (er = 1) := by show _ = _; rw [HEr.out, ht]; rfl
      go_upto_region 4 with (fail)
      go_wp2_with fail
      refine (isMoment_any t _).mono ?_
      rintro e w2 ⟨rfl, rfl⟩
      rw [ht]
      go_wp2_with fail
      go_ret2
      exact ⟨hb, none, 0, 0, by rw [He.out] <;> rfl, by omega, fun e => by rw [He.out] at e; cases e⟩
    · have He : Hid (er = 0) := by show _ = _; rw [HEr.out, ht]; rfl
      clear HEr
      go_upto_region 4 with (fail)
      go_wp2_with fail
      refine (isMoment_any t _).mono ?_
      rintro e w2 ⟨rfl, rfl⟩
      rw [ht]
      have hC_l := hC.lt; have hC_0 := hC.cell 0; have hC_1 := hC.cell 1; have hC_2 := hC.cell 2; have hC_3 := hC.cell 3; simp at hC_0 hC_1 hC_2 hC_3
      go_wp2_with fail
      refine (HB.out _ hI).mono ?_
      rintro e w2 ⟨bm, base, es, rfl, hbm1, hbm2, hA, hb2⟩
      have hbx := below_next hb hb2
      clear hC hC_l hC_0 hC_1 hC_2 hC_3 hb2 hI hb
      go_wp2_with fail
      refine ((callsIn_wide (n := 5)).1 (Tryz.maps_Keys_43 (some bm) w2)).mono ?_
      rintro e w3 ⟨rfl, rfl⟩
      go_wp2_with fail
      refine (keysArr_any bm base _ _ es w2 hA hKl hKs).mono ?_
      rintro e w4 ⟨v4, rfl, hown4, hb4⟩
      have hA4 := hA.below hb4
      have hbw4 := below_next hbx hb4
      rw [HKk.out] at hown4
      obtain ⟨ak, ck, rfl, hsk, -, -⟩ := hown4.form
      have hkl : (keysS (l.map (·.1))).length ≤ 1000000 := by
        have := keysS_length ((dedL (sortC cmpA l)).map (·.1))
        rw [HKk.out] at this
        omega
      have Htk := Lib.hid (fun k (hk : k < (keysS (l.map (·.1))).length) => List.take_succ_eq_append_getElem hk)
      have HA4 := Lib.hid hA4
      have Hsk := Lib.hid hsk
      clear hown4 hA hA4 hsk hb4 hbx hKl hKs HKk HB HF
      generalize keysS (l.map (·.1)) = ks at *
      go_wp2_with fail
      go_loopg [10, 30] ks.length (fun gk v i wr => ∃ (k : Nat) (acc : List Ent5), i = .int .i64 k ∧ k ≤ ks.length ∧ Hid (gk = ks.length - k) ∧ Hid (acc = ((ks.take k).map (fun id => entL (m id) id t)).filter isEnt) ∧ Own w4.heap.size 35 wr v acc ∧ Below w4.heap.size w4 wr)
      case atStart => exact ⟨0, [], rfl, by omega, rfl, rfl, Own.nil _ _ _, Below.refl _ _⟩
      case round =>
        obtain ⟨k, acc, rfl, hk, hgk, hacc, hown, hbr⟩ := hrel
        have hzr := hbr.size
        by_cases hlt : k < ks.length
        · obtain ⟨kb, koff, hak, ck0⟩ := (Hsk.out.below hbr).str hlt
          have Hak := Lib.hid hak
          have HT := Lib.hid (Htk.out k hlt)
          have hal : acc.length ≤ 1000000 := by
            rw [hacc.out]
            refine Nat.le_trans (List.length_filter_le _ _) ?_
            rw [List.length_map, List.length_take]
            omega
          rw [hak]
          clear hak
          generalize ks[k] = id at *
          have hAr := HA4.out.below hbr
          obtain ⟨av, cv, hv, hsav⟩ := Hown.out bm base es _ id hAr
          have hlk := hAr.look id
          rw [hv] at hlk
          clear hv hAr
          have HEx := Lib.hid (HEn.out id wr av cv hsav)
          have HlO := Lib.hid hown.lt
          have Hnew : Hid (((ks.take (k + 1)).map (fun id => entL (m id) id t)).filter isEnt = acc ++ if isEnt (entL (m id) id t) = true then [entL (m id) id t] else []) := by
            show _ = _
            rw [HT.out, List.map_append, List.filter_append, ← hacc.out]
            congr 1
            rw [List.map_cons, List.map_nil, List.filter_cons]
            rfl
          generalize m id = mi at *
          obtain ⟨ml, hml⟩ : ∃ ml, mi.length = ml := ⟨_, rfl⟩
          rw [hml] at hlk HEx
          clear hml
          generalize entL mi id t = en at *
          obtain ⟨n1, n2, n3, n4, n5⟩ := en
          go_wp2_with fail
          refine HEx.out.mono ?_
          rintro e w5 ⟨rfl, hb5⟩
          have hown5 := hown.below hb5
          have hb6 := below_next hbr hb5
          clear hown hbr hb5 hlk ck0
          rw [show entAgg (n1, n2, n3, n4, n5) = .agg #[.string n1, .int .i64 n2, .string n3, .string n4, .int .i64 n5] from rfl]
          have hz6 := hb6.size
          by_cases hn : n2 = 1
          · have Hn : Hid (((ks.take (k + 1)).map (fun id => entL (m id) id t)).filter isEnt = acc) := by
              show _ = _
              rw [Hnew.out, if_neg (by unfold isEnt; simp [hn]), List.append_nil]
            subst hn
            go_wp2_with fail
            rw [← Hak.out]
            go_roundg (ks.length - (k + 1))
            case measure => have := hgk.out; omega
            case rel => exact ⟨k + 1, acc, by go_num, by omega, rfl, by show _ = _; rw [Hn.out], hown5.alloc _, hb6.alloc (by omega) _⟩
          · have Hn : Hid (((ks.take (k + 1)).map (fun id => entL (m id) id t)).filter isEnt = acc ++ [(n1, n2, n3, n4, n5)]) := by
              show _ = _
              rw [Hnew.out, if_pos (by unfold isEnt; simp [hn])]
            have hn' : (n2 != 1) = true := by simpa using hn
            have hn'' : (n2 == 1) = false := by simpa using hn
            clear hn
            go_upto_region 13 with (fail)
            go_wp2_with (at_builtin; refine wpList_append_one rfl _ _ 39 rfl w4.heap.size 35 64 (.agg #[.string ⟨#[]⟩, .int .i64 0, .string ⟨#[]⟩, .string ⟨#[]⟩, .int .i64 0]) Tryz.underlying39 infoEnt rfl _ acc rfl ((hown5.alloc _).alloc _) (n1, n2, n3, n4, n5) _ rfl (Box.newAt _ _ _ _ (by simp)) (by omega) (by omega) (by simp; omega) ?_; intro v' w7 hown7 hg7)
            have hb7 : Below w4.heap.size w4 w7 := Below.grown ((hb6.alloc (by omega) _).alloc (by simp; omega) _) hg7 (by simp; omega) (fun j hj => (HlO.out j hj).1)
            rw [← Hak.out]
            go_roundg (ks.length - (k + 1))
            case measure => have := hgk.out; omega
            case rel => exact ⟨k + 1, _, by go_num, by omega, rfl, by show _ = _; rw [Hn.out], hown7, hb7⟩
        · obtain rfl : k = ks.length := by omega
          rw [List.take_length, ← HVl.out] at hacc
          obtain ⟨ao, co, rfl, hso, -, -⟩ := hown.form
          have hal : acc.length ≤ 1000000 := by
            rw [hacc.out, HVl.out]
            refine Nat.le_trans (List.length_filter_le _ _) ?_
            rw [List.length_map]
            omega
          have hbF := hbw4.trans (hbr.mono (by have := hbw4.size; omega))
          go_wp2_with fail
          go_ret2
          rw [hacc.out] at hso hal
          exact ⟨hbF, ao, acc.length, co, by rw [He.out] <;> rfl, by rw [hacc.out]; omega, fun _ => ⟨by rw [hacc.out], hso⟩⟩
  · have He : Hid (er = pf) := by show _ = _; rw [HEr.out, if_pos h1]
    have H1 := Lib.hid h1
    have h1' : (pf != 0) = true := by simpa using h1
    clear h1
    go_wp2_with fail
    go_ret2
    exact ⟨hb, none, 0, 0, by rw [He.out] <;> rfl, by omega, fun e => absurd (He.out.symm.trans e) H1.out⟩
end Go.Proofs.YtifflpilnpcmoaaGreatDoor

/-! Moments: of the program. -/
namespace Go.Proofs.YtifflpilnpcmoaaGreatDoor
open Go.RowKit
set_option linter.unusedVariables false
set_option linter.unusedSimpArgs false

noncomputable def msE (o a f : Int) (s : List Skill) (l : List Arv) (id : ByteArray) : Int := if arrsFault o a f s l ≠ 0 then arrsFault o a f s l else if keyB id = false then 5 else 0
theorem run_neEnt (x y : Ent5) (w : World) : (binOp .neq 35 (entAgg x) (entAgg y)).run Tryz.prog w = .ok (.bool (!decide (x = y))) w := by
  obtain ⟨x1, x2, x3, x4, x5⟩ := x
  obtain ⟨y1, y2, y3, y4, y5⟩ := y
  unfold entAgg
  rw [run_neq_struct]
  go_simp
  have e1 : (x1.toList = y1.toList) ↔ x1 = y1 := toList_inj
  have e3 : (x3.toList = y3.toList) ↔ x3 = y3 := toList_inj
  have e4 : (x4.toList = y4.toList) ↔ x4 = y4 := toList_inj
  by_cases h1 : x1 = y1 <;> by_cases h2 : x2 = y2 <;> by_cases h3 : x3 = y3 <;> by_cases h4 : x4 = y4 <;> by_cases h5 : x5 = y5 <;> simp [h1, h2, h3, h4, h5, e1, e3, e4]
theorem guard_Ent (p q : Operand) (x y : Ent5) (w : World) : (eqGuard .neq 35 p q (entAgg x) (entAgg y)).run Tryz.prog w = .ok () w := by
  unfold entAgg
  go_simp
theorem infoIntS : (Tryz.prog.info? 3).map (fun i => (i.zero, i.size, i.bytes)) = some (some (.int .i64 0), 1, 8) := by kernel_rfl
theorem keepD_at {m : List Arv} {k p : Nat} (hk : k < m.length) (hp : k = p + 1) : keepD (m.map (·.2.1)) k = !decide (m[k].2.1 = (m[p]'(by omega)).2.1) := by
  subst hp
  rw [keepD_succ (by rw [List.length_map]; exact hk), List.getElem_map, List.getElem_map]
set_option maxRecDepth 100000 in
set_option maxHeartbeats 4000000 in
theorem momentsP_any (o a f : Int) (s : List Skill) (a3 : Option Addr) (c3 : Nat) (l : List Arv) (la : Option Addr) (cap : Nat) (id : ByteArray) (w : World) (h : CallIn a f s a3 l la w) (hid : id.size ≤ 1000) :
    Calls Tryz.prog 11 #[callAgg o a f s a3 c3, .slice la l.length cap, .string id] w (GivesList (momL (ownA o a f s l id) id) (msE o a f s l id) w) := by
  have HF := Lib.hid (fun W (h : CallIn a f s a3 l la W) => arrsFaultP_any o a f s a3 c3 l la cap W h.env h.hs h.hsl h.hsm h.hl h.hll h.hok)
  have HB := Lib.hid (fun W (h : CallIn a f s a3 l la W) => byPaper_any o a f s a3 c3 l la cap W h.hs h.hsl h.hbd h.ab.1 h.ab.2.1 h.ab.2.2.1 h.ab.2.2.2 h.hl h.hlf h.hll)
  have HEn := Lib.hid (fun (h0 : arrsFault o a f s l = 0) (t : Int) (W : World) (av : Option Addr) (cv : Nat) (hs : SA W av (ownA o a f s l id)) => entryP_any (ownA o a f s l id) av cv id t W hs (by have := ownA_len o a f s l id; have := h.hll; omega) (ownA_kind h0) ownA_one)
  have Hml := Lib.hid (ownA_len o a f s l id)
  have Hll := Lib.hid h.hll
  have Hbd : Hid (∀ x ∈ ownA o a f s l id, -10000000 ≤ x.2.1 ∧ x.2.1 ≤ 10000000) := fun x hx => by
    have := h.hok x (((ownA_ok o a f s l id).2 x).1 hx).1
    exact ⟨this.2.2.2.1, this.2.2.2.2.1⟩
  have HEr := Lib.hid (show msE o a f s l id = if arrsFault o a f s l ≠ 0 then arrsFault o a f s l else if keyB id = false then 5 else 0 from rfl)
  have HVl := Lib.hid (show momL (ownA o a f s l id) id = (dedTo ((ownA o a f s l id).map (·.2.1)) ((ownA o a f s l id).map (·.2.1)).length).filter (chg (entL (ownA o a f s l id) id)) from rfl)
  generalize momL (ownA o a f s l id) id = vl at *
  generalize msE o a f s l id = er at *
  have Hown : Hid (∀ b base es W, ASl W b base ((dedL (sortC cmpA l)).map (·.1)) (fun p => ownL (cntB o a f s) p (dedL (sortC cmpA l))) es → ∃ av cv, valOf es id = .slice av (ownA o a f s l id).length cv ∧ SA W av (ownA o a f s l id)) := by
    intro b base es W hA
    obtain ⟨av, cv, e, hsa, -, -⟩ := (hA.vals id).form
    exact ⟨av, cv, e, hsa⟩
  generalize ownA o a f s l id = m at *
  generalize arrsFault o a f s l = pf at *
  unfold callAgg at *
  have hC0 := Box.new w 28 #[.int .i64 o, .int .i64 a, .int .i64 f, .slice a3 s.length c3]
  have hb0 : Below w.heap.size w (w.alloc (.cells #[.int .i64 o, .int .i64 a, .int .i64 f, .slice a3 s.length c3] 28)) := by (repeat' (first | exact Below.refl _ _ | assumption | refine Below.setCell ?_ ?_ _ | refine below_drewN ?_ _ | refine Below.drew ?_ | refine Below.alloc ?_ ?_ _ | (with_reducible refine Below.trans ?_ (Below.mono hb ?_)) | (with_reducible refine Below.trans ?_ (Below.mono hb0 ?_)) | (with_reducible refine Below.trans ?_ (Below.mono hb1 ?_)) | (with_reducible refine Below.trans ?_ (Below.mono hb2 ?_)) | (with_reducible refine Below.trans ?_ (Below.mono hb3 ?_)) | (with_reducible refine Below.trans ?_ (Below.mono hb4 ?_)) | (with_reducible refine Below.trans ?_ (Below.mono hb5 ?_)) | (with_reducible refine Below.trans ?_ (Below.mono hb6 ?_)) | (with_reducible refine Below.trans ?_ (Below.mono hb7 ?_)) | (with_reducible refine Below.trans ?_ (Below.mono hb8 ?_)) | (with_reducible refine Below.trans ?_ (Below.mono hb9 ?_)) | (with_reducible refine Below.trans ?_ (Below.mono hb10 ?_)) | (with_reducible refine Below.trans ?_ (Below.mono hb11 ?_)) | (with_reducible refine Below.trans ?_ (Below.mono hb12 ?_)) | (with_reducible refine Below.trans ?_ (Below.mono hb13 ?_)) | (with_reducible refine Below.trans ?_ (Below.mono hb14 ?_)) | (with_reducible refine Below.trans ?_ (Below.mono hb15 ?_)) | omega | (simp; done) | (simp; omega)))
  have hI0 := h.below hb0
  go_enter Tryz.func11, Tryz.ntmps11
  go_wp2_with fail
  refine (HF.out _ hI0).mono ?_
  rintro e w1 ⟨rfl, hb1⟩
  have hC := hC0.below hb1
  have hI := hI0.below hb1
  have hb := below_next hb0 hb1
  clear hC0 hb0 hI0 hb1 h
  by_cases h1 : pf = 0
  · subst h1
    rw [if_neg (fun e => e rfl)] at HEr
    replace HEn := Lib.hid (HEn.out rfl)
    cases hk : keyB id
    · have He : Hid (er = 5) := by show _ = _; rw [HEr.out, hk]; rfl
      go_upto_region 4 with (fail)
      go_wp2_with fail
      refine (isKey_any id _ (by omega)).mono ?_
      rintro e w2 ⟨rfl, rfl⟩
      rw [hk]
      go_wp2_with fail
      go_ret2
      exact ⟨hb, none, 0, 0, by rw [He.out] <;> rfl, by omega, fun e => by rw [He.out] at e; cases e⟩
    · have He : Hid (er = 0) := by show _ = _; rw [HEr.out, hk]; rfl
      clear HEr
      go_upto_region 4 with (fail)
      go_wp2_with fail
      refine (isKey_any id _ (by omega)).mono ?_
      rintro e w2 ⟨rfl, rfl⟩
      rw [hk]
      have hC_l := hC.lt; have hC_0 := hC.cell 0; have hC_1 := hC.cell 1; have hC_2 := hC.cell 2; have hC_3 := hC.cell 3; simp at hC_0 hC_1 hC_2 hC_3
      go_wp2_with fail
      refine (HB.out _ hI).mono ?_
      rintro e w2 ⟨bm, base, es, rfl, hbm1, hbm2, hA, hb2⟩
      have hbx := below_next hb hb2
      obtain ⟨av, cv, hv, hsav⟩ := Hown.out bm base es _ hA
      have hlk := hA.look id
      rw [hv] at hlk
      have Hsa := Lib.hid hsav
      have hmL : m.length ≤ 100000 := Nat.le_trans Hml.out Hll.out
      clear hC hC_l hC_0 hC_1 hC_2 hC_3 hb2 hI hb hA hv hsav HB HF
      go_wp2_with fail
      clear hlk
      go_loopg [10, 29] m.length (fun gk v i wr => ∃ (k : Nat) (acc : List Int), i = .int .i64 k ∧ k ≤ m.length ∧ Hid (gk = m.length - k) ∧ Hid (acc = (dedTo (m.map (·.2.1)) k).filter (chg (entL m id))) ∧ Own w2.heap.size 3 wr v acc ∧ Below w2.heap.size w2 wr)
      case atStart => exact ⟨0, [], rfl, by omega, rfl, rfl, Own.nil _ _ _, Below.refl _ _⟩
      case round =>
        obtain ⟨k, acc, rfl, hk, hgk, hacc, hown, hbr⟩ := hrel
        have hzr := hbr.size
        by_cases hlt : k < m.length
        · obtain ⟨b, off, hav, c0, c1, c2, c3, c4⟩ := (Hsa.out.below hbr).arv hlt
          have Hav := Lib.hid hav
          have Hbx := Lib.hid (Hbd.out _ (List.getElem_mem hlt))
          have hal : acc.length ≤ 1000000 := by
            rw [hacc.out]
            refine Nat.le_trans (List.length_filter_le _ _) (Nat.le_trans (dedTo_len _ _) ?_)
            omega
          have Hk0 := Lib.hid (keepD_zero (m.map (·.2.1)))
          have Hks := Lib.hid (fun p (hp : k = p + 1) => keepD_at hlt hp)
          have Hy := Lib.hid (fun h => dedTo_yes (l := m.map (·.2.1)) (by rw [List.length_map]; exact hlt) h)
          have Hn := Lib.hid (fun h => dedTo_no (l := m.map (·.2.1)) (k := k) h)
          have Hsb := Lib.hid (show SA w2 (some ⟨b, off, none⟩) m by rw [← hav]; exact Hsa.out)
          rw [hav]
          clear hav
          replace Hy : Hid (keepD (m.map (·.2.1)) k = true → dedTo (m.map (·.2.1)) (k + 1) = dedTo (m.map (·.2.1)) k ++ [m[k].2.1]) := fun h => by rw [Hy.out h, List.getElem_map]
          generalize m[k] = x at *
          obtain ⟨x1, x2, x3, x4, x5⟩ := x
          simp only at c0 c1 c2 c3 c4 Hbx Hy Hks
          have hT := Box.new wr 63 #[.string x1, .int .i64 x2, .int .i64 x3, .string x4, .string x5]
          have hba : Below w2.heap.size w2 (wr.alloc (.cells #[.string x1, .int .i64 x2, .int .i64 x3, .string x4, .string x5] 63)) := hbr.alloc (by omega) _
          have howna := hown.alloc (.cells #[.string x1, .int .i64 x2, .int .i64 x3, .string x4, .string x5] 63)
          have HlO := Lib.hid hown.lt
          go_upto_region 11 with (fail)
          clear c0 c1 c2 c3 c4 hown hbr
          generalize wr.alloc (.cells #[.string x1, .int .i64 x2, .int .i64 x3, .string x4, .string x5] 63) = Wa at *
          obtain ⟨kd, hkd⟩ : ∃ kd, keepD (m.map (·.2.1)) k = kd := ⟨_, rfl⟩
          have Hkd := Lib.hid hkd
          clear hkd
          go_cut [46] from 34 to 47 (fun v wx => v = .bool (!kd) ∧ ∃ nq, wx = World.drewN Wa nq)
          case first =>
            by_cases hk0 : k = 0
            · have hd : decide (0 < k) = false := by simp [hk0]
              have hd' : decide ((0 : Int) < (k : Int)) = false := by simp [hk0]
              have hz : kd = true := by rw [← Hkd.out, hk0]; exact Hk0.out
              have Hz := Lib.hid hz
              clear hz hk0
              go_quiet (fail)
              go_wp2_with fail
              go_meet
              exact ⟨congrArg Value.bool (by rw [Hz.out]; rfl), _, rfl⟩
            · obtain ⟨p, hp⟩ : ∃ p, k = p + 1 := ⟨k - 1, by omega⟩
              have hpl : p < m.length := by omega
              obtain ⟨b', off', hav', d0, d1, d2, d3, d4⟩ := (Hsb.out.below hba).arv hpl
              cases hav'
              have HK := Lib.hid (Hks.out p hp)
              replace HK : Hid (kd = !decide (x2 = m[p].2.1)) := Hkd.out.symm.trans HK.out
              have hw : IntKind.i64.wrap ((k : Int) - 1) = (p : Int) := by rw [IntWalk.i64_in _ (by omega)]; omega
              have hp1 : (0 : Int) ≤ (p : Int) := by omega
              have hp2 : (p : Int) < (m.length : Int) := by omega
              have hd : decide (0 < k) = true := decide_eq_true (by omega)
              have hd' : decide ((0 : Int) < (k : Int)) = true := decide_eq_true (by omega)
              have hTc := hT.cell 1
              generalize m[p] = y at *
              obtain ⟨y1, y2, y3, y4, y5⟩ := y
              simp only at d1 HK
              clear d0 d2 d3 d4 hp hk0
              by_cases hxy : x2 = y2
              · have Hz : Hid (kd = false) := by show _ = _; rw [HK.out, decide_eq_true hxy]; rfl
                subst hxy
                go_quiet (fail)
                go_wp2_with fail
                go_meet
                exact ⟨congrArg Value.bool (by rw [Hz.out]; simp), _, rfl⟩
              · have Hz : Hid (kd = true) := by show _ = _; rw [HK.out, decide_eq_false hxy]; rfl
                have hxy' : (x2 == y2) = false := by simpa using hxy
                clear hxy
                go_quiet (fail)
                go_wp2_with fail
                go_meet
                exact ⟨congrArg Value.bool (by rw [Hz.out]; simp [hxy']), _, rfl⟩
          case rest =>
            obtain ⟨hsv, nq, rfl⟩ := hcut
            rw [hsv]
            replace howna := howna.drewN nq
            have hb7 := below_drewN hba nq
            replace hT := hT.drewN nq
            have hz7 : w2.heap.size ≤ (World.drewN Wa nq).heap.size := hb7.size
            clear hba hsv
            generalize World.drewN Wa nq = W7 at *
            cases kd
            · have Hs : Hid (dedTo (m.map (·.2.1)) (k + 1) = dedTo (m.map (·.2.1)) k) := Hn.out Hkd.out
              go_wp2_with fail
              rw [← Hav.out]
              go_roundg (m.length - (k + 1))
              case measure => have := hgk.out; omega
              case rel => exact ⟨k + 1, acc, by go_num, by omega, rfl, by show _ = _; rw [Hs.out]; exact hacc.out, howna, hb7⟩
            · have Hs : Hid (dedTo (m.map (·.2.1)) (k + 1) = dedTo (m.map (·.2.1)) k ++ [x2]) := Hy.out Hkd.out
              have HCh : Hid (chg (entL m id) x2 = !decide (entL m id x2 = entL m id (x2 - 1))) := rfl
              have HE1 := Lib.hid (fun W h => HEn.out x2 W (some ⟨b, off, none⟩) cv h)
              have HE2 := Lib.hid (fun W h => HEn.out (x2 - 1) W (some ⟨b, off, none⟩) cv h)
              have Hacc2 : Hid ((dedTo (m.map (·.2.1)) (k + 1)).filter (chg (entL m id)) = acc ++ if chg (entL m id) x2 = true then [x2] else []) := by
                show _ = _
                rw [Hs.out, List.filter_append, ← hacc.out, List.filter_cons, List.filter_nil]
              rw [HCh.out] at Hacc2
              clear HCh
              have hw1 : IntKind.i64.wrap (x2 - 1) = x2 - 1 := IntWalk.i64_in _ (by have := Hbx.out; omega)
              have hne := run_neEnt (entL m id x2) (entL m id (x2 - 1))
              have hgd := fun p q => guard_Ent p q (entL m id x2) (entL m id (x2 - 1))
              obtain ⟨e1, he1⟩ : ∃ e1, entL m id x2 = e1 := ⟨_, rfl⟩
              obtain ⟨e2, he2⟩ : ∃ e2, entL m id (x2 - 1) = e2 := ⟨_, rfl⟩
              rw [he1] at HE1 Hacc2 hne hgd
              rw [he2] at HE2 Hacc2 hne hgd
              clear he1 he2
              generalize decide (e1 = e2) = dq at *
              generalize entAgg e1 = va at *
              generalize entAgg e2 = vb at *
              have hTc := hT.cell 1
              go_upto_region 12 with (fail)
              refine wp_region_held_drew (S := (fun wx => wx.cell? ⟨wr.heap.size, 1, none⟩ = some (.int .i64 x2) ∧ Below W7.heap.size W7 wx)) (by kernel_rfl) ?hS (fun hHeld => ?_)
              case hS => exact ⟨hTc, (Below.refl _ _).drew⟩
              refine rtake (i := 0) (d := (some 47)) (v := ?_) rfl (by kernel_rfl) (by kernel_rfl) (by kernel_rfl) (by kernel_rfl) (fun _ _ _ h => h) (by kernel_rfl) (by assumption) ?_ ?_
              rotate_left 1
              · (intro wI hSI; (try dsimp only at hSI); go_simp; (try with_reducible rfl))
              simp only [Act.put, List.setIfInBounds_toArray, List.set_cons_zero, List.set_cons_succ]
              refine rtake (i := 1) (d := (some 48)) (v := ?_) rfl (by kernel_rfl) (by kernel_rfl) (by kernel_rfl) (by kernel_rfl) (fun _ _ _ h => h) (by kernel_rfl) (by assumption) ?_ ?_
              rotate_left 1
              · (intro wI hSI; (try dsimp only at hSI); go_simp; (try with_reducible rfl))
              simp only [Act.put, List.setIfInBounds_toArray, List.set_cons_zero, List.set_cons_succ]
              refine rtake (i := 2) (d := (some 49)) (v := ?_) rfl (by kernel_rfl) (by kernel_rfl) (by kernel_rfl) (by kernel_rfl) (fun _ _ _ h => h) (by kernel_rfl) (by assumption) ?_ ?_
              rotate_left 1
              · (intro wI hSI; (try dsimp only at hSI); go_simp; (try with_reducible rfl))
              simp only [Act.put, List.setIfInBounds_toArray, List.set_cons_zero, List.set_cons_succ]
              refine rtake (i := 3) (d := (some 50)) (v := ?_) rfl (by kernel_rfl) (by kernel_rfl) (by kernel_rfl) (by kernel_rfl) (fun _ _ _ h => h) (by kernel_rfl) (by assumption) ?_ ?_
              rotate_left 1
              · (intro wI hSI; (try dsimp only at hSI); go_simp; (try with_reducible rfl))
              simp only [Act.put, List.setIfInBounds_toArray, List.set_cons_zero, List.set_cons_succ]
              refine rtake (i := 5) (d := (some 52)) (v := ?_) rfl (by kernel_rfl) (by kernel_rfl) (by kernel_rfl) (by kernel_rfl) (fun _ _ _ h => h) (by kernel_rfl) (by assumption) ?_ ?_
              rotate_left 1
              · (intro wI hSI; (try dsimp only at hSI); go_simp; (try with_reducible rfl))
              simp only [Act.put, List.setIfInBounds_toArray, List.set_cons_zero, List.set_cons_succ]
              refine rtake (i := 6) (d := (some 53)) (v := ?_) rfl (by kernel_rfl) (by kernel_rfl) (by kernel_rfl) (by kernel_rfl) (fun _ _ _ h => h) (by kernel_rfl) (by assumption) ?_ ?_
              rotate_left 1
              · (intro wI hSI; (try dsimp only at hSI); go_simp; (try with_reducible rfl))
              simp only [Act.put, List.setIfInBounds_toArray, List.set_cons_zero, List.set_cons_succ]
              refine rtake (i := 7) (d := (some 54)) (v := ?_) rfl (by kernel_rfl) (by kernel_rfl) (by kernel_rfl) (by kernel_rfl) (fun _ _ _ h => h) (by kernel_rfl) (by assumption) ?_ ?_
              rotate_left 1
              · (intro wI hSI; (try dsimp only at hSI); go_simp; (try with_reducible rfl))
              simp only [Act.put, List.setIfInBounds_toArray, List.set_cons_zero, List.set_cons_succ]
              refine rtake (i := 8) (d := (some 55)) (v := ?_) rfl (by kernel_rfl) (by kernel_rfl) (by kernel_rfl) (by kernel_rfl) (fun _ _ _ h => h) (by kernel_rfl) (by assumption) ?_ ?_
              rotate_left 1
              · (intro wI hSI; (try dsimp only at hSI); go_simp; (try with_reducible rfl))
              simp only [Act.put, List.setIfInBounds_toArray, List.set_cons_zero, List.set_cons_succ]
              refine rtake (i := 9) (d := (some 56)) (v := ?_) rfl (by kernel_rfl) (by kernel_rfl) (by kernel_rfl) (by kernel_rfl) (fun _ _ _ h => h) (by kernel_rfl) (by assumption) ?_ ?_
              rotate_left 1
              · (intro wI hSI; (try dsimp only at hSI); go_simp; (try with_reducible rfl))
              simp only [Act.put, List.setIfInBounds_toArray, List.set_cons_zero, List.set_cons_succ]
              refine rcall (i := 4) (d := (some 51)) (by kernel_rfl) rfl (by kernel_rfl) (fun K hK => ?_)
              go_simp
              go_at_call 40; refine (HE1.out _ (Hsb.out.below (below_next hb7 hHeld.2))).mono ?_; rintro e w8 ⟨rfl, hb8⟩
              refine hK.out _ _ ?hS (fun hHeld => ?_)
              case hS => exact ⟨cell_later hb8 hHeld.1, hHeld.2.trans (hb8.mono hHeld.2.size)⟩
              clear hK K
              simp only [Act.put, List.setIfInBounds_toArray, List.set_cons_zero, List.set_cons_succ]
              refine rcall (i := 10) (d := (some 57)) (by kernel_rfl) rfl (by kernel_rfl) (fun K hK => ?_)
              go_simp
              go_at_call 40; refine (HE2.out _ (Hsb.out.below (below_next hb7 hHeld.2))).mono ?_; rintro e w9 ⟨rfl, hb9⟩
              refine hK.out _ _ ?hS (fun hHeld => ?_)
              case hS => exact ⟨cell_later hb9 hHeld.1, hHeld.2.trans (hb9.mono hHeld.2.size)⟩
              clear hK K
              simp only [Act.put, List.setIfInBounds_toArray, List.set_cons_zero, List.set_cons_succ]
              refine rtake (i := 11) (d := (some 58)) (v := ?_) rfl (by kernel_rfl) (by kernel_rfl) (by kernel_rfl) (by kernel_rfl) (fun _ _ _ h => h) (by kernel_rfl) (by assumption) ?_ ?_
              rotate_left 1
              · (intro wI hSI; (try dsimp only at hSI); go_simp; (try with_reducible rfl))
              simp only [Act.put, List.setIfInBounds_toArray, List.set_cons_zero, List.set_cons_succ]
              refine wpAnyH_done (by kernel_rfl) ?_ _
              have hbZ := hHeld.2
              have hT9 := hT.below hbZ
              have hown9 := howna.below hbZ
              have hb10 := below_next hb7 hbZ
              have hz10 := hb10.size
              clear hHeld hbZ hb8 hb9 hT howna hb7 hTc hne hgd HE1 HE2
              cases dq
              · have Ha : Hid ((dedTo (m.map (·.2.1)) (k + 1)).filter (chg (entL m id)) = acc ++ [x2]) := by show _ = _; rw [Hacc2.out]; rfl
                have hT9_l := hT9.lt; have hT9_0 := hT9.cell 0; have hT9_1 := hT9.cell 1; have hT9_2 := hT9.cell 2; have hT9_3 := hT9.cell 3; have hT9_4 := hT9.cell 4; simp at hT9_0 hT9_1 hT9_2 hT9_3 hT9_4
                go_wp2_with (at_builtin; refine wpList_append_one rfl _ _ 22 rfl w2.heap.size 3 8 (.int .i64 0) Tryz.underlying22 infoIntS rfl _ acc rfl (hown9.alloc _) x2 _ rfl (Box.newAt _ _ _ _ rfl) (by omega) (by omega) (by simp; omega) ?_; intro v' w11 hown11 hg11)
                have hb11 : Below w2.heap.size w2 w11 := Below.grown (hb10.alloc (by omega) _) hg11 (by simp; omega) (fun j hj => (HlO.out j hj).1)
                rw [← Hav.out]
                go_roundg (m.length - (k + 1))
                case measure => have := hgk.out; omega
                case rel => exact ⟨k + 1, acc ++ [x2], by go_num, by omega, rfl, Ha.out.symm, hown11, hb11⟩
              · have Ha : Hid ((dedTo (m.map (·.2.1)) (k + 1)).filter (chg (entL m id)) = acc) := by show _ = _; rw [Hacc2.out]; simp
                go_wp2_with fail
                rw [← Hav.out]
                go_roundg (m.length - (k + 1))
                case measure => have := hgk.out; omega
                case rel => exact ⟨k + 1, acc, by go_num, by omega, rfl, Ha.out.symm, hown9, hb10⟩
        · obtain rfl : k = m.length := by omega
          replace hacc : Hid (acc = vl) := by show _ = _; rw [hacc.out, HVl.out, List.length_map]
          obtain ⟨ao, co, rfl, hso, -, -⟩ := hown.form
          have hal : vl.length ≤ 1000000 := by
            rw [HVl.out]
            refine Nat.le_trans (List.length_filter_le _ _) (Nat.le_trans (dedTo_len _ _) ?_)
            rw [List.length_map]
            omega
          have hbF := hbx.trans (hbr.mono (by have := hbx.size; omega))
          go_wp2_with fail
          go_ret2
          rw [hacc.out] at hso
          exact ⟨hbF, ao, acc.length, co, by rw [He.out] <;> rfl, by rw [hacc.out]; omega, fun _ => ⟨by rw [hacc.out], hso⟩⟩
  · have He : Hid (er = pf) := by show _ = _; rw [HEr.out, if_pos h1]
    have H1 := Lib.hid h1
    have h1' : (pf != 0) = true := by simpa using h1
    clear h1
    go_wp2_with fail
    go_ret2
    exact ⟨hb, none, 0, 0, by rw [He.out] <;> rfl, by omega, fun e => absurd (He.out.symm.trans e) H1.out⟩
end Go.Proofs.YtifflpilnpcmoaaGreatDoor
