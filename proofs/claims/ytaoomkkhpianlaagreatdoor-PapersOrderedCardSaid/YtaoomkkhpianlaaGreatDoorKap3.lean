/- Kappa of the program. -/
import Derived.Test.YtaoomkkhpianlaaGreatDoorKap2
namespace Go.Proofs.YtaoomkkhpianlaaGreatDoor
open Go.RowKit Go.Sort
set_option linter.unusedVariables false
set_option linter.unusedSimpArgs false

/-- What Kappa gives. -/
def kapRN (l : List Mark) (pa pb : ByteArray) : Int := if pa = pb then 0 else kresN (kap l pa pb (keysOf (fun x => x.1) l))
def kapRD (l : List Mark) (pa pb : ByteArray) : Int := if pa = pb then 0 else kresD (kap l pa pb (keysOf (fun x => x.1) l))
def kapRE (l : List Mark) (pa pb : ByteArray) : Int := if pa = pb then 6 else kresE (kap l pa pb (keysOf (fun x => x.1) l))
theorem looked_sc {l : List Mark} (h : marksFault l = 0) (a p : ByteArray) : looked (scE (sel (fun x => x.2.1) a l)) p (.int .i64 0) true = scVal (scOf l p a) := by
  unfold looked scVal
  rw [scE_get h]
  cases scOf l p a <;> rfl
theorem scE_mem {l : List Mark} (h : marksFault l = 0) {a k : ByteArray} {v : Value} (hm : (k, v) ∈ scE (sel (fun x => x.2.1) a l)) : ∃ i, scOf l k a = some i ∧ v = .int .i64 i := by
  have h1 := mget_of_mem (scE_nodup _) hm
  rw [scE_get h] at h1
  rw [Option.map_eq_some_iff] at h1
  obtain ⟨i, hi, rfl⟩ := h1
  exact ⟨i, hi, rfl⟩

set_option maxRecDepth 100000 in
set_option maxHeartbeats 4000000 in
theorem kappa_any (l : List Mark) (a : Option Addr) (cap : Nat) (pa pb : ByteArray) (w : World) (hs : SA w a l) (hl : l.length ≤ 400) (hks : ∀ x ∈ l, x.1.size ≤ 1000 ∧ x.2.1.size ≤ 1000) :
    Calls Tryz.prog 12 #[.slice a l.length cap, .string pa, .string pb] w (Gives (.tuple #[.agg #[.int .i64 (if marksFault l = 0 then kapRN l pa pb else 0), .int .i64 (if marksFault l = 0 then kapRD l pa pb else 0)], .int .i64 (if marksFault l = 0 then kapRE l pa pb else marksFault l)]) w) := by
  generalize hq : (if marksFault l = 0 then kapRN l pa pb else 0) = qn at *
  generalize hr : (if marksFault l = 0 then kapRD l pa pb else 0) = qd at *
  generalize hq3 : (if marksFault l = 0 then kapRE l pa pb else marksFault l) = qe at *
  have HQ := Lib.hid hq
  have HR := Lib.hid hr
  have HE := Lib.hid hq3
  clear hq hr hq3
  go_enter Tryz.func12, Tryz.ntmps12
  go_wp2_with fail
  refine (checked_any l a cap _ (hs.alloc _) (by omega) hks).mono ?_
  rintro e w1 ⟨hb1, h1⟩
  have hz1 := hb1.size
  simp at hz1
  have hR := (Box.new w 30 #[.int .i64 0, .int .i64 0]).below hb1
  rcases h1 with ⟨h0, rfl⟩ | ⟨h0, sb, rfl, hsh, hsb⟩
  · have h0' : (marksFault l != 0) = true := by simpa using h0
    rw [if_neg h0] at HQ HR HE
    obtain rfl := HQ.out
    obtain rfl := HR.out
    clear h0
    have hR_l := hR.lt; have hR_0 := hR.cell 0; have hR_1 := hR.cell 1; simp at hR_0 hR_1
    have hR_f0 := hR.frozen 0; have hR_f1 := hR.frozen 1
    go_wp2_with fail
    refine bodyPost_ret (v := .tuple #[.agg #[.int .i64 0, .int .i64 0], .int .i64 (marksFault l)]) (by simp only [results, Tryz.results12]; go_simp) rfl ⟨by rw [← HE.out], ?_⟩
    (repeat' (first | exact Below.refl _ _ | assumption | refine Below.setCell ?_ ?_ _ | refine below_drewN ?_ _ | refine Below.drew ?_ | refine Below.alloc ?_ ?_ _ | (with_reducible refine Below.trans ?_ (Below.mono hb ?_)) | (with_reducible refine Below.trans ?_ (Below.mono hb0 ?_)) | (with_reducible refine Below.trans ?_ (Below.mono hb1 ?_)) | (with_reducible refine Below.trans ?_ (Below.mono hb2 ?_)) | (with_reducible refine Below.trans ?_ (Below.mono hb3 ?_)) | (with_reducible refine Below.trans ?_ (Below.mono hb4 ?_)) | (with_reducible refine Below.trans ?_ (Below.mono hb5 ?_)) | (with_reducible refine Below.trans ?_ (Below.mono hb6 ?_)) | (with_reducible refine Below.trans ?_ (Below.mono hb7 ?_)) | (with_reducible refine Below.trans ?_ (Below.mono hb8 ?_)) | (with_reducible refine Below.trans ?_ (Below.mono hb9 ?_)) | (with_reducible refine Below.trans ?_ (Below.mono hb10 ?_)) | (with_reducible refine Below.trans ?_ (Below.mono hb11 ?_)) | (with_reducible refine Below.trans ?_ (Below.mono hb12 ?_)) | (with_reducible refine Below.trans ?_ (Below.mono hb13 ?_)) | (with_reducible refine Below.trans ?_ (Below.mono hb14 ?_)) | (with_reducible refine Below.trans ?_ (Below.mono hb15 ?_)) | omega | (simp; done) | (simp; omega)))
  · rw [if_pos h0] at HQ HR HE
    obtain ⟨b1, b2, base, a', cap', es1, es2, hst, hsa'⟩ := hsh
    have H0 := Lib.hid h0
    have hok := fault_scores h0
    clear h0
    by_cases hab : pa = pb
    · have hab' := tl_eq hab
      unfold kapRN at HQ
      unfold kapRD at HR
      unfold kapRE at HE
      rw [if_pos hab] at HQ HR HE
      obtain rfl := HQ.out
      obtain rfl := HR.out
      clear hab
      have hR_l := hR.lt; have hR_0 := hR.cell 0; have hR_1 := hR.cell 1; simp at hR_0 hR_1
      have hR_f0 := hR.frozen 0; have hR_f1 := hR.frozen 1
      go_wp2_with fail
      refine bodyPost_ret (v := .tuple #[.agg #[.int .i64 0, .int .i64 0], .int .i64 6]) (by simp only [results, Tryz.results12]; go_simp) rfl ⟨by rw [← HE.out], ?_⟩
      (repeat' (first | exact Below.refl _ _ | assumption | refine Below.setCell ?_ ?_ _ | refine below_drewN ?_ _ | refine Below.drew ?_ | refine Below.alloc ?_ ?_ _ | (with_reducible refine Below.trans ?_ (Below.mono hb ?_)) | (with_reducible refine Below.trans ?_ (Below.mono hb0 ?_)) | (with_reducible refine Below.trans ?_ (Below.mono hb1 ?_)) | (with_reducible refine Below.trans ?_ (Below.mono hb2 ?_)) | (with_reducible refine Below.trans ?_ (Below.mono hb3 ?_)) | (with_reducible refine Below.trans ?_ (Below.mono hb4 ?_)) | (with_reducible refine Below.trans ?_ (Below.mono hb5 ?_)) | (with_reducible refine Below.trans ?_ (Below.mono hb6 ?_)) | (with_reducible refine Below.trans ?_ (Below.mono hb7 ?_)) | (with_reducible refine Below.trans ?_ (Below.mono hb8 ?_)) | (with_reducible refine Below.trans ?_ (Below.mono hb9 ?_)) | (with_reducible refine Below.trans ?_ (Below.mono hb10 ?_)) | (with_reducible refine Below.trans ?_ (Below.mono hb11 ?_)) | (with_reducible refine Below.trans ?_ (Below.mono hb12 ?_)) | (with_reducible refine Below.trans ?_ (Below.mono hb13 ?_)) | (with_reducible refine Below.trans ?_ (Below.mono hb14 ?_)) | (with_reducible refine Below.trans ?_ (Below.mono hb15 ?_)) | omega | (simp; done) | (simp; omega)))
    · have hab' := tl_ne hab
      unfold kapRN at HQ
      unfold kapRD at HR
      unfold kapRE at HE
      rw [if_neg hab] at HQ HR HE
      clear hab
      go_wp2_with fail
      refine (scoresP_any sb b1 b2 base a' cap' l es1 es2 pa _ hst (by omega)).mono ?_
      rintro e w2 ⟨rfl, hMA, hb2⟩
      have hst2 := hst.below hb2
      have hR2 := hR.below hb2
      have hz2 := hb2.size
      have hbw2 := below_next hb1 hb2
      have hA2 := hMA.lt
      clear hst hR hb2
      go_wp2_with fail
      refine (scoresP_any sb b1 b2 base a' cap' l es1 es2 pb _ hst2 (by omega)).mono ?_
      rintro e w3 ⟨rfl, hMB, hb3⟩
      have hMA3 := hMA.below hb3
      have hR3 := hR2.below hb3
      have hz3 := hb3.size
      have hbw3 : Below w.heap.size w w3 := below_next ((Below.refl _ w).alloc (Nat.le_refl _) _) (below_next hbw2 hb3)
      have hB3 := hMB.lt
      clear hst2 hR2 hb3 hMA
      generalize w1.heap.size = bA at *
      generalize w2.heap.size = bB at *
      have Hsc := Lib.hid (fun p => looked_sc H0.out pb p)
      have Hin : Hid (∀ k v, (k, v) ∈ scE (sel (fun x => x.2.1) pa l) → ∃ i, scOf l k pa = some i ∧ v = .int .i64 i) := fun k v hm => scE_mem H0.out hm
      have Hnd := Lib.hid (scE_nodup (sel (fun x => x.2.1) pa l))
      have Hky := Lib.hid (scE_keys (sel (fun x => x.2.1) pa l))
      generalize scE (sel (fun x => x.2.1) pa l) = esA at *
      generalize scE (sel (fun x => x.2.1) pb l) = esB at *
      have hF1 := (Box.new w3 112 #[.int .i64 0, .int .i64 0, .int .i64 0, .int .i64 0, .int .i64 0, .int .i64 0, .int .i64 0, .int .i64 0, .int .i64 0, .int .i64 0, .int .i64 0]).alloc (.cells #[.int .i64 0, .int .i64 0, .int .i64 0, .int .i64 0, .int .i64 0, .int .i64 0, .int .i64 0, .int .i64 0, .int .i64 0, .int .i64 0, .int .i64 0] 112)
      have hF2 := Box.newAt (w3.alloc (.cells #[.int .i64 0, .int .i64 0, .int .i64 0, .int .i64 0, .int .i64 0, .int .i64 0, .int .i64 0, .int .i64 0, .int .i64 0, .int .i64 0, .int .i64 0] 112)) (w3.heap.size + 1) 112 #[.int .i64 0, .int .i64 0, .int .i64 0, .int .i64 0, .int .i64 0, .int .i64 0, .int .i64 0, .int .i64 0, .int .i64 0, .int .i64 0, .int .i64 0] (by simp)
      go_wp2_with ((refine wpList_range_box rfl _ 110 rfl 9 3 Tryz.underlying110 bA esA rfl ((hMA3.alloc _).alloc _) ?_; intro o' hI))
      go_frame
      have hb4 := (hbw3.alloc (by have := hbw3.size; omega) (.cells #[.int .i64 0, .int .i64 0, .int .i64 0, .int .i64 0, .int .i64 0, .int .i64 0, .int .i64 0, .int .i64 0, .int .i64 0, .int .i64 0, .int .i64 0] 112)).alloc (by have := hbw3.size; simp; omega) (.cells #[.int .i64 0, .int .i64 0, .int .i64 0, .int .i64 0, .int .i64 0, .int .i64 0, .int .i64 0, .int .i64 0, .int .i64 0, .int .i64 0, .int .i64 0] 112)
      have hR4 := (hR3.alloc (.cells #[.int .i64 0, .int .i64 0, .int .i64 0, .int .i64 0, .int .i64 0, .int .i64 0, .int .i64 0, .int .i64 0, .int .i64 0, .int .i64 0, .int .i64 0] 112)).alloc (.cells #[.int .i64 0, .int .i64 0, .int .i64 0, .int .i64 0, .int .i64 0, .int .i64 0, .int .i64 0, .int .i64 0, .int .i64 0, .int .i64 0, .int .i64 0] 112)
      have hMB4 := (hMB.alloc (.cells #[.int .i64 0, .int .i64 0, .int .i64 0, .int .i64 0, .int .i64 0, .int .i64 0, .int .i64 0, .int .i64 0, .int .i64 0, .int .i64 0, .int .i64 0] 112)).alloc (.cells #[.int .i64 0, .int .i64 0, .int .i64 0, .int .i64 0, .int .i64 0, .int .i64 0, .int .i64 0, .int .i64 0, .int .i64 0, .int .i64 0, .int .i64 0] 112)
      have hz4 : ((w3.alloc (.cells #[.int .i64 0, .int .i64 0, .int .i64 0, .int .i64 0, .int .i64 0, .int .i64 0, .int .i64 0, .int .i64 0, .int .i64 0, .int .i64 0, .int .i64 0] 112)).alloc (.cells #[.int .i64 0, .int .i64 0, .int .i64 0, .int .i64 0, .int .i64 0, .int .i64 0, .int .i64 0, .int .i64 0, .int .i64 0, .int .i64 0, .int .i64 0] 112)).heap.size = w3.heap.size + 2 := by simp
      have hlenA : esA.length ≤ 400 := by
        have h1 := nodup_len (b := l.map (fun x => x.1)) Hnd.out (fun p hp => by obtain ⟨x, hx, e⟩ := (Hky.out p).1 hp; exact List.mem_map.2 ⟨x, (List.mem_filter.1 hx).1, e⟩)
        simp at h1; omega
      generalize (w3.alloc (.cells #[.int .i64 0, .int .i64 0, .int .i64 0, .int .i64 0, .int .i64 0, .int .i64 0, .int .i64 0, .int .i64 0, .int .i64 0, .int .i64 0, .int .i64 0] 112)).alloc (.cells #[.int .i64 0, .int .i64 0, .int .i64 0, .int .i64 0, .int .i64 0, .int .i64 0, .int .i64 0, .int .i64 0, .int .i64 0, .int .i64 0, .int .i64 0] 112) = W4 at *
      generalize hro : W4.heap.size = ri at *
      have hb5 := hb4.alloc (by omega) o'
      have hR5 := hR4.alloc o'
      have hMB5 := hMB4.alloc o'
      have hF15 := hF1.alloc o'
      have hF25 := hF2.alloc o'
      have hz5 : ri < (W4.alloc o').heap.size := by simp; omega
      generalize W4.alloc o' = W5 at *
      have hwA : w.heap.size < bA := by omega
      have hri : w3.heap.size + 1 < ri := by omega
      clear hb4 hR4 hMB4 hF1 hF2 hbw3 hR3 hMB hMA3 hro hz4
      go_loopg [14, 15] esA.length (fun gk nv sv wr => ∃ (left : List (ByteArray × Value)) (done : List ByteArray), Hid (gk = left.length) ∧ IBox wr ri bA esA left ∧ Hid ((done ++ left.map (·.1)).Perm (esA.map (·.1))) ∧ Hid (∀ p ∈ left, p ∈ esA) ∧ nv = .int .i64 ((kap l pa pb done).length : Nat) ∧ sv = .int .i64 (sameN (kap l pa pb done)) ∧ Box wr w3.heap.size 112 (elev (cntA (kap l pa pb done))) ∧ Box wr (w3.heap.size + 1) 112 (elev (cntB (kap l pa pb done))) ∧ Box wr w.heap.size 30 #[.int .i64 0, .int .i64 0] ∧ MBox wr bB esB ∧ Below w.heap.size w wr ∧ ri < wr.heap.size)
      case atStart => exact ⟨esA, [], rfl, hI, List.Perm.refl _, fun p hp => hp, rfl, rfl, hF15, hF25, hR5, hMB5, hb5, hz5⟩
      clear hI hb5 hR5 hMB5 hF15 hF25 hz5
      obtain ⟨left, done, hgk, hI, hperm, hsub, rfl, rfl, hF1, hF2, hR, hMB, hb, hz⟩ := hrel
      have hLl : (kap l pa pb done).length ≤ 400 := by
        have h1 := kap_len l pa pb done
        have h2 := hperm.out.length_eq
        simp at h2; omega
      go_wp2_with ((refine wpList_next_box rfl _ rfl ri bA esA left rfl hI ?_ ?_))
      rotate_left 1
      · intro p0 kk v q w' hleft hI2 hent hg hsz
        obtain ⟨i, hi, rfl⟩ := Hin.out kk v (hsub.out _ (by rw [hleft]; simp))
        have hb2 : Below w.heap.size w w' := hb.grown hg (by omega) (by rintro j hj; cases hj; omega)
        have hF12 := hF1.grown hg (by simp <;> omega)
        have hF22 := hF2.grown hg (by simp <;> omega)
        have hR2 := hR.grown hg (by simp <;> omega)
        have hMB2 := hMB.same (hg.block _ hMB.lt (by simp <;> omega))
        have Hperm2 : Hid (((done ++ [kk]) ++ (p0 ++ q).map (·.1)).Perm (esA.map (·.1))) := by
          refine List.Perm.trans ?_ hperm.out
          rw [hleft, List.map_append, List.map_append, List.map_cons, List.append_assoc]
          refine List.Perm.append_left _ ?_
          exact (List.perm_middle (l₁ := p0.map (·.1)) (a := kk) (l₂ := q.map (·.1))).symm
        have Hsub3 : Hid (∀ p ∈ p0 ++ q, p ∈ esA) := fun p hp => hsub.out p (by rw [hleft]; simp only [List.mem_append, List.mem_cons] at hp ⊢; exact hp.elim .inl (fun h => .inr (.inr h)))
        have hlen2 : (p0 ++ q).length < left.length := by rw [hleft]; simp
        have hlk := MBox.look (P := Tryz.prog) hMB2 Tryz.underlying110 Tryz.underlying9 (.int .i64 0) (fun w => Tryz.zeroValue3 w) kk true
        rw [Hsc.out kk] at hlk
        have Hks := Lib.hid (kap_snoc l pa pb done kk)
        have hibd := scOf_bd hok hi
        have Hbo : Hid (bothOf l pa pb kk = match scOf l kk pb with | some o => some (i, o) | none => none) := by
          show _ = _
          unfold bothOf; rw [hi]; cases scOf l kk pb <;> rfl
        clear hleft hI hb hF1 hF2 hR hMB hperm hsub hi
        generalize kap l pa pb done = L at *
        cases hso : scOf l kk pb with
        | none =>
          rw [hso] at hlk
          have Hk2 : Hid (kap l pa pb (done ++ [kk]) = L) := by show _ = _; rw [Hks.out, Hbo.out, hso, List.append_nil]
          unfold scVal at hlk
          simp only [Option.getD_none, Option.isSome_none] at hlk
          clear Hks Hbo hso
          go_wp2_with fail
          go_roundg (p0 ++ q).length
          case measure => have := hgk.out; omega
          case rel => exact ⟨p0 ++ q, done ++ [kk], rfl, hI2, Hperm2, Hsub3, by rw [Hk2.out], by rw [Hk2.out], by rw [Hk2.out]; exact hF12, by rw [Hk2.out]; exact hF22, hR2, hMB2, hb2, by omega⟩
        | some o =>
          rw [hso] at hlk
          have hobd := scOf_bd hok hso
          have Hk2 : Hid (kap l pa pb (done ++ [kk]) = L ++ [(i, o)]) := by show _ = _; rw [Hks.out, Hbo.out, hso]
          unfold scVal at hlk
          simp only [Option.getD_some, Option.isSome_some] at hlk
          clear Hks Hbo hso
          obtain ⟨m, rfl⟩ := Int.eq_ofNat_of_zero_le hibd.1
          obtain ⟨n, rfl⟩ := Int.eq_ofNat_of_zero_le hobd.1
          have hm : m < 11 := by omega
          have hn : n < 11 := by omega
          have hca := cntA_bd L m
          have hcb := cntB_bd L n
          have hsn := sameN_bd L
          have c1 := hF12.cell m
          rw [elev_get _ hm] at c1
          have c2 := hF22.cell n
          rw [elev_get _ hn] at c2
          have f1 := hF12.frozen m
          have f2 := hF22.frozen n
          have hm0 : (0 : Int) ≤ (m : Int) := by omega
          have hm1 : (m : Int) < 11 := by omega
          have hn0 : (0 : Int) ≤ (n : Int) := by omega
          have hn1 : (n : Int) < 11 := by omega
          have hF13 := (hF12.set m (.int .i64 (cntA L m + 1))).setOther (p := ⟨w3.heap.size + 1, n, none⟩) (by simp) (.int .i64 (cntB L n + 1))
          rw [elev_set (cntA L) (cntA (L ++ [((m : Int), (n : Int))])) hm _ (fun j => by rw [cntA_snoc]; by_cases h : j = m; (subst h; simp); (rw [if_neg h, if_neg (by simp; omega)]; omega))] at hF13
          have hF23 := (hF22.setOther (p := ⟨w3.heap.size, m, none⟩) (by simp) (.int .i64 (cntA L m + 1))).set n (.int .i64 (cntB L n + 1))
          rw [elev_set (cntB L) (cntB (L ++ [((m : Int), (n : Int))])) hn _ (fun j => by rw [cntB_snoc]; by_cases h : j = n; (subst h; simp); (rw [if_neg h, if_neg (by simp; omega)]; omega))] at hF23
          have hR3 := (hR2.setOther (p := ⟨w3.heap.size, m, none⟩) (by simp <;> omega) (.int .i64 (cntA L m + 1))).setOther (p := ⟨w3.heap.size + 1, n, none⟩) (by simp <;> omega) (.int .i64 (cntB L n + 1))
          have hMB3 := (hMB2.setOther (p := ⟨w3.heap.size, m, none⟩) (by simp <;> omega) (.int .i64 (cntA L m + 1))).setOther (p := ⟨w3.heap.size + 1, n, none⟩) (by simp <;> omega) (.int .i64 (cntB L n + 1))
          have hb3 := (hb2.setCell (p := ⟨w3.heap.size, m, none⟩) (by simp <;> omega) (.int .i64 (cntA L m + 1))).setCell (p := ⟨w3.heap.size + 1, n, none⟩) (by simp <;> omega) (.int .i64 (cntB L n + 1))
          have hI3 := hI2.same (w' := (w'.setCell ⟨w3.heap.size, m, none⟩ (.int .i64 (cntA L m + 1))).setCell ⟨w3.heap.size + 1, n, none⟩ (.int .i64 (cntB L n + 1))) (by rw [Below.heap_setCell _ _ _ _ (by simp <;> omega), Below.heap_setCell _ _ _ _ (by simp <;> omega)]) (by rw [Below.heap_setCell _ _ _ _ (by simp <;> omega), Below.heap_setCell _ _ _ _ (by simp <;> omega)])
          have hz3' : ri < ((w'.setCell ⟨w3.heap.size, m, none⟩ (.int .i64 (cntA L m + 1))).setCell ⟨w3.heap.size + 1, n, none⟩ (.int .i64 (cntB L n + 1))).heap.size := by simp [World.setCell]; omega
          have Hsm := Lib.hid (sameN_snoc L ((m : Int), (n : Int)))
          simp only at Hsm
          generalize cntA L m = ca at *
          generalize cntB L n = cb at *
          clear hF12 hF22 hR2 hMB2 hb2 hI2
          by_cases hmn : (m : Int) = n
          · rw [if_pos hmn] at Hsm
            have hmn' : ((m : Int) == (n : Int)) = true := by simp [hmn]
            have Hmn := Lib.hid hmn
            clear hmn
            go_wp2_with fail
            go_roundg (p0 ++ q).length
            case measure => have := hgk.out; omega
            case rel => exact ⟨p0 ++ q, done ++ [kk], rfl, hI3, Hperm2, Hsub3, by rw [Hk2.out, List.length_append]; go_num, by rw [Hk2.out, Hsm.out], by rw [Hk2.out]; exact hF13, by rw [Hk2.out]; exact hF23, hR3, hMB3, hb3, hz3'⟩
          · rw [if_neg hmn] at Hsm
            have hmn' : ((m : Int) == (n : Int)) = false := by simpa using hmn
            have Hmn := Lib.hid hmn
            clear hmn
            go_wp2_with fail
            go_roundg (p0 ++ q).length
            case measure => have := hgk.out; omega
            case rel => exact ⟨p0 ++ q, done ++ [kk], rfl, hI3, Hperm2, Hsub3, by rw [Hk2.out, List.length_append]; go_num, by rw [Hk2.out, Hsm.out, Int.add_zero], by rw [Hk2.out]; exact hF13, by rw [Hk2.out]; exact hF23, hR3, hMB3, hb3, hz3'⟩
      intro hnil
      have hdp : done.Perm (esA.map (·.1)) := by have := hperm.out; rw [hnil] at this; simpa using this
      have hkp := kap_perm (l := l) pa pb (ps := done) (hdp.nodup_iff.2 Hnd.out) (keysS_rise _).nodup (fun p => by rw [hdp.mem_iff]; exact Hky.out p)
      obtain ⟨e1, e2, e3⟩ := kres_perm hkp
      rw [← e1] at HQ
      rw [← e2] at HR
      rw [← e3] at HE
      clear hnil hI hperm hsub Hnd Hky Hin Hsc hgk hMB e1 e2 e3 hkp hdp
      generalize kap l pa pb done = L at *
      by_cases hL0 : L = []
      · subst hL0
        have e1 : kresN [] = 0 := by unfold kresN; rw [if_pos rfl]
        have e2 : kresD [] = 0 := by unfold kresD; rw [if_pos rfl]
        have e3 : kresE [] = 8 := by unfold kresE; rw [if_pos rfl]
        rw [e1] at HQ
        rw [e2] at HR
        rw [e3] at HE
        obtain rfl := HQ.out
        obtain rfl := HR.out
        obtain rfl := HE.out
        have hR_l := hR.lt; have hR_0 := hR.cell 0; have hR_1 := hR.cell 1; simp at hR_0 hR_1
        have hR_f0 := hR.frozen 0; have hR_f1 := hR.frozen 1
        clear e1 e2 e3
        go_wp2_with fail
        refine bodyPost_ret (v := .tuple #[.agg #[.int .i64 0, .int .i64 0], .int .i64 8]) (by simp only [results, Tryz.results12]; go_simp) rfl ⟨by rfl, ?_⟩
        (repeat' (first | exact Below.refl _ _ | assumption | refine Below.setCell ?_ ?_ _ | refine below_drewN ?_ _ | refine Below.drew ?_ | refine Below.alloc ?_ ?_ _ | (with_reducible refine Below.trans ?_ (Below.mono hb ?_)) | (with_reducible refine Below.trans ?_ (Below.mono hb0 ?_)) | (with_reducible refine Below.trans ?_ (Below.mono hb1 ?_)) | (with_reducible refine Below.trans ?_ (Below.mono hb2 ?_)) | (with_reducible refine Below.trans ?_ (Below.mono hb3 ?_)) | (with_reducible refine Below.trans ?_ (Below.mono hb4 ?_)) | (with_reducible refine Below.trans ?_ (Below.mono hb5 ?_)) | (with_reducible refine Below.trans ?_ (Below.mono hb6 ?_)) | (with_reducible refine Below.trans ?_ (Below.mono hb7 ?_)) | (with_reducible refine Below.trans ?_ (Below.mono hb8 ?_)) | (with_reducible refine Below.trans ?_ (Below.mono hb9 ?_)) | (with_reducible refine Below.trans ?_ (Below.mono hb10 ?_)) | (with_reducible refine Below.trans ?_ (Below.mono hb11 ?_)) | (with_reducible refine Below.trans ?_ (Below.mono hb12 ?_)) | (with_reducible refine Below.trans ?_ (Below.mono hb13 ?_)) | (with_reducible refine Below.trans ?_ (Below.mono hb14 ?_)) | (with_reducible refine Below.trans ?_ (Below.mono hb15 ?_)) | omega | (simp; done) | (simp; omega)))
      · have hl1 : 1 ≤ L.length := List.length_pos_iff.2 hL0
        have hne : ((L.length : Int) == 0) = false := by simp; omega
        unfold kresN at HQ
        unfold kresD at HR
        unfold kresE at HE
        rw [if_neg hL0] at HQ HR HE
        obtain rfl := HE.out
        have hmul := mul_in (x := (L.length : Int)) (y := (L.length : Int)) (X := 400) (Y := 400) (by omega) (by omega) (by omega) (by omega)
        clear hL0
        go_wp2_with fail
        obtain ⟨wz, rfl⟩ : ∃ wz : World, wz = wr := ⟨_, rfl⟩
        go_loopg [20, 76] 11 (fun gk ch i wx => ∃ j : Nat, i = .int .i64 j ∧ j ≤ 11 ∧ Hid (gk = 11 - j) ∧ ch = .int .i64 (chanceN L j) ∧ Below wz.heap.size wz wx)
        case atStart => exact ⟨0, rfl, by omega, rfl, rfl, Below.refl _ _⟩
        obtain ⟨j, rfl, hj, hgj, rfl, hbx⟩ := hrel
        by_cases hjl : j < 11
        · have c1 := (hF1.below hbx).cell j
          rw [elev_get _ hjl] at c1
          have c2 := (hF2.below hbx).cell j
          rw [elev_get _ hjl] at c2
          have hj0 : (0 : Int) ≤ (j : Int) := by omega
          have hj1 : (j : Int) < 11 := by omega
          have hca := cntA_bd L j
          have hcb := cntB_bd L j
          have hch := chance_bd L j
          have hm0 := mul_in (x := (j : Int)) (y := (L.length : Int) * L.length) (X := 11) (Y := 160000) (by omega) (by omega) (by omega) (by omega)
          have hm1 := mul_in (x := cntA L j) (y := cntB L j) (X := 400) (Y := 400) (by omega) (by omega) (by omega) (by omega)
          have Hsn := Lib.hid (show chanceN L (j + 1) = chanceN L j + cntA L j * cntB L j from rfl)
          generalize cntA L j = ca at *
          generalize cntB L j = cb at *
          generalize chanceN L j = ch at *
          have hw1 : IntKind.i64.wrap (ca * cb) = ca * cb := IntWalk.i64_in _ (by omega)
          have hw2 : IntKind.i64.wrap (ch + ca * cb) = ch + ca * cb := IntWalk.i64_in _ (by omega)
          clear hca hcb hch hm0 hm1
          go_wp2_with fail
          go_quiet (fail)
          go_wp2_with fail
          go_roundg (11 - (j + 1))
          case measure => have := hgj.out; omega
          case rel => exact ⟨j + 1, by go_num, by omega, rfl, by rw [Hsn.out], by (repeat' (first | exact Below.refl _ _ | assumption | refine Below.setCell ?_ ?_ _ | refine below_drewN ?_ _ | refine Below.drew ?_ | refine Below.alloc ?_ ?_ _ | (with_reducible refine Below.trans ?_ (Below.mono hb ?_)) | (with_reducible refine Below.trans ?_ (Below.mono hb0 ?_)) | (with_reducible refine Below.trans ?_ (Below.mono hb1 ?_)) | (with_reducible refine Below.trans ?_ (Below.mono hb2 ?_)) | (with_reducible refine Below.trans ?_ (Below.mono hb3 ?_)) | (with_reducible refine Below.trans ?_ (Below.mono hb4 ?_)) | (with_reducible refine Below.trans ?_ (Below.mono hb5 ?_)) | (with_reducible refine Below.trans ?_ (Below.mono hb6 ?_)) | (with_reducible refine Below.trans ?_ (Below.mono hb7 ?_)) | (with_reducible refine Below.trans ?_ (Below.mono hb8 ?_)) | (with_reducible refine Below.trans ?_ (Below.mono hb9 ?_)) | (with_reducible refine Below.trans ?_ (Below.mono hb10 ?_)) | (with_reducible refine Below.trans ?_ (Below.mono hb11 ?_)) | (with_reducible refine Below.trans ?_ (Below.mono hb12 ?_)) | (with_reducible refine Below.trans ?_ (Below.mono hb13 ?_)) | (with_reducible refine Below.trans ?_ (Below.mono hb14 ?_)) | (with_reducible refine Below.trans ?_ (Below.mono hb15 ?_)) | omega | (simp; done) | (simp; omega)))⟩
        · obtain rfl : j = 11 := by omega
          have hch := chance_bd L 11
          have hcl := chance_le L 11
          have hsn := sameN_bd L
          have hms := mul_in (x := (L.length : Int)) (y := sameN L) (X := 400) (Y := 400) (by omega) (by omega) (by omega) (by omega)
          have hRx := hR.below hbx
          have hbwx := below_next hb hbx
          have HL : Hid ((L.length : Int) * L.length ≠ chanceN L 11 → ∀ W, Calls Tryz.prog 66 #[.int .i64 ((L.length : Int) * sameN L - chanceN L 11), .int .i64 ((L.length : Int) * L.length - chanceN L 11)] W (Gives (low ((L.length : Int) * sameN L - chanceN L 11) ((L.length : Int) * L.length - chanceN L 11)) W)) := fun hn W => lowest_any _ _ W (by omega) (by omega) (by omega)
          generalize chanceN L 11 = ch at *
          generalize sameN L = sn at *
          clear hF1 hF2 hjl hgj hbx
          by_cases hcc : (L.length : Int) * L.length = ch
          · rw [if_pos hcc] at HQ HR
            have hcc' : ((L.length : Int) * L.length == ch) = true := by simp [hcc]
            obtain rfl := HQ.out
            obtain rfl := HR.out
            clear hcc HL
            go_wp2_with fail
            refine (oneC_any _).mono ?_
            rintro e wo ⟨rfl, hbo⟩
            have hRo := hRx.below hbo
            have hbwo := below_next hbwx hbo
            have hRo_l := hRo.lt; have hRo_0 := hRo.cell 0; have hRo_1 := hRo.cell 1; simp at hRo_0 hRo_1
            have hRo_f0 := hRo.frozen 0; have hRo_f1 := hRo.frozen 1
            go_wp2_with fail
            refine bodyPost_ret (v := .tuple #[.agg #[.int .i64 1, .int .i64 1], .int .i64 0]) (by simp only [results, Tryz.results12]; go_simp) rfl ⟨by rfl, ?_⟩
            (repeat' (first | exact Below.refl _ _ | assumption | refine Below.setCell ?_ ?_ _ | refine below_drewN ?_ _ | refine Below.drew ?_ | refine Below.alloc ?_ ?_ _ | (with_reducible refine Below.trans ?_ (Below.mono hb ?_)) | (with_reducible refine Below.trans ?_ (Below.mono hb0 ?_)) | (with_reducible refine Below.trans ?_ (Below.mono hb1 ?_)) | (with_reducible refine Below.trans ?_ (Below.mono hb2 ?_)) | (with_reducible refine Below.trans ?_ (Below.mono hb3 ?_)) | (with_reducible refine Below.trans ?_ (Below.mono hb4 ?_)) | (with_reducible refine Below.trans ?_ (Below.mono hb5 ?_)) | (with_reducible refine Below.trans ?_ (Below.mono hb6 ?_)) | (with_reducible refine Below.trans ?_ (Below.mono hb7 ?_)) | (with_reducible refine Below.trans ?_ (Below.mono hb8 ?_)) | (with_reducible refine Below.trans ?_ (Below.mono hb9 ?_)) | (with_reducible refine Below.trans ?_ (Below.mono hb10 ?_)) | (with_reducible refine Below.trans ?_ (Below.mono hb11 ?_)) | (with_reducible refine Below.trans ?_ (Below.mono hb12 ?_)) | (with_reducible refine Below.trans ?_ (Below.mono hb13 ?_)) | (with_reducible refine Below.trans ?_ (Below.mono hb14 ?_)) | (with_reducible refine Below.trans ?_ (Below.mono hb15 ?_)) | omega | (simp; done) | (simp; omega)))
          · rw [if_neg hcc] at HQ HR
            have hcc' : ((L.length : Int) * L.length == ch) = false := by simpa using hcc
            have hw1 : IntKind.i64.wrap ((L.length : Int) * L.length) = (L.length : Int) * L.length := IntWalk.i64_in _ (by omega)
            have hw2 : IntKind.i64.wrap ((L.length : Int) * sn) = (L.length : Int) * sn := IntWalk.i64_in _ (by omega)
            have hw3 : IntKind.i64.wrap ((L.length : Int) * sn - ch) = (L.length : Int) * sn - ch := IntWalk.i64_in _ (by omega)
            have hw4 : IntKind.i64.wrap ((L.length : Int) * L.length - ch) = (L.length : Int) * L.length - ch := IntWalk.i64_in _ (by omega)
            have HL2 := Lib.hid (HL.out hcc)
            unfold low at HL2
            rw [HQ.out, HR.out] at HL2
            clear hcc HL
            go_wp2_with fail
            refine (HL2.out _).mono ?_
            rintro e wo ⟨rfl, hbo⟩
            have hRo := hRx.below hbo
            have hbwo := below_next hbwx hbo
            have hRo_l := hRo.lt; have hRo_0 := hRo.cell 0; have hRo_1 := hRo.cell 1; simp at hRo_0 hRo_1
            have hRo_f0 := hRo.frozen 0; have hRo_f1 := hRo.frozen 1
            go_wp2_with fail
            refine bodyPost_ret (v := .tuple #[.agg #[.int .i64 qn, .int .i64 qd], .int .i64 0]) (by simp only [results, Tryz.results12]; go_simp) rfl ⟨by rfl, ?_⟩
            (repeat' (first | exact Below.refl _ _ | assumption | refine Below.setCell ?_ ?_ _ | refine below_drewN ?_ _ | refine Below.drew ?_ | refine Below.alloc ?_ ?_ _ | (with_reducible refine Below.trans ?_ (Below.mono hb ?_)) | (with_reducible refine Below.trans ?_ (Below.mono hb0 ?_)) | (with_reducible refine Below.trans ?_ (Below.mono hb1 ?_)) | (with_reducible refine Below.trans ?_ (Below.mono hb2 ?_)) | (with_reducible refine Below.trans ?_ (Below.mono hb3 ?_)) | (with_reducible refine Below.trans ?_ (Below.mono hb4 ?_)) | (with_reducible refine Below.trans ?_ (Below.mono hb5 ?_)) | (with_reducible refine Below.trans ?_ (Below.mono hb6 ?_)) | (with_reducible refine Below.trans ?_ (Below.mono hb7 ?_)) | (with_reducible refine Below.trans ?_ (Below.mono hb8 ?_)) | (with_reducible refine Below.trans ?_ (Below.mono hb9 ?_)) | (with_reducible refine Below.trans ?_ (Below.mono hb10 ?_)) | (with_reducible refine Below.trans ?_ (Below.mono hb11 ?_)) | (with_reducible refine Below.trans ?_ (Below.mono hb12 ?_)) | (with_reducible refine Below.trans ?_ (Below.mono hb13 ?_)) | (with_reducible refine Below.trans ?_ (Below.mono hb14 ?_)) | (with_reducible refine Below.trans ?_ (Below.mono hb15 ?_)) | omega | (simp; done) | (simp; omega)))
end Go.Proofs.YtaoomkkhpianlaaGreatDoor
