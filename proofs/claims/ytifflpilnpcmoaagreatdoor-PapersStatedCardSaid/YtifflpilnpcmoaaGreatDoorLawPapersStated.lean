/- For every list of raw numbers, PapersStated returns true. The walk. -/
import Derived.Test.YtifflpilnpcmoaaGreatDoorStatesR
import Derived.Test.YtifflpilnpcmoaaGreatDoorMakeCall2
import Derived.Test.YtifflpilnpcmoaaGreatDoorSubmits2
import Derived.Test.YtifflpilnpcmoaaGreatDoorReg
namespace Go.Proofs.YtifflpilnpcmoaaGreatDoor.papersStated
open Go.RowKit
set_option linter.unusedVariables false
set_option linter.unusedSimpArgs false

/-- The call's cells and the entry's. -/
def HeldX (n : Nat) (o a f : Int) (a3 : Option Addr) (l3 c3 : Nat) (xb : Nat) (n1 : ByteArray) (n2 : Int) (n3 n4 : ByteArray) (n5 : Int) (wx : World) : Prop :=
  wx.cell? ⟨n, 0, none⟩ = some (.int .i64 o) ∧ wx.cell? ⟨n, 1, none⟩ = some (.int .i64 a) ∧ wx.cell? ⟨n, 2, none⟩ = some (.int .i64 f) ∧ wx.cell? ⟨n, 3, none⟩ = some (.slice a3 l3 c3) ∧ wx.cell? ⟨xb, 0, none⟩ = some (.string n1) ∧ wx.cell? ⟨xb, 1, none⟩ = some (.int .i64 n2) ∧ wx.cell? ⟨xb, 2, none⟩ = some (.string n3) ∧ wx.cell? ⟨xb, 3, none⟩ = some (.string n4) ∧ wx.cell? ⟨xb, 4, none⟩ = some (.int .i64 n5)
theorem HeldX.later {n : Nat} {o a f : Int} {a3 : Option Addr} {l3 c3 xb : Nat} {n1 : ByteArray} {n2 : Int} {n3 n4 : ByteArray} {n5 : Int} {w w' : World} (h : HeldX n o a f a3 l3 c3 xb n1 n2 n3 n4 n5 w) (hb : Below w.heap.size w w') : HeldX n o a f a3 l3 c3 xb n1 n2 n3 n4 n5 w' := by
  obtain ⟨h0, h1, h2, h3, h4, h5, h6, h7, h8⟩ := h
  exact ⟨cell_later hb h0, cell_later hb h1, cell_later hb h2, cell_later hb h3, cell_later hb h4, cell_later hb h5, cell_later hb h6, cell_later hb h7, cell_later hb h8⟩
theorem HeldX.of {n : Nat} {o a f : Int} {a3 : Option Addr} {l3 c3 xb : Nat} {n1 : ByteArray} {n2 : Int} {n3 n4 : ByteArray} {n5 : Int} {w : World} {T T' : TypeId} (hC : Box w n T #[.int .i64 o, .int .i64 a, .int .i64 f, .slice a3 l3 c3]) (hX : Box w xb T' #[.string n1, .int .i64 n2, .string n3, .string n4, .int .i64 n5]) : HeldX n o a f a3 l3 c3 xb n1 n2 n3 n4 n5 w :=
  ⟨hC.cell 0, hC.cell 1, hC.cell 2, hC.cell 3, hX.cell 0, hX.cell 1, hX.cell 2, hX.cell 3, hX.cell 4⟩
set_option maxRecDepth 100000 in
set_option maxHeartbeats 8000000 in
theorem walk (a0 : Option Addr) (len0 cap0 : Nat) (z0 : List Int) (w : World) (w0 : IsRow .i64 w a0 len0 cap0 z0) (hE : Env w) :
    Calls Tryz.prog 3 #[.slice a0 len0 cap0] w fun e w' => e = .returned (.bool true) ∧ Below w.heap.size w w' := by
  have hs := strm_new w0
  have hES := hE.envS
  go_enter Tryz.func3, Tryz.ntmps3
  go_wp2_with fail
  refine (call_any w.heap.size 0 _ hs (by omega)).mono ?_
  rintro e w1 ⟨o, a, f, s, a3, c3, rfl, ⟨ho1, ho2, ha1, ha2, hf1, hf2⟩, hsl, hok, hown, h1, s1⟩
  have hz1 := h1.size
  simp at hz1
  obtain ⟨a3', cap', heq, hsa, hbl, hcap⟩ := hown.sa
  obtain ⟨rfl, rfl⟩ : a3 = a3' ∧ c3 = cap' := by simpa using heq
  have hst1 : Stp w.heap.size w w1 := ((Stp.refl _ w).alloc _).trans h1
  have hE1 : Env w1 := hE.stp hst1 hES
  have hnS : ∀ x : Addr, a3 = some x → x.block ≠ w.heap.size := fun x hx => by have := hbl x hx; simp at this; omega
  have HnS := Lib.hid hnS
  have Hsm : Hid (∀ x ∈ s, x.1.size ≤ 1000) := fun x hx => (hok x hx).1
  have Hbd : Hid (∀ x ∈ s, 0 ≤ x.2 ∧ x.2 ≤ 10000000) := fun x hx => (hok x hx).2
  clear w0 hs hown hnS hbl h1 heq hok hE
  unfold callAgg
  go_wp2_with fail
  refine (arrivals_any w.heap.size (0 + 20) 14 _ s1 (by omega) (by omega)).mono ?_
  rintro e w2 ⟨v2, l, rfl, hll, hok, hown2, h2, s2⟩
  have hz2 := h2.size
  have hst2 := hst1.trans h2
  have hsa2 := hsa.stp h2 HnS.out
  have hE2 := hE1.stp h2 hES
  have Hok := Lib.hid hok
  have hS2 : w.heap.size < w1.heap.size := by omega
  clear h2 s1 hst1 hsa hE1 hok
  go_wp2_with fail
  refine (oneP_any w.heap.size (0 + 20 + 1 + 8 * 14) _ 4 4 9 _ _ (s2.alloc _) (by omega) (Box.new _ _ _) (by omega) rfl (by omega) (by omega) (by simp; decide)).mono ?_
  rintro e w3 ⟨id, hid, rfl, h3, s3⟩
  have hz3 := h3.size
  simp at hz3
  have hst3 := (hst2.alloc _).trans h3
  have hsa3 := (hsa2.alloc _).stp h3 HnS.out
  have hE3 := (hE2.alloc _).stp h3 hES
  have hown3 := (hown2.alloc _).stp h3 hS2
  clear h3 s2 hst2 hsa2 hE2 hown2
  go_wp2_with fail
  refine (pick_box w.heap.size (0 + 20 + 1 + 8 * 14 + 1) _ 3 8 [0, 50, 100, 160, 250, 500, -1, 5761440] _ (s3.alloc _) (by omega) (Box.new _ _ _) (by omega) (by decide) (by decide)).mono ?_
  rintro e w4 ⟨t, htm, rfl, h4, s4⟩
  have hz4 := h4.size
  simp at hz4
  have hst4 := (hst3.alloc _).trans h4
  have hsa4 := (hsa3.alloc _).stp h4 HnS.out
  have hE4 := (hE3.alloc _).stp h4 hES
  have hown4 := (hown3.alloc _).stp h4 hS2
  obtain ⟨la, cp, rfl, hl4, hlf, -⟩ := hown4.form
  have hlf2 : la = none ∨ ∃ b off, la = some ⟨b, off, none⟩ := by
    rcases hlf with h | ⟨b, h, -⟩
    · exact .inl h
    · exact .inr ⟨b, 0, h⟩
  have hI4 : CallIn a f s a3 l la w4 := ⟨hE4, hsa4, by omega, Hsm.out, Hbd.out, ⟨by omega, by omega, by omega, by omega⟩, hl4, hlf2, by omega, Hok.out⟩
  have hbw4 : Below w.heap.size w w4 := by
    have := hst4.below
    rw [Nat.min_self] at this
    exact this
  clear h4 s3 s4 hst3 hsa3 hE3 hown3 htm hst4 hsa4 hE4 hown4 hl4 hlf hlf2 Hok Hsm Hbd HnS
  have hC0 := Box.new w4 28 #[.int .i64 o, .int .i64 a, .int .i64 f, .slice a3 s.length c3]
  have hI0 := hI4.below ((Below.refl _ _).alloc (Nat.le_refl _) (.cells #[.int .i64 o, .int .i64 a, .int .i64 f, .slice a3 s.length c3] 28))
  have hb0 : Below w.heap.size w (w4.alloc (.cells #[.int .i64 o, .int .i64 a, .int .i64 f, .slice a3 s.length c3] 28)) := hbw4.alloc (by omega) _
  clear hI4 hbw4
  have H1 := Lib.hid (fun W (h : CallIn a f s a3 l la W) => stateP_any o a f s a3 c3 l la cp id t W h (by omega))
  have H2 : Hid (∀ W, CallIn a f s a3 l la W → Calls Tryz.prog 10 #[callAgg o a f s a3 c3, .slice la l.length cp, .int .i64 t] W (GivesList (((keysS (l.map (·.1))).map (fun id => entR (cntB o a f s) l id t)).filter isEnt) (stsE o a f s l t) W)) := fun W h => by rw [← stsV_R]; exact statesP_any o a f s a3 c3 l la cp t W h
  have H3 : Hid (∀ W, CallIn a f s a3 l la W → Calls Tryz.prog 11 #[callAgg o a f s a3 c3, .slice la l.length cp, .string id] W (GivesList (momR (cntB o a f s) l id) (msE o a f s l id) W)) := fun W h => by rw [← momV_R]; exact momentsP_any o a f s a3 c3 l la cp id W h (by omega)
  have H4 := Lib.hid (fun W (h : CallIn a f s a3 l la W) => arrsFaultR_any o a f s a3 c3 l la cp W h.env h.hs h.hsl h.hsm h.hl h.hll h.hok)
  have R1 := Lib.hid (fun (h0 : arrsFault o a f s l = 0) W (h : CallIn a f s a3 l la W) => entryR_any o a f s a3 c3 l la cp id t W h.hs h.hsl h.hbd h.ab.1 h.ab.2.1 h.ab.2.2.1 h.ab.2.2.2 h.hl h.hll (arrs_kind h0))
  have R2 := Lib.hid (fun (h0 : arrsFault o a f s l = 0) W (h : CallIn a f s a3 l la W) => entriesR_any o a f s a3 c3 l la cp t W h (arrs_kind h0))
  have R3 := Lib.hid (fun (h0 : arrsFault o a f s l = 0) W (h : CallIn a f s a3 l la W) => momentsR_any o a f s a3 c3 l la cp id W h (arrs_kind h0))
  have HSV := Lib.hid (fun h => stV_R (o := o) (a := a) (f := f) (s := s) (l := l) (id := id) (t := t) h)
  have HSE := Lib.hid (show stE o a f s l id t = if arrsFault o a f s l ≠ 0 then arrsFault o a f s l else if keyB id = false then 5 else if momB t = false then 1 else 0 from rfl)
  have HSS := Lib.hid (show stsE o a f s l t = if arrsFault o a f s l ≠ 0 then arrsFault o a f s l else if momB t = false then 1 else 0 from rfl)
  have HMS := Lib.hid (show msE o a f s l id = if arrsFault o a f s l ≠ 0 then arrsFault o a f s l else if keyB id = false then 5 else 0 from rfl)
  generalize ((keysS (l.map (·.1))).map (fun id => entR (cntB o a f s) l id t)).filter isEnt = ents at *
  generalize momR (cntB o a f s) l id = moms at *
  generalize entR (cntB o a f s) l id t = en at *
  generalize stV o a f s l id t = sv at *
  generalize stE o a f s l id t = se at *
  generalize stsE o a f s l t = ss at *
  generalize msE o a f s l id = me at *
  generalize arrsFault o a f s l = pf at *
  unfold callAgg at *
  obtain ⟨n1, n2, n3, n4, n5⟩ := sv
  go_upto_region 3 with (fail)
  generalize w4.alloc (.cells #[.int .i64 o, .int .i64 a, .int .i64 f, .slice a3 s.length c3] 28) = W0 at *
  generalize w4.heap.size = n at *
  have hC0_l := hC0.lt; have hC0_0 := hC0.cell 0; have hC0_1 := hC0.cell 1; have hC0_2 := hC0.cell 2; have hC0_3 := hC0.cell 3; simp at hC0_0 hC0_1 hC0_2 hC0_3
  go_wp2_with fail
  refine (H1.out _ hI0).mono ?_
  rintro e W1 ⟨rfl, hb1⟩
  have hC1 := hC0.below hb1
  have hI1 := hI0.below hb1
  have hbw1 := below_next hb0 hb1
  have hnW : n < W1.heap.size := hC1.lt
  clear hC0_l hC0_0 hC0_1 hC0_2 hC0_3
  clear hC0 hI0 hb0 hb1
  rw [show entAgg (n1, n2, n3, n4, n5) = .agg #[.string n1, .int .i64 n2, .string n3, .string n4, .int .i64 n5] from rfl]
  have hX1 := Box.new W1 35 #[.string n1, .int .i64 n2, .string n3, .string n4, .int .i64 n5]
  have hC2 := hC1.alloc (.cells #[.string n1, .int .i64 n2, .string n3, .string n4, .int .i64 n5] 35)
  have hI2 := hI1.below ((Below.refl _ _).alloc (Nat.le_refl _) (.cells #[.string n1, .int .i64 n2, .string n3, .string n4, .int .i64 n5] 35))
  have hbw2 : Below w.heap.size w (W1.alloc (.cells #[.string n1, .int .i64 n2, .string n3, .string n4, .int .i64 n5] 35)) := hbw1.alloc (by have := hbw1.size; omega) _
  clear hC1 hI1 hbw1
  go_upto_region 4 with (fail)
  generalize W1.alloc (.cells #[.string n1, .int .i64 n2, .string n3, .string n4, .int .i64 n5] 35) = W2 at *
  generalize W1.heap.size = xb at *
  have hC2_l := hC2.lt; have hC2_0 := hC2.cell 0; have hC2_1 := hC2.cell 1; have hC2_2 := hC2.cell 2; have hC2_3 := hC2.cell 3; simp at hC2_0 hC2_1 hC2_2 hC2_3
  go_wp2_with fail
  refine (H2.out _ hI2).mono ?_
  rintro e W3 ⟨hb3, ae, le, ce, rfl, hle, hents⟩
  have hC3 := hC2.below hb3
  have hX3 := hX1.below hb3
  have hI3 := hI2.below hb3
  have hbw3 := below_next hbw2 hb3
  have Hents := Lib.hid hents
  clear hC2_l hC2_0 hC2_1 hC2_2 hC2_3
  clear hC2 hX1 hI2 hbw2 hb3 hents
  have hC3_l := hC3.lt; have hC3_0 := hC3.cell 0; have hC3_1 := hC3.cell 1; have hC3_2 := hC3.cell 2; have hC3_3 := hC3.cell 3; simp at hC3_0 hC3_1 hC3_2 hC3_3
  go_wp2_with fail
  refine (H3.out _ hI3).mono ?_
  rintro e W4 ⟨hb4, am, lm, cm, rfl, hlm, hmoms⟩
  have hC4 := hC3.below hb4
  have hX4 := hX3.below hb4
  have hI4 := hI3.below hb4
  have hbw4 := below_next hbw3 hb4
  have Hents4 : Hid (ss = 0 → le = ents.length ∧ SA W4 ae ents) := fun h => ⟨(Hents.out h).1, (Hents.out h).2.below hb4⟩
  have Hmoms := Lib.hid hmoms
  clear hC3_l hC3_0 hC3_1 hC3_2 hC3_3
  clear hC3 hX3 hI3 hbw3 hb4 hmoms Hents
  have hC4_l := hC4.lt; have hC4_0 := hC4.cell 0; have hC4_1 := hC4.cell 1; have hC4_2 := hC4.cell 2; have hC4_3 := hC4.cell 3; simp at hC4_0 hC4_1 hC4_2 hC4_3
  go_wp2_with fail
  refine (H4.out _ hI4).mono ?_
  rintro e W5 ⟨rfl, hb5⟩
  have hC5 := hC4.below hb5
  have hX5 := hX4.below hb5
  have hI5 := hI4.below hb5
  have hbw5 := below_next hbw4 hb5
  have Hents5 : Hid (ss = 0 → le = ents.length ∧ SA W5 ae ents) := fun h => ⟨(Hents4.out h).1, (Hents4.out h).2.below hb5⟩
  have Hmoms5 : Hid (me = 0 → lm = moms.length ∧ SA W5 am moms) := fun h => ⟨(Hmoms.out h).1, (Hmoms.out h).2.below hb5⟩
  clear hC4_l hC4_0 hC4_1 hC4_2 hC4_3
  clear hC4 hX4 hI4 hbw4 hb5 Hents4 Hmoms H1 H2 H3 H4
  by_cases hpf : pf = 0
  · subst hpf
    rw [if_neg (fun e => e rfl)] at HSE HSS HMS
    replace R1 := Lib.hid (R1.out rfl)
    replace R2 := Lib.hid (R2.out rfl)
    replace R3 := Lib.hid (R3.out rfl)
    cases hk : keyB id
    · have Ese : se = 5 := by rw [HSE.out, hk]; rfl
      have Eme : me = 5 := by rw [HMS.out, hk]; rfl
      subst Ese Eme
      cases ht : momB t
      · have Ess : ss = 1 := by rw [HSS.out, ht]; rfl
        subst Ess
        have hE5 := hI5.env
        clear hC5 hX5 hI5 R1 R2 R3 Hents5 Hmoms5 HSV
        go_wp2_with fail
        refine (keyOf_any id _ (by omega)).mono ?_
        rintro e w6 ⟨rfl, hb6k⟩
        rw [hk]
        have hE6k := hE5.below hb6k
        have hbw6 := below_next hbw5 hb6k
        clear hE5 hbw5 hb6k
        go_wp2_with fail
        refine (moment_any t _).mono ?_
        rintro e w7 ⟨rfl, rfl⟩
        rw [ht]
        go_wp2_with fail
        refine (orErr_any 5 1 _ _ (Box.new _ _ _)).mono ?_
        rintro e w7 ⟨rfl, rfl⟩
        rw [if_pos (by decide)]
        go_wp2_with fail
        refine (orErr_any 0 1 _ _ (Box.newAt _ _ _ _ (by simp))).mono ?_
        rintro e w7 ⟨rfl, rfl⟩
        rw [if_neg (by decide)]
        have hE6 := (hE6k.alloc (.cells #[.int .i64 5, .int .i64 1] 36)).alloc (.cells #[.int .i64 0, .int .i64 1] 36)
        have hb6 : Below w.heap.size w ((w6.alloc (.cells #[.int .i64 5, .int .i64 1] 36)).alloc (.cells #[.int .i64 0, .int .i64 1] 36)) := (hbw6.alloc (by have := hbw6.size; omega) _).alloc (by have := hbw6.size; simp; omega) _
        clear hE6k hbw6
        go_upto_region 13 with (fail)
        generalize (w6.alloc (.cells #[.int .i64 5, .int .i64 1] 36)).alloc (.cells #[.int .i64 0, .int .i64 1] 36) = W6 at *
        go_upto_region 15 with (fail)
        refine wp_region_held_drew (S := (fun wx => Below W6.heap.size W6 wx)) (by kernel_rfl) ?hS (fun hHeld => ?_)
        case hS => exact (Below.refl _ _).drew
        refine rcall (i := 0) (d := (some 88)) (by kernel_rfl) rfl (by kernel_rfl) (fun K hK => ?_)
        go_simp
        go_at_call 16; refine (submits_any _ (hE6.below hHeld)).mono ?_; rintro e w7 ⟨rfl, hb7⟩
        refine hK.out _ _ ?hS (fun hHeld => ?_)
        case hS => exact hHeld.trans (hb7.mono hHeld.size)
        clear hK K
        simp only [Act.put, List.setIfInBounds_toArray, List.set_cons_zero, List.set_cons_succ]
        refine rtake (i := 1) (d := (some 89)) (v := ?_) rfl (by kernel_rfl) (by kernel_rfl) (by kernel_rfl) (by kernel_rfl) (fun _ _ _ h => h) (by kernel_rfl) (by assumption) ?_ ?_
        rotate_left 1
        · (intro wI hSI; (try dsimp only at hSI); go_simp; (try with_reducible rfl))
        simp only [Act.put, List.setIfInBounds_toArray, List.set_cons_zero, List.set_cons_succ]
        refine rtake (i := 2) (d := (some 90)) (v := ?_) rfl (by kernel_rfl) (by kernel_rfl) (by kernel_rfl) (by kernel_rfl) (fun _ _ _ h => h) (by kernel_rfl) (by assumption) ?_ ?_
        rotate_left 1
        · (intro wI hSI; (try dsimp only at hSI); go_simp; (try with_reducible rfl))
        simp only [Act.put, List.setIfInBounds_toArray, List.set_cons_zero, List.set_cons_succ]
        refine rtake (i := 3) (d := (some 91)) (v := ?_) rfl (by kernel_rfl) (by kernel_rfl) (by kernel_rfl) (by kernel_rfl) (fun _ _ _ h => h) (by kernel_rfl) (by assumption) ?_ ?_
        rotate_left 1
        · (intro wI hSI; (try dsimp only at hSI); go_simp; (try with_reducible rfl))
        simp only [Act.put, List.setIfInBounds_toArray, List.set_cons_zero, List.set_cons_succ]
        refine rtake (i := 4) (d := (some 92)) (v := ?_) rfl (by kernel_rfl) (by kernel_rfl) (by kernel_rfl) (by kernel_rfl) (fun _ _ _ h => h) (by kernel_rfl) (by assumption) ?_ ?_
        rotate_left 1
        · (intro wI hSI; (try dsimp only at hSI); go_simp; (try with_reducible rfl))
        simp only [Act.put, List.setIfInBounds_toArray, List.set_cons_zero, List.set_cons_succ]
        refine rskip (i := 5) (d := (some 93)) rfl (by kernel_rfl) (by kernel_rfl) (by kernel_rfl) (by kernel_rfl) (fun _ _ _ h => h) (by kernel_rfl) (by assumption) ?_
        simp only [Act.put, List.setIfInBounds_toArray, List.set_cons_zero, List.set_cons_succ]
        refine rskip (i := 6) (d := (some 94)) rfl (by kernel_rfl) (by kernel_rfl) (by kernel_rfl) (by kernel_rfl) (fun _ _ _ h => h) (by kernel_rfl) (by assumption) ?_
        simp only [Act.put, List.setIfInBounds_toArray, List.set_cons_zero, List.set_cons_succ]
        refine rskip (i := 7) (d := (some 95)) rfl (by kernel_rfl) (by kernel_rfl) (by kernel_rfl) (by kernel_rfl) (fun _ _ _ h => h) (by kernel_rfl) (by assumption) ?_
        simp only [Act.put, List.setIfInBounds_toArray, List.set_cons_zero, List.set_cons_succ]
        refine rskip (i := 8) (d := (some 96)) rfl (by kernel_rfl) (by kernel_rfl) (by kernel_rfl) (by kernel_rfl) (fun _ _ _ h => h) (by kernel_rfl) (by assumption) ?_
        simp only [Act.put, List.setIfInBounds_toArray, List.set_cons_zero, List.set_cons_succ]
        refine rskip (i := 9) (d := (some 97)) rfl (by kernel_rfl) (by kernel_rfl) (by kernel_rfl) (by kernel_rfl) (fun _ _ _ h => h) (by kernel_rfl) (by assumption) ?_
        simp only [Act.put, List.setIfInBounds_toArray, List.set_cons_zero, List.set_cons_succ]
        refine rcall (i := 10) (d := (some 98)) (by kernel_rfl) rfl (by kernel_rfl) (fun K hK => ?_)
        rw [if_neg (by rw [show Region.wanted _ _ = false by kernel_rfl]; decide)]
        refine hK.out _ _ ?hS (fun hHeld => ?_)
        case hS => exact hHeld
        clear hK K
        simp only [Act.put, List.setIfInBounds_toArray, List.set_cons_zero, List.set_cons_succ]
        refine rskip (i := 11) (d := (some 99)) rfl (by kernel_rfl) (by kernel_rfl) (by kernel_rfl) (by kernel_rfl) (fun _ _ _ h => h) (by kernel_rfl) (by assumption) ?_
        simp only [Act.put, List.setIfInBounds_toArray, List.set_cons_zero, List.set_cons_succ]
        refine rtake (i := 12) (d := (some 100)) (v := ?_) rfl (by kernel_rfl) (by kernel_rfl) (by kernel_rfl) (by kernel_rfl) (fun _ _ _ h => h) (by kernel_rfl) (by assumption) ?_ ?_
        rotate_left 1
        · (intro wI hSI; (try dsimp only at hSI); go_simp; (try with_reducible rfl))
        simp only [Act.put, List.setIfInBounds_toArray, List.set_cons_zero, List.set_cons_succ]
        refine rtake (i := 13) (d := (some 101)) (v := ?_) rfl (by kernel_rfl) (by kernel_rfl) (by kernel_rfl) (by kernel_rfl) (fun _ _ _ h => h) (by kernel_rfl) (by assumption) ?_ ?_
        rotate_left 1
        · (intro wI hSI; (try dsimp only at hSI); go_simp; (try with_reducible rfl))
        simp only [Act.put, List.setIfInBounds_toArray, List.set_cons_zero, List.set_cons_succ]
        refine rtake (i := 14) (d := (some 102)) (v := ?_) rfl (by kernel_rfl) (by kernel_rfl) (by kernel_rfl) (by kernel_rfl) (fun _ _ _ h => h) (by kernel_rfl) (by assumption) ?_ ?_
        rotate_left 1
        · (intro wI hSI; (try dsimp only at hSI); go_simp; (try with_reducible rfl))
        simp only [Act.put, List.setIfInBounds_toArray, List.set_cons_zero, List.set_cons_succ]
        refine rtake (i := 15) (d := (some 103)) (v := ?_) rfl (by kernel_rfl) (by kernel_rfl) (by kernel_rfl) (by kernel_rfl) (fun _ _ _ h => h) (by kernel_rfl) (by assumption) ?_ ?_
        rotate_left 1
        · (intro wI hSI; (try dsimp only at hSI); go_simp; (try with_reducible rfl))
        simp only [Act.put, List.setIfInBounds_toArray, List.set_cons_zero, List.set_cons_succ]
        refine rtake (i := 16) (d := (some 104)) (v := ?_) rfl (by kernel_rfl) (by kernel_rfl) (by kernel_rfl) (by kernel_rfl) (fun _ _ _ h => h) (by kernel_rfl) (by assumption) ?_ ?_
        rotate_left 1
        · (intro wI hSI; (try dsimp only at hSI); go_simp; (try with_reducible rfl))
        simp only [Act.put, List.setIfInBounds_toArray, List.set_cons_zero, List.set_cons_succ]
        refine rtake (i := 17) (d := (some 105)) (v := ?_) rfl (by kernel_rfl) (by kernel_rfl) (by kernel_rfl) (by kernel_rfl) (fun _ _ _ h => h) (by kernel_rfl) (by assumption) ?_ ?_
        rotate_left 1
        · (intro wI hSI; (try dsimp only at hSI); go_simp; (try with_reducible rfl))
        simp only [Act.put, List.setIfInBounds_toArray, List.set_cons_zero, List.set_cons_succ]
        refine rskip (i := 18) (d := (some 106)) rfl (by kernel_rfl) (by kernel_rfl) (by kernel_rfl) (by kernel_rfl) (fun _ _ _ h => h) (by kernel_rfl) (by assumption) ?_
        simp only [Act.put, List.setIfInBounds_toArray, List.set_cons_zero, List.set_cons_succ]
        refine rskip (i := 19) (d := (some 107)) rfl (by kernel_rfl) (by kernel_rfl) (by kernel_rfl) (by kernel_rfl) (fun _ _ _ h => h) (by kernel_rfl) (by assumption) ?_
        simp only [Act.put, List.setIfInBounds_toArray, List.set_cons_zero, List.set_cons_succ]
        refine rskip (i := 20) (d := (some 108)) rfl (by kernel_rfl) (by kernel_rfl) (by kernel_rfl) (by kernel_rfl) (fun _ _ _ h => h) (by kernel_rfl) (by assumption) ?_
        simp only [Act.put, List.setIfInBounds_toArray, List.set_cons_zero, List.set_cons_succ]
        refine rskip (i := 21) (d := (some 109)) rfl (by kernel_rfl) (by kernel_rfl) (by kernel_rfl) (by kernel_rfl) (fun _ _ _ h => h) (by kernel_rfl) (by assumption) ?_
        simp only [Act.put, List.setIfInBounds_toArray, List.set_cons_zero, List.set_cons_succ]
        refine rcall (i := 22) (d := (some 110)) (by kernel_rfl) rfl (by kernel_rfl) (fun K hK => ?_)
        rw [if_neg (by rw [show Region.wanted _ _ = false by kernel_rfl]; decide)]
        refine hK.out _ _ ?hS (fun hHeld => ?_)
        case hS => exact hHeld
        clear hK K
        simp only [Act.put, List.setIfInBounds_toArray, List.set_cons_zero, List.set_cons_succ]
        refine rcall (i := 23) (d := (some 111)) (by kernel_rfl) rfl (by kernel_rfl) (fun K hK => ?_)
        rw [if_neg (by rw [show Region.wanted _ _ = false by kernel_rfl]; decide)]
        refine hK.out _ _ ?hS (fun hHeld => ?_)
        case hS => exact hHeld
        clear hK K
        simp only [Act.put, List.setIfInBounds_toArray, List.set_cons_zero, List.set_cons_succ]
        refine rtake (i := 24) (d := (some 112)) (v := ?_) rfl (by kernel_rfl) (by kernel_rfl) (by kernel_rfl) (by kernel_rfl) (fun _ _ _ h => h) (by kernel_rfl) (by assumption) ?_ ?_
        rotate_left 1
        · (intro wI hSI; (try dsimp only at hSI); go_simp; (try with_reducible rfl))
        simp only [Act.put, List.setIfInBounds_toArray, List.set_cons_zero, List.set_cons_succ]
        refine rtake (i := 25) (d := (some 113)) (v := ?_) rfl (by kernel_rfl) (by kernel_rfl) (by kernel_rfl) (by kernel_rfl) (fun _ _ _ h => h) (by kernel_rfl) (by assumption) ?_ ?_
        rotate_left 1
        · (intro wI hSI; (try dsimp only at hSI); go_simp; (try with_reducible rfl))
        simp only [Act.put, List.setIfInBounds_toArray, List.set_cons_zero, List.set_cons_succ]
        refine rtake (i := 26) (d := (some 114)) (v := ?_) rfl (by kernel_rfl) (by kernel_rfl) (by kernel_rfl) (by kernel_rfl) (fun _ _ _ h => h) (by kernel_rfl) (by assumption) ?_ ?_
        rotate_left 1
        · (intro wI hSI; (try dsimp only at hSI); go_simp; (try with_reducible rfl))
        simp only [Act.put, List.setIfInBounds_toArray, List.set_cons_zero, List.set_cons_succ]
        refine rtake (i := 27) (d := (some 115)) (v := ?_) rfl (by kernel_rfl) (by kernel_rfl) (by kernel_rfl) (by kernel_rfl) (fun _ _ _ h => h) (by kernel_rfl) (by assumption) ?_ ?_
        rotate_left 1
        · (intro wI hSI; (try dsimp only at hSI); go_simp; (try with_reducible rfl))
        simp only [Act.put, List.setIfInBounds_toArray, List.set_cons_zero, List.set_cons_succ]
        refine rtake (i := 28) (d := (some 116)) (v := ?_) rfl (by kernel_rfl) (by kernel_rfl) (by kernel_rfl) (by kernel_rfl) (fun _ _ _ h => h) (by kernel_rfl) (by assumption) ?_ ?_
        rotate_left 1
        · (intro wI hSI; (try dsimp only at hSI); go_simp; (try with_reducible rfl))
        simp only [Act.put, List.setIfInBounds_toArray, List.set_cons_zero, List.set_cons_succ]
        refine rtake (i := 29) (d := (some 117)) (v := ?_) rfl (by kernel_rfl) (by kernel_rfl) (by kernel_rfl) (by kernel_rfl) (fun _ _ _ h => h) (by kernel_rfl) (by assumption) ?_ ?_
        rotate_left 1
        · (intro wI hSI; (try dsimp only at hSI); go_simp; (try with_reducible rfl))
        simp only [Act.put, List.setIfInBounds_toArray, List.set_cons_zero, List.set_cons_succ]
        refine rskip (i := 30) (d := (some 118)) rfl (by kernel_rfl) (by kernel_rfl) (by kernel_rfl) (by kernel_rfl) (fun _ _ _ h => h) (by kernel_rfl) (by assumption) ?_
        simp only [Act.put, List.setIfInBounds_toArray, List.set_cons_zero, List.set_cons_succ]
        refine rskip (i := 31) (d := (some 119)) rfl (by kernel_rfl) (by kernel_rfl) (by kernel_rfl) (by kernel_rfl) (fun _ _ _ h => h) (by kernel_rfl) (by assumption) ?_
        simp only [Act.put, List.setIfInBounds_toArray, List.set_cons_zero, List.set_cons_succ]
        refine rskip (i := 32) (d := (some 120)) rfl (by kernel_rfl) (by kernel_rfl) (by kernel_rfl) (by kernel_rfl) (fun _ _ _ h => h) (by kernel_rfl) (by assumption) ?_
        simp only [Act.put, List.setIfInBounds_toArray, List.set_cons_zero, List.set_cons_succ]
        refine rskip (i := 33) (d := (some 121)) rfl (by kernel_rfl) (by kernel_rfl) (by kernel_rfl) (by kernel_rfl) (fun _ _ _ h => h) (by kernel_rfl) (by assumption) ?_
        simp only [Act.put, List.setIfInBounds_toArray, List.set_cons_zero, List.set_cons_succ]
        refine rcall (i := 34) (d := (some 122)) (by kernel_rfl) rfl (by kernel_rfl) (fun K hK => ?_)
        rw [if_neg (by rw [show Region.wanted _ _ = false by kernel_rfl]; decide)]
        refine hK.out _ _ ?hS (fun hHeld => ?_)
        case hS => exact hHeld
        clear hK K
        simp only [Act.put, List.setIfInBounds_toArray, List.set_cons_zero, List.set_cons_succ]
        refine rcall (i := 35) (d := (some 123)) (by kernel_rfl) rfl (by kernel_rfl) (fun K hK => ?_)
        rw [if_neg (by rw [show Region.wanted _ _ = false by kernel_rfl]; decide)]
        refine hK.out _ _ ?hS (fun hHeld => ?_)
        case hS => exact hHeld
        clear hK K
        simp only [Act.put, List.setIfInBounds_toArray, List.set_cons_zero, List.set_cons_succ]
        refine rtake (i := 36) (d := (some 124)) (v := ?_) rfl (by kernel_rfl) (by kernel_rfl) (by kernel_rfl) (by kernel_rfl) (fun _ _ _ h => h) (by kernel_rfl) (by assumption) ?_ ?_
        rotate_left 1
        · (intro wI hSI; (try dsimp only at hSI); go_simp; (try with_reducible rfl))
        simp only [Act.put, List.setIfInBounds_toArray, List.set_cons_zero, List.set_cons_succ]
        refine rtake (i := 37) (d := (some 125)) (v := ?_) rfl (by kernel_rfl) (by kernel_rfl) (by kernel_rfl) (by kernel_rfl) (fun _ _ _ h => h) (by kernel_rfl) (by assumption) ?_ ?_
        rotate_left 1
        · (intro wI hSI; (try dsimp only at hSI); go_simp; (try with_reducible rfl))
        simp only [Act.put, List.setIfInBounds_toArray, List.set_cons_zero, List.set_cons_succ]
        refine rtake (i := 38) (d := (some 2)) (v := ?_) rfl (by kernel_rfl) (by kernel_rfl) (by kernel_rfl) (by kernel_rfl) (fun _ _ _ h => h) (by kernel_rfl) (by assumption) ?_ ?_
        rotate_left 1
        · (intro wI hSI; (try dsimp only at hSI); go_simp; (try with_reducible rfl))
        simp only [Act.put, List.setIfInBounds_toArray, List.set_cons_zero, List.set_cons_succ]
        refine wpAnyH_done (by kernel_rfl) ?_ _
        have hbF := below_next hb6 hHeld
        go_wp2_with fail
        go_ret
        exact ⟨rfl, hbF⟩
      · have Ess : ss = 0 := by rw [HSS.out, ht]; rfl
        subst Ess
        obtain ⟨rfl, hes⟩ := Hents5.out rfl
        have Hes5 := Lib.hid hes
        have hlE := hle
        clear R1 R3 Hmoms5 HSV Hents5 hes hle hlm
        go_wp2_with fail
        refine (keyOf_any id _ (by omega)).mono ?_
        rintro e W6 ⟨rfl, hb6k⟩
        rw [hk]
        have hC6 := hC5.below hb6k
        have hX6 := hX5.below hb6k
        have hI6 := hI5.below hb6k
        have hb6 := below_next hbw5 hb6k
        have Hes : Hid (SA W6 ae ents) := Hes5.out.below hb6k
        clear hC5 hX5 hI5 hbw5 hb6k Hes5
        go_wp2_with fail
        refine (moment_any t _).mono ?_
        rintro e w7 ⟨rfl, rfl⟩
        rw [ht]
        go_upto_region 15 with (fail)
        refine wp_region_held_drew (S := (fun wx => (wx.cell? ⟨n, 0, none⟩ = some (.int .i64 o) ∧ wx.cell? ⟨n, 1, none⟩ = some (.int .i64 a) ∧ wx.cell? ⟨n, 2, none⟩ = some (.int .i64 f) ∧ wx.cell? ⟨n, 3, none⟩ = some (.slice a3 s.length c3) ∧ wx.cell? ⟨xb, 0, none⟩ = some (.string n1) ∧ wx.cell? ⟨xb, 1, none⟩ = some (.int .i64 n2) ∧ wx.cell? ⟨xb, 2, none⟩ = some (.string n3) ∧ wx.cell? ⟨xb, 3, none⟩ = some (.string n4) ∧ wx.cell? ⟨xb, 4, none⟩ = some (.int .i64 n5)) ∧ Below W6.heap.size W6 wx)) (by kernel_rfl) ?hS (fun hHeld => ?_)
        case hS => exact ⟨HeldX.of hC6 hX6, (Below.refl _ _).drew⟩
        refine rcall (i := 0) (d := (some 88)) (by kernel_rfl) rfl (by kernel_rfl) (fun K hK => ?_)
        go_simp
        go_at_call 16; refine (submits_any _ (hI6.env.below hHeld.2)).mono ?_; rintro e w7 ⟨rfl, hb7⟩
        refine hK.out _ _ ?hS (fun hHeld => ?_)
        case hS => exact ⟨HeldX.later hHeld.1 hb7, hHeld.2.trans (hb7.mono hHeld.2.size)⟩
        clear hK K
        simp only [Act.put, List.setIfInBounds_toArray, List.set_cons_zero, List.set_cons_succ]
        refine rtake (i := 1) (d := (some 89)) (v := ?_) rfl (by kernel_rfl) (by kernel_rfl) (by kernel_rfl) (by kernel_rfl) (fun _ _ _ h => h) (by kernel_rfl) (by assumption) ?_ ?_
        rotate_left 1
        · (intro wI hSI; (try dsimp only at hSI); go_simp; (try with_reducible rfl))
        simp only [Act.put, List.setIfInBounds_toArray, List.set_cons_zero, List.set_cons_succ]
        refine rtake (i := 2) (d := (some 90)) (v := ?_) rfl (by kernel_rfl) (by kernel_rfl) (by kernel_rfl) (by kernel_rfl) (fun _ _ _ h => h) (by kernel_rfl) (by assumption) ?_ ?_
        rotate_left 1
        · (intro wI hSI; (try dsimp only at hSI); go_simp; (try with_reducible rfl))
        simp only [Act.put, List.setIfInBounds_toArray, List.set_cons_zero, List.set_cons_succ]
        refine rtake (i := 3) (d := (some 91)) (v := ?_) rfl (by kernel_rfl) (by kernel_rfl) (by kernel_rfl) (by kernel_rfl) (fun _ _ _ h => h) (by kernel_rfl) (by assumption) ?_ ?_
        rotate_left 1
        · (intro wI hSI; (try dsimp only at hSI); go_simp; (try with_reducible rfl))
        simp only [Act.put, List.setIfInBounds_toArray, List.set_cons_zero, List.set_cons_succ]
        refine rtake (i := 4) (d := (some 92)) (v := ?_) rfl (by kernel_rfl) (by kernel_rfl) (by kernel_rfl) (by kernel_rfl) (fun _ _ _ h => h) (by kernel_rfl) (by assumption) ?_ ?_
        rotate_left 1
        · (intro wI hSI; (try dsimp only at hSI); go_simp; (try with_reducible rfl))
        simp only [Act.put, List.setIfInBounds_toArray, List.set_cons_zero, List.set_cons_succ]
        refine rskip (i := 5) (d := (some 93)) rfl (by kernel_rfl) (by kernel_rfl) (by kernel_rfl) (by kernel_rfl) (fun _ _ _ h => h) (by kernel_rfl) (by assumption) ?_
        simp only [Act.put, List.setIfInBounds_toArray, List.set_cons_zero, List.set_cons_succ]
        refine rskip (i := 6) (d := (some 94)) rfl (by kernel_rfl) (by kernel_rfl) (by kernel_rfl) (by kernel_rfl) (fun _ _ _ h => h) (by kernel_rfl) (by assumption) ?_
        simp only [Act.put, List.setIfInBounds_toArray, List.set_cons_zero, List.set_cons_succ]
        refine rskip (i := 7) (d := (some 95)) rfl (by kernel_rfl) (by kernel_rfl) (by kernel_rfl) (by kernel_rfl) (fun _ _ _ h => h) (by kernel_rfl) (by assumption) ?_
        simp only [Act.put, List.setIfInBounds_toArray, List.set_cons_zero, List.set_cons_succ]
        refine rskip (i := 8) (d := (some 96)) rfl (by kernel_rfl) (by kernel_rfl) (by kernel_rfl) (by kernel_rfl) (fun _ _ _ h => h) (by kernel_rfl) (by assumption) ?_
        simp only [Act.put, List.setIfInBounds_toArray, List.set_cons_zero, List.set_cons_succ]
        refine rskip (i := 9) (d := (some 97)) rfl (by kernel_rfl) (by kernel_rfl) (by kernel_rfl) (by kernel_rfl) (fun _ _ _ h => h) (by kernel_rfl) (by assumption) ?_
        simp only [Act.put, List.setIfInBounds_toArray, List.set_cons_zero, List.set_cons_succ]
        refine rcall (i := 10) (d := (some 98)) (by kernel_rfl) rfl (by kernel_rfl) (fun K hK => ?_)
        rw [if_neg (by rw [show Region.wanted _ _ = false by kernel_rfl]; decide)]
        refine hK.out _ _ ?hS (fun hHeld => ?_)
        case hS => exact hHeld
        clear hK K
        simp only [Act.put, List.setIfInBounds_toArray, List.set_cons_zero, List.set_cons_succ]
        refine rskip (i := 11) (d := (some 99)) rfl (by kernel_rfl) (by kernel_rfl) (by kernel_rfl) (by kernel_rfl) (fun _ _ _ h => h) (by kernel_rfl) (by assumption) ?_
        simp only [Act.put, List.setIfInBounds_toArray, List.set_cons_zero, List.set_cons_succ]
        refine rtake (i := 12) (d := (some 100)) (v := ?_) rfl (by kernel_rfl) (by kernel_rfl) (by kernel_rfl) (by kernel_rfl) (fun _ _ _ h => h) (by kernel_rfl) (by assumption) ?_ ?_
        rotate_left 1
        · (intro wI hSI; (try dsimp only at hSI); go_simp; (try with_reducible rfl))
        simp only [Act.put, List.setIfInBounds_toArray, List.set_cons_zero, List.set_cons_succ]
        refine rtake (i := 13) (d := (some 101)) (v := ?_) rfl (by kernel_rfl) (by kernel_rfl) (by kernel_rfl) (by kernel_rfl) (fun _ _ _ h => h) (by kernel_rfl) (by assumption) ?_ ?_
        rotate_left 1
        · (intro wI hSI; (try dsimp only at hSI); go_simp; (try with_reducible rfl))
        simp only [Act.put, List.setIfInBounds_toArray, List.set_cons_zero, List.set_cons_succ]
        refine rtake (i := 14) (d := (some 102)) (v := ?_) rfl (by kernel_rfl) (by kernel_rfl) (by kernel_rfl) (by kernel_rfl) (fun _ _ _ h => h) (by kernel_rfl) (by assumption) ?_ ?_
        rotate_left 1
        · (intro wI hSI; (try dsimp only at hSI); go_simp; (try with_reducible rfl))
        simp only [Act.put, List.setIfInBounds_toArray, List.set_cons_zero, List.set_cons_succ]
        refine rtake (i := 15) (d := (some 103)) (v := ?_) rfl (by kernel_rfl) (by kernel_rfl) (by kernel_rfl) (by kernel_rfl) (fun _ _ _ h => h) (by kernel_rfl) (by assumption) ?_ ?_
        rotate_left 1
        · (intro wI hSI; (try dsimp only at hSI); go_simp; (try with_reducible rfl))
        simp only [Act.put, List.setIfInBounds_toArray, List.set_cons_zero, List.set_cons_succ]
        refine rtake (i := 16) (d := (some 104)) (v := ?_) rfl (by kernel_rfl) (by kernel_rfl) (by kernel_rfl) (by kernel_rfl) (fun _ _ _ h => h) (by kernel_rfl) (by assumption) ?_ ?_
        rotate_left 1
        · (intro wI hSI; (try dsimp only at hSI); go_simp; (try with_reducible rfl))
        simp only [Act.put, List.setIfInBounds_toArray, List.set_cons_zero, List.set_cons_succ]
        refine rtake (i := 17) (d := (some 105)) (v := ?_) rfl (by kernel_rfl) (by kernel_rfl) (by kernel_rfl) (by kernel_rfl) (fun _ _ _ h => h) (by kernel_rfl) (by assumption) ?_ ?_
        rotate_left 1
        · (intro wI hSI; (try dsimp only at hSI); go_simp; (try with_reducible rfl))
        simp only [Act.put, List.setIfInBounds_toArray, List.set_cons_zero, List.set_cons_succ]
        refine rtake (i := 18) (d := (some 106)) (v := ?_) rfl (by kernel_rfl) (by kernel_rfl) (by kernel_rfl) (by kernel_rfl) (fun _ _ _ h => h) (by kernel_rfl) (by assumption) ?_ ?_
        rotate_left 1
        · (intro wI hSI; (try dsimp only at hSI); go_simp; (try with_reducible rfl))
        simp only [Act.put, List.setIfInBounds_toArray, List.set_cons_zero, List.set_cons_succ]
        refine rtake (i := 19) (d := (some 107)) (v := ?_) rfl (by kernel_rfl) (by kernel_rfl) (by kernel_rfl) (by kernel_rfl) (fun _ _ _ h => h) (by kernel_rfl) (by assumption) ?_ ?_
        rotate_left 1
        · (intro wI hSI; (try dsimp only at hSI); go_simp; (try with_reducible rfl))
        simp only [Act.put, List.setIfInBounds_toArray, List.set_cons_zero, List.set_cons_succ]
        refine rtake (i := 20) (d := (some 108)) (v := ?_) rfl (by kernel_rfl) (by kernel_rfl) (by kernel_rfl) (by kernel_rfl) (fun _ _ _ h => h) (by kernel_rfl) (by assumption) ?_ ?_
        rotate_left 1
        · (intro wI hSI; (try dsimp only at hSI); go_simp; (try with_reducible rfl))
        simp only [Act.put, List.setIfInBounds_toArray, List.set_cons_zero, List.set_cons_succ]
        refine rtake (i := 21) (d := (some 109)) (v := ?_) rfl (by kernel_rfl) (by kernel_rfl) (by kernel_rfl) (by kernel_rfl) (fun _ _ _ h => h) (by kernel_rfl) (by assumption) ?_ ?_
        rotate_left 1
        · (intro wI hSI; (try dsimp only at hSI); go_simp; (try with_reducible rfl))
        simp only [Act.put, List.setIfInBounds_toArray, List.set_cons_zero, List.set_cons_succ]
        refine rcall (i := 22) (d := (some 110)) (by kernel_rfl) rfl (by kernel_rfl) (fun K hK => ?_)
        rw [if_pos (by kernel_rfl)]; go_simp; go_at_call 19; refine (R2.out _ (hI6.below hHeld.2)).mono ?_; rintro e w9 ⟨v9, rfl, hown9, hb9⟩; obtain ⟨ga9, gc9, rfl, hsa9, -, -⟩ := hown9.form
        refine hK.out _ _ ?hS (fun hHeld => ?_)
        case hS => exact ⟨HeldX.later hHeld.1 hb9, hHeld.2.trans (hb9.mono hHeld.2.size)⟩
        clear hK K
        simp only [Act.put, List.setIfInBounds_toArray, List.set_cons_zero, List.set_cons_succ]
        refine rcall (i := 23) (d := (some 111)) (by kernel_rfl) rfl (by kernel_rfl) (fun K hK => ?_)
        rw [if_pos (by kernel_rfl)]; go_simp; go_at_call 18; refine (eqEnt_any ents _ _ _ _ _ (Hes.out.below hHeld.2) hsa9 hlE).mono ?_; rintro e w10 ⟨rfl, k10, rfl⟩
        refine hK.out _ _ ?hS (fun hHeld => ?_)
        case hS => exact ⟨hHeld.1, below_drewN hHeld.2 _⟩
        clear hK K
        simp only [Act.put, List.setIfInBounds_toArray, List.set_cons_zero, List.set_cons_succ]
        refine rtake (i := 24) (d := (some 112)) (v := ?_) rfl (by kernel_rfl) (by kernel_rfl) (by kernel_rfl) (by kernel_rfl) (fun _ _ _ h => h) (by kernel_rfl) (by assumption) ?_ ?_
        rotate_left 1
        · (intro wI hSI; (try dsimp only at hSI); go_simp; (try with_reducible rfl))
        simp only [Act.put, List.setIfInBounds_toArray, List.set_cons_zero, List.set_cons_succ]
        refine rtake (i := 25) (d := (some 113)) (v := ?_) rfl (by kernel_rfl) (by kernel_rfl) (by kernel_rfl) (by kernel_rfl) (fun _ _ _ h => h) (by kernel_rfl) (by assumption) ?_ ?_
        rotate_left 1
        · (intro wI hSI; (try dsimp only at hSI); go_simp; (try with_reducible rfl))
        simp only [Act.put, List.setIfInBounds_toArray, List.set_cons_zero, List.set_cons_succ]
        refine rtake (i := 26) (d := (some 114)) (v := ?_) rfl (by kernel_rfl) (by kernel_rfl) (by kernel_rfl) (by kernel_rfl) (fun _ _ _ h => h) (by kernel_rfl) (by assumption) ?_ ?_
        rotate_left 1
        · (intro wI hSI; (try dsimp only at hSI); go_simp; (try with_reducible rfl))
        simp only [Act.put, List.setIfInBounds_toArray, List.set_cons_zero, List.set_cons_succ]
        refine rtake (i := 27) (d := (some 115)) (v := ?_) rfl (by kernel_rfl) (by kernel_rfl) (by kernel_rfl) (by kernel_rfl) (fun _ _ _ h => h) (by kernel_rfl) (by assumption) ?_ ?_
        rotate_left 1
        · (intro wI hSI; (try dsimp only at hSI); go_simp; (try with_reducible rfl))
        simp only [Act.put, List.setIfInBounds_toArray, List.set_cons_zero, List.set_cons_succ]
        refine rtake (i := 28) (d := (some 116)) (v := ?_) rfl (by kernel_rfl) (by kernel_rfl) (by kernel_rfl) (by kernel_rfl) (fun _ _ _ h => h) (by kernel_rfl) (by assumption) ?_ ?_
        rotate_left 1
        · (intro wI hSI; (try dsimp only at hSI); go_simp; (try with_reducible rfl))
        simp only [Act.put, List.setIfInBounds_toArray, List.set_cons_zero, List.set_cons_succ]
        refine rtake (i := 29) (d := (some 117)) (v := ?_) rfl (by kernel_rfl) (by kernel_rfl) (by kernel_rfl) (by kernel_rfl) (fun _ _ _ h => h) (by kernel_rfl) (by assumption) ?_ ?_
        rotate_left 1
        · (intro wI hSI; (try dsimp only at hSI); go_simp; (try with_reducible rfl))
        simp only [Act.put, List.setIfInBounds_toArray, List.set_cons_zero, List.set_cons_succ]
        refine rskip (i := 30) (d := (some 118)) rfl (by kernel_rfl) (by kernel_rfl) (by kernel_rfl) (by kernel_rfl) (fun _ _ _ h => h) (by kernel_rfl) (by assumption) ?_
        simp only [Act.put, List.setIfInBounds_toArray, List.set_cons_zero, List.set_cons_succ]
        refine rskip (i := 31) (d := (some 119)) rfl (by kernel_rfl) (by kernel_rfl) (by kernel_rfl) (by kernel_rfl) (fun _ _ _ h => h) (by kernel_rfl) (by assumption) ?_
        simp only [Act.put, List.setIfInBounds_toArray, List.set_cons_zero, List.set_cons_succ]
        refine rskip (i := 32) (d := (some 120)) rfl (by kernel_rfl) (by kernel_rfl) (by kernel_rfl) (by kernel_rfl) (fun _ _ _ h => h) (by kernel_rfl) (by assumption) ?_
        simp only [Act.put, List.setIfInBounds_toArray, List.set_cons_zero, List.set_cons_succ]
        refine rskip (i := 33) (d := (some 121)) rfl (by kernel_rfl) (by kernel_rfl) (by kernel_rfl) (by kernel_rfl) (fun _ _ _ h => h) (by kernel_rfl) (by assumption) ?_
        simp only [Act.put, List.setIfInBounds_toArray, List.set_cons_zero, List.set_cons_succ]
        refine rcall (i := 34) (d := (some 122)) (by kernel_rfl) rfl (by kernel_rfl) (fun K hK => ?_)
        rw [if_neg (by rw [show Region.wanted _ _ = false by kernel_rfl]; decide)]
        refine hK.out _ _ ?hS (fun hHeld => ?_)
        case hS => exact hHeld
        clear hK K
        simp only [Act.put, List.setIfInBounds_toArray, List.set_cons_zero, List.set_cons_succ]
        refine rcall (i := 35) (d := (some 123)) (by kernel_rfl) rfl (by kernel_rfl) (fun K hK => ?_)
        rw [if_neg (by rw [show Region.wanted _ _ = false by kernel_rfl]; decide)]
        refine hK.out _ _ ?hS (fun hHeld => ?_)
        case hS => exact hHeld
        clear hK K
        simp only [Act.put, List.setIfInBounds_toArray, List.set_cons_zero, List.set_cons_succ]
        refine rtake (i := 36) (d := (some 124)) (v := ?_) rfl (by kernel_rfl) (by kernel_rfl) (by kernel_rfl) (by kernel_rfl) (fun _ _ _ h => h) (by kernel_rfl) (by assumption) ?_ ?_
        rotate_left 1
        · (intro wI hSI; (try dsimp only at hSI); go_simp; (try with_reducible rfl))
        simp only [Act.put, List.setIfInBounds_toArray, List.set_cons_zero, List.set_cons_succ]
        refine rtake (i := 37) (d := (some 125)) (v := ?_) rfl (by kernel_rfl) (by kernel_rfl) (by kernel_rfl) (by kernel_rfl) (fun _ _ _ h => h) (by kernel_rfl) (by assumption) ?_ ?_
        rotate_left 1
        · (intro wI hSI; (try dsimp only at hSI); go_simp; (try with_reducible rfl))
        simp only [Act.put, List.setIfInBounds_toArray, List.set_cons_zero, List.set_cons_succ]
        refine rtake (i := 38) (d := (some 2)) (v := ?_) rfl (by kernel_rfl) (by kernel_rfl) (by kernel_rfl) (by kernel_rfl) (fun _ _ _ h => h) (by kernel_rfl) (by assumption) ?_ ?_
        rotate_left 1
        · (intro wI hSI; (try dsimp only at hSI); go_simp; (try with_reducible rfl))
        simp only [Act.put, List.setIfInBounds_toArray, List.set_cons_zero, List.set_cons_succ]
        refine wpAnyH_done (by kernel_rfl) ?_ _
        have hbF := below_next hb6 hHeld.2
        go_wp2_with fail
        go_ret
        exact ⟨rfl, hbF⟩
    · rw [hk, if_neg (by decide)] at HSE HMS
      cases ht : momB t
      · have Ese : se = 1 := by rw [HSE.out, ht]; rfl
        have Ess : ss = 1 := by rw [HSS.out, ht]; rfl
        have Eme : me = 0 := HMS.out
        subst Ese Ess Eme
        obtain ⟨rfl, hms⟩ := Hmoms5.out rfl
        have Hms5 := Lib.hid hms
        have hlM := hlm
        clear R1 R2 Hmoms5 HSV Hents5 hms hle hlm
        go_wp2_with fail
        refine (keyOf_any id _ (by omega)).mono ?_
        rintro e w6 ⟨rfl, hb6k⟩
        rw [hk]
        have hC6k := hC5.below hb6k
        have hX6k := hX5.below hb6k
        have hI6k := hI5.below hb6k
        have hbw6 := below_next hbw5 hb6k
        have Hms6 : Hid (SA w6 am moms) := Hms5.out.below hb6k
        clear hC5 hX5 hI5 hbw5 hb6k Hms5
        go_wp2_with fail
        refine (moment_any t _).mono ?_
        rintro e w7 ⟨rfl, rfl⟩
        rw [ht]
        go_wp2_with fail
        refine (orErr_any 0 1 _ _ (Box.new _ _ _)).mono ?_
        rintro e w7 ⟨rfl, rfl⟩
        rw [if_neg (by decide)]
        go_wp2_with fail
        refine (orErr_any 0 1 _ _ (Box.newAt _ _ _ _ (by simp))).mono ?_
        rintro e w7 ⟨rfl, rfl⟩
        rw [if_neg (by decide)]
        have hbe : Below w6.heap.size w6 ((w6.alloc (.cells #[.int .i64 0, .int .i64 1] 36)).alloc (.cells #[.int .i64 0, .int .i64 1] 36)) := ((Below.refl _ _).alloc (Nat.le_refl _) _).alloc (by simp) _
        go_upto_region 13 with (fail)
        generalize (w6.alloc (.cells #[.int .i64 0, .int .i64 1] 36)).alloc (.cells #[.int .i64 0, .int .i64 1] 36) = W6 at *
        have hC6 := hC6k.below hbe
        have hX6 := hX6k.below hbe
        have hI6 := hI6k.below hbe
        have hb6 := below_next hbw6 hbe
        have Hms : Hid (SA W6 am moms) := Hms6.out.below hbe
        clear hC6k hX6k hI6k hbw6 hbe Hms6
        go_upto_region 15 with (fail)
        refine wp_region_held_drew (S := (fun wx => (wx.cell? ⟨n, 0, none⟩ = some (.int .i64 o) ∧ wx.cell? ⟨n, 1, none⟩ = some (.int .i64 a) ∧ wx.cell? ⟨n, 2, none⟩ = some (.int .i64 f) ∧ wx.cell? ⟨n, 3, none⟩ = some (.slice a3 s.length c3) ∧ wx.cell? ⟨xb, 0, none⟩ = some (.string n1) ∧ wx.cell? ⟨xb, 1, none⟩ = some (.int .i64 n2) ∧ wx.cell? ⟨xb, 2, none⟩ = some (.string n3) ∧ wx.cell? ⟨xb, 3, none⟩ = some (.string n4) ∧ wx.cell? ⟨xb, 4, none⟩ = some (.int .i64 n5)) ∧ Below W6.heap.size W6 wx)) (by kernel_rfl) ?hS (fun hHeld => ?_)
        case hS => exact ⟨HeldX.of hC6 hX6, (Below.refl _ _).drew⟩
        refine rcall (i := 0) (d := (some 88)) (by kernel_rfl) rfl (by kernel_rfl) (fun K hK => ?_)
        go_simp
        go_at_call 16; refine (submits_any _ (hI6.env.below hHeld.2)).mono ?_; rintro e w7 ⟨rfl, hb7⟩
        refine hK.out _ _ ?hS (fun hHeld => ?_)
        case hS => exact ⟨HeldX.later hHeld.1 hb7, hHeld.2.trans (hb7.mono hHeld.2.size)⟩
        clear hK K
        simp only [Act.put, List.setIfInBounds_toArray, List.set_cons_zero, List.set_cons_succ]
        refine rtake (i := 1) (d := (some 89)) (v := ?_) rfl (by kernel_rfl) (by kernel_rfl) (by kernel_rfl) (by kernel_rfl) (fun _ _ _ h => h) (by kernel_rfl) (by assumption) ?_ ?_
        rotate_left 1
        · (intro wI hSI; (try dsimp only at hSI); go_simp; (try with_reducible rfl))
        simp only [Act.put, List.setIfInBounds_toArray, List.set_cons_zero, List.set_cons_succ]
        refine rtake (i := 2) (d := (some 90)) (v := ?_) rfl (by kernel_rfl) (by kernel_rfl) (by kernel_rfl) (by kernel_rfl) (fun _ _ _ h => h) (by kernel_rfl) (by assumption) ?_ ?_
        rotate_left 1
        · (intro wI hSI; (try dsimp only at hSI); go_simp; (try with_reducible rfl))
        simp only [Act.put, List.setIfInBounds_toArray, List.set_cons_zero, List.set_cons_succ]
        refine rtake (i := 3) (d := (some 91)) (v := ?_) rfl (by kernel_rfl) (by kernel_rfl) (by kernel_rfl) (by kernel_rfl) (fun _ _ _ h => h) (by kernel_rfl) (by assumption) ?_ ?_
        rotate_left 1
        · (intro wI hSI; (try dsimp only at hSI); go_simp; (try with_reducible rfl))
        simp only [Act.put, List.setIfInBounds_toArray, List.set_cons_zero, List.set_cons_succ]
        refine rtake (i := 4) (d := (some 92)) (v := ?_) rfl (by kernel_rfl) (by kernel_rfl) (by kernel_rfl) (by kernel_rfl) (fun _ _ _ h => h) (by kernel_rfl) (by assumption) ?_ ?_
        rotate_left 1
        · (intro wI hSI; (try dsimp only at hSI); go_simp; (try with_reducible rfl))
        simp only [Act.put, List.setIfInBounds_toArray, List.set_cons_zero, List.set_cons_succ]
        refine rskip (i := 5) (d := (some 93)) rfl (by kernel_rfl) (by kernel_rfl) (by kernel_rfl) (by kernel_rfl) (fun _ _ _ h => h) (by kernel_rfl) (by assumption) ?_
        simp only [Act.put, List.setIfInBounds_toArray, List.set_cons_zero, List.set_cons_succ]
        refine rskip (i := 6) (d := (some 94)) rfl (by kernel_rfl) (by kernel_rfl) (by kernel_rfl) (by kernel_rfl) (fun _ _ _ h => h) (by kernel_rfl) (by assumption) ?_
        simp only [Act.put, List.setIfInBounds_toArray, List.set_cons_zero, List.set_cons_succ]
        refine rskip (i := 7) (d := (some 95)) rfl (by kernel_rfl) (by kernel_rfl) (by kernel_rfl) (by kernel_rfl) (fun _ _ _ h => h) (by kernel_rfl) (by assumption) ?_
        simp only [Act.put, List.setIfInBounds_toArray, List.set_cons_zero, List.set_cons_succ]
        refine rskip (i := 8) (d := (some 96)) rfl (by kernel_rfl) (by kernel_rfl) (by kernel_rfl) (by kernel_rfl) (fun _ _ _ h => h) (by kernel_rfl) (by assumption) ?_
        simp only [Act.put, List.setIfInBounds_toArray, List.set_cons_zero, List.set_cons_succ]
        refine rskip (i := 9) (d := (some 97)) rfl (by kernel_rfl) (by kernel_rfl) (by kernel_rfl) (by kernel_rfl) (fun _ _ _ h => h) (by kernel_rfl) (by assumption) ?_
        simp only [Act.put, List.setIfInBounds_toArray, List.set_cons_zero, List.set_cons_succ]
        refine rcall (i := 10) (d := (some 98)) (by kernel_rfl) rfl (by kernel_rfl) (fun K hK => ?_)
        rw [if_neg (by rw [show Region.wanted _ _ = false by kernel_rfl]; decide)]
        refine hK.out _ _ ?hS (fun hHeld => ?_)
        case hS => exact hHeld
        clear hK K
        simp only [Act.put, List.setIfInBounds_toArray, List.set_cons_zero, List.set_cons_succ]
        refine rskip (i := 11) (d := (some 99)) rfl (by kernel_rfl) (by kernel_rfl) (by kernel_rfl) (by kernel_rfl) (fun _ _ _ h => h) (by kernel_rfl) (by assumption) ?_
        simp only [Act.put, List.setIfInBounds_toArray, List.set_cons_zero, List.set_cons_succ]
        refine rtake (i := 12) (d := (some 100)) (v := ?_) rfl (by kernel_rfl) (by kernel_rfl) (by kernel_rfl) (by kernel_rfl) (fun _ _ _ h => h) (by kernel_rfl) (by assumption) ?_ ?_
        rotate_left 1
        · (intro wI hSI; (try dsimp only at hSI); go_simp; (try with_reducible rfl))
        simp only [Act.put, List.setIfInBounds_toArray, List.set_cons_zero, List.set_cons_succ]
        refine rtake (i := 13) (d := (some 101)) (v := ?_) rfl (by kernel_rfl) (by kernel_rfl) (by kernel_rfl) (by kernel_rfl) (fun _ _ _ h => h) (by kernel_rfl) (by assumption) ?_ ?_
        rotate_left 1
        · (intro wI hSI; (try dsimp only at hSI); go_simp; (try with_reducible rfl))
        simp only [Act.put, List.setIfInBounds_toArray, List.set_cons_zero, List.set_cons_succ]
        refine rtake (i := 14) (d := (some 102)) (v := ?_) rfl (by kernel_rfl) (by kernel_rfl) (by kernel_rfl) (by kernel_rfl) (fun _ _ _ h => h) (by kernel_rfl) (by assumption) ?_ ?_
        rotate_left 1
        · (intro wI hSI; (try dsimp only at hSI); go_simp; (try with_reducible rfl))
        simp only [Act.put, List.setIfInBounds_toArray, List.set_cons_zero, List.set_cons_succ]
        refine rtake (i := 15) (d := (some 103)) (v := ?_) rfl (by kernel_rfl) (by kernel_rfl) (by kernel_rfl) (by kernel_rfl) (fun _ _ _ h => h) (by kernel_rfl) (by assumption) ?_ ?_
        rotate_left 1
        · (intro wI hSI; (try dsimp only at hSI); go_simp; (try with_reducible rfl))
        simp only [Act.put, List.setIfInBounds_toArray, List.set_cons_zero, List.set_cons_succ]
        refine rtake (i := 16) (d := (some 104)) (v := ?_) rfl (by kernel_rfl) (by kernel_rfl) (by kernel_rfl) (by kernel_rfl) (fun _ _ _ h => h) (by kernel_rfl) (by assumption) ?_ ?_
        rotate_left 1
        · (intro wI hSI; (try dsimp only at hSI); go_simp; (try with_reducible rfl))
        simp only [Act.put, List.setIfInBounds_toArray, List.set_cons_zero, List.set_cons_succ]
        refine rtake (i := 17) (d := (some 105)) (v := ?_) rfl (by kernel_rfl) (by kernel_rfl) (by kernel_rfl) (by kernel_rfl) (fun _ _ _ h => h) (by kernel_rfl) (by assumption) ?_ ?_
        rotate_left 1
        · (intro wI hSI; (try dsimp only at hSI); go_simp; (try with_reducible rfl))
        simp only [Act.put, List.setIfInBounds_toArray, List.set_cons_zero, List.set_cons_succ]
        refine rskip (i := 18) (d := (some 106)) rfl (by kernel_rfl) (by kernel_rfl) (by kernel_rfl) (by kernel_rfl) (fun _ _ _ h => h) (by kernel_rfl) (by assumption) ?_
        simp only [Act.put, List.setIfInBounds_toArray, List.set_cons_zero, List.set_cons_succ]
        refine rskip (i := 19) (d := (some 107)) rfl (by kernel_rfl) (by kernel_rfl) (by kernel_rfl) (by kernel_rfl) (fun _ _ _ h => h) (by kernel_rfl) (by assumption) ?_
        simp only [Act.put, List.setIfInBounds_toArray, List.set_cons_zero, List.set_cons_succ]
        refine rskip (i := 20) (d := (some 108)) rfl (by kernel_rfl) (by kernel_rfl) (by kernel_rfl) (by kernel_rfl) (fun _ _ _ h => h) (by kernel_rfl) (by assumption) ?_
        simp only [Act.put, List.setIfInBounds_toArray, List.set_cons_zero, List.set_cons_succ]
        refine rskip (i := 21) (d := (some 109)) rfl (by kernel_rfl) (by kernel_rfl) (by kernel_rfl) (by kernel_rfl) (fun _ _ _ h => h) (by kernel_rfl) (by assumption) ?_
        simp only [Act.put, List.setIfInBounds_toArray, List.set_cons_zero, List.set_cons_succ]
        refine rcall (i := 22) (d := (some 110)) (by kernel_rfl) rfl (by kernel_rfl) (fun K hK => ?_)
        rw [if_neg (by rw [show Region.wanted _ _ = false by kernel_rfl]; decide)]
        refine hK.out _ _ ?hS (fun hHeld => ?_)
        case hS => exact hHeld
        clear hK K
        simp only [Act.put, List.setIfInBounds_toArray, List.set_cons_zero, List.set_cons_succ]
        refine rcall (i := 23) (d := (some 111)) (by kernel_rfl) rfl (by kernel_rfl) (fun K hK => ?_)
        rw [if_neg (by rw [show Region.wanted _ _ = false by kernel_rfl]; decide)]
        refine hK.out _ _ ?hS (fun hHeld => ?_)
        case hS => exact hHeld
        clear hK K
        simp only [Act.put, List.setIfInBounds_toArray, List.set_cons_zero, List.set_cons_succ]
        refine rtake (i := 24) (d := (some 112)) (v := ?_) rfl (by kernel_rfl) (by kernel_rfl) (by kernel_rfl) (by kernel_rfl) (fun _ _ _ h => h) (by kernel_rfl) (by assumption) ?_ ?_
        rotate_left 1
        · (intro wI hSI; (try dsimp only at hSI); go_simp; (try with_reducible rfl))
        simp only [Act.put, List.setIfInBounds_toArray, List.set_cons_zero, List.set_cons_succ]
        refine rtake (i := 25) (d := (some 113)) (v := ?_) rfl (by kernel_rfl) (by kernel_rfl) (by kernel_rfl) (by kernel_rfl) (fun _ _ _ h => h) (by kernel_rfl) (by assumption) ?_ ?_
        rotate_left 1
        · (intro wI hSI; (try dsimp only at hSI); go_simp; (try with_reducible rfl))
        simp only [Act.put, List.setIfInBounds_toArray, List.set_cons_zero, List.set_cons_succ]
        refine rtake (i := 26) (d := (some 114)) (v := ?_) rfl (by kernel_rfl) (by kernel_rfl) (by kernel_rfl) (by kernel_rfl) (fun _ _ _ h => h) (by kernel_rfl) (by assumption) ?_ ?_
        rotate_left 1
        · (intro wI hSI; (try dsimp only at hSI); go_simp; (try with_reducible rfl))
        simp only [Act.put, List.setIfInBounds_toArray, List.set_cons_zero, List.set_cons_succ]
        refine rtake (i := 27) (d := (some 115)) (v := ?_) rfl (by kernel_rfl) (by kernel_rfl) (by kernel_rfl) (by kernel_rfl) (fun _ _ _ h => h) (by kernel_rfl) (by assumption) ?_ ?_
        rotate_left 1
        · (intro wI hSI; (try dsimp only at hSI); go_simp; (try with_reducible rfl))
        simp only [Act.put, List.setIfInBounds_toArray, List.set_cons_zero, List.set_cons_succ]
        refine rtake (i := 28) (d := (some 116)) (v := ?_) rfl (by kernel_rfl) (by kernel_rfl) (by kernel_rfl) (by kernel_rfl) (fun _ _ _ h => h) (by kernel_rfl) (by assumption) ?_ ?_
        rotate_left 1
        · (intro wI hSI; (try dsimp only at hSI); go_simp; (try with_reducible rfl))
        simp only [Act.put, List.setIfInBounds_toArray, List.set_cons_zero, List.set_cons_succ]
        refine rtake (i := 29) (d := (some 117)) (v := ?_) rfl (by kernel_rfl) (by kernel_rfl) (by kernel_rfl) (by kernel_rfl) (fun _ _ _ h => h) (by kernel_rfl) (by assumption) ?_ ?_
        rotate_left 1
        · (intro wI hSI; (try dsimp only at hSI); go_simp; (try with_reducible rfl))
        simp only [Act.put, List.setIfInBounds_toArray, List.set_cons_zero, List.set_cons_succ]
        refine rtake (i := 30) (d := (some 118)) (v := ?_) rfl (by kernel_rfl) (by kernel_rfl) (by kernel_rfl) (by kernel_rfl) (fun _ _ _ h => h) (by kernel_rfl) (by assumption) ?_ ?_
        rotate_left 1
        · (intro wI hSI; (try dsimp only at hSI); go_simp; (try with_reducible rfl))
        simp only [Act.put, List.setIfInBounds_toArray, List.set_cons_zero, List.set_cons_succ]
        refine rtake (i := 31) (d := (some 119)) (v := ?_) rfl (by kernel_rfl) (by kernel_rfl) (by kernel_rfl) (by kernel_rfl) (fun _ _ _ h => h) (by kernel_rfl) (by assumption) ?_ ?_
        rotate_left 1
        · (intro wI hSI; (try dsimp only at hSI); go_simp; (try with_reducible rfl))
        simp only [Act.put, List.setIfInBounds_toArray, List.set_cons_zero, List.set_cons_succ]
        refine rtake (i := 32) (d := (some 120)) (v := ?_) rfl (by kernel_rfl) (by kernel_rfl) (by kernel_rfl) (by kernel_rfl) (fun _ _ _ h => h) (by kernel_rfl) (by assumption) ?_ ?_
        rotate_left 1
        · (intro wI hSI; (try dsimp only at hSI); go_simp; (try with_reducible rfl))
        simp only [Act.put, List.setIfInBounds_toArray, List.set_cons_zero, List.set_cons_succ]
        refine rtake (i := 33) (d := (some 121)) (v := ?_) rfl (by kernel_rfl) (by kernel_rfl) (by kernel_rfl) (by kernel_rfl) (fun _ _ _ h => h) (by kernel_rfl) (by assumption) ?_ ?_
        rotate_left 1
        · (intro wI hSI; (try dsimp only at hSI); go_simp; (try with_reducible rfl))
        simp only [Act.put, List.setIfInBounds_toArray, List.set_cons_zero, List.set_cons_succ]
        refine rcall (i := 34) (d := (some 122)) (by kernel_rfl) rfl (by kernel_rfl) (fun K hK => ?_)
        rw [if_pos (by kernel_rfl)]; go_simp; go_at_call 21; refine (R3.out _ (hI6.below hHeld.2)).mono ?_; rintro e w11 ⟨v11, rfl, hown11, hb11⟩; obtain ⟨ga11, gc11, rfl, hsa11, -, -⟩ := hown11.form
        refine hK.out _ _ ?hS (fun hHeld => ?_)
        case hS => exact ⟨HeldX.later hHeld.1 hb11, hHeld.2.trans (hb11.mono hHeld.2.size)⟩
        clear hK K
        simp only [Act.put, List.setIfInBounds_toArray, List.set_cons_zero, List.set_cons_succ]
        refine rcall (i := 35) (d := (some 123)) (by kernel_rfl) rfl (by kernel_rfl) (fun K hK => ?_)
        rw [if_pos (by kernel_rfl)]; go_simp; go_at_call 20; refine (equalZ_any moms _ _ _ _ _ (Hms.out.below hHeld.2) hsa11 hlM).mono ?_; rintro e w12 ⟨rfl, k12, rfl⟩
        refine hK.out _ _ ?hS (fun hHeld => ?_)
        case hS => exact ⟨hHeld.1, below_drewN hHeld.2 _⟩
        clear hK K
        simp only [Act.put, List.setIfInBounds_toArray, List.set_cons_zero, List.set_cons_succ]
        refine rtake (i := 36) (d := (some 124)) (v := ?_) rfl (by kernel_rfl) (by kernel_rfl) (by kernel_rfl) (by kernel_rfl) (fun _ _ _ h => h) (by kernel_rfl) (by assumption) ?_ ?_
        rotate_left 1
        · (intro wI hSI; (try dsimp only at hSI); go_simp; (try with_reducible rfl))
        simp only [Act.put, List.setIfInBounds_toArray, List.set_cons_zero, List.set_cons_succ]
        refine rtake (i := 37) (d := (some 125)) (v := ?_) rfl (by kernel_rfl) (by kernel_rfl) (by kernel_rfl) (by kernel_rfl) (fun _ _ _ h => h) (by kernel_rfl) (by assumption) ?_ ?_
        rotate_left 1
        · (intro wI hSI; (try dsimp only at hSI); go_simp; (try with_reducible rfl))
        simp only [Act.put, List.setIfInBounds_toArray, List.set_cons_zero, List.set_cons_succ]
        refine rtake (i := 38) (d := (some 2)) (v := ?_) rfl (by kernel_rfl) (by kernel_rfl) (by kernel_rfl) (by kernel_rfl) (fun _ _ _ h => h) (by kernel_rfl) (by assumption) ?_ ?_
        rotate_left 1
        · (intro wI hSI; (try dsimp only at hSI); go_simp; (try with_reducible rfl))
        simp only [Act.put, List.setIfInBounds_toArray, List.set_cons_zero, List.set_cons_succ]
        refine wpAnyH_done (by kernel_rfl) ?_ _
        have hbF := below_next hb6 hHeld.2
        go_wp2_with fail
        go_ret
        exact ⟨rfl, hbF⟩
      · have Ese : se = 0 := by rw [HSE.out, ht]; rfl
        have Ess : ss = 0 := by rw [HSS.out, ht]; rfl
        have Eme : me = 0 := HMS.out
        subst Ese Ess Eme
        obtain ⟨rfl, hes⟩ := Hents5.out rfl
        obtain ⟨rfl, hms⟩ := Hmoms5.out rfl
        have Hes5 := Lib.hid hes
        have Hms5 := Lib.hid hms
        have hlE := hle
        have hlM := hlm
        have hsv := HSV.out rfl
        rw [← hsv, show entAgg (n1, n2, n3, n4, n5) = .agg #[.string n1, .int .i64 n2, .string n3, .string n4, .int .i64 n5] from rfl] at R1
        have hqr : ∀ w, (binOp .eql 35 (.agg #[.string n1, .int .i64 n2, .string n3, .string n4, .int .i64 n5]) (.agg #[.string n1, .int .i64 n2, .string n3, .string n4, .int .i64 n5])).run Tryz.prog w = .ok (.bool true) w := fun w => by
          have h := run_eqEnt (n1, n2, n3, n4, n5) (n1, n2, n3, n4, n5) w
          rw [decide_eq_true rfl] at h
          exact h
        have hqg := fun p q w => guardEq_Ent p q (n1, n2, n3, n4, n5) (n1, n2, n3, n4, n5) w
        rw [show entAgg (n1, n2, n3, n4, n5) = .agg #[.string n1, .int .i64 n2, .string n3, .string n4, .int .i64 n5] from rfl] at hqg
        clear Hmoms5 HSV Hents5 hes hms hle hlm hsv
        go_wp2_with fail
        refine (keyOf_any id _ (by omega)).mono ?_
        rintro e W6 ⟨rfl, hb6k⟩
        rw [hk]
        have hC6 := hC5.below hb6k
        have hX6 := hX5.below hb6k
        have hI6 := hI5.below hb6k
        have hb6 := below_next hbw5 hb6k
        have Hes : Hid (SA W6 ae ents) := Hes5.out.below hb6k
        have Hms : Hid (SA W6 am moms) := Hms5.out.below hb6k
        clear hC5 hX5 hI5 hbw5 hb6k Hes5 Hms5
        go_wp2_with fail
        refine (moment_any t _).mono ?_
        rintro e w7 ⟨rfl, rfl⟩
        rw [ht]
        go_upto_region 15 with (fail)
        refine wp_region_held_drew (S := (fun wx => (wx.cell? ⟨n, 0, none⟩ = some (.int .i64 o) ∧ wx.cell? ⟨n, 1, none⟩ = some (.int .i64 a) ∧ wx.cell? ⟨n, 2, none⟩ = some (.int .i64 f) ∧ wx.cell? ⟨n, 3, none⟩ = some (.slice a3 s.length c3) ∧ wx.cell? ⟨xb, 0, none⟩ = some (.string n1) ∧ wx.cell? ⟨xb, 1, none⟩ = some (.int .i64 n2) ∧ wx.cell? ⟨xb, 2, none⟩ = some (.string n3) ∧ wx.cell? ⟨xb, 3, none⟩ = some (.string n4) ∧ wx.cell? ⟨xb, 4, none⟩ = some (.int .i64 n5)) ∧ Below W6.heap.size W6 wx)) (by kernel_rfl) ?hS (fun hHeld => ?_)
        case hS => exact ⟨HeldX.of hC6 hX6, (Below.refl _ _).drew⟩
        refine rcall (i := 0) (d := (some 88)) (by kernel_rfl) rfl (by kernel_rfl) (fun K hK => ?_)
        go_simp
        go_at_call 16; refine (submits_any _ (hI6.env.below hHeld.2)).mono ?_; rintro e w7 ⟨rfl, hb7⟩
        refine hK.out _ _ ?hS (fun hHeld => ?_)
        case hS => exact ⟨HeldX.later hHeld.1 hb7, hHeld.2.trans (hb7.mono hHeld.2.size)⟩
        clear hK K
        simp only [Act.put, List.setIfInBounds_toArray, List.set_cons_zero, List.set_cons_succ]
        refine rtake (i := 1) (d := (some 89)) (v := ?_) rfl (by kernel_rfl) (by kernel_rfl) (by kernel_rfl) (by kernel_rfl) (fun _ _ _ h => h) (by kernel_rfl) (by assumption) ?_ ?_
        rotate_left 1
        · (intro wI hSI; (try dsimp only at hSI); go_simp; (try with_reducible rfl))
        simp only [Act.put, List.setIfInBounds_toArray, List.set_cons_zero, List.set_cons_succ]
        refine rtake (i := 2) (d := (some 90)) (v := ?_) rfl (by kernel_rfl) (by kernel_rfl) (by kernel_rfl) (by kernel_rfl) (fun _ _ _ h => h) (by kernel_rfl) (by assumption) ?_ ?_
        rotate_left 1
        · (intro wI hSI; (try dsimp only at hSI); go_simp; (try with_reducible rfl))
        simp only [Act.put, List.setIfInBounds_toArray, List.set_cons_zero, List.set_cons_succ]
        refine rtake (i := 3) (d := (some 91)) (v := ?_) rfl (by kernel_rfl) (by kernel_rfl) (by kernel_rfl) (by kernel_rfl) (fun _ _ _ h => h) (by kernel_rfl) (by assumption) ?_ ?_
        rotate_left 1
        · (intro wI hSI; (try dsimp only at hSI); go_simp; (try with_reducible rfl))
        simp only [Act.put, List.setIfInBounds_toArray, List.set_cons_zero, List.set_cons_succ]
        refine rtake (i := 4) (d := (some 92)) (v := ?_) rfl (by kernel_rfl) (by kernel_rfl) (by kernel_rfl) (by kernel_rfl) (fun _ _ _ h => h) (by kernel_rfl) (by assumption) ?_ ?_
        rotate_left 1
        · (intro wI hSI; (try dsimp only at hSI); go_simp; (try with_reducible rfl))
        simp only [Act.put, List.setIfInBounds_toArray, List.set_cons_zero, List.set_cons_succ]
        refine rtake (i := 5) (d := (some 93)) (v := ?_) rfl (by kernel_rfl) (by kernel_rfl) (by kernel_rfl) (by kernel_rfl) (fun _ _ _ h => h) (by kernel_rfl) (by assumption) ?_ ?_
        rotate_left 1
        · (intro wI hSI; (try dsimp only at hSI); go_simp; (try with_reducible rfl))
        simp only [Act.put, List.setIfInBounds_toArray, List.set_cons_zero, List.set_cons_succ]
        refine rtake (i := 6) (d := (some 94)) (v := ?_) rfl (by kernel_rfl) (by kernel_rfl) (by kernel_rfl) (by kernel_rfl) (fun _ _ _ h => h) (by kernel_rfl) (by assumption) ?_ ?_
        rotate_left 1
        · (intro wI hSI; (try dsimp only at hSI); go_simp; (try with_reducible rfl))
        simp only [Act.put, List.setIfInBounds_toArray, List.set_cons_zero, List.set_cons_succ]
        refine rtake (i := 7) (d := (some 95)) (v := ?_) rfl (by kernel_rfl) (by kernel_rfl) (by kernel_rfl) (by kernel_rfl) (fun _ _ _ h => h) (by kernel_rfl) (by assumption) ?_ ?_
        rotate_left 1
        · (intro wI hSI; (try dsimp only at hSI); go_simp; (try with_reducible rfl))
        simp only [Act.put, List.setIfInBounds_toArray, List.set_cons_zero, List.set_cons_succ]
        refine rtake (i := 8) (d := (some 96)) (v := ?_) rfl (by kernel_rfl) (by kernel_rfl) (by kernel_rfl) (by kernel_rfl) (fun _ _ _ h => h) (by kernel_rfl) (by assumption) ?_ ?_
        rotate_left 1
        · (intro wI hSI; (try dsimp only at hSI); go_simp; (try with_reducible rfl))
        simp only [Act.put, List.setIfInBounds_toArray, List.set_cons_zero, List.set_cons_succ]
        refine rtake (i := 9) (d := (some 97)) (v := ?_) rfl (by kernel_rfl) (by kernel_rfl) (by kernel_rfl) (by kernel_rfl) (fun _ _ _ h => h) (by kernel_rfl) (by assumption) ?_ ?_
        rotate_left 1
        · (intro wI hSI; (try dsimp only at hSI); go_simp; (try with_reducible rfl))
        simp only [Act.put, List.setIfInBounds_toArray, List.set_cons_zero, List.set_cons_succ]
        refine rcall (i := 10) (d := (some 98)) (by kernel_rfl) rfl (by kernel_rfl) (fun K hK => ?_)
        rw [if_pos (by kernel_rfl)]; go_simp; go_at_call 17; refine (R1.out _ (hI6.below hHeld.2)).mono ?_; rintro e w8 ⟨rfl, hb8⟩
        refine hK.out _ _ ?hS (fun hHeld => ?_)
        case hS => exact ⟨HeldX.later hHeld.1 hb8, hHeld.2.trans (hb8.mono hHeld.2.size)⟩
        clear hK K
        simp only [Act.put, List.setIfInBounds_toArray, List.set_cons_zero, List.set_cons_succ]
        refine rtake (i := 11) (d := (some 99)) (v := ?_) rfl (by kernel_rfl) (by kernel_rfl) (by kernel_rfl) (by kernel_rfl) (fun _ _ _ h => h) (by kernel_rfl) (by assumption) ?_ ?_
        rotate_left 1
        · (intro wI hSI; (try dsimp only at hSI); go_simp; (try with_reducible rfl))
        simp only [Act.put, List.setIfInBounds_toArray, List.set_cons_zero, List.set_cons_succ]
        refine rtake (i := 12) (d := (some 100)) (v := ?_) rfl (by kernel_rfl) (by kernel_rfl) (by kernel_rfl) (by kernel_rfl) (fun _ _ _ h => h) (by kernel_rfl) (by assumption) ?_ ?_
        rotate_left 1
        · (intro wI hSI; (try dsimp only at hSI); go_simp; (try with_reducible rfl))
        simp only [Act.put, List.setIfInBounds_toArray, List.set_cons_zero, List.set_cons_succ]
        refine rtake (i := 13) (d := (some 101)) (v := ?_) rfl (by kernel_rfl) (by kernel_rfl) (by kernel_rfl) (by kernel_rfl) (fun _ _ _ h => h) (by kernel_rfl) (by assumption) ?_ ?_
        rotate_left 1
        · (intro wI hSI; (try dsimp only at hSI); go_simp; (try with_reducible rfl))
        simp only [Act.put, List.setIfInBounds_toArray, List.set_cons_zero, List.set_cons_succ]
        refine rtake (i := 14) (d := (some 102)) (v := ?_) rfl (by kernel_rfl) (by kernel_rfl) (by kernel_rfl) (by kernel_rfl) (fun _ _ _ h => h) (by kernel_rfl) (by assumption) ?_ ?_
        rotate_left 1
        · (intro wI hSI; (try dsimp only at hSI); go_simp; (try with_reducible rfl))
        simp only [Act.put, List.setIfInBounds_toArray, List.set_cons_zero, List.set_cons_succ]
        refine rtake (i := 15) (d := (some 103)) (v := ?_) rfl (by kernel_rfl) (by kernel_rfl) (by kernel_rfl) (by kernel_rfl) (fun _ _ _ h => h) (by kernel_rfl) (by assumption) ?_ ?_
        rotate_left 1
        · (intro wI hSI; (try dsimp only at hSI); go_simp; (try with_reducible rfl))
        simp only [Act.put, List.setIfInBounds_toArray, List.set_cons_zero, List.set_cons_succ]
        refine rtake (i := 16) (d := (some 104)) (v := ?_) rfl (by kernel_rfl) (by kernel_rfl) (by kernel_rfl) (by kernel_rfl) (fun _ _ _ h => h) (by kernel_rfl) (by assumption) ?_ ?_
        rotate_left 1
        · (intro wI hSI; (try dsimp only at hSI); go_simp; (try with_reducible rfl))
        simp only [Act.put, List.setIfInBounds_toArray, List.set_cons_zero, List.set_cons_succ]
        refine rtake (i := 17) (d := (some 105)) (v := ?_) rfl (by kernel_rfl) (by kernel_rfl) (by kernel_rfl) (by kernel_rfl) (fun _ _ _ h => h) (by kernel_rfl) (by assumption) ?_ ?_
        rotate_left 1
        · (intro wI hSI; (try dsimp only at hSI); go_simp; (try with_reducible rfl))
        simp only [Act.put, List.setIfInBounds_toArray, List.set_cons_zero, List.set_cons_succ]
        refine rtake (i := 18) (d := (some 106)) (v := ?_) rfl (by kernel_rfl) (by kernel_rfl) (by kernel_rfl) (by kernel_rfl) (fun _ _ _ h => h) (by kernel_rfl) (by assumption) ?_ ?_
        rotate_left 1
        · (intro wI hSI; (try dsimp only at hSI); go_simp; (try with_reducible rfl))
        simp only [Act.put, List.setIfInBounds_toArray, List.set_cons_zero, List.set_cons_succ]
        refine rtake (i := 19) (d := (some 107)) (v := ?_) rfl (by kernel_rfl) (by kernel_rfl) (by kernel_rfl) (by kernel_rfl) (fun _ _ _ h => h) (by kernel_rfl) (by assumption) ?_ ?_
        rotate_left 1
        · (intro wI hSI; (try dsimp only at hSI); go_simp; (try with_reducible rfl))
        simp only [Act.put, List.setIfInBounds_toArray, List.set_cons_zero, List.set_cons_succ]
        refine rtake (i := 20) (d := (some 108)) (v := ?_) rfl (by kernel_rfl) (by kernel_rfl) (by kernel_rfl) (by kernel_rfl) (fun _ _ _ h => h) (by kernel_rfl) (by assumption) ?_ ?_
        rotate_left 1
        · (intro wI hSI; (try dsimp only at hSI); go_simp; (try with_reducible rfl))
        simp only [Act.put, List.setIfInBounds_toArray, List.set_cons_zero, List.set_cons_succ]
        refine rtake (i := 21) (d := (some 109)) (v := ?_) rfl (by kernel_rfl) (by kernel_rfl) (by kernel_rfl) (by kernel_rfl) (fun _ _ _ h => h) (by kernel_rfl) (by assumption) ?_ ?_
        rotate_left 1
        · (intro wI hSI; (try dsimp only at hSI); go_simp; (try with_reducible rfl))
        simp only [Act.put, List.setIfInBounds_toArray, List.set_cons_zero, List.set_cons_succ]
        refine rcall (i := 22) (d := (some 110)) (by kernel_rfl) rfl (by kernel_rfl) (fun K hK => ?_)
        rw [if_pos (by kernel_rfl)]; go_simp; go_at_call 19; refine (R2.out _ (hI6.below hHeld.2)).mono ?_; rintro e w9 ⟨v9, rfl, hown9, hb9⟩; obtain ⟨ga9, gc9, rfl, hsa9, -, -⟩ := hown9.form
        refine hK.out _ _ ?hS (fun hHeld => ?_)
        case hS => exact ⟨HeldX.later hHeld.1 hb9, hHeld.2.trans (hb9.mono hHeld.2.size)⟩
        clear hK K
        simp only [Act.put, List.setIfInBounds_toArray, List.set_cons_zero, List.set_cons_succ]
        refine rcall (i := 23) (d := (some 111)) (by kernel_rfl) rfl (by kernel_rfl) (fun K hK => ?_)
        rw [if_pos (by kernel_rfl)]; go_simp; go_at_call 18; refine (eqEnt_any ents _ _ _ _ _ (Hes.out.below hHeld.2) hsa9 hlE).mono ?_; rintro e w10 ⟨rfl, k10, rfl⟩
        refine hK.out _ _ ?hS (fun hHeld => ?_)
        case hS => exact ⟨hHeld.1, below_drewN hHeld.2 _⟩
        clear hK K
        simp only [Act.put, List.setIfInBounds_toArray, List.set_cons_zero, List.set_cons_succ]
        refine rtake (i := 24) (d := (some 112)) (v := ?_) rfl (by kernel_rfl) (by kernel_rfl) (by kernel_rfl) (by kernel_rfl) (fun _ _ _ h => h) (by kernel_rfl) (by assumption) ?_ ?_
        rotate_left 1
        · (intro wI hSI; (try dsimp only at hSI); go_simp; (try with_reducible rfl))
        simp only [Act.put, List.setIfInBounds_toArray, List.set_cons_zero, List.set_cons_succ]
        refine rtake (i := 25) (d := (some 113)) (v := ?_) rfl (by kernel_rfl) (by kernel_rfl) (by kernel_rfl) (by kernel_rfl) (fun _ _ _ h => h) (by kernel_rfl) (by assumption) ?_ ?_
        rotate_left 1
        · (intro wI hSI; (try dsimp only at hSI); go_simp; (try with_reducible rfl))
        simp only [Act.put, List.setIfInBounds_toArray, List.set_cons_zero, List.set_cons_succ]
        refine rtake (i := 26) (d := (some 114)) (v := ?_) rfl (by kernel_rfl) (by kernel_rfl) (by kernel_rfl) (by kernel_rfl) (fun _ _ _ h => h) (by kernel_rfl) (by assumption) ?_ ?_
        rotate_left 1
        · (intro wI hSI; (try dsimp only at hSI); go_simp; (try with_reducible rfl))
        simp only [Act.put, List.setIfInBounds_toArray, List.set_cons_zero, List.set_cons_succ]
        refine rtake (i := 27) (d := (some 115)) (v := ?_) rfl (by kernel_rfl) (by kernel_rfl) (by kernel_rfl) (by kernel_rfl) (fun _ _ _ h => h) (by kernel_rfl) (by assumption) ?_ ?_
        rotate_left 1
        · (intro wI hSI; (try dsimp only at hSI); go_simp; (try with_reducible rfl))
        simp only [Act.put, List.setIfInBounds_toArray, List.set_cons_zero, List.set_cons_succ]
        refine rtake (i := 28) (d := (some 116)) (v := ?_) rfl (by kernel_rfl) (by kernel_rfl) (by kernel_rfl) (by kernel_rfl) (fun _ _ _ h => h) (by kernel_rfl) (by assumption) ?_ ?_
        rotate_left 1
        · (intro wI hSI; (try dsimp only at hSI); go_simp; (try with_reducible rfl))
        simp only [Act.put, List.setIfInBounds_toArray, List.set_cons_zero, List.set_cons_succ]
        refine rtake (i := 29) (d := (some 117)) (v := ?_) rfl (by kernel_rfl) (by kernel_rfl) (by kernel_rfl) (by kernel_rfl) (fun _ _ _ h => h) (by kernel_rfl) (by assumption) ?_ ?_
        rotate_left 1
        · (intro wI hSI; (try dsimp only at hSI); go_simp; (try with_reducible rfl))
        simp only [Act.put, List.setIfInBounds_toArray, List.set_cons_zero, List.set_cons_succ]
        refine rtake (i := 30) (d := (some 118)) (v := ?_) rfl (by kernel_rfl) (by kernel_rfl) (by kernel_rfl) (by kernel_rfl) (fun _ _ _ h => h) (by kernel_rfl) (by assumption) ?_ ?_
        rotate_left 1
        · (intro wI hSI; (try dsimp only at hSI); go_simp; (try with_reducible rfl))
        simp only [Act.put, List.setIfInBounds_toArray, List.set_cons_zero, List.set_cons_succ]
        refine rtake (i := 31) (d := (some 119)) (v := ?_) rfl (by kernel_rfl) (by kernel_rfl) (by kernel_rfl) (by kernel_rfl) (fun _ _ _ h => h) (by kernel_rfl) (by assumption) ?_ ?_
        rotate_left 1
        · (intro wI hSI; (try dsimp only at hSI); go_simp; (try with_reducible rfl))
        simp only [Act.put, List.setIfInBounds_toArray, List.set_cons_zero, List.set_cons_succ]
        refine rtake (i := 32) (d := (some 120)) (v := ?_) rfl (by kernel_rfl) (by kernel_rfl) (by kernel_rfl) (by kernel_rfl) (fun _ _ _ h => h) (by kernel_rfl) (by assumption) ?_ ?_
        rotate_left 1
        · (intro wI hSI; (try dsimp only at hSI); go_simp; (try with_reducible rfl))
        simp only [Act.put, List.setIfInBounds_toArray, List.set_cons_zero, List.set_cons_succ]
        refine rtake (i := 33) (d := (some 121)) (v := ?_) rfl (by kernel_rfl) (by kernel_rfl) (by kernel_rfl) (by kernel_rfl) (fun _ _ _ h => h) (by kernel_rfl) (by assumption) ?_ ?_
        rotate_left 1
        · (intro wI hSI; (try dsimp only at hSI); go_simp; (try with_reducible rfl))
        simp only [Act.put, List.setIfInBounds_toArray, List.set_cons_zero, List.set_cons_succ]
        refine rcall (i := 34) (d := (some 122)) (by kernel_rfl) rfl (by kernel_rfl) (fun K hK => ?_)
        rw [if_pos (by kernel_rfl)]; go_simp; go_at_call 21; refine (R3.out _ (hI6.below hHeld.2)).mono ?_; rintro e w11 ⟨v11, rfl, hown11, hb11⟩; obtain ⟨ga11, gc11, rfl, hsa11, -, -⟩ := hown11.form
        refine hK.out _ _ ?hS (fun hHeld => ?_)
        case hS => exact ⟨HeldX.later hHeld.1 hb11, hHeld.2.trans (hb11.mono hHeld.2.size)⟩
        clear hK K
        simp only [Act.put, List.setIfInBounds_toArray, List.set_cons_zero, List.set_cons_succ]
        refine rcall (i := 35) (d := (some 123)) (by kernel_rfl) rfl (by kernel_rfl) (fun K hK => ?_)
        rw [if_pos (by kernel_rfl)]; go_simp; go_at_call 20; refine (equalZ_any moms _ _ _ _ _ (Hms.out.below hHeld.2) hsa11 hlM).mono ?_; rintro e w12 ⟨rfl, k12, rfl⟩
        refine hK.out _ _ ?hS (fun hHeld => ?_)
        case hS => exact ⟨hHeld.1, below_drewN hHeld.2 _⟩
        clear hK K
        simp only [Act.put, List.setIfInBounds_toArray, List.set_cons_zero, List.set_cons_succ]
        refine rtake (i := 36) (d := (some 124)) (v := ?_) rfl (by kernel_rfl) (by kernel_rfl) (by kernel_rfl) (by kernel_rfl) (fun _ _ _ h => h) (by kernel_rfl) (by assumption) ?_ ?_
        rotate_left 1
        · (intro wI hSI; (try dsimp only at hSI); go_simp; (try with_reducible rfl))
        simp only [Act.put, List.setIfInBounds_toArray, List.set_cons_zero, List.set_cons_succ]
        refine rtake (i := 37) (d := (some 125)) (v := ?_) rfl (by kernel_rfl) (by kernel_rfl) (by kernel_rfl) (by kernel_rfl) (fun _ _ _ h => h) (by kernel_rfl) (by assumption) ?_ ?_
        rotate_left 1
        · (intro wI hSI; (try dsimp only at hSI); go_simp; (try with_reducible rfl))
        simp only [Act.put, List.setIfInBounds_toArray, List.set_cons_zero, List.set_cons_succ]
        refine rtake (i := 38) (d := (some 2)) (v := ?_) rfl (by kernel_rfl) (by kernel_rfl) (by kernel_rfl) (by kernel_rfl) (fun _ _ _ h => h) (by kernel_rfl) (by assumption) ?_ ?_
        rotate_left 1
        · (intro wI hSI; (try dsimp only at hSI); go_simp; (try with_reducible rfl))
        simp only [Act.put, List.setIfInBounds_toArray, List.set_cons_zero, List.set_cons_succ]
        refine wpAnyH_done (by kernel_rfl) ?_ _
        have hbF := below_next hb6 hHeld.2
        go_wp2_with fail
        go_ret
        exact ⟨rfl, hbF⟩
  · have Ese : se = pf := by rw [HSE.out, if_pos hpf]
    have Ess : ss = pf := by rw [HSS.out, if_pos hpf]
    have Eme : me = pf := by rw [HMS.out, if_pos hpf]
    clear HSE HSS HMS HSV
    subst Ese Ess Eme
    have Hp := Lib.hid hpf
    have hpf1 : (me != 0) = true := by simpa using hpf
    have hpf2 : (me == 0) = false := by simpa using hpf
    have hq1 : (me != me) = false := by simp
    have hE5 := hI5.env
    clear hpf hC5 hX5 hI5 R1 R2 R3 Hents5 Hmoms5
    cases ht : momB t
    · go_wp2_with fail
      refine (moment_any t _).mono ?_
      rintro e w6 ⟨rfl, rfl⟩
      rw [ht]
      go_wp2_with fail
      refine (orErr_any me 1 _ _ (Box.new _ _ _)).mono ?_
      rintro e w6 ⟨rfl, rfl⟩
      rw [if_pos Hp.out]
      go_wp2_with fail
      refine (orErr_any me 1 _ _ (Box.newAt _ _ _ _ (by simp))).mono ?_
      rintro e w6 ⟨rfl, rfl⟩
      rw [if_pos Hp.out]
      have hE6 := (hE5.alloc (.cells #[.int .i64 me, .int .i64 1] 36)).alloc (.cells #[.int .i64 me, .int .i64 1] 36)
      have hb6 : Below w.heap.size w ((W5.alloc (.cells #[.int .i64 me, .int .i64 1] 36)).alloc (.cells #[.int .i64 me, .int .i64 1] 36)) := (hbw5.alloc (by have := hbw5.size; omega) _).alloc (by have := hbw5.size; simp; omega) _
      clear hE5 hbw5
      go_upto_region 13 with (fail)
      generalize (W5.alloc (.cells #[.int .i64 me, .int .i64 1] 36)).alloc (.cells #[.int .i64 me, .int .i64 1] 36) = W6 at *
      go_upto_region 15 with (fail)
      refine wp_region_held_drew (S := (fun wx => Below W6.heap.size W6 wx)) (by kernel_rfl) ?hS (fun hHeld => ?_)
      case hS => exact (Below.refl _ _).drew
      refine rcall (i := 0) (d := (some 88)) (by kernel_rfl) rfl (by kernel_rfl) (fun K hK => ?_)
      go_simp
      go_at_call 16; refine (submits_any _ (hE6.below hHeld)).mono ?_; rintro e w7 ⟨rfl, hb7⟩
      refine hK.out _ _ ?hS (fun hHeld => ?_)
      case hS => exact hHeld.trans (hb7.mono hHeld.size)
      clear hK K
      simp only [Act.put, List.setIfInBounds_toArray, List.set_cons_zero, List.set_cons_succ]
      refine rtake (i := 1) (d := (some 89)) (v := ?_) rfl (by kernel_rfl) (by kernel_rfl) (by kernel_rfl) (by kernel_rfl) (fun _ _ _ h => h) (by kernel_rfl) (by assumption) ?_ ?_
      rotate_left 1
      · (intro wI hSI; (try dsimp only at hSI); go_simp; (try with_reducible rfl))
      simp only [Act.put, List.setIfInBounds_toArray, List.set_cons_zero, List.set_cons_succ]
      refine rtake (i := 2) (d := (some 90)) (v := ?_) rfl (by kernel_rfl) (by kernel_rfl) (by kernel_rfl) (by kernel_rfl) (fun _ _ _ h => h) (by kernel_rfl) (by assumption) ?_ ?_
      rotate_left 1
      · (intro wI hSI; (try dsimp only at hSI); go_simp; (try with_reducible rfl))
      simp only [Act.put, List.setIfInBounds_toArray, List.set_cons_zero, List.set_cons_succ]
      refine rtake (i := 3) (d := (some 91)) (v := ?_) rfl (by kernel_rfl) (by kernel_rfl) (by kernel_rfl) (by kernel_rfl) (fun _ _ _ h => h) (by kernel_rfl) (by assumption) ?_ ?_
      rotate_left 1
      · (intro wI hSI; (try dsimp only at hSI); go_simp; (try with_reducible rfl))
      simp only [Act.put, List.setIfInBounds_toArray, List.set_cons_zero, List.set_cons_succ]
      refine rtake (i := 4) (d := (some 92)) (v := ?_) rfl (by kernel_rfl) (by kernel_rfl) (by kernel_rfl) (by kernel_rfl) (fun _ _ _ h => h) (by kernel_rfl) (by assumption) ?_ ?_
      rotate_left 1
      · (intro wI hSI; (try dsimp only at hSI); go_simp; (try with_reducible rfl))
      simp only [Act.put, List.setIfInBounds_toArray, List.set_cons_zero, List.set_cons_succ]
      refine rskip (i := 5) (d := (some 93)) rfl (by kernel_rfl) (by kernel_rfl) (by kernel_rfl) (by kernel_rfl) (fun _ _ _ h => h) (by kernel_rfl) (by assumption) ?_
      simp only [Act.put, List.setIfInBounds_toArray, List.set_cons_zero, List.set_cons_succ]
      refine rskip (i := 6) (d := (some 94)) rfl (by kernel_rfl) (by kernel_rfl) (by kernel_rfl) (by kernel_rfl) (fun _ _ _ h => h) (by kernel_rfl) (by assumption) ?_
      simp only [Act.put, List.setIfInBounds_toArray, List.set_cons_zero, List.set_cons_succ]
      refine rskip (i := 7) (d := (some 95)) rfl (by kernel_rfl) (by kernel_rfl) (by kernel_rfl) (by kernel_rfl) (fun _ _ _ h => h) (by kernel_rfl) (by assumption) ?_
      simp only [Act.put, List.setIfInBounds_toArray, List.set_cons_zero, List.set_cons_succ]
      refine rskip (i := 8) (d := (some 96)) rfl (by kernel_rfl) (by kernel_rfl) (by kernel_rfl) (by kernel_rfl) (fun _ _ _ h => h) (by kernel_rfl) (by assumption) ?_
      simp only [Act.put, List.setIfInBounds_toArray, List.set_cons_zero, List.set_cons_succ]
      refine rskip (i := 9) (d := (some 97)) rfl (by kernel_rfl) (by kernel_rfl) (by kernel_rfl) (by kernel_rfl) (fun _ _ _ h => h) (by kernel_rfl) (by assumption) ?_
      simp only [Act.put, List.setIfInBounds_toArray, List.set_cons_zero, List.set_cons_succ]
      refine rcall (i := 10) (d := (some 98)) (by kernel_rfl) rfl (by kernel_rfl) (fun K hK => ?_)
      rw [if_neg (by rw [show Region.wanted _ _ = false by kernel_rfl]; decide)]
      refine hK.out _ _ ?hS (fun hHeld => ?_)
      case hS => exact hHeld
      clear hK K
      simp only [Act.put, List.setIfInBounds_toArray, List.set_cons_zero, List.set_cons_succ]
      refine rskip (i := 11) (d := (some 99)) rfl (by kernel_rfl) (by kernel_rfl) (by kernel_rfl) (by kernel_rfl) (fun _ _ _ h => h) (by kernel_rfl) (by assumption) ?_
      simp only [Act.put, List.setIfInBounds_toArray, List.set_cons_zero, List.set_cons_succ]
      refine rtake (i := 12) (d := (some 100)) (v := ?_) rfl (by kernel_rfl) (by kernel_rfl) (by kernel_rfl) (by kernel_rfl) (fun _ _ _ h => h) (by kernel_rfl) (by assumption) ?_ ?_
      rotate_left 1
      · (intro wI hSI; (try dsimp only at hSI); go_simp; (try with_reducible rfl))
      simp only [Act.put, List.setIfInBounds_toArray, List.set_cons_zero, List.set_cons_succ]
      refine rtake (i := 13) (d := (some 101)) (v := ?_) rfl (by kernel_rfl) (by kernel_rfl) (by kernel_rfl) (by kernel_rfl) (fun _ _ _ h => h) (by kernel_rfl) (by assumption) ?_ ?_
      rotate_left 1
      · (intro wI hSI; (try dsimp only at hSI); go_simp; (try with_reducible rfl))
      simp only [Act.put, List.setIfInBounds_toArray, List.set_cons_zero, List.set_cons_succ]
      refine rtake (i := 14) (d := (some 102)) (v := ?_) rfl (by kernel_rfl) (by kernel_rfl) (by kernel_rfl) (by kernel_rfl) (fun _ _ _ h => h) (by kernel_rfl) (by assumption) ?_ ?_
      rotate_left 1
      · (intro wI hSI; (try dsimp only at hSI); go_simp; (try with_reducible rfl))
      simp only [Act.put, List.setIfInBounds_toArray, List.set_cons_zero, List.set_cons_succ]
      refine rtake (i := 15) (d := (some 103)) (v := ?_) rfl (by kernel_rfl) (by kernel_rfl) (by kernel_rfl) (by kernel_rfl) (fun _ _ _ h => h) (by kernel_rfl) (by assumption) ?_ ?_
      rotate_left 1
      · (intro wI hSI; (try dsimp only at hSI); go_simp; (try with_reducible rfl))
      simp only [Act.put, List.setIfInBounds_toArray, List.set_cons_zero, List.set_cons_succ]
      refine rtake (i := 16) (d := (some 104)) (v := ?_) rfl (by kernel_rfl) (by kernel_rfl) (by kernel_rfl) (by kernel_rfl) (fun _ _ _ h => h) (by kernel_rfl) (by assumption) ?_ ?_
      rotate_left 1
      · (intro wI hSI; (try dsimp only at hSI); go_simp; (try with_reducible rfl))
      simp only [Act.put, List.setIfInBounds_toArray, List.set_cons_zero, List.set_cons_succ]
      refine rtake (i := 17) (d := (some 105)) (v := ?_) rfl (by kernel_rfl) (by kernel_rfl) (by kernel_rfl) (by kernel_rfl) (fun _ _ _ h => h) (by kernel_rfl) (by assumption) ?_ ?_
      rotate_left 1
      · (intro wI hSI; (try dsimp only at hSI); go_simp; (try with_reducible rfl))
      simp only [Act.put, List.setIfInBounds_toArray, List.set_cons_zero, List.set_cons_succ]
      refine rskip (i := 18) (d := (some 106)) rfl (by kernel_rfl) (by kernel_rfl) (by kernel_rfl) (by kernel_rfl) (fun _ _ _ h => h) (by kernel_rfl) (by assumption) ?_
      simp only [Act.put, List.setIfInBounds_toArray, List.set_cons_zero, List.set_cons_succ]
      refine rskip (i := 19) (d := (some 107)) rfl (by kernel_rfl) (by kernel_rfl) (by kernel_rfl) (by kernel_rfl) (fun _ _ _ h => h) (by kernel_rfl) (by assumption) ?_
      simp only [Act.put, List.setIfInBounds_toArray, List.set_cons_zero, List.set_cons_succ]
      refine rskip (i := 20) (d := (some 108)) rfl (by kernel_rfl) (by kernel_rfl) (by kernel_rfl) (by kernel_rfl) (fun _ _ _ h => h) (by kernel_rfl) (by assumption) ?_
      simp only [Act.put, List.setIfInBounds_toArray, List.set_cons_zero, List.set_cons_succ]
      refine rskip (i := 21) (d := (some 109)) rfl (by kernel_rfl) (by kernel_rfl) (by kernel_rfl) (by kernel_rfl) (fun _ _ _ h => h) (by kernel_rfl) (by assumption) ?_
      simp only [Act.put, List.setIfInBounds_toArray, List.set_cons_zero, List.set_cons_succ]
      refine rcall (i := 22) (d := (some 110)) (by kernel_rfl) rfl (by kernel_rfl) (fun K hK => ?_)
      rw [if_neg (by rw [show Region.wanted _ _ = false by kernel_rfl]; decide)]
      refine hK.out _ _ ?hS (fun hHeld => ?_)
      case hS => exact hHeld
      clear hK K
      simp only [Act.put, List.setIfInBounds_toArray, List.set_cons_zero, List.set_cons_succ]
      refine rcall (i := 23) (d := (some 111)) (by kernel_rfl) rfl (by kernel_rfl) (fun K hK => ?_)
      rw [if_neg (by rw [show Region.wanted _ _ = false by kernel_rfl]; decide)]
      refine hK.out _ _ ?hS (fun hHeld => ?_)
      case hS => exact hHeld
      clear hK K
      simp only [Act.put, List.setIfInBounds_toArray, List.set_cons_zero, List.set_cons_succ]
      refine rtake (i := 24) (d := (some 112)) (v := ?_) rfl (by kernel_rfl) (by kernel_rfl) (by kernel_rfl) (by kernel_rfl) (fun _ _ _ h => h) (by kernel_rfl) (by assumption) ?_ ?_
      rotate_left 1
      · (intro wI hSI; (try dsimp only at hSI); go_simp; (try with_reducible rfl))
      simp only [Act.put, List.setIfInBounds_toArray, List.set_cons_zero, List.set_cons_succ]
      refine rtake (i := 25) (d := (some 113)) (v := ?_) rfl (by kernel_rfl) (by kernel_rfl) (by kernel_rfl) (by kernel_rfl) (fun _ _ _ h => h) (by kernel_rfl) (by assumption) ?_ ?_
      rotate_left 1
      · (intro wI hSI; (try dsimp only at hSI); go_simp; (try with_reducible rfl))
      simp only [Act.put, List.setIfInBounds_toArray, List.set_cons_zero, List.set_cons_succ]
      refine rtake (i := 26) (d := (some 114)) (v := ?_) rfl (by kernel_rfl) (by kernel_rfl) (by kernel_rfl) (by kernel_rfl) (fun _ _ _ h => h) (by kernel_rfl) (by assumption) ?_ ?_
      rotate_left 1
      · (intro wI hSI; (try dsimp only at hSI); go_simp; (try with_reducible rfl))
      simp only [Act.put, List.setIfInBounds_toArray, List.set_cons_zero, List.set_cons_succ]
      refine rtake (i := 27) (d := (some 115)) (v := ?_) rfl (by kernel_rfl) (by kernel_rfl) (by kernel_rfl) (by kernel_rfl) (fun _ _ _ h => h) (by kernel_rfl) (by assumption) ?_ ?_
      rotate_left 1
      · (intro wI hSI; (try dsimp only at hSI); go_simp; (try with_reducible rfl))
      simp only [Act.put, List.setIfInBounds_toArray, List.set_cons_zero, List.set_cons_succ]
      refine rtake (i := 28) (d := (some 116)) (v := ?_) rfl (by kernel_rfl) (by kernel_rfl) (by kernel_rfl) (by kernel_rfl) (fun _ _ _ h => h) (by kernel_rfl) (by assumption) ?_ ?_
      rotate_left 1
      · (intro wI hSI; (try dsimp only at hSI); go_simp; (try with_reducible rfl))
      simp only [Act.put, List.setIfInBounds_toArray, List.set_cons_zero, List.set_cons_succ]
      refine rtake (i := 29) (d := (some 117)) (v := ?_) rfl (by kernel_rfl) (by kernel_rfl) (by kernel_rfl) (by kernel_rfl) (fun _ _ _ h => h) (by kernel_rfl) (by assumption) ?_ ?_
      rotate_left 1
      · (intro wI hSI; (try dsimp only at hSI); go_simp; (try with_reducible rfl))
      simp only [Act.put, List.setIfInBounds_toArray, List.set_cons_zero, List.set_cons_succ]
      refine rskip (i := 30) (d := (some 118)) rfl (by kernel_rfl) (by kernel_rfl) (by kernel_rfl) (by kernel_rfl) (fun _ _ _ h => h) (by kernel_rfl) (by assumption) ?_
      simp only [Act.put, List.setIfInBounds_toArray, List.set_cons_zero, List.set_cons_succ]
      refine rskip (i := 31) (d := (some 119)) rfl (by kernel_rfl) (by kernel_rfl) (by kernel_rfl) (by kernel_rfl) (fun _ _ _ h => h) (by kernel_rfl) (by assumption) ?_
      simp only [Act.put, List.setIfInBounds_toArray, List.set_cons_zero, List.set_cons_succ]
      refine rskip (i := 32) (d := (some 120)) rfl (by kernel_rfl) (by kernel_rfl) (by kernel_rfl) (by kernel_rfl) (fun _ _ _ h => h) (by kernel_rfl) (by assumption) ?_
      simp only [Act.put, List.setIfInBounds_toArray, List.set_cons_zero, List.set_cons_succ]
      refine rskip (i := 33) (d := (some 121)) rfl (by kernel_rfl) (by kernel_rfl) (by kernel_rfl) (by kernel_rfl) (fun _ _ _ h => h) (by kernel_rfl) (by assumption) ?_
      simp only [Act.put, List.setIfInBounds_toArray, List.set_cons_zero, List.set_cons_succ]
      refine rcall (i := 34) (d := (some 122)) (by kernel_rfl) rfl (by kernel_rfl) (fun K hK => ?_)
      rw [if_neg (by rw [show Region.wanted _ _ = false by kernel_rfl]; decide)]
      refine hK.out _ _ ?hS (fun hHeld => ?_)
      case hS => exact hHeld
      clear hK K
      simp only [Act.put, List.setIfInBounds_toArray, List.set_cons_zero, List.set_cons_succ]
      refine rcall (i := 35) (d := (some 123)) (by kernel_rfl) rfl (by kernel_rfl) (fun K hK => ?_)
      rw [if_neg (by rw [show Region.wanted _ _ = false by kernel_rfl]; decide)]
      refine hK.out _ _ ?hS (fun hHeld => ?_)
      case hS => exact hHeld
      clear hK K
      simp only [Act.put, List.setIfInBounds_toArray, List.set_cons_zero, List.set_cons_succ]
      refine rtake (i := 36) (d := (some 124)) (v := ?_) rfl (by kernel_rfl) (by kernel_rfl) (by kernel_rfl) (by kernel_rfl) (fun _ _ _ h => h) (by kernel_rfl) (by assumption) ?_ ?_
      rotate_left 1
      · (intro wI hSI; (try dsimp only at hSI); go_simp; (try with_reducible rfl))
      simp only [Act.put, List.setIfInBounds_toArray, List.set_cons_zero, List.set_cons_succ]
      refine rtake (i := 37) (d := (some 125)) (v := ?_) rfl (by kernel_rfl) (by kernel_rfl) (by kernel_rfl) (by kernel_rfl) (fun _ _ _ h => h) (by kernel_rfl) (by assumption) ?_ ?_
      rotate_left 1
      · (intro wI hSI; (try dsimp only at hSI); go_simp; (try with_reducible rfl))
      simp only [Act.put, List.setIfInBounds_toArray, List.set_cons_zero, List.set_cons_succ]
      refine rtake (i := 38) (d := (some 2)) (v := ?_) rfl (by kernel_rfl) (by kernel_rfl) (by kernel_rfl) (by kernel_rfl) (fun _ _ _ h => h) (by kernel_rfl) (by assumption) ?_ ?_
      rotate_left 1
      · (intro wI hSI; (try dsimp only at hSI); go_simp; (try with_reducible rfl))
      simp only [Act.put, List.setIfInBounds_toArray, List.set_cons_zero, List.set_cons_succ]
      refine wpAnyH_done (by kernel_rfl) ?_ _
      have hbF := below_next hb6 hHeld
      go_wp2_with fail
      go_ret
      exact ⟨rfl, hbF⟩
    · go_wp2_with fail
      refine (moment_any t _).mono ?_
      rintro e w6 ⟨rfl, rfl⟩
      rw [ht]
      have hE6 := hE5
      have hb6 := hbw5
      clear hE5 hbw5
      generalize W5 = W6 at *
      go_upto_region 15 with (fail)
      refine wp_region_held_drew (S := (fun wx => Below W6.heap.size W6 wx)) (by kernel_rfl) ?hS (fun hHeld => ?_)
      case hS => exact (Below.refl _ _).drew
      refine rcall (i := 0) (d := (some 88)) (by kernel_rfl) rfl (by kernel_rfl) (fun K hK => ?_)
      go_simp
      go_at_call 16; refine (submits_any _ (hE6.below hHeld)).mono ?_; rintro e w7 ⟨rfl, hb7⟩
      refine hK.out _ _ ?hS (fun hHeld => ?_)
      case hS => exact hHeld.trans (hb7.mono hHeld.size)
      clear hK K
      simp only [Act.put, List.setIfInBounds_toArray, List.set_cons_zero, List.set_cons_succ]
      refine rtake (i := 1) (d := (some 89)) (v := ?_) rfl (by kernel_rfl) (by kernel_rfl) (by kernel_rfl) (by kernel_rfl) (fun _ _ _ h => h) (by kernel_rfl) (by assumption) ?_ ?_
      rotate_left 1
      · (intro wI hSI; (try dsimp only at hSI); go_simp; (try with_reducible rfl))
      simp only [Act.put, List.setIfInBounds_toArray, List.set_cons_zero, List.set_cons_succ]
      refine rtake (i := 2) (d := (some 90)) (v := ?_) rfl (by kernel_rfl) (by kernel_rfl) (by kernel_rfl) (by kernel_rfl) (fun _ _ _ h => h) (by kernel_rfl) (by assumption) ?_ ?_
      rotate_left 1
      · (intro wI hSI; (try dsimp only at hSI); go_simp; (try with_reducible rfl))
      simp only [Act.put, List.setIfInBounds_toArray, List.set_cons_zero, List.set_cons_succ]
      refine rtake (i := 3) (d := (some 91)) (v := ?_) rfl (by kernel_rfl) (by kernel_rfl) (by kernel_rfl) (by kernel_rfl) (fun _ _ _ h => h) (by kernel_rfl) (by assumption) ?_ ?_
      rotate_left 1
      · (intro wI hSI; (try dsimp only at hSI); go_simp; (try with_reducible rfl))
      simp only [Act.put, List.setIfInBounds_toArray, List.set_cons_zero, List.set_cons_succ]
      refine rtake (i := 4) (d := (some 92)) (v := ?_) rfl (by kernel_rfl) (by kernel_rfl) (by kernel_rfl) (by kernel_rfl) (fun _ _ _ h => h) (by kernel_rfl) (by assumption) ?_ ?_
      rotate_left 1
      · (intro wI hSI; (try dsimp only at hSI); go_simp; (try with_reducible rfl))
      simp only [Act.put, List.setIfInBounds_toArray, List.set_cons_zero, List.set_cons_succ]
      refine rskip (i := 5) (d := (some 93)) rfl (by kernel_rfl) (by kernel_rfl) (by kernel_rfl) (by kernel_rfl) (fun _ _ _ h => h) (by kernel_rfl) (by assumption) ?_
      simp only [Act.put, List.setIfInBounds_toArray, List.set_cons_zero, List.set_cons_succ]
      refine rskip (i := 6) (d := (some 94)) rfl (by kernel_rfl) (by kernel_rfl) (by kernel_rfl) (by kernel_rfl) (fun _ _ _ h => h) (by kernel_rfl) (by assumption) ?_
      simp only [Act.put, List.setIfInBounds_toArray, List.set_cons_zero, List.set_cons_succ]
      refine rskip (i := 7) (d := (some 95)) rfl (by kernel_rfl) (by kernel_rfl) (by kernel_rfl) (by kernel_rfl) (fun _ _ _ h => h) (by kernel_rfl) (by assumption) ?_
      simp only [Act.put, List.setIfInBounds_toArray, List.set_cons_zero, List.set_cons_succ]
      refine rskip (i := 8) (d := (some 96)) rfl (by kernel_rfl) (by kernel_rfl) (by kernel_rfl) (by kernel_rfl) (fun _ _ _ h => h) (by kernel_rfl) (by assumption) ?_
      simp only [Act.put, List.setIfInBounds_toArray, List.set_cons_zero, List.set_cons_succ]
      refine rskip (i := 9) (d := (some 97)) rfl (by kernel_rfl) (by kernel_rfl) (by kernel_rfl) (by kernel_rfl) (fun _ _ _ h => h) (by kernel_rfl) (by assumption) ?_
      simp only [Act.put, List.setIfInBounds_toArray, List.set_cons_zero, List.set_cons_succ]
      refine rcall (i := 10) (d := (some 98)) (by kernel_rfl) rfl (by kernel_rfl) (fun K hK => ?_)
      rw [if_neg (by rw [show Region.wanted _ _ = false by kernel_rfl]; decide)]
      refine hK.out _ _ ?hS (fun hHeld => ?_)
      case hS => exact hHeld
      clear hK K
      simp only [Act.put, List.setIfInBounds_toArray, List.set_cons_zero, List.set_cons_succ]
      refine rskip (i := 11) (d := (some 99)) rfl (by kernel_rfl) (by kernel_rfl) (by kernel_rfl) (by kernel_rfl) (fun _ _ _ h => h) (by kernel_rfl) (by assumption) ?_
      simp only [Act.put, List.setIfInBounds_toArray, List.set_cons_zero, List.set_cons_succ]
      refine rtake (i := 12) (d := (some 100)) (v := ?_) rfl (by kernel_rfl) (by kernel_rfl) (by kernel_rfl) (by kernel_rfl) (fun _ _ _ h => h) (by kernel_rfl) (by assumption) ?_ ?_
      rotate_left 1
      · (intro wI hSI; (try dsimp only at hSI); go_simp; (try with_reducible rfl))
      simp only [Act.put, List.setIfInBounds_toArray, List.set_cons_zero, List.set_cons_succ]
      refine rtake (i := 13) (d := (some 101)) (v := ?_) rfl (by kernel_rfl) (by kernel_rfl) (by kernel_rfl) (by kernel_rfl) (fun _ _ _ h => h) (by kernel_rfl) (by assumption) ?_ ?_
      rotate_left 1
      · (intro wI hSI; (try dsimp only at hSI); go_simp; (try with_reducible rfl))
      simp only [Act.put, List.setIfInBounds_toArray, List.set_cons_zero, List.set_cons_succ]
      refine rtake (i := 14) (d := (some 102)) (v := ?_) rfl (by kernel_rfl) (by kernel_rfl) (by kernel_rfl) (by kernel_rfl) (fun _ _ _ h => h) (by kernel_rfl) (by assumption) ?_ ?_
      rotate_left 1
      · (intro wI hSI; (try dsimp only at hSI); go_simp; (try with_reducible rfl))
      simp only [Act.put, List.setIfInBounds_toArray, List.set_cons_zero, List.set_cons_succ]
      refine rtake (i := 15) (d := (some 103)) (v := ?_) rfl (by kernel_rfl) (by kernel_rfl) (by kernel_rfl) (by kernel_rfl) (fun _ _ _ h => h) (by kernel_rfl) (by assumption) ?_ ?_
      rotate_left 1
      · (intro wI hSI; (try dsimp only at hSI); go_simp; (try with_reducible rfl))
      simp only [Act.put, List.setIfInBounds_toArray, List.set_cons_zero, List.set_cons_succ]
      refine rtake (i := 16) (d := (some 104)) (v := ?_) rfl (by kernel_rfl) (by kernel_rfl) (by kernel_rfl) (by kernel_rfl) (fun _ _ _ h => h) (by kernel_rfl) (by assumption) ?_ ?_
      rotate_left 1
      · (intro wI hSI; (try dsimp only at hSI); go_simp; (try with_reducible rfl))
      simp only [Act.put, List.setIfInBounds_toArray, List.set_cons_zero, List.set_cons_succ]
      refine rtake (i := 17) (d := (some 105)) (v := ?_) rfl (by kernel_rfl) (by kernel_rfl) (by kernel_rfl) (by kernel_rfl) (fun _ _ _ h => h) (by kernel_rfl) (by assumption) ?_ ?_
      rotate_left 1
      · (intro wI hSI; (try dsimp only at hSI); go_simp; (try with_reducible rfl))
      simp only [Act.put, List.setIfInBounds_toArray, List.set_cons_zero, List.set_cons_succ]
      refine rskip (i := 18) (d := (some 106)) rfl (by kernel_rfl) (by kernel_rfl) (by kernel_rfl) (by kernel_rfl) (fun _ _ _ h => h) (by kernel_rfl) (by assumption) ?_
      simp only [Act.put, List.setIfInBounds_toArray, List.set_cons_zero, List.set_cons_succ]
      refine rskip (i := 19) (d := (some 107)) rfl (by kernel_rfl) (by kernel_rfl) (by kernel_rfl) (by kernel_rfl) (fun _ _ _ h => h) (by kernel_rfl) (by assumption) ?_
      simp only [Act.put, List.setIfInBounds_toArray, List.set_cons_zero, List.set_cons_succ]
      refine rskip (i := 20) (d := (some 108)) rfl (by kernel_rfl) (by kernel_rfl) (by kernel_rfl) (by kernel_rfl) (fun _ _ _ h => h) (by kernel_rfl) (by assumption) ?_
      simp only [Act.put, List.setIfInBounds_toArray, List.set_cons_zero, List.set_cons_succ]
      refine rskip (i := 21) (d := (some 109)) rfl (by kernel_rfl) (by kernel_rfl) (by kernel_rfl) (by kernel_rfl) (fun _ _ _ h => h) (by kernel_rfl) (by assumption) ?_
      simp only [Act.put, List.setIfInBounds_toArray, List.set_cons_zero, List.set_cons_succ]
      refine rcall (i := 22) (d := (some 110)) (by kernel_rfl) rfl (by kernel_rfl) (fun K hK => ?_)
      rw [if_neg (by rw [show Region.wanted _ _ = false by kernel_rfl]; decide)]
      refine hK.out _ _ ?hS (fun hHeld => ?_)
      case hS => exact hHeld
      clear hK K
      simp only [Act.put, List.setIfInBounds_toArray, List.set_cons_zero, List.set_cons_succ]
      refine rcall (i := 23) (d := (some 111)) (by kernel_rfl) rfl (by kernel_rfl) (fun K hK => ?_)
      rw [if_neg (by rw [show Region.wanted _ _ = false by kernel_rfl]; decide)]
      refine hK.out _ _ ?hS (fun hHeld => ?_)
      case hS => exact hHeld
      clear hK K
      simp only [Act.put, List.setIfInBounds_toArray, List.set_cons_zero, List.set_cons_succ]
      refine rtake (i := 24) (d := (some 112)) (v := ?_) rfl (by kernel_rfl) (by kernel_rfl) (by kernel_rfl) (by kernel_rfl) (fun _ _ _ h => h) (by kernel_rfl) (by assumption) ?_ ?_
      rotate_left 1
      · (intro wI hSI; (try dsimp only at hSI); go_simp; (try with_reducible rfl))
      simp only [Act.put, List.setIfInBounds_toArray, List.set_cons_zero, List.set_cons_succ]
      refine rtake (i := 25) (d := (some 113)) (v := ?_) rfl (by kernel_rfl) (by kernel_rfl) (by kernel_rfl) (by kernel_rfl) (fun _ _ _ h => h) (by kernel_rfl) (by assumption) ?_ ?_
      rotate_left 1
      · (intro wI hSI; (try dsimp only at hSI); go_simp; (try with_reducible rfl))
      simp only [Act.put, List.setIfInBounds_toArray, List.set_cons_zero, List.set_cons_succ]
      refine rtake (i := 26) (d := (some 114)) (v := ?_) rfl (by kernel_rfl) (by kernel_rfl) (by kernel_rfl) (by kernel_rfl) (fun _ _ _ h => h) (by kernel_rfl) (by assumption) ?_ ?_
      rotate_left 1
      · (intro wI hSI; (try dsimp only at hSI); go_simp; (try with_reducible rfl))
      simp only [Act.put, List.setIfInBounds_toArray, List.set_cons_zero, List.set_cons_succ]
      refine rtake (i := 27) (d := (some 115)) (v := ?_) rfl (by kernel_rfl) (by kernel_rfl) (by kernel_rfl) (by kernel_rfl) (fun _ _ _ h => h) (by kernel_rfl) (by assumption) ?_ ?_
      rotate_left 1
      · (intro wI hSI; (try dsimp only at hSI); go_simp; (try with_reducible rfl))
      simp only [Act.put, List.setIfInBounds_toArray, List.set_cons_zero, List.set_cons_succ]
      refine rtake (i := 28) (d := (some 116)) (v := ?_) rfl (by kernel_rfl) (by kernel_rfl) (by kernel_rfl) (by kernel_rfl) (fun _ _ _ h => h) (by kernel_rfl) (by assumption) ?_ ?_
      rotate_left 1
      · (intro wI hSI; (try dsimp only at hSI); go_simp; (try with_reducible rfl))
      simp only [Act.put, List.setIfInBounds_toArray, List.set_cons_zero, List.set_cons_succ]
      refine rtake (i := 29) (d := (some 117)) (v := ?_) rfl (by kernel_rfl) (by kernel_rfl) (by kernel_rfl) (by kernel_rfl) (fun _ _ _ h => h) (by kernel_rfl) (by assumption) ?_ ?_
      rotate_left 1
      · (intro wI hSI; (try dsimp only at hSI); go_simp; (try with_reducible rfl))
      simp only [Act.put, List.setIfInBounds_toArray, List.set_cons_zero, List.set_cons_succ]
      refine rskip (i := 30) (d := (some 118)) rfl (by kernel_rfl) (by kernel_rfl) (by kernel_rfl) (by kernel_rfl) (fun _ _ _ h => h) (by kernel_rfl) (by assumption) ?_
      simp only [Act.put, List.setIfInBounds_toArray, List.set_cons_zero, List.set_cons_succ]
      refine rskip (i := 31) (d := (some 119)) rfl (by kernel_rfl) (by kernel_rfl) (by kernel_rfl) (by kernel_rfl) (fun _ _ _ h => h) (by kernel_rfl) (by assumption) ?_
      simp only [Act.put, List.setIfInBounds_toArray, List.set_cons_zero, List.set_cons_succ]
      refine rskip (i := 32) (d := (some 120)) rfl (by kernel_rfl) (by kernel_rfl) (by kernel_rfl) (by kernel_rfl) (fun _ _ _ h => h) (by kernel_rfl) (by assumption) ?_
      simp only [Act.put, List.setIfInBounds_toArray, List.set_cons_zero, List.set_cons_succ]
      refine rskip (i := 33) (d := (some 121)) rfl (by kernel_rfl) (by kernel_rfl) (by kernel_rfl) (by kernel_rfl) (fun _ _ _ h => h) (by kernel_rfl) (by assumption) ?_
      simp only [Act.put, List.setIfInBounds_toArray, List.set_cons_zero, List.set_cons_succ]
      refine rcall (i := 34) (d := (some 122)) (by kernel_rfl) rfl (by kernel_rfl) (fun K hK => ?_)
      rw [if_neg (by rw [show Region.wanted _ _ = false by kernel_rfl]; decide)]
      refine hK.out _ _ ?hS (fun hHeld => ?_)
      case hS => exact hHeld
      clear hK K
      simp only [Act.put, List.setIfInBounds_toArray, List.set_cons_zero, List.set_cons_succ]
      refine rcall (i := 35) (d := (some 123)) (by kernel_rfl) rfl (by kernel_rfl) (fun K hK => ?_)
      rw [if_neg (by rw [show Region.wanted _ _ = false by kernel_rfl]; decide)]
      refine hK.out _ _ ?hS (fun hHeld => ?_)
      case hS => exact hHeld
      clear hK K
      simp only [Act.put, List.setIfInBounds_toArray, List.set_cons_zero, List.set_cons_succ]
      refine rtake (i := 36) (d := (some 124)) (v := ?_) rfl (by kernel_rfl) (by kernel_rfl) (by kernel_rfl) (by kernel_rfl) (fun _ _ _ h => h) (by kernel_rfl) (by assumption) ?_ ?_
      rotate_left 1
      · (intro wI hSI; (try dsimp only at hSI); go_simp; (try with_reducible rfl))
      simp only [Act.put, List.setIfInBounds_toArray, List.set_cons_zero, List.set_cons_succ]
      refine rtake (i := 37) (d := (some 125)) (v := ?_) rfl (by kernel_rfl) (by kernel_rfl) (by kernel_rfl) (by kernel_rfl) (fun _ _ _ h => h) (by kernel_rfl) (by assumption) ?_ ?_
      rotate_left 1
      · (intro wI hSI; (try dsimp only at hSI); go_simp; (try with_reducible rfl))
      simp only [Act.put, List.setIfInBounds_toArray, List.set_cons_zero, List.set_cons_succ]
      refine rtake (i := 38) (d := (some 2)) (v := ?_) rfl (by kernel_rfl) (by kernel_rfl) (by kernel_rfl) (by kernel_rfl) (fun _ _ _ h => h) (by kernel_rfl) (by assumption) ?_ ?_
      rotate_left 1
      · (intro wI hSI; (try dsimp only at hSI); go_simp; (try with_reducible rfl))
      simp only [Act.put, List.setIfInBounds_toArray, List.set_cons_zero, List.set_cons_succ]
      refine wpAnyH_done (by kernel_rfl) ?_ _
      have hbF := below_next hb6 hHeld
      go_wp2_with fail
      go_ret
      exact ⟨rfl, hbF⟩
end Go.Proofs.YtifflpilnpcmoaaGreatDoor.papersStated
