/- For every list of raw numbers, MarksChecked returns true. The walk. -/
import Derived.Test.YtibchcdcpcjgnaaGreatDoorMakeMark2
import Derived.Test.YtibchcdcpcjgnaaGreatDoorScore4
namespace Go.Proofs.YtibchcdcpcjgnaaGreatDoor.marksChecked
open Go.RowKit
set_option linter.unusedVariables false
set_option linter.unusedSimpArgs false

theorem any_keys (l : List Mark) (p : ByteArray) : (keysOf (fun x => x.1) l).any (fun y => decide (y = p)) = !decide (sel (fun x => x.1) p l = []) := by
  rw [Bool.eq_iff_iff, List.any_eq_true]
  simp only [decide_eq_true_eq, Bool.not_eq_true', decide_eq_false_iff_not, sel_nil]
  constructor
  · rintro ⟨y, hy, rfl⟩ h
    exact h ((keysOf_mem _ _ _).1 hy)
  · intro h
    exact ⟨p, (keysOf_mem _ _ _).2 (Classical.not_not.1 h), rfl⟩

set_option maxRecDepth 100000 in
set_option maxHeartbeats 8000000 in
theorem walk (a0 : Option Addr) (len0 cap0 : Nat) (z0 : List Int) (w : World) (w0 : IsRow .i64 w a0 len0 cap0 z0) :
    Calls Tryz.prog 3 #[.slice a0 len0 cap0] w fun e w' => e = .returned (.bool true) ∧ Below w.heap.size w w' := by
  have hs := strm_new w0
  go_enter Tryz.func3, Tryz.ntmps3
  go_wp2_with fail
  refine (anyMarks_any w.heap.size 0 _ hs (by omega)).mono ?_
  rintro e w1 ⟨l, v, rfl, hown, hlen, hsm, h1, s1⟩
  have hz1 := h1.size
  simp at hz1
  obtain ⟨a, cap, rfl, hsa, hbl, _⟩ := hown.sa
  have hst1 : Stp w.heap.size w w1 := ((Stp.refl _ w).alloc _).trans h1
  have HnS : Hid (∀ x : Addr, a = some x → x.block ≠ w.heap.size) := fun x hx => by have := hbl x hx; simp at this; omega
  have Hsm := Lib.hid hsm
  clear w0 hs hown hbl h1 hsm
  go_wp2_with fail
  refine (MarkPaper_any w.heap.size (0 + 2 + 1000) _ s1 (by omega)).mono ?_
  rintro e w2 ⟨p, hp, rfl, h2, s2⟩
  have hz2 := h2.size
  have hsa2 := hsa.stp h2 HnS.out
  have hst2 := hst1.trans h2
  clear hsa hst1 h2 s1
  go_wp2_with fail
  refine (flip_any w.heap.size (0 + 2 + 1000 + 1) 10 _ s2 (by omega) (by omega) (by omega)).mono ?_
  rintro e w3 ⟨fl, rfl, h3, s3⟩
  have hz3 := h3.size
  have hsa3 := hsa2.stp h3 HnS.out
  have hst3 := hst2.trans h3
  clear hsa2 hst2 h3 s2
  go_upto_if 25 with (fail)
  go_cut [4] (fun v wx => ∃ (l : List Mark) (a : Option Addr) (cap : Nat), v = .slice a l.length cap ∧ l.length ≤ 400 ∧ Hid (∀ x ∈ l, SmallM x) ∧ ∃ W', W' = wx ∧ SA W' a l ∧ Below w.heap.size w W')
  case first =>
    cases fl
    · go_wp2_with fail
      go_meet
      exact ⟨l, a, cap, rfl, hlen, Hsm, _, rfl, hsa3, by have := hst3.below; rw [Nat.min_self] at this; exact this⟩
    · go_wp2_with fail
      refine (marks_any w.heap.size (0 + 2 + 1000 + 1 + 1) 2 16 _ s3 (by omega) (by omega) (by omega)).mono ?_
      rintro e w4 ⟨l', v', rfl, hown', hlen', hsm', h4, s4⟩
      obtain ⟨a', cap', rfl, hsa', hbl', _⟩ := hown'.sa
      have hst4 := hst3.trans h4
      have Hsm' := Lib.hid hsm'
      clear hsm'
      go_wp2_with fail
      go_meet
      exact ⟨l', a', cap', rfl, hlen', Hsm', _, rfl, hsa', by have := hst4.below; rw [Nat.min_self] at this; exact this⟩
  case rest =>
    clear hsa3 hst3 s3 hlen Hsm HnS
    obtain ⟨l, a, cap, rfl, hlen, Hsm, W0, rfl, hsa, hbW⟩ := hcut
    have Hks : Hid (∀ x ∈ l, x.1.size ≤ 1000 ∧ x.2.1.size ≤ 1000) := fun x hx => ⟨(Hsm.out x hx).1, (Hsm.out x hx).2.1⟩
    go_wp2_with fail
    refine (marksFault_any l a cap _ hsa (by omega) Hks.out).mono ?_
    rintro e w4 ⟨rfl, hb4⟩
    have hsa4 := hsa.below hb4
    have hbw4 := below_next hbW hb4
    clear hsa hbW hb4
    have HC := Lib.hid (fun W (h : SA W a l) => checkMarks_any l a cap W h (by omega) Hks.out)
    have HP := Lib.hid (fun W (h : SA W a l) => papersOf_any l a cap W h (by omega) Hks.out)
    have HQ := Lib.hid (fun W (h : SA W a l) => peopleOf_any l a cap W h (by omega) Hks.out)
    have HM := Lib.hid (fun W (h : SA W a l) => meanP_any l a cap p W h (by omega) Hks.out)
    have HD := Lib.hid (fun W (h : SA W a l) => medianP_any l a cap p W h (by omega) Hks.out)
    have HS := Lib.hid (fun W (h : SA W a l) => spreadP_any l a cap p W h (by omega) Hks.out)
    have HE1 : Hid (marksFault l ≠ 0 → ofE l p = marksFault l) := fun h => by unfold ofE; rw [if_pos h]
    have HE2 : Hid (marksFault l = 0 → ofE l p = if sel (fun x => x.1) p l = [] then 8 else 0) := fun h => by unfold ofE; rw [if_neg (by simpa using h)]
    have HMN : Hid (ofE l p = 0 → meanN l p = lowN (sum1 (sel (fun x => x.1) p l)) (sel (fun x => x.1) p l).length ∧ meanD l p = lowD (sum1 (sel (fun x => x.1) p l)) (sel (fun x => x.1) p l).length) := fun h => by unfold meanN meanD; rw [if_pos h, if_pos h]; exact ⟨rfl, rfl⟩
    generalize hmed : (if ofE l p = 0 then medI (sortI (scL (sel (fun x => x.1) p l))) else 0) = med at *
    generalize hspn : (if ofE l p = 0 then sprN (sel (fun x => x.1) p l) else 0) = spn at *
    generalize hspd : (if ofE l p = 0 then sprD (sel (fun x => x.1) p l) else 0) = spd at *
    have Hmed := Lib.hid hmed
    have Hspn := Lib.hid hspn
    have Hspd := Lib.hid hspd
    have Hok : Hid (marksFault l = 0 → okScores l) := fun h => fault_scores h
    clear hmed hspn hspd
    generalize meanN l p = mn at *
    generalize meanD l p = md at *
    generalize ofE l p = oe at *
    generalize marksFault l = pf at *
    have hnn : (pf != pf) = false := by simp
    go_wp2_with fail
    refine (HC.out _ hsa4).mono ?_
    rintro e w5 ⟨rfl, hb5⟩
    have hsa5 := hsa4.below hb5
    have hbw5 := below_next hbw4 hb5
    clear hsa4 hbw4 hb5
    go_wp2_with fail
    refine (HP.out _ hsa5).mono ?_
    rintro e w6 ⟨hb6, pa, pl, pc, rfl, hpl, hpa⟩
    have hsa6 := hsa5.below hb6
    have hbw6 := below_next hbw5 hb6
    clear hsa5 hbw5 hb6
    go_wp2_with fail
    refine (HQ.out _ hsa6).mono ?_
    rintro e w7 ⟨hb7, qa, ql, qc, rfl, hql, hqa⟩
    have hsa7 := hsa6.below hb7
    have hbw7 := below_next hbw6 hb7
    have Hpa7 : Hid (pf = 0 → pl = (keysOf (fun x => x.1) l).length ∧ SA w7 pa (keysOf (fun x => x.1) l)) := fun h => ⟨(hpa h).1, (hpa h).2.below hb7⟩
    have Hqa7 := Lib.hid hqa
    clear hsa6 hbw6 hb7 hpa hqa
    go_wp2_with fail
    refine (HM.out _ hsa7).mono ?_
    rintro e w8 ⟨rfl, hb8⟩
    have hsa8 := hsa7.below hb8
    have hbw8 := below_next hbw7 hb8
    have hz8 := hbw8.size
    have hX8 := Box.new w8 37 #[.int .i64 mn, .int .i64 md]
    clear hsa7 hbw7
    go_wp2_with fail
    refine (HD.out _ (hsa8.alloc _)).mono ?_
    rintro e w9 ⟨rfl, hb9⟩
    have hsa9 := (hsa8.alloc _).below hb9
    have hX9 := hX8.below hb9
    have hbw9 := below_next (hbw8.alloc (by omega) _) hb9
    have hb79 := below_next (hb8.alloc (by have := hb8.size; omega) _) hb9
    have hz9 := hb9.size
    simp at hz9
    clear hsa8 hX8 hbw8 hb8 hb9
    go_wp2_with fail
    refine (HS.out _ hsa9).mono ?_
    rintro e w10 ⟨rfl, hb10⟩
    have hX10 := (hX9.below hb10).alloc (.cells #[.int .i64 spn, .int .i64 spd] 37)
    have hY10 := Box.new w10 37 #[.int .i64 spn, .int .i64 spd]
    have hsa10 := (hsa9.below hb10).alloc (.cells #[.int .i64 spn, .int .i64 spd] 37)
    have hz10 := hb10.size
    have hz79 := hb79.size
    have hbw10 := (below_next hbw9 hb10).alloc (by omega) (.cells #[.int .i64 spn, .int .i64 spd] 37)
    have hb710 := (below_next hb79 hb10).alloc (by omega) (.cells #[.int .i64 spn, .int .i64 spd] 37)
    clear hX9 hsa9 hbw9 hb79 hb10 HC HP HQ HM HD HS
    by_cases h0 : pf = 0
    · subst h0
      have Hoe := HE2.out rfl
      have HOe := Lib.hid Hoe
      have hok := Hok.out rfl
      obtain ⟨rfl, hpa⟩ := Hpa7.out rfl
      obtain ⟨rfl, hqa⟩ := Hqa7.out rfl
      have hpa10 := hpa.below hb710
      have hqa10 := hqa.below hb710
      have HMP := Lib.hid (fun W (h : SA W a l) => MarkedPapers_any l a cap W h (by omega))
      have HMK := Lib.hid (fun W (h : SA W a l) => Markers_any l a cap W h (by omega))
      have Hany := Lib.hid (any_keys l p)
      have HNE : Hid (sel (fun x => x.1) p l ≠ [] → ∀ W, SA W a l → Calls Tryz.prog 26 #[.slice a l.length cap, .string p] W (Gives (.agg #[.int .i64 mn, .int .i64 md]) W) ∧ Calls Tryz.prog 27 #[.slice a l.length cap, .string p] W (Gives (.int .i64 med) W) ∧ Calls Tryz.prog 28 #[.slice a l.length cap, .string p] W (Gives (.agg #[.int .i64 spn, .int .i64 spd]) W)) := fun hne W h => by
        rw [if_neg hne] at Hoe
        have hmn := HMN.out Hoe
        have h1 := meanOf_any l a cap p W h (by omega) hok hne
        have h2 := medianOf_any l a cap p W h (by omega) hok hne
        have h3 := spreadOf_any l a cap p W h (by omega) hok hne
        have e1 := Hmed.out
        have e2 := Hspn.out
        have e3 := Hspd.out
        rw [if_pos Hoe] at e1 e2 e3
        rw [← e1, ← e2, ← e3, hmn.1, hmn.2]
        exact ⟨h1, h2, h3⟩
      have Heb : Hid ((sel (fun x => x.1) p l = [] ∧ oe = 8) ∨ (sel (fun x => x.1) p l ≠ [] ∧ oe = 0)) := by
        by_cases h : sel (fun x => x.1) p l = []
        · exact .inl ⟨h, by rw [Hoe, if_pos h]⟩
        · exact .inr ⟨h, by rw [Hoe, if_neg h]⟩
      clear Hoe HOe HE1 HE2 HMN Hmed Hspn Hspd Hok Hpa7 Hqa7 hpa hqa hok hb710
      generalize sel (fun x => x.1) p l = ms at *
      have hk1 := keysOf_length (fun x => x.1) l
      have hk2 := keysOf_length (fun x => x.2.1) l
      generalize keysOf (fun x => x.1) l = ks1 at *
      generalize keysOf (fun x => x.2.1) l = ks2 at *
      go_wp2_with fail
      generalize w10.alloc (.cells #[.int .i64 spn, .int .i64 spd] 37) = W10 at *
      generalize w10.heap.size = n10 at *
      generalize w8.heap.size = n8 at *
      refine (HMP.out _ hsa10).mono ?_
      rintro e w11 ⟨v11, rfl, hown11, hb11⟩
      obtain ⟨pa1, pc1, rfl, hpa1, _, _⟩ := hown11.sa
      have hpa11 := hpa10.below hb11
      clear hown11 hpa10
      go_wp2_with fail
      refine (equal_any ks1 ks1 pa pa1 pc pc1 _ hpa11 hpa1 (by omega) (by omega)).mono ?_
      rintro e w12 ⟨rfl, n12, rfl⟩
      rw [decide_eq_true (rfl : ks1 = ks1)]
      have hsa12 := (hsa10.below hb11).drewN n12
      have hqa12 := (hqa10.below hb11).drewN n12
      have hb12 := below_drewN hb11 n12
      clear hb11 hpa11 hpa1 hsa10 hqa10
      go_wp2_with fail
      refine (HMK.out _ hsa12).mono ?_
      rintro e w13 ⟨v13, rfl, hown13, hb13⟩
      obtain ⟨qa1, qc1, rfl, hqa1, _, _⟩ := hown13.sa
      have hqa13 := hqa12.below hb13
      clear hown13 hqa12
      go_wp2_with fail
      refine (equal_any ks2 ks2 qa qa1 qc qc1 _ hqa13 hqa1 (by omega) (by omega)).mono ?_
      rintro e w14 ⟨rfl, n14, rfl⟩
      rw [decide_eq_true (rfl : ks2 = ks2)]
      have hsa14 := (hsa12.below hb13).drewN n14
      have hb14 := below_drewN (below_next hb12 hb13) n14
      clear hqa13 hqa1 hsa12 hb13 hb12
      go_wp2_with fail
      refine (HMP.out _ hsa14).mono ?_
      rintro e w15 ⟨v15, rfl, hown15, hb15⟩
      obtain ⟨pa2, pc2, rfl, hpa2, _, _⟩ := hown15.sa
      have hsa15 := hsa14.below hb15
      have hb1015 := below_next hb14 hb15
      clear hown15 hsa14 hb14 hb15
      go_wp2_with fail
      refine (contains_any ks1 pa2 pc2 p _ hpa2 (by omega)).mono ?_
      rintro e w16 ⟨rfl, rfl⟩
      rw [Hany.out]
      rcases Heb.out with ⟨hms, rfl⟩ | ⟨hms, rfl⟩
      · rw [decide_eq_true hms]
        have hbz := below_next hbw10 hb1015
        go_wp2_with fail
        refine (scores_any _).mono ?_
        rintro e w17 ⟨rfl, hb17⟩
        go_wp2_with fail
        go_ret
        exact ⟨rfl, below_next hbz hb17⟩
      · rw [decide_eq_false hms]
        have HNE2 := Lib.hid (HNE.out hms)
        have hX := hX10.below hb1015
        have hY := hY10.below hb1015
        have hbz := below_next hbw10 hb1015
        clear HNE Heb Hany hX10 hY10 hbw10 hb1015 hms HMP HMK hpa2
        have hX_l := hX.lt; have hX_0 := hX.cell 0; have hX_1 := hX.cell 1; simp at hX_0 hX_1
        have hY_l := hY.lt; have hY_0 := hY.cell 0; have hY_1 := hY.cell 1; simp at hY_0 hY_1
        have hq1 : (mn == mn) = true := by simp
        have hq2 : (md == md) = true := by simp
        have hq3 : (spn == spn) = true := by simp
        have hq4 : (spd == spd) = true := by simp
        have hq5 : (med == med) = true := by simp
        go_wp2_with fail
        refine wp_region_held_drew (S := (fun wx => wx.cell? ⟨n8, 0, none⟩ = some (.int .i64 mn) ∧ wx.cell? ⟨n8, 1, none⟩ = some (.int .i64 md) ∧ wx.cell? ⟨n10, 0, none⟩ = some (.int .i64 spn) ∧ wx.cell? ⟨n10, 1, none⟩ = some (.int .i64 spd) ∧ Below w15.heap.size w15 wx)) (by kernel_rfl) ?hS (fun hHeld => ?_)
        case hS => exact ⟨hX_0, hX_1, hY_0, hY_1, (Below.refl _ _).drew⟩
        refine rcall (i := 0) (d := (some 128)) (by kernel_rfl) rfl (by kernel_rfl) (fun K hK => ?_)
        go_simp
        go_at_call 21; refine (scores_any _).mono ?_; rintro e wa ⟨rfl, hba⟩
        refine hK.out _ _ ?hS (fun hHeld => ?_)
        case hS => exact ⟨cell_later hba hHeld.1, cell_later hba hHeld.2.1, cell_later hba hHeld.2.2.1, cell_later hba hHeld.2.2.2.1, below_next hHeld.2.2.2.2 hba⟩
        clear hK K
        simp only [Act.put, List.setIfInBounds_toArray, List.set_cons_zero, List.set_cons_succ]
        refine rtake (i := 1) (d := (some 129)) (v := ?_) rfl (by kernel_rfl) (by kernel_rfl) (by kernel_rfl) (by kernel_rfl) (fun _ _ _ h => h) (by kernel_rfl) (by assumption) ?_ ?_
        rotate_left 1
        · (intro wI hSI; (try dsimp only at hSI); go_simp; (try with_reducible rfl))
        simp only [Act.put, List.setIfInBounds_toArray, List.set_cons_zero, List.set_cons_succ]
        refine rtake (i := 2) (d := (some 130)) (v := ?_) rfl (by kernel_rfl) (by kernel_rfl) (by kernel_rfl) (by kernel_rfl) (fun _ _ _ h => h) (by kernel_rfl) (by assumption) ?_ ?_
        rotate_left 1
        · (intro wI hSI; (try dsimp only at hSI); go_simp; (try with_reducible rfl))
        simp only [Act.put, List.setIfInBounds_toArray, List.set_cons_zero, List.set_cons_succ]
        refine rtake (i := 3) (d := (some 131)) (v := ?_) rfl (by kernel_rfl) (by kernel_rfl) (by kernel_rfl) (by kernel_rfl) (fun _ _ _ h => h) (by kernel_rfl) (by assumption) ?_ ?_
        rotate_left 1
        · (intro wI hSI; (try dsimp only at hSI); go_simp; (try with_reducible rfl))
        simp only [Act.put, List.setIfInBounds_toArray, List.set_cons_zero, List.set_cons_succ]
        refine rtake (i := 4) (d := (some 132)) (v := ?_) rfl (by kernel_rfl) (by kernel_rfl) (by kernel_rfl) (by kernel_rfl) (fun _ _ _ h => h) (by kernel_rfl) (by assumption) ?_ ?_
        rotate_left 1
        · (intro wI hSI; (try dsimp only at hSI); go_simp; (try with_reducible rfl))
        simp only [Act.put, List.setIfInBounds_toArray, List.set_cons_zero, List.set_cons_succ]
        refine rtake (i := 5) (d := (some 133)) (v := ?_) rfl (by kernel_rfl) (by kernel_rfl) (by kernel_rfl) (by kernel_rfl) (fun _ _ _ h => h) (by kernel_rfl) (by assumption) ?_ ?_
        rotate_left 1
        · (intro wI hSI; (try dsimp only at hSI); go_simp; (try with_reducible rfl))
        simp only [Act.put, List.setIfInBounds_toArray, List.set_cons_zero, List.set_cons_succ]
        refine rtake (i := 6) (d := (some 134)) (v := ?_) rfl (by kernel_rfl) (by kernel_rfl) (by kernel_rfl) (by kernel_rfl) (fun _ _ _ h => h) (by kernel_rfl) (by assumption) ?_ ?_
        rotate_left 1
        · (intro wI hSI; (try dsimp only at hSI); go_simp; (try with_reducible rfl))
        simp only [Act.put, List.setIfInBounds_toArray, List.set_cons_zero, List.set_cons_succ]
        refine rtake (i := 7) (d := (some 135)) (v := ?_) rfl (by kernel_rfl) (by kernel_rfl) (by kernel_rfl) (by kernel_rfl) (fun _ _ _ h => h) (by kernel_rfl) (by assumption) ?_ ?_
        rotate_left 1
        · (intro wI hSI; (try dsimp only at hSI); go_simp; (try with_reducible rfl))
        simp only [Act.put, List.setIfInBounds_toArray, List.set_cons_zero, List.set_cons_succ]
        refine rtake (i := 8) (d := (some 136)) (v := ?_) rfl (by kernel_rfl) (by kernel_rfl) (by kernel_rfl) (by kernel_rfl) (fun _ _ _ h => h) (by kernel_rfl) (by assumption) ?_ ?_
        rotate_left 1
        · (intro wI hSI; (try dsimp only at hSI); go_simp; (try with_reducible rfl))
        simp only [Act.put, List.setIfInBounds_toArray, List.set_cons_zero, List.set_cons_succ]
        refine rtake (i := 9) (d := (some 137)) (v := ?_) rfl (by kernel_rfl) (by kernel_rfl) (by kernel_rfl) (by kernel_rfl) (fun _ _ _ h => h) (by kernel_rfl) (by assumption) ?_ ?_
        rotate_left 1
        · (intro wI hSI; (try dsimp only at hSI); go_simp; (try with_reducible rfl))
        simp only [Act.put, List.setIfInBounds_toArray, List.set_cons_zero, List.set_cons_succ]
        refine rtake (i := 10) (d := (some 138)) (v := ?_) rfl (by kernel_rfl) (by kernel_rfl) (by kernel_rfl) (by kernel_rfl) (fun _ _ _ h => h) (by kernel_rfl) (by assumption) ?_ ?_
        rotate_left 1
        · (intro wI hSI; (try dsimp only at hSI); go_simp; (try with_reducible rfl))
        simp only [Act.put, List.setIfInBounds_toArray, List.set_cons_zero, List.set_cons_succ]
        refine rtake (i := 11) (d := (some 139)) (v := ?_) rfl (by kernel_rfl) (by kernel_rfl) (by kernel_rfl) (by kernel_rfl) (fun _ _ _ h => h) (by kernel_rfl) (by assumption) ?_ ?_
        rotate_left 1
        · (intro wI hSI; (try dsimp only at hSI); go_simp; (try with_reducible rfl))
        simp only [Act.put, List.setIfInBounds_toArray, List.set_cons_zero, List.set_cons_succ]
        refine rtake (i := 12) (d := (some 140)) (v := ?_) rfl (by kernel_rfl) (by kernel_rfl) (by kernel_rfl) (by kernel_rfl) (fun _ _ _ h => h) (by kernel_rfl) (by assumption) ?_ ?_
        rotate_left 1
        · (intro wI hSI; (try dsimp only at hSI); go_simp; (try with_reducible rfl))
        simp only [Act.put, List.setIfInBounds_toArray, List.set_cons_zero, List.set_cons_succ]
        refine rtake (i := 13) (d := (some 141)) (v := ?_) rfl (by kernel_rfl) (by kernel_rfl) (by kernel_rfl) (by kernel_rfl) (fun _ _ _ h => h) (by kernel_rfl) (by assumption) ?_ ?_
        rotate_left 1
        · (intro wI hSI; (try dsimp only at hSI); go_simp; (try with_reducible rfl))
        simp only [Act.put, List.setIfInBounds_toArray, List.set_cons_zero, List.set_cons_succ]
        refine rtake (i := 14) (d := (some 142)) (v := ?_) rfl (by kernel_rfl) (by kernel_rfl) (by kernel_rfl) (by kernel_rfl) (fun _ _ _ h => h) (by kernel_rfl) (by assumption) ?_ ?_
        rotate_left 1
        · (intro wI hSI; (try dsimp only at hSI); go_simp; (try with_reducible rfl))
        simp only [Act.put, List.setIfInBounds_toArray, List.set_cons_zero, List.set_cons_succ]
        refine rtake (i := 15) (d := (some 143)) (v := ?_) rfl (by kernel_rfl) (by kernel_rfl) (by kernel_rfl) (by kernel_rfl) (fun _ _ _ h => h) (by kernel_rfl) (by assumption) ?_ ?_
        rotate_left 1
        · (intro wI hSI; (try dsimp only at hSI); go_simp; (try with_reducible rfl))
        simp only [Act.put, List.setIfInBounds_toArray, List.set_cons_zero, List.set_cons_succ]
        refine rtake (i := 16) (d := (some 144)) (v := ?_) rfl (by kernel_rfl) (by kernel_rfl) (by kernel_rfl) (by kernel_rfl) (fun _ _ _ h => h) (by kernel_rfl) (by assumption) ?_ ?_
        rotate_left 1
        · (intro wI hSI; (try dsimp only at hSI); go_simp; (try with_reducible rfl))
        simp only [Act.put, List.setIfInBounds_toArray, List.set_cons_zero, List.set_cons_succ]
        refine rcall (i := 17) (d := (some 145)) (by kernel_rfl) rfl (by kernel_rfl) (fun K hK => ?_)
        go_simp
        go_at_call 26; refine (HNE2.out _ (hsa15.below hHeld.2.2.2.2)).1.mono ?_; rintro e wb ⟨rfl, hbb⟩
        refine hK.out _ _ ?hS (fun hHeld => ?_)
        case hS => exact ⟨cell_later hbb hHeld.1, cell_later hbb hHeld.2.1, cell_later hbb hHeld.2.2.1, cell_later hbb hHeld.2.2.2.1, below_next hHeld.2.2.2.2 hbb⟩
        clear hK K
        simp only [Act.put, List.setIfInBounds_toArray, List.set_cons_zero, List.set_cons_succ]
        refine rtake (i := 18) (d := (some 146)) (v := ?_) rfl (by kernel_rfl) (by kernel_rfl) (by kernel_rfl) (by kernel_rfl) (fun _ _ _ h => h) (by kernel_rfl) (by assumption) ?_ ?_
        rotate_left 1
        · (intro wI hSI; (try dsimp only at hSI); go_simp; (try with_reducible rfl))
        simp only [Act.put, List.setIfInBounds_toArray, List.set_cons_zero, List.set_cons_succ]
        refine rtake (i := 19) (d := (some 147)) (v := ?_) rfl (by kernel_rfl) (by kernel_rfl) (by kernel_rfl) (by kernel_rfl) (fun _ _ _ h => h) (by kernel_rfl) (by assumption) ?_ ?_
        rotate_left 1
        · (intro wI hSI; (try dsimp only at hSI); go_simp; (try with_reducible rfl))
        simp only [Act.put, List.setIfInBounds_toArray, List.set_cons_zero, List.set_cons_succ]
        refine rtake (i := 20) (d := (some 148)) (v := ?_) rfl (by kernel_rfl) (by kernel_rfl) (by kernel_rfl) (by kernel_rfl) (fun _ _ _ h => h) (by kernel_rfl) (by assumption) ?_ ?_
        rotate_left 1
        · (intro wI hSI; (try dsimp only at hSI); go_simp; (try with_reducible rfl))
        simp only [Act.put, List.setIfInBounds_toArray, List.set_cons_zero, List.set_cons_succ]
        refine rtake (i := 21) (d := (some 149)) (v := ?_) rfl (by kernel_rfl) (by kernel_rfl) (by kernel_rfl) (by kernel_rfl) (fun _ _ _ h => h) (by kernel_rfl) (by assumption) ?_ ?_
        rotate_left 1
        · (intro wI hSI; (try dsimp only at hSI); go_simp; (try with_reducible rfl))
        simp only [Act.put, List.setIfInBounds_toArray, List.set_cons_zero, List.set_cons_succ]
        refine rtake (i := 22) (d := (some 150)) (v := ?_) rfl (by kernel_rfl) (by kernel_rfl) (by kernel_rfl) (by kernel_rfl) (fun _ _ _ h => h) (by kernel_rfl) (by assumption) ?_ ?_
        rotate_left 1
        · (intro wI hSI; (try dsimp only at hSI); go_simp; (try with_reducible rfl))
        simp only [Act.put, List.setIfInBounds_toArray, List.set_cons_zero, List.set_cons_succ]
        refine rtake (i := 23) (d := (some 151)) (v := ?_) rfl (by kernel_rfl) (by kernel_rfl) (by kernel_rfl) (by kernel_rfl) (fun _ _ _ h => h) (by kernel_rfl) (by assumption) ?_ ?_
        rotate_left 1
        · (intro wI hSI; (try dsimp only at hSI); go_simp; (try with_reducible rfl))
        simp only [Act.put, List.setIfInBounds_toArray, List.set_cons_zero, List.set_cons_succ]
        refine rcall (i := 24) (d := (some 152)) (by kernel_rfl) rfl (by kernel_rfl) (fun K hK => ?_)
        go_simp
        go_at_call 27; refine (HNE2.out _ (hsa15.below hHeld.2.2.2.2)).2.1.mono ?_; rintro e wc ⟨rfl, hbc⟩
        refine hK.out _ _ ?hS (fun hHeld => ?_)
        case hS => exact ⟨cell_later hbc hHeld.1, cell_later hbc hHeld.2.1, cell_later hbc hHeld.2.2.1, cell_later hbc hHeld.2.2.2.1, below_next hHeld.2.2.2.2 hbc⟩
        clear hK K
        simp only [Act.put, List.setIfInBounds_toArray, List.set_cons_zero, List.set_cons_succ]
        refine rtake (i := 25) (d := (some 153)) (v := ?_) rfl (by kernel_rfl) (by kernel_rfl) (by kernel_rfl) (by kernel_rfl) (fun _ _ _ h => h) (by kernel_rfl) (by assumption) ?_ ?_
        rotate_left 1
        · (intro wI hSI; (try dsimp only at hSI); go_simp; (try with_reducible rfl))
        simp only [Act.put, List.setIfInBounds_toArray, List.set_cons_zero, List.set_cons_succ]
        refine rtake (i := 26) (d := (some 154)) (v := ?_) rfl (by kernel_rfl) (by kernel_rfl) (by kernel_rfl) (by kernel_rfl) (fun _ _ _ h => h) (by kernel_rfl) (by assumption) ?_ ?_
        rotate_left 1
        · (intro wI hSI; (try dsimp only at hSI); go_simp; (try with_reducible rfl))
        simp only [Act.put, List.setIfInBounds_toArray, List.set_cons_zero, List.set_cons_succ]
        refine rtake (i := 27) (d := (some 155)) (v := ?_) rfl (by kernel_rfl) (by kernel_rfl) (by kernel_rfl) (by kernel_rfl) (fun _ _ _ h => h) (by kernel_rfl) (by assumption) ?_ ?_
        rotate_left 1
        · (intro wI hSI; (try dsimp only at hSI); go_simp; (try with_reducible rfl))
        simp only [Act.put, List.setIfInBounds_toArray, List.set_cons_zero, List.set_cons_succ]
        refine rtake (i := 28) (d := (some 156)) (v := ?_) rfl (by kernel_rfl) (by kernel_rfl) (by kernel_rfl) (by kernel_rfl) (fun _ _ _ h => h) (by kernel_rfl) (by assumption) ?_ ?_
        rotate_left 1
        · (intro wI hSI; (try dsimp only at hSI); go_simp; (try with_reducible rfl))
        simp only [Act.put, List.setIfInBounds_toArray, List.set_cons_zero, List.set_cons_succ]
        refine rtake (i := 29) (d := (some 157)) (v := ?_) rfl (by kernel_rfl) (by kernel_rfl) (by kernel_rfl) (by kernel_rfl) (fun _ _ _ h => h) (by kernel_rfl) (by assumption) ?_ ?_
        rotate_left 1
        · (intro wI hSI; (try dsimp only at hSI); go_simp; (try with_reducible rfl))
        simp only [Act.put, List.setIfInBounds_toArray, List.set_cons_zero, List.set_cons_succ]
        refine rtake (i := 30) (d := (some 158)) (v := ?_) rfl (by kernel_rfl) (by kernel_rfl) (by kernel_rfl) (by kernel_rfl) (fun _ _ _ h => h) (by kernel_rfl) (by assumption) ?_ ?_
        rotate_left 1
        · (intro wI hSI; (try dsimp only at hSI); go_simp; (try with_reducible rfl))
        simp only [Act.put, List.setIfInBounds_toArray, List.set_cons_zero, List.set_cons_succ]
        refine rcall (i := 31) (d := (some 159)) (by kernel_rfl) rfl (by kernel_rfl) (fun K hK => ?_)
        go_simp
        go_at_call 28; refine (HNE2.out _ (hsa15.below hHeld.2.2.2.2)).2.2.mono ?_; rintro e wd ⟨rfl, hbd⟩
        refine hK.out _ _ ?hS (fun hHeld => ?_)
        case hS => exact ⟨cell_later hbd hHeld.1, cell_later hbd hHeld.2.1, cell_later hbd hHeld.2.2.1, cell_later hbd hHeld.2.2.2.1, below_next hHeld.2.2.2.2 hbd⟩
        clear hK K
        simp only [Act.put, List.setIfInBounds_toArray, List.set_cons_zero, List.set_cons_succ]
        refine rtake (i := 32) (d := (some 160)) (v := ?_) rfl (by kernel_rfl) (by kernel_rfl) (by kernel_rfl) (by kernel_rfl) (fun _ _ _ h => h) (by kernel_rfl) (by assumption) ?_ ?_
        rotate_left 1
        · (intro wI hSI; (try dsimp only at hSI); go_simp; (try with_reducible rfl))
        simp only [Act.put, List.setIfInBounds_toArray, List.set_cons_zero, List.set_cons_succ]
        refine rtake (i := 33) (d := (some 161)) (v := ?_) rfl (by kernel_rfl) (by kernel_rfl) (by kernel_rfl) (by kernel_rfl) (fun _ _ _ h => h) (by kernel_rfl) (by assumption) ?_ ?_
        rotate_left 1
        · (intro wI hSI; (try dsimp only at hSI); go_simp; (try with_reducible rfl))
        simp only [Act.put, List.setIfInBounds_toArray, List.set_cons_zero, List.set_cons_succ]
        refine rtake (i := 34) (d := (some 2)) (v := ?_) rfl (by kernel_rfl) (by kernel_rfl) (by kernel_rfl) (by kernel_rfl) (fun _ _ _ h => h) (by kernel_rfl) (by assumption) ?_ ?_
        rotate_left 1
        · (intro wI hSI; (try dsimp only at hSI); go_simp; (try with_reducible rfl))
        simp only [Act.put, List.setIfInBounds_toArray, List.set_cons_zero, List.set_cons_succ]
        refine wpAnyH_done (by kernel_rfl) ?_ _
        have hfin := below_next hbz hHeld.2.2.2.2
        go_wp2_with fail
        go_ret
        exact ⟨rfl, hfin⟩
    · have Hoe := HE1.out h0
      subst Hoe
      have h0a : (oe != 0) = true := by simpa using h0
      have h0c : (oe == oe) = true := by simp
      clear h0
      go_wp2_with fail
      refine (scores_any _).mono ?_
      rintro e w11 ⟨rfl, hb11⟩
      go_wp2_with fail
      go_ret
      exact ⟨rfl, below_next hbw10 hb11⟩
end Go.Proofs.YtibchcdcpcjgnaaGreatDoor.marksChecked
