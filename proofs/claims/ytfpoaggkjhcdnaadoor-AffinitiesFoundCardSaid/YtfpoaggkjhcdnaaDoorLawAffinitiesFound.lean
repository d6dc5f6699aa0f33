/- For every list of raw numbers, AffinitiesFound returns true. The walk. -/
import Derived.Test.YtfpoaggkjhcdnaaDoorMake2
import Derived.Test.YtfpoaggkjhcdnaaDoorTopic5
import Derived.Test.YtfpoaggkjhcdnaaDoorFrac3
import Derived.Test.YtfpoaggkjhcdnaaDoorReg
namespace Go.Proofs.YtfpoaggkjhcdnaaDoor.affinitiesFound
open Go.RowKit
set_option linter.unusedVariables false
set_option linter.unusedSimpArgs false

theorem wantingE_ref (l : List Topic) (s : List Skill) (ts : List ByteArray) (h : forestFault l = 0) : wantingE l s ts = if skillsFault l s ≠ 0 then skillsFault l s else wantedFault l ts := by
  unfold wantingE skilledE
  rw [if_neg (by simp [h] : ¬ (forestFault l ≠ 0))]
theorem wantingE_ff (l : List Topic) (s : List Skill) (ts : List ByteArray) (h : forestFault l ≠ 0) : wantingE l s ts = forestFault l := by
  unfold wantingE skilledE
  rw [if_pos h, if_pos h]

set_option maxRecDepth 100000 in
set_option maxHeartbeats 8000000 in
theorem walk (a0 : Option Addr) (len0 cap0 : Nat) (z0 : List Int) (w : World) (w0 : IsRow .i64 w a0 len0 cap0 z0) :
    Calls Tryd.prog 4 #[.slice a0 len0 cap0] w fun e w' => e = .returned (.bool true) ∧ Below w.heap.size w w' := by
  have hs := strm_new w0
  go_enter Tryd.func4, Tryd.ntmps4
  go_wp2_with fail
  refine (forest_any w.heap.size 0 _ hs (by omega)).mono ?_
  rintro e w1 ⟨a, cap, l, rfl, hl12, hcap, hsm, hsa, hp, h1, s1⟩
  have hpS : ∀ z : Addr, a = some z → z.block ≠ w.heap.size := fun z hz => by
    rcases hp with hp | ⟨b, off, hp, hS⟩ <;> rw [hp] at hz <;> cases hz
    exact hS
  have hz1 := h1.size
  simp at hz1
  go_wp2_with fail
  refine (skills_any w.heap.size (0 + 20) _ s1 (by omega)).mono ?_
  rintro e w2 ⟨v2, s, rfl, hs5, hsk, hown2, h2, s2⟩
  go_wp2_with fail
  refine (wanted_any w.heap.size (0 + 20 + 20) _ s2 (by omega)).mono ?_
  rintro e w3 ⟨v3, ts, rfl, hts7, htk, hown3, h3, s3⟩
  have hl3 := (hsa.stp h2 hpS).stp h3 hpS
  obtain ⟨a2, cap2, rfl, hs3, _, _⟩ := (hown2.stp h3 (by omega)).sa
  obtain ⟨a3, cap3, rfl, ht3, _, _⟩ := hown3.sa
  have hb : Below w.heap.size w w3 := by
    have h12 := ((((Stp.refl w.heap.size w).alloc (.cells #[.slice a0 len0 cap0, .int .i64 0] 25)).trans h1).trans h2).trans h3
    have := h12.below
    rwa [Nat.min_self] at this
  have Hsm := Lib.hid hsm
  clear h1 h2 h3 s1 s2 s3 hs w0 hsa hp hpS hsm hown2 hown3 hsk htk
  have HA := Lib.hid (fun w h1 h2 h3 => affinityX_any l a cap s a2 cap2 ts a3 cap3 w h1 h2 h3 (by omega) (by omega) (by omega) Hsm.out)
  have HR := Lib.hid (fun w h1 h2 h3 => reasons_any l a cap s a2 cap2 ts a3 cap3 w h1 h2 h3 (by omega) (by omega) (by omega) Hsm.out)
  have HF := Lib.hid (fun w h => forestFault_any l a cap w h (by omega) Hsm.out)
  have HS := Lib.hid (fun w h1 h2 => skillsFaultR_any l a cap s a2 cap2 w h1 h2 (by omega) (by omega))
  have HW := Lib.hid (fun w h1 h2 => wantedFaultR_any l a cap ts a3 cap3 w h1 h2 (by omega) (by omega))
  obtain ⟨p, q, hpq⟩ : ∃ p q, affV l s ts = .agg #[.int .i64 p, .int .i64 q] := by
    unfold affV; split <;> exact ⟨_, _, rfl⟩
  have HAo := Lib.hid (fun (h : wantingE l s ts = 0) w h1 h2 h3 => affinityOf_any l a cap s a2 cap2 ts a3 cap3 w h1 h2 h3 (by omega) (by omega) (wanted_fit (wantingE_right h).1 (wantingE_right h).2.2).1 (skills_fit (wantingE_right h).1 (wantingE_right h).2.1) (wanted_fit (wantingE_right h).1 (wantingE_right h).2.2).2)
  have HBo := Lib.hid (fun (h : wantingE l s ts = 0) w h1 h2 h3 => becauseOf_any l a cap s a2 cap2 ts a3 cap3 w h1 h2 h3 (by omega) (by omega) (by omega) (skills_fit (wantingE_right h).1 (wantingE_right h).2.1).ok)
  have HE1 := Lib.hid (wantingE_ref l s ts)
  have HE2 := Lib.hid (wantingE_ff l s ts)
  have hbl := becs_length l s ts
  rw [hpq] at HA HAo
  clear hpq
  have hbl' : (becs l s ts).length ≤ 7 := by omega
  clear hbl
  generalize becs l s ts = bs at *
  generalize wantingE l s ts = er at *
  generalize forestFault l = ff at *
  generalize skillsFault l s = sf at *
  generalize wantedFault l ts = wf at *
  go_wp2_with fail
  refine (HA.out w3 hl3 hs3 ht3).mono ?_
  rintro e w4 ⟨hb4, rfl⟩
  have hz4 := hb4.size
  have hb4' := below_next hb hb4
  obtain ⟨x, y, hxy, hxy0⟩ : ∃ x y : Int, (if er = 0 then (Value.agg #[.int .i64 p, .int .i64 q]) else .agg #[.int .i64 0, .int .i64 0]) = .agg #[.int .i64 x, .int .i64 y] ∧ (er = 0 → x = p ∧ y = q) := by
    by_cases h : er = 0
    · exact ⟨p, q, if_pos h, fun _ => ⟨rfl, rfl⟩⟩
    · exact ⟨0, 0, if_neg h, fun h' => absurd h' h⟩
  rw [hxy]
  have Hxy := Lib.hid hxy0
  clear hxy hxy0
  have hl4 := hl3.below hb4
  have hs4 := hs3.below hb4
  have ht4 := ht3.below hb4
  clear hl3 hs3 ht3 hb4 hb
  go_wp2_with fail
  refine (HR.out _ (hl4.alloc _) (hs4.alloc _) (ht4.alloc _)).mono ?_
  rintro e w5 ⟨hb5, a5, len5, cap5, rfl, hlen5, hr5⟩
  have hz5 := hb5.size
  simp at hz5
  have hl5 := (hl4.alloc (.cells #[.int .i64 x, .int .i64 y] 37)).below hb5
  have hs5' := (hs4.alloc (.cells #[.int .i64 x, .int .i64 y] 37)).below hb5
  have ht5 := (ht4.alloc (.cells #[.int .i64 x, .int .i64 y] 37)).below hb5
  have hf5 := (Box.new w4 37 #[.int .i64 x, .int .i64 y]).below hb5
  have hz40 := hb4'.size
  have hb5' : Below w.heap.size w w5 := by (repeat' (first | exact Below.refl _ _ | assumption | refine Below.setCell ?_ ?_ _ | refine below_drewN ?_ _ | refine Below.drew ?_ | refine Below.alloc ?_ ?_ _ | (with_reducible refine Below.trans ?_ (Below.mono hb ?_)) | (with_reducible refine Below.trans ?_ (Below.mono hb0 ?_)) | (with_reducible refine Below.trans ?_ (Below.mono hb1 ?_)) | (with_reducible refine Below.trans ?_ (Below.mono hb2 ?_)) | (with_reducible refine Below.trans ?_ (Below.mono hb3 ?_)) | (with_reducible refine Below.trans ?_ (Below.mono hb4 ?_)) | (with_reducible refine Below.trans ?_ (Below.mono hb5 ?_)) | (with_reducible refine Below.trans ?_ (Below.mono hb6 ?_)) | (with_reducible refine Below.trans ?_ (Below.mono hb7 ?_)) | (with_reducible refine Below.trans ?_ (Below.mono hb8 ?_)) | (with_reducible refine Below.trans ?_ (Below.mono hb9 ?_)) | (with_reducible refine Below.trans ?_ (Below.mono hb10 ?_)) | (with_reducible refine Below.trans ?_ (Below.mono hb11 ?_)) | (with_reducible refine Below.trans ?_ (Below.mono hb12 ?_)) | (with_reducible refine Below.trans ?_ (Below.mono hb13 ?_)) | (with_reducible refine Below.trans ?_ (Below.mono hb14 ?_)) | (with_reducible refine Below.trans ?_ (Below.mono hb15 ?_)) | omega | (simp; done) | (simp; omega)))
  have Hr5 := Lib.hid hr5
  clear hb5 hb4' hl4 hs4 ht4 hr5
  go_wp2_with fail
  refine (HF.out _ hl5).mono ?_
  rintro e w6 ⟨rfl, hb6⟩
  have hb6' := below_next hb5' hb6
  have hl6 := hl5.below hb6
  have hs6 := hs5'.below hb6
  have ht6 := ht5.below hb6
  have hf6 := hf5.below hb6
  have Hr6 : Hid (er = 0 → len5 = bs.length ∧ SA w6 a5 bs) := fun h => ⟨(Hr5.out h).1, (Hr5.out h).2.below hb6⟩
  clear hb5' hl5 hs5' ht5 hf5 Hr5 hb6
  by_cases hff : ff = 0
  · subst hff
    have HEq := Lib.hid (HE1.out rfl)
    clear HE1 HE2
    go_wp2_with fail
    refine (HS.out _ hl6 hs6).mono ?_
    rintro e w7 ⟨rfl, hb7⟩
    go_wp2_with fail
    refine (HW.out _ (hl6.below hb7) (ht6.below hb7)).mono ?_
    rintro e w8 ⟨rfl, hb8⟩
    go_wp2_with fail
    refine (cmpOr2_any sf wf _ _ (Box.new _ _ _)).mono ?_
    rintro e w9 ⟨rfl, rfl⟩
    rw [← HEq.out]
    have hb78 := below_next hb7 hb8
    have hb8' := below_next hb6' hb78
    have hz8 := hb8'.size
    have hl8 := (hl6.below hb78).alloc (.cells #[.int .i64 sf, .int .i64 wf] 29)
    have hs8 := (hs6.below hb78).alloc (.cells #[.int .i64 sf, .int .i64 wf] 29)
    have ht8 := (ht6.below hb78).alloc (.cells #[.int .i64 sf, .int .i64 wf] 29)
    have hf8 := (hf6.below hb78).alloc (.cells #[.int .i64 sf, .int .i64 wf] 29)
    have Hr8 : Hid (er = 0 → len5 = bs.length ∧ SA (w8.alloc (.cells #[.int .i64 sf, .int .i64 wf] 29)) a5 bs) := fun h => ⟨(Hr6.out h).1, ((Hr6.out h).2.below hb78).alloc _⟩
    have hbw : Below w.heap.size w (w8.alloc (.cells #[.int .i64 sf, .int .i64 wf] 29)) := by (repeat' (first | exact Below.refl _ _ | assumption | refine Below.setCell ?_ ?_ _ | refine below_drewN ?_ _ | refine Below.drew ?_ | refine Below.alloc ?_ ?_ _ | (with_reducible refine Below.trans ?_ (Below.mono hb ?_)) | (with_reducible refine Below.trans ?_ (Below.mono hb0 ?_)) | (with_reducible refine Below.trans ?_ (Below.mono hb1 ?_)) | (with_reducible refine Below.trans ?_ (Below.mono hb2 ?_)) | (with_reducible refine Below.trans ?_ (Below.mono hb3 ?_)) | (with_reducible refine Below.trans ?_ (Below.mono hb4 ?_)) | (with_reducible refine Below.trans ?_ (Below.mono hb5 ?_)) | (with_reducible refine Below.trans ?_ (Below.mono hb6 ?_)) | (with_reducible refine Below.trans ?_ (Below.mono hb7 ?_)) | (with_reducible refine Below.trans ?_ (Below.mono hb8 ?_)) | (with_reducible refine Below.trans ?_ (Below.mono hb9 ?_)) | (with_reducible refine Below.trans ?_ (Below.mono hb10 ?_)) | (with_reducible refine Below.trans ?_ (Below.mono hb11 ?_)) | (with_reducible refine Below.trans ?_ (Below.mono hb12 ?_)) | (with_reducible refine Below.trans ?_ (Below.mono hb13 ?_)) | (with_reducible refine Below.trans ?_ (Below.mono hb14 ?_)) | (with_reducible refine Below.trans ?_ (Below.mono hb15 ?_)) | omega | (simp; done) | (simp; omega)))
    clear hb7 hb8 hb78 hb8' hb6' hl6 hs6 ht6 hf6 Hr6 HEq
    generalize w8.alloc (.cells #[.int .i64 sf, .int .i64 wf] 29) = wx at *
    by_cases her : er = 0
    · obtain ⟨rfl, rfl⟩ := Hxy.out her
      obtain ⟨rfl, hsb⟩ := Hr8.out her
      have HAo' := Lib.hid (HAo.out her)
      have HBo' := Lib.hid (HBo.out her)
      subst her
      clear HAo HBo Hr8 Hxy
      have hx0 : wx.cell? ⟨w4.heap.size, 0, none⟩ = some (.int .i64 x) := hf8.cell 0
      have hx1 : wx.cell? ⟨w4.heap.size, 1, none⟩ = some (.int .i64 y) := hf8.cell 1
      have hzx := hbw.size
      go_wp2_with fail
      refine wp_region_held_drew (S := (fun wy => wy.cell? ⟨w4.heap.size, 0, none⟩ = some (.int .i64 x) ∧ wy.cell? ⟨w4.heap.size, 1, none⟩ = some (.int .i64 y) ∧ Below wx.heap.size wx wy)) (by kernel_rfl) ?hS (fun hHeld => ?_)
      case hS => exact ⟨hx0, hx1, (Below.refl _ _).drew⟩
      refine rcall (i := 0) (d := (some 60)) (by kernel_rfl) rfl (by kernel_rfl) (fun K hK => ?_)
      go_simp
      go_at_call 17; refine (topics_any _).mono ?_; rintro e w' ⟨rfl, hb3⟩
      refine hK.out _ _ ?hS (fun hHeld => ?_)
      case hS => exact ⟨cell_later hb3 hHeld.1, cell_later hb3 hHeld.2.1, hHeld.2.2.trans (hb3.mono hHeld.2.2.size)⟩
      clear hK K
      simp only [Act.put, List.setIfInBounds_toArray, List.set_cons_zero, List.set_cons_succ]
      refine rtake (i := 1) (d := (some 61)) (v := ?_) rfl (by kernel_rfl) (by kernel_rfl) (by kernel_rfl) (by kernel_rfl) (fun _ _ _ h => h) (by kernel_rfl) (by assumption) ?_ ?_
      rotate_left 1
      · (intro wI hSI; (try dsimp only at hSI); go_simp; (try with_reducible rfl))
      simp only [Act.put, List.setIfInBounds_toArray, List.set_cons_zero, List.set_cons_succ]
      refine rtake (i := 2) (d := (some 62)) (v := ?_) rfl (by kernel_rfl) (by kernel_rfl) (by kernel_rfl) (by kernel_rfl) (fun _ _ _ h => h) (by kernel_rfl) (by assumption) ?_ ?_
      rotate_left 1
      · (intro wI hSI; (try dsimp only at hSI); go_simp; (try with_reducible rfl))
      simp only [Act.put, List.setIfInBounds_toArray, List.set_cons_zero, List.set_cons_succ]
      refine rtake (i := 3) (d := (some 63)) (v := ?_) rfl (by kernel_rfl) (by kernel_rfl) (by kernel_rfl) (by kernel_rfl) (fun _ _ _ h => h) (by kernel_rfl) (by assumption) ?_ ?_
      rotate_left 1
      · (intro wI hSI; (try dsimp only at hSI); go_simp; (try with_reducible rfl))
      simp only [Act.put, List.setIfInBounds_toArray, List.set_cons_zero, List.set_cons_succ]
      refine rtake (i := 4) (d := (some 64)) (v := ?_) rfl (by kernel_rfl) (by kernel_rfl) (by kernel_rfl) (by kernel_rfl) (fun _ _ _ h => h) (by kernel_rfl) (by assumption) ?_ ?_
      rotate_left 1
      · (intro wI hSI; (try dsimp only at hSI); go_simp; (try with_reducible rfl))
      simp only [Act.put, List.setIfInBounds_toArray, List.set_cons_zero, List.set_cons_succ]
      refine rtake (i := 5) (d := (some 65)) (v := ?_) rfl (by kernel_rfl) (by kernel_rfl) (by kernel_rfl) (by kernel_rfl) (fun _ _ _ h => h) (by kernel_rfl) (by assumption) ?_ ?_
      rotate_left 1
      · (intro wI hSI; (try dsimp only at hSI); go_simp; (try with_reducible rfl))
      simp only [Act.put, List.setIfInBounds_toArray, List.set_cons_zero, List.set_cons_succ]
      refine rtake (i := 6) (d := (some 66)) (v := ?_) rfl (by kernel_rfl) (by kernel_rfl) (by kernel_rfl) (by kernel_rfl) (fun _ _ _ h => h) (by kernel_rfl) (by assumption) ?_ ?_
      rotate_left 1
      · (intro wI hSI; (try dsimp only at hSI); go_simp; (try with_reducible rfl))
      simp only [Act.put, List.setIfInBounds_toArray, List.set_cons_zero, List.set_cons_succ]
      refine rtake (i := 7) (d := (some 67)) (v := ?_) rfl (by kernel_rfl) (by kernel_rfl) (by kernel_rfl) (by kernel_rfl) (fun _ _ _ h => h) (by kernel_rfl) (by assumption) ?_ ?_
      rotate_left 1
      · (intro wI hSI; (try dsimp only at hSI); go_simp; (try with_reducible rfl))
      simp only [Act.put, List.setIfInBounds_toArray, List.set_cons_zero, List.set_cons_succ]
      refine rtake (i := 8) (d := (some 68)) (v := ?_) rfl (by kernel_rfl) (by kernel_rfl) (by kernel_rfl) (by kernel_rfl) (fun _ _ _ h => h) (by kernel_rfl) (by assumption) ?_ ?_
      rotate_left 1
      · (intro wI hSI; (try dsimp only at hSI); go_simp; (try with_reducible rfl))
      simp only [Act.put, List.setIfInBounds_toArray, List.set_cons_zero, List.set_cons_succ]
      refine rtake (i := 9) (d := (some 69)) (v := ?_) rfl (by kernel_rfl) (by kernel_rfl) (by kernel_rfl) (by kernel_rfl) (fun _ _ _ h => h) (by kernel_rfl) (by assumption) ?_ ?_
      rotate_left 1
      · (intro wI hSI; (try dsimp only at hSI); go_simp; (try with_reducible rfl))
      simp only [Act.put, List.setIfInBounds_toArray, List.set_cons_zero, List.set_cons_succ]
      refine rtake (i := 10) (d := (some 70)) (v := ?_) rfl (by kernel_rfl) (by kernel_rfl) (by kernel_rfl) (by kernel_rfl) (fun _ _ _ h => h) (by kernel_rfl) (by assumption) ?_ ?_
      rotate_left 1
      · (intro wI hSI; (try dsimp only at hSI); go_simp; (try with_reducible rfl))
      simp only [Act.put, List.setIfInBounds_toArray, List.set_cons_zero, List.set_cons_succ]
      refine rtake (i := 11) (d := (some 71)) (v := ?_) rfl (by kernel_rfl) (by kernel_rfl) (by kernel_rfl) (by kernel_rfl) (fun _ _ _ h => h) (by kernel_rfl) (by assumption) ?_ ?_
      rotate_left 1
      · (intro wI hSI; (try dsimp only at hSI); go_simp; (try with_reducible rfl))
      simp only [Act.put, List.setIfInBounds_toArray, List.set_cons_zero, List.set_cons_succ]
      refine rtake (i := 12) (d := (some 72)) (v := ?_) rfl (by kernel_rfl) (by kernel_rfl) (by kernel_rfl) (by kernel_rfl) (fun _ _ _ h => h) (by kernel_rfl) (by assumption) ?_ ?_
      rotate_left 1
      · (intro wI hSI; (try dsimp only at hSI); go_simp; (try with_reducible rfl))
      simp only [Act.put, List.setIfInBounds_toArray, List.set_cons_zero, List.set_cons_succ]
      refine rtake (i := 13) (d := (some 73)) (v := ?_) rfl (by kernel_rfl) (by kernel_rfl) (by kernel_rfl) (by kernel_rfl) (fun _ _ _ h => h) (by kernel_rfl) (by assumption) ?_ ?_
      rotate_left 1
      · (intro wI hSI; (try dsimp only at hSI); go_simp; (try with_reducible rfl))
      simp only [Act.put, List.setIfInBounds_toArray, List.set_cons_zero, List.set_cons_succ]
      refine rcall (i := 14) (d := (some 74)) (by kernel_rfl) rfl (by kernel_rfl) (fun K hK => ?_)
      go_simp
      go_at_call 27; refine (HAo'.out _ (hl8.below hHeld.2.2) (hs8.below hHeld.2.2) (ht8.below hHeld.2.2)).mono ?_; rintro e w' ⟨rfl, hb4⟩
      refine hK.out _ _ ?hS (fun hHeld => ?_)
      case hS => exact ⟨cell_later hb4 hHeld.1, cell_later hb4 hHeld.2.1, hHeld.2.2.trans (hb4.mono hHeld.2.2.size)⟩
      clear hK K
      simp only [Act.put, List.setIfInBounds_toArray, List.set_cons_zero, List.set_cons_succ]
      refine rtake (i := 15) (d := (some 75)) (v := ?_) rfl (by kernel_rfl) (by kernel_rfl) (by kernel_rfl) (by kernel_rfl) (fun _ _ _ h => h) (by kernel_rfl) (by assumption) ?_ ?_
      rotate_left 1
      · (intro wI hSI; (try dsimp only at hSI); go_simp; (try with_reducible rfl))
      simp only [Act.put, List.setIfInBounds_toArray, List.set_cons_zero, List.set_cons_succ]
      refine rtake (i := 16) (d := (some 76)) (v := ?_) rfl (by kernel_rfl) (by kernel_rfl) (by kernel_rfl) (by kernel_rfl) (fun _ _ _ h => h) (by kernel_rfl) (by assumption) ?_ ?_
      rotate_left 1
      · (intro wI hSI; (try dsimp only at hSI); go_simp; (try with_reducible rfl))
      simp only [Act.put, List.setIfInBounds_toArray, List.set_cons_zero, List.set_cons_succ]
      refine rtake (i := 17) (d := (some 77)) (v := ?_) rfl (by kernel_rfl) (by kernel_rfl) (by kernel_rfl) (by kernel_rfl) (fun _ _ _ h => h) (by kernel_rfl) (by assumption) ?_ ?_
      rotate_left 1
      · (intro wI hSI; (try dsimp only at hSI); go_simp; (try with_reducible rfl))
      simp only [Act.put, List.setIfInBounds_toArray, List.set_cons_zero, List.set_cons_succ]
      refine rtake (i := 18) (d := (some 78)) (v := ?_) rfl (by kernel_rfl) (by kernel_rfl) (by kernel_rfl) (by kernel_rfl) (fun _ _ _ h => h) (by kernel_rfl) (by assumption) ?_ ?_
      rotate_left 1
      · (intro wI hSI; (try dsimp only at hSI); go_simp; (try with_reducible rfl))
      simp only [Act.put, List.setIfInBounds_toArray, List.set_cons_zero, List.set_cons_succ]
      refine rtake (i := 19) (d := (some 79)) (v := ?_) rfl (by kernel_rfl) (by kernel_rfl) (by kernel_rfl) (by kernel_rfl) (fun _ _ _ h => h) (by kernel_rfl) (by assumption) ?_ ?_
      rotate_left 1
      · (intro wI hSI; (try dsimp only at hSI); go_simp; (try with_reducible rfl))
      simp only [Act.put, List.setIfInBounds_toArray, List.set_cons_zero, List.set_cons_succ]
      refine rtake (i := 20) (d := (some 80)) (v := ?_) rfl (by kernel_rfl) (by kernel_rfl) (by kernel_rfl) (by kernel_rfl) (fun _ _ _ h => h) (by kernel_rfl) (by assumption) ?_ ?_
      rotate_left 1
      · (intro wI hSI; (try dsimp only at hSI); go_simp; (try with_reducible rfl))
      simp only [Act.put, List.setIfInBounds_toArray, List.set_cons_zero, List.set_cons_succ]
      refine rtake (i := 21) (d := (some 81)) (v := ?_) rfl (by kernel_rfl) (by kernel_rfl) (by kernel_rfl) (by kernel_rfl) (fun _ _ _ h => h) (by kernel_rfl) (by assumption) ?_ ?_
      rotate_left 1
      · (intro wI hSI; (try dsimp only at hSI); go_simp; (try with_reducible rfl))
      simp only [Act.put, List.setIfInBounds_toArray, List.set_cons_zero, List.set_cons_succ]
      refine rcall (i := 22) (d := (some 82)) (by kernel_rfl) rfl (by kernel_rfl) (fun K hK => ?_)
      go_simp
      go_at_call 29; refine (HBo'.out _ (hl8.below hHeld.2.2) (hs8.below hHeld.2.2) (ht8.below hHeld.2.2)).mono ?_; rintro e w' ⟨v6, rfl, hown6, hb5⟩; obtain ⟨a6, cap6, rfl, hsa6, _, _⟩ := hown6.sa
      refine hK.out _ _ ?hS (fun hHeld => ?_)
      case hS => exact ⟨cell_later hb5 hHeld.1, cell_later hb5 hHeld.2.1, hHeld.2.2.trans (hb5.mono hHeld.2.2.size)⟩
      clear hK K
      simp only [Act.put, List.setIfInBounds_toArray, List.set_cons_zero, List.set_cons_succ]
      refine rcall (i := 23) (d := (some 83)) (by kernel_rfl) rfl (by kernel_rfl) (fun K hK => ?_)
      go_simp
      go_at_call 28; refine (equalBec_any bs a5 a6 _ _ _ (hsb.below hHeld.2.2) hsa6 (by omega)).mono ?_; rintro e w' ⟨rfl, n7, rfl⟩
      refine hK.out _ _ ?hS (fun hHeld => ?_)
      case hS => exact ⟨hHeld.1, hHeld.2.1, below_drewN hHeld.2.2 n7⟩
      clear hK K
      simp only [Act.put, List.setIfInBounds_toArray, List.set_cons_zero, List.set_cons_succ]
      refine rtake (i := 24) (d := (some 84)) (v := ?_) rfl (by kernel_rfl) (by kernel_rfl) (by kernel_rfl) (by kernel_rfl) (fun _ _ _ h => h) (by kernel_rfl) (by assumption) ?_ ?_
      rotate_left 1
      · (intro wI hSI; (try dsimp only at hSI); go_simp; (try with_reducible rfl))
      simp only [Act.put, List.setIfInBounds_toArray, List.set_cons_zero, List.set_cons_succ]
      refine rtake (i := 25) (d := (some 2)) (v := ?_) rfl (by kernel_rfl) (by kernel_rfl) (by kernel_rfl) (by kernel_rfl) (fun _ _ _ h => h) (by kernel_rfl) (by assumption) ?_ ?_
      rotate_left 1
      · (intro wI hSI; (try dsimp only at hSI); go_simp; (try with_reducible rfl))
      simp only [Act.put, List.setIfInBounds_toArray, List.set_cons_zero, List.set_cons_succ]
      refine wpAnyH_done (by kernel_rfl) ?_ _
      go_wp2_with fail
      go_ret
      exact ⟨rfl, hbw.trans (hHeld.2.2.mono hzx)⟩
    · have hq : (er != 0) = true := by simpa using her
      have hq2 : (er == 0) = false := by simpa using her
      clear her
      go_wp2_with fail
      refine (topics_any _).mono ?_
      rintro e w15 ⟨rfl, hb15⟩
      have hq4 : (er == er) = true := by simp
      go_wp2_with fail
      go_ret
      exact ⟨rfl, below_next hbw hb15⟩
  · obtain rfl : er = ff := HE2.out hff
    clear HE1 HE2
    have hq : (er != 0) = true := by simpa using hff
    have hq2 : (er == 0) = false := by simpa using hff
    have hbw := hb6'
    clear hff
    go_wp2_with fail
    refine (topics_any _).mono ?_
    rintro e w15 ⟨rfl, hb15⟩
    have hq4 : (er == er) = true := by simp
    go_wp2_with fail
    go_ret
    exact ⟨rfl, below_next hbw hb15⟩
end Go.Proofs.YtfpoaggkjhcdnaaDoor.affinitiesFound
