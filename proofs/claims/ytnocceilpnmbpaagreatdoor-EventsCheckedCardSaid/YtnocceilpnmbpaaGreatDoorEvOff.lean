/- offices(): the law's look at the package: Add of the program at no events. -/
import Derived.Test.YtnocceilpnmbpaaGreatDoorEv10
namespace Go.Proofs.YtnocceilpnmbpaaGreatDoor
open Go.RowKit
set_option linter.unusedVariables false
set_option linter.unusedSimpArgs false

set_option maxHeartbeats 1000000 in
theorem headsNil_any (w : World) : Calls Tryz.prog 58 #[.slice none 0 0] w (fun e w' => e = .returned (.slice none 0 0) ∧ Below w.heap.size w w') := by
 have hb0 : Below w.heap.size w (w.alloc (.map #[] 0)) := (Below.refl _ _).alloc (Nat.le_refl _) _
 have hmm := @run_makeMap Tryz.prog
 go_enter Tryz.func58, Tryz.ntmps58
 go_wp2_with fail
 refine wp_loop_rounds 1 ?_
 rw [rounds_succ]
 go_wp2_with fail
 refine wp_loop_rounds 1 ?_
 rw [rounds_succ]
 go_wp2_with fail
 go_ret
 exact ⟨rfl, hb0⟩
set_option maxHeartbeats 1000000 in
theorem cloneAllNil_any (w : World) : Calls Tryz.prog 59 #[.slice none 0 0] w (fun e w' => e = .returned (.slice none 0 0) ∧ w = w') := by
 go_enter Tryz.func59, Tryz.ntmps59
 go_wp2_with fail
 refine wp_loop_rounds 1 ?_
 rw [rounds_succ]
 go_wp2_with fail
 go_ret
 exact ⟨rfl, rfl⟩
def evOff : Ev := ⟨⟨#[]⟩, ⟨#[97]⟩, 5, [], 7, ⟨#[]⟩, ⟨#[112]⟩, ⟨#[]⟩, ⟨#[]⟩, none, 0⟩
theorem evOff_ok : EvOk evOff := ⟨by decide, by decide, by decide, by decide, by decide, (fun x hx => by cases hx), by decide, by decide, by decide, by decide, by decide, by decide⟩
theorem evOff_self : selfF evOff = 0 := by kernel_rfl
theorem evs_nil : evsRes [] = (0, 0) := rfl
set_option maxRecDepth 100000 in
set_option maxHeartbeats 4000000 in
theorem addNil_any (w : World) (hE : EnvE w) : Calls Tryz.prog 17 #[.slice none 0 0, .string ⟨#[97]⟩, .int .i64 5, .int .i64 7, .string ⟨#[]⟩, .string ⟨#[112]⟩, .string ⟨#[]⟩, .string ⟨#[]⟩] w (fun e w' => ∃ a c, e = .returned (.tuple #[.slice a 1 c, .int .i64 0]) ∧ Below w.heap.size w w') := by
 have HE := Lib.hid (fun W (h : Below w.heap.size w W) => hE.below h)
 have HC := Lib.hid (checkEvents_any [] none 0 w hE ⟨SA.nil _ _, fun e he => by cases he⟩ (by simp) (fun e he => by cases he))
 rw [evs_nil] at HC
 have HSelf : Hid (∀ W, Below w.heap.size w W → Calls Tryz.prog 49 #[.agg #[.string ⟨#[]⟩, .string ⟨#[97]⟩, .int .i64 5, .slice none 0 0, .int .i64 7, .string ⟨#[]⟩, .string ⟨#[112]⟩, .string ⟨#[]⟩, .string ⟨#[]⟩]] W (Gives (.int .i64 0) W)) := fun W h => by
  have := selfFault_any evOff W (HE.out W h).1 evOff_ok ⟨SA.nil _ _, Nat.le_refl _⟩
  rw [evOff_self] at this
  exact this
 have HSum : Hid (∀ W, Below w.heap.size w W → Calls Tryz.prog 50 #[.agg #[.string ⟨#[]⟩, .string ⟨#[97]⟩, .int .i64 5, .slice none 0 0, .int .i64 7, .string ⟨#[]⟩, .string ⟨#[112]⟩, .string ⟨#[]⟩, .string ⟨#[]⟩]] W (Gives (.string (evSum evOff)) W)) := fun W h => sumOf_any evOff W (HE.out W h) evOff_ok ⟨SA.nil _ _, Nat.le_refl _⟩
 have hkey : keyB ⟨#[97]⟩ = true := by kernel_rfl
 have HK : Hid (∀ W, Calls Tryz.prog 57 #[.string ⟨#[97]⟩] W (fun e w' => e = .returned (.bool true) ∧ W = w')) := fun W => by have := isKey_any ⟨#[97]⟩ W (by decide); rw [hkey] at this; exact this
 clear hE hkey
 generalize evSum evOff = sm at *
 go_enter Tryz.func17, Tryz.ntmps17
 go_wp2_with fail
 refine HC.out.mono ?_
 rintro e w1 ⟨rfl, hb1⟩
 go_wp2_with fail
 refine (HK.out _).mono ?_
 rintro e w' ⟨rfl, rfl⟩
 go_wp2_with fail
 refine (headsNil_any _).mono ?_
 rintro e w2 ⟨rfl, hb2⟩
 have hb02 := below_next hb1 hb2
 have hbA : Below w.heap.size w (w2.alloc (.cells #[.string ⟨#[]⟩, .string ⟨#[97]⟩, .int .i64 5, .slice none 0 0, .int .i64 7, .string ⟨#[]⟩, .string ⟨#[112]⟩, .string ⟨#[]⟩, .string ⟨#[]⟩] 53)) := hb02.alloc hb02.size _
 have hbx := Box.new w2 53 #[.string ⟨#[]⟩, .string ⟨#[97]⟩, .int .i64 5, .slice none 0 0, .int .i64 7, .string ⟨#[]⟩, .string ⟨#[112]⟩, .string ⟨#[]⟩, .string ⟨#[]⟩]
 go_upto_region 7 with (fail)
 generalize w2.alloc (.cells #[.string ⟨#[]⟩, .string ⟨#[97]⟩, .int .i64 5, .slice none 0 0, .int .i64 7, .string ⟨#[]⟩, .string ⟨#[112]⟩, .string ⟨#[]⟩, .string ⟨#[]⟩] 53) = w3 at *
 have hwq : w.heap.size ≤ w2.heap.size := hb02.size
 generalize w2.heap.size = q at *
 have HbA := Lib.hid hbA
 have Hbx := Lib.hid hbx
 clear hbA
 have hbx_l := hbx.lt; have hbx_0 := hbx.cell 0; have hbx_1 := hbx.cell 1; have hbx_2 := hbx.cell 2; have hbx_3 := hbx.cell 3; have hbx_4 := hbx.cell 4; have hbx_5 := hbx.cell 5; have hbx_6 := hbx.cell 6; have hbx_7 := hbx.cell 7; have hbx_8 := hbx.cell 8; simp at hbx_0 hbx_1 hbx_2 hbx_3 hbx_4 hbx_5 hbx_6 hbx_7 hbx_8
 go_wp2_with fail
 refine (HSelf.out _ HbA.out).mono ?_
 rintro e w4 ⟨rfl, hb4⟩
 have Hb4 : Hid (Below w.heap.size w w4) := below_next HbA.out hb4
 have Hbx4 := Lib.hid (Hbx.out.below hb4)
 clear hbx_l hbx_0 hbx_1 hbx_2 hbx_3 hbx_4 hbx_5 hbx_6 hbx_7 hbx_8
 clear hbx Hbx HbA hb4 hb1 hb2 hb02
 have hbx := Hbx4.out
 have hbx_l := hbx.lt; have hbx_0 := hbx.cell 0; have hbx_1 := hbx.cell 1; have hbx_2 := hbx.cell 2; have hbx_3 := hbx.cell 3; have hbx_4 := hbx.cell 4; have hbx_5 := hbx.cell 5; have hbx_6 := hbx.cell 6; have hbx_7 := hbx.cell 7; have hbx_8 := hbx.cell 8; simp at hbx_0 hbx_1 hbx_2 hbx_3 hbx_4 hbx_5 hbx_6 hbx_7 hbx_8
 go_wp2_with fail
 refine wp_loop_rounds 1 ?_
 rw [rounds_succ]
 go_wp2_with fail
 refine (HSum.out _ Hb4.out).mono ?_
 rintro e w5 ⟨rfl, hb5⟩
 have Hb5 : Hid (Below w.heap.size w w5) := below_next Hb4.out hb5
 have Hbx5 := Lib.hid (Hbx4.out.below hb5)
 clear hbx_l hbx_0 hbx_1 hbx_2 hbx_3 hbx_4 hbx_5 hbx_6 hbx_7 hbx_8
 clear hbx Hbx4 Hb4 hb5
 have hbx := Hbx5.out
 have hbx_l := hbx.lt; have hbx_0 := hbx.cell 0; have hbx_1 := hbx.cell 1; have hbx_2 := hbx.cell 2; have hbx_3 := hbx.cell 3; have hbx_4 := hbx.cell 4; have hbx_5 := hbx.cell 5; have hbx_6 := hbx.cell 6; have hbx_7 := hbx.cell 7; have hbx_8 := hbx.cell 8; simp at hbx_0 hbx_1 hbx_2 hbx_3 hbx_4 hbx_5 hbx_6 hbx_7 hbx_8
 have hbx_f0 := hbx.frozen 0
 have hbx6 : Box (w5.setCell ⟨q, 0, none⟩ (.string sm)) q 53 #[.string sm, .string ⟨#[97]⟩, .int .i64 5, .slice none 0 0, .int .i64 7, .string ⟨#[]⟩, .string ⟨#[112]⟩, .string ⟨#[]⟩, .string ⟨#[]⟩] := by have := hbx.set 0 (.string sm); simpa using this
 have hb6 : Below w.heap.size w (w5.setCell ⟨q, 0, none⟩ (.string sm)) := Hb5.out.setCell (by show _ ≤ q; exact hwq) _
 go_upto_region 20 with (fail)
 generalize w5.setCell ⟨q, 0, none⟩ (.string sm) = w6 at *
 clear hbx_l hbx_0 hbx_1 hbx_2 hbx_3 hbx_4 hbx_5 hbx_6 hbx_7 hbx_8
 clear hbx hbx_f0 Hbx5 Hb5
 have hql := hbx6.lt
 go_cut [26] (fun v wx => ∃ lo, w6.heap.size ≤ lo ∧ Own lo 53 wx v [(⟨sm, ⟨#[97]⟩, 5, [], 7, ⟨#[]⟩, ⟨#[112]⟩, ⟨#[]⟩, ⟨#[]⟩, none, 0⟩ : Ev)] ∧ Below w6.heap.size w6 wx)
 case first =>
  refine wp_region_held_drew (S := (fun wx => Box wx q 53 #[.string sm, .string ⟨#[97]⟩, .int .i64 5, .slice none 0 0, .int .i64 7, .string ⟨#[]⟩, .string ⟨#[112]⟩, .string ⟨#[]⟩, .string ⟨#[]⟩] ∧ Below w6.heap.size w6 wx)) (by kernel_rfl) ?hS (fun hHeld => ?_)
  case hS => exact ⟨hbx6.drew, (Below.refl _ _).drew⟩
  refine rt 0 (some 86) ?_
  refine rtake (i := 2) (d := (some 88)) (v := ?_) rfl (by kernel_rfl) (by kernel_rfl) (by kernel_rfl) (by kernel_rfl) (fun _ _ _ h => h) (by kernel_rfl) (by assumption) ?_ ?_
  rotate_left 1
  ·
   (intro wI hSI; (have g0 := hSI.1.cell 0; have g1 := hSI.1.cell 1; have g2 := hSI.1.cell 2; have g3 := hSI.1.cell 3; have g4 := hSI.1.cell 4; have g5 := hSI.1.cell 5; have g6 := hSI.1.cell 6; have g7 := hSI.1.cell 7; have g8 := hSI.1.cell 8; simp at g0 g1 g2 g3 g4 g5 g6 g7 g8; clear hSI); go_simp; (try with_reducible rfl))
  simp only [Act.put, lsetA, lsetZ, lsetS]
  refine rcall2 (i := 1) (j := 3) (di := some 87) (dj := some 89) (by kernel_rfl) rfl (by kernel_rfl) rfl (by kernel_rfl) (fun K hK => ?_) (fun K hK => ?_)
  ·
   go_simp
   go_at_call 59
   refine (cloneAllNil_any _).mono ?_
   rintro e u1 ⟨rfl, rfl⟩
   refine hK.out _ _ ?hS (fun hHeldN => ?_)
   case hS => exact hHeld
   clear hK K hHeld
   have hHeld := hHeldN
   simp only [Act.put, lsetA, lsetZ, lsetS]
   refine rcall (i := 3) (d := (some 89)) (by kernel_rfl) rfl (by kernel_rfl) (fun K hK => ?_)
   go_simp
   skip
   refine hK.out _ _ ?hS (fun hHeld => ?_)
   case hS => exact ⟨hHeld.1.alloc _, hHeld.2.alloc hHeld.2.size _⟩
   clear hK K
   simp only [Act.put, lsetA, lsetZ, lsetS]
   refine rcall (i := 4) (d := (some 90)) (by kernel_rfl) rfl (by kernel_rfl) (fun K hK => ?_)
   refine step_append_one (α := Ev) (base := w6.heap.size) (by rfl) _ _ 26 (by rfl) 53 136 (.agg #[.string ⟨#[]⟩, .string ⟨#[]⟩, .int .i64 0, .slice none 0 0, .int .i64 0, .string ⟨#[]⟩, .string ⟨#[]⟩, .string ⟨#[]⟩, .string ⟨#[]⟩]) Tryz.underlying26 infoEv (by rfl) (.slice none 0 0) [] (by rfl) (Own.nil _ _ _) (⟨sm, ⟨#[97]⟩, 5, [], 7, ⟨#[]⟩, ⟨#[112]⟩, ⟨#[]⟩, ⟨#[]⟩, none, 0⟩ : Ev) w6.heap.size (by rfl) (Box.new w6.drew 53 #[.string sm, .string ⟨#[97]⟩, .int .i64 5, .slice none 0 0, .int .i64 7, .string ⟨#[]⟩, .string ⟨#[112]⟩, .string ⟨#[]⟩, .string ⟨#[]⟩]) (by decide) (by decide) (by show w6.heap.size ≤ (w6.heap.push _).size; rw [Array.size_push]; omega) ?_; intro g9 cap9 wX hown9 hg9; have hbX := Below.grown hHeld.2 hg9 (by show w6.heap.size ≤ (w6.heap.push _).size; rw [Array.size_push]; omega) (fun j hj => by cases hj)
   refine hK.out _ _ ?hS (fun hHeld => ?_)
   case hS => exact ⟨hHeld.1.grown hg9 (fun h => by cases h), hbX⟩
   clear hK K
   simp only [Act.put, lsetA, lsetZ, lsetS]
   refine rt 5 (some 26) ?_
   refine wpAnyH_done (by kernel_rfl) ?_ _
   go_wp2_with fail
   go_meet
   exact ⟨w6.heap.size, Nat.le_refl _, hown9, hbX⟩
  ·
   go_simp
   have hbA : Below w6.heap.size w6 ((w6.alloc (.cells #[.string sm, .string ⟨#[97]⟩, .int .i64 5, .slice none 0 0, .int .i64 7, .string ⟨#[]⟩, .string ⟨#[112]⟩, .string ⟨#[]⟩, .string ⟨#[]⟩] 53)).drew) := ((Below.refl _ _).alloc (Nat.le_refl _) _).drew
   have hnb : Box ((w6.alloc (.cells #[.string sm, .string ⟨#[97]⟩, .int .i64 5, .slice none 0 0, .int .i64 7, .string ⟨#[]⟩, .string ⟨#[112]⟩, .string ⟨#[]⟩, .string ⟨#[]⟩] 53)).drew) w6.heap.size 53 #[.string sm, .string ⟨#[97]⟩, .int .i64 5, .slice none 0 0, .int .i64 7, .string ⟨#[]⟩, .string ⟨#[112]⟩, .string ⟨#[]⟩, .string ⟨#[]⟩] := (Box.new w6 53 #[.string sm, .string ⟨#[97]⟩, .int .i64 5, .slice none 0 0, .int .i64 7, .string ⟨#[]⟩, .string ⟨#[112]⟩, .string ⟨#[]⟩, .string ⟨#[]⟩]).drew
   refine hK.out _ _ ?hS (fun hHeldN => ?_)
   case hS => exact ⟨(hbx6.alloc _).drew, hbA⟩
   clear hK K hHeld
   have hHeld := hHeldN
   simp only [Act.put, lsetA, lsetZ, lsetS]
   generalize (w6.alloc (.cells #[.string sm, .string ⟨#[97]⟩, .int .i64 5, .slice none 0 0, .int .i64 7, .string ⟨#[]⟩, .string ⟨#[112]⟩, .string ⟨#[]⟩, .string ⟨#[]⟩] 53)).drew = u0 at *
   have hzu0 := hbA.size
   refine rcall (i := 1) (d := (some 87)) (by kernel_rfl) rfl (by kernel_rfl) (fun K hK => ?_)
   go_simp
   go_at_call 59; refine (cloneAllNil_any _).mono ?_; rintro e u1 ⟨rfl, rfl⟩
   refine hK.out _ _ ?hS (fun hHeld => ?_)
   case hS => exact hHeld
   clear hK K
   simp only [Act.put, lsetA, lsetZ, lsetS]
   refine rcall (i := 4) (d := (some 90)) (by kernel_rfl) rfl (by kernel_rfl) (fun K hK => ?_)
   refine step_append_one (α := Ev) (base := w6.heap.size) (by rfl) _ _ 26 (by rfl) 53 136 (.agg #[.string ⟨#[]⟩, .string ⟨#[]⟩, .int .i64 0, .slice none 0 0, .int .i64 0, .string ⟨#[]⟩, .string ⟨#[]⟩, .string ⟨#[]⟩, .string ⟨#[]⟩]) Tryz.underlying26 infoEv (by rfl) (.slice none 0 0) [] (by rfl) (Own.nil _ _ _) (⟨sm, ⟨#[97]⟩, 5, [], 7, ⟨#[]⟩, ⟨#[112]⟩, ⟨#[]⟩, ⟨#[]⟩, none, 0⟩ : Ev) w6.heap.size (by rfl) hnb (by decide) (by decide) hzu0 ?_; intro g9 cap9 wX hown9 hg9; have hbX := Below.grown hHeld.2 hg9 hzu0 (fun j hj => by cases hj)
   refine hK.out _ _ ?hS (fun hHeld => ?_)
   case hS => exact ⟨hHeld.1.grown hg9 (fun h => by cases h), hbX⟩
   clear hK K
   simp only [Act.put, lsetA, lsetZ, lsetS]
   refine rt 5 (some 26) ?_
   refine wpAnyH_done (by kernel_rfl) ?_ _
   go_wp2_with fail
   go_meet
   exact ⟨w6.heap.size, Nat.le_refl _, hown9, hbX⟩
 case rest =>
  obtain ⟨lo, hlo, hown7, hb7⟩ := hcut
  obtain ⟨av, cv, rfl, hsa7, hf7, hc7⟩ := hown7.form
  have hol := hown7.lt
  have HSort := Lib.hid (sortEvs_any lo _ _ wc 60 (enters_of Tryz.func60 (by kernel_rfl) rfl) (fun x y W => bySum_any x y W) hown7 (by simp))
  clear hsa7 hf7 hc7
  go_wp2_with fail
  refine HSort.out.mono ?_
  rintro e w8 ⟨rfl, hown8, hk8⟩
  have hb8 : Below w6.heap.size w6 w8 := belowKp hb7 hk8 (fun j hj => by have := (hol j hj).1; omega) hb7.size
  have hbF := below_next hb6 hb8
  go_wp2_with fail
  go_ret2
  exact ⟨_, _, rfl, hbF⟩
set_option maxHeartbeats 1000000 in
theorem offices_any (w : World) (hE : EnvE w) : Calls Tryz.prog 11 #[] w (Gives (.bool true) w) := by
 go_enter Tryz.func11, Tryz.ntmps11
 go_wp2_with fail
 refine (addNil_any w hE).mono ?_
 rintro e w1 ⟨a, c, rfl, hb1⟩
 go_wp2_with fail
 go_ret
 exact ⟨rfl, hb1⟩
end Go.Proofs.YtnocceilpnmbpaaGreatDoor
