/- Arrivals in order: the comparisons, slices.SortFunc of any number of them. -/
import Derived.Test.YtifflpilnpcmoaaGreatDoorStateP
import Derived.Test.YtifflpilnpcmoaaGreatDoorSortW
import Derived.Test.YtifflpilnpcmoaaGreatDoorSortL
import Derived.Test.YtifflpilnpcmoaaGreatDoorReg
namespace Go.Proofs.YtifflpilnpcmoaaGreatDoor
open Go.RowKit Go.Sort
set_option linter.unusedVariables false
set_option linter.unusedSimpArgs false

def encA (x : Arv) : Value := .agg #[.string x.1, .int .i64 x.2.1, .int .i64 x.2.2.1, .string x.2.2.2.1, .string x.2.2.2.2]
theorem sortA_nil : sortC cmpA [] = [] := List.length_eq_zero_iff.1 (sortC_len totC_A [])
set_option maxRecDepth 100000 in
set_option maxHeartbeats 4000000 in
theorem compareA_any (x y : Arv) (w : World) : Calls Tryz.prog 59 #[encA x, encA y] w (fun e w' => e = .returned (.int .i64 (cmpA x y)) ∧ Grw w w') := by
  obtain ⟨x1, x2, x3, x4, x5⟩ := x
  obtain ⟨y1, y2, y3, y4, y5⟩ := y
  have HC : Hid (cmpA (x1, x2, x3, x4, x5) (y1, y2, y3, y4, y5) = firstOf [cmpS x1 y1, Lib.compareInt x2 y2, Lib.compareInt x3 y3, cmpS x4 y4, cmpS x5 y5]) := rfl
  have HI1 : Hid (∀ W', Calls Tryz.prog 78 #[.string x1, .string y1] W' (fun e w' => e = .returned (.int .i64 (cmpS x1 y1)) ∧ w' = W')) := fun W' => Tryz.strings_Compare x1 y1 W'
  have HI2 := Lib.hid (fun W => Tryz.cmp_Compare_int x2 y2 W)
  have HI3 := Lib.hid (fun W => Tryz.cmp_Compare_int x3 y3 W)
  have HI4 : Hid (∀ W', Calls Tryz.prog 78 #[.string x4, .string y4] W' (fun e w' => e = .returned (.int .i64 (cmpS x4 y4)) ∧ w' = W')) := fun W' => Tryz.strings_Compare x4 y4 W'
  have HI5 : Hid (∀ W', Calls Tryz.prog 78 #[.string x5, .string y5] W' (fun e w' => e = .returned (.int .i64 (cmpS x5 y5)) ∧ w' = W')) := fun W' => Tryz.strings_Compare x5 y5 W'
  generalize cmpA (x1, x2, x3, x4, x5) (y1, y2, y3, y4, y5) = z at *
  generalize cmpS x1 y1 = c1 at *
  generalize Lib.compareInt x2 y2 = c2 at *
  generalize Lib.compareInt x3 y3 = c3 at *
  generalize cmpS x4 y4 = c4 at *
  generalize cmpS x5 y5 = c5 at *
  have hX := (Box.new w 63 #[.string x1, .int .i64 x2, .int .i64 x3, .string x4, .string x5]).alloc (.cells #[.string y1, .int .i64 y2, .int .i64 y3, .string y4, .string y5] 63)
  have hY := Box.newAt (w.alloc (.cells #[.string x1, .int .i64 x2, .int .i64 x3, .string x4, .string x5] 63)) (w.heap.size + 1) 63 #[.string y1, .int .i64 y2, .int .i64 y3, .string y4, .string y5] (by simp)
  unfold encA
  go_enter Tryz.func59, Tryz.ntmps59
  go_upto_region 1 with (fail)
  have hG : Grw w ((w.alloc (.cells #[.string x1, .int .i64 x2, .int .i64 x3, .string x4, .string x5] 63)).alloc (.cells #[.string y1, .int .i64 y2, .int .i64 y3, .string y4, .string y5] 63)) := ((Grw.refl _).alloc _).alloc _
  generalize (w.alloc (.cells #[.string x1, .int .i64 x2, .int .i64 x3, .string x4, .string x5] 63)).alloc (.cells #[.string y1, .int .i64 y2, .int .i64 y3, .string y4, .string y5] 63) = W at *
  have hX_l := hX.lt; have hX_0 := hX.cell 0; have hX_1 := hX.cell 1; have hX_2 := hX.cell 2; have hX_3 := hX.cell 3; have hX_4 := hX.cell 4; simp at hX_0 hX_1 hX_2 hX_3 hX_4
  have hY_l := hY.lt; have hY_0 := hY.cell 0; have hY_1 := hY.cell 1; have hY_2 := hY.cell 2; have hY_3 := hY.cell 3; have hY_4 := hY.cell 4; simp at hY_0 hY_1 hY_2 hY_3 hY_4
  refine wp_region_held_drew (S := (fun wx => wx.cell? ⟨w.heap.size, 0, none⟩ = some (.string x1) ∧ wx.cell? ⟨w.heap.size, 1, none⟩ = some (.int .i64 x2) ∧ wx.cell? ⟨w.heap.size, 2, none⟩ = some (.int .i64 x3) ∧ wx.cell? ⟨w.heap.size, 3, none⟩ = some (.string x4) ∧ wx.cell? ⟨w.heap.size, 4, none⟩ = some (.string x5) ∧ wx.cell? ⟨w.heap.size + 1, 0, none⟩ = some (.string y1) ∧ wx.cell? ⟨w.heap.size + 1, 1, none⟩ = some (.int .i64 y2) ∧ wx.cell? ⟨w.heap.size + 1, 2, none⟩ = some (.int .i64 y3) ∧ wx.cell? ⟨w.heap.size + 1, 3, none⟩ = some (.string y4) ∧ wx.cell? ⟨w.heap.size + 1, 4, none⟩ = some (.string y5) ∧ Grw W wx)) (by kernel_rfl) ?hS (fun hHeld => ?_)
  case hS => exact ⟨hX_0, hX_1, hX_2, hX_3, hX_4, hY_0, hY_1, hY_2, hY_3, hY_4, (Grw.refl _).drew⟩
  refine rtake (i := 0) (d := (some 5)) (v := ?_) rfl (by kernel_rfl) (by kernel_rfl) (by kernel_rfl) (by kernel_rfl) (fun _ _ _ h => h) (by kernel_rfl) (by assumption) ?_ ?_
  rotate_left 1
  · (intro wI hSI; (try dsimp only at hSI); go_simp; (try with_reducible rfl))
  simp only [Act.put, List.setIfInBounds_toArray, List.set_cons_zero, List.set_cons_succ]
  refine rtake (i := 1) (d := (some 6)) (v := ?_) rfl (by kernel_rfl) (by kernel_rfl) (by kernel_rfl) (by kernel_rfl) (fun _ _ _ h => h) (by kernel_rfl) (by assumption) ?_ ?_
  rotate_left 1
  · (intro wI hSI; (try dsimp only at hSI); go_simp; (try with_reducible rfl))
  simp only [Act.put, List.setIfInBounds_toArray, List.set_cons_zero, List.set_cons_succ]
  refine rtake (i := 2) (d := (some 7)) (v := ?_) rfl (by kernel_rfl) (by kernel_rfl) (by kernel_rfl) (by kernel_rfl) (fun _ _ _ h => h) (by kernel_rfl) (by assumption) ?_ ?_
  rotate_left 1
  · (intro wI hSI; (try dsimp only at hSI); go_simp; (try with_reducible rfl))
  simp only [Act.put, List.setIfInBounds_toArray, List.set_cons_zero, List.set_cons_succ]
  refine rtake (i := 3) (d := (some 8)) (v := ?_) rfl (by kernel_rfl) (by kernel_rfl) (by kernel_rfl) (by kernel_rfl) (fun _ _ _ h => h) (by kernel_rfl) (by assumption) ?_ ?_
  rotate_left 1
  · (intro wI hSI; (try dsimp only at hSI); go_simp; (try with_reducible rfl))
  simp only [Act.put, List.setIfInBounds_toArray, List.set_cons_zero, List.set_cons_succ]
  refine rtake (i := 5) (d := (some 10)) (v := ?_) rfl (by kernel_rfl) (by kernel_rfl) (by kernel_rfl) (by kernel_rfl) (fun _ _ _ h => h) (by kernel_rfl) (by assumption) ?_ ?_
  rotate_left 1
  · (intro wI hSI; (try dsimp only at hSI); go_simp; (try with_reducible rfl))
  simp only [Act.put, List.setIfInBounds_toArray, List.set_cons_zero, List.set_cons_succ]
  refine rtake (i := 6) (d := (some 11)) (v := ?_) rfl (by kernel_rfl) (by kernel_rfl) (by kernel_rfl) (by kernel_rfl) (fun _ _ _ h => h) (by kernel_rfl) (by assumption) ?_ ?_
  rotate_left 1
  · (intro wI hSI; (try dsimp only at hSI); go_simp; (try with_reducible rfl))
  simp only [Act.put, List.setIfInBounds_toArray, List.set_cons_zero, List.set_cons_succ]
  refine rtake (i := 7) (d := (some 12)) (v := ?_) rfl (by kernel_rfl) (by kernel_rfl) (by kernel_rfl) (by kernel_rfl) (fun _ _ _ h => h) (by kernel_rfl) (by assumption) ?_ ?_
  rotate_left 1
  · (intro wI hSI; (try dsimp only at hSI); go_simp; (try with_reducible rfl))
  simp only [Act.put, List.setIfInBounds_toArray, List.set_cons_zero, List.set_cons_succ]
  refine rtake (i := 8) (d := (some 13)) (v := ?_) rfl (by kernel_rfl) (by kernel_rfl) (by kernel_rfl) (by kernel_rfl) (fun _ _ _ h => h) (by kernel_rfl) (by assumption) ?_ ?_
  rotate_left 1
  · (intro wI hSI; (try dsimp only at hSI); go_simp; (try with_reducible rfl))
  simp only [Act.put, List.setIfInBounds_toArray, List.set_cons_zero, List.set_cons_succ]
  refine rtake (i := 10) (d := (some 15)) (v := ?_) rfl (by kernel_rfl) (by kernel_rfl) (by kernel_rfl) (by kernel_rfl) (fun _ _ _ h => h) (by kernel_rfl) (by assumption) ?_ ?_
  rotate_left 1
  · (intro wI hSI; (try dsimp only at hSI); go_simp; (try with_reducible rfl))
  simp only [Act.put, List.setIfInBounds_toArray, List.set_cons_zero, List.set_cons_succ]
  refine rtake (i := 11) (d := (some 16)) (v := ?_) rfl (by kernel_rfl) (by kernel_rfl) (by kernel_rfl) (by kernel_rfl) (fun _ _ _ h => h) (by kernel_rfl) (by assumption) ?_ ?_
  rotate_left 1
  · (intro wI hSI; (try dsimp only at hSI); go_simp; (try with_reducible rfl))
  simp only [Act.put, List.setIfInBounds_toArray, List.set_cons_zero, List.set_cons_succ]
  refine rtake (i := 12) (d := (some 17)) (v := ?_) rfl (by kernel_rfl) (by kernel_rfl) (by kernel_rfl) (by kernel_rfl) (fun _ _ _ h => h) (by kernel_rfl) (by assumption) ?_ ?_
  rotate_left 1
  · (intro wI hSI; (try dsimp only at hSI); go_simp; (try with_reducible rfl))
  simp only [Act.put, List.setIfInBounds_toArray, List.set_cons_zero, List.set_cons_succ]
  refine rtake (i := 13) (d := (some 18)) (v := ?_) rfl (by kernel_rfl) (by kernel_rfl) (by kernel_rfl) (by kernel_rfl) (fun _ _ _ h => h) (by kernel_rfl) (by assumption) ?_ ?_
  rotate_left 1
  · (intro wI hSI; (try dsimp only at hSI); go_simp; (try with_reducible rfl))
  simp only [Act.put, List.setIfInBounds_toArray, List.set_cons_zero, List.set_cons_succ]
  refine rtake (i := 15) (d := (some 20)) (v := ?_) rfl (by kernel_rfl) (by kernel_rfl) (by kernel_rfl) (by kernel_rfl) (fun _ _ _ h => h) (by kernel_rfl) (by assumption) ?_ ?_
  rotate_left 1
  · (intro wI hSI; (try dsimp only at hSI); go_simp; (try with_reducible rfl))
  simp only [Act.put, List.setIfInBounds_toArray, List.set_cons_zero, List.set_cons_succ]
  refine rtake (i := 16) (d := (some 21)) (v := ?_) rfl (by kernel_rfl) (by kernel_rfl) (by kernel_rfl) (by kernel_rfl) (fun _ _ _ h => h) (by kernel_rfl) (by assumption) ?_ ?_
  rotate_left 1
  · (intro wI hSI; (try dsimp only at hSI); go_simp; (try with_reducible rfl))
  simp only [Act.put, List.setIfInBounds_toArray, List.set_cons_zero, List.set_cons_succ]
  refine rtake (i := 17) (d := (some 22)) (v := ?_) rfl (by kernel_rfl) (by kernel_rfl) (by kernel_rfl) (by kernel_rfl) (fun _ _ _ h => h) (by kernel_rfl) (by assumption) ?_ ?_
  rotate_left 1
  · (intro wI hSI; (try dsimp only at hSI); go_simp; (try with_reducible rfl))
  simp only [Act.put, List.setIfInBounds_toArray, List.set_cons_zero, List.set_cons_succ]
  refine rtake (i := 18) (d := (some 23)) (v := ?_) rfl (by kernel_rfl) (by kernel_rfl) (by kernel_rfl) (by kernel_rfl) (fun _ _ _ h => h) (by kernel_rfl) (by assumption) ?_ ?_
  rotate_left 1
  · (intro wI hSI; (try dsimp only at hSI); go_simp; (try with_reducible rfl))
  simp only [Act.put, List.setIfInBounds_toArray, List.set_cons_zero, List.set_cons_succ]
  refine rtake (i := 20) (d := (some 25)) (v := ?_) rfl (by kernel_rfl) (by kernel_rfl) (by kernel_rfl) (by kernel_rfl) (fun _ _ _ h => h) (by kernel_rfl) (by assumption) ?_ ?_
  rotate_left 1
  · (intro wI hSI; (try dsimp only at hSI); go_simp; (try with_reducible rfl))
  simp only [Act.put, List.setIfInBounds_toArray, List.set_cons_zero, List.set_cons_succ]
  refine rtake (i := 21) (d := (some 26)) (v := ?_) rfl (by kernel_rfl) (by kernel_rfl) (by kernel_rfl) (by kernel_rfl) (fun _ _ _ h => h) (by kernel_rfl) (by assumption) ?_ ?_
  rotate_left 1
  · (intro wI hSI; (try dsimp only at hSI); go_simp; (try with_reducible rfl))
  simp only [Act.put, List.setIfInBounds_toArray, List.set_cons_zero, List.set_cons_succ]
  refine rtake (i := 22) (d := (some 27)) (v := ?_) rfl (by kernel_rfl) (by kernel_rfl) (by kernel_rfl) (by kernel_rfl) (fun _ _ _ h => h) (by kernel_rfl) (by assumption) ?_ ?_
  rotate_left 1
  · (intro wI hSI; (try dsimp only at hSI); go_simp; (try with_reducible rfl))
  simp only [Act.put, List.setIfInBounds_toArray, List.set_cons_zero, List.set_cons_succ]
  refine rtake (i := 23) (d := (some 28)) (v := ?_) rfl (by kernel_rfl) (by kernel_rfl) (by kernel_rfl) (by kernel_rfl) (fun _ _ _ h => h) (by kernel_rfl) (by assumption) ?_ ?_
  rotate_left 1
  · (intro wI hSI; (try dsimp only at hSI); go_simp; (try with_reducible rfl))
  simp only [Act.put, List.setIfInBounds_toArray, List.set_cons_zero, List.set_cons_succ]
  refine rcall (i := 4) (d := (some 9)) (by kernel_rfl) rfl (by kernel_rfl) (fun K hK => ?_)
  go_simp
  go_at_call 78; refine (HI1.out _).mono ?_; rintro e w' ⟨rfl, rfl⟩
  refine hK.out _ _ ?hS (fun hHeld => ?_)
  case hS => exact hHeld
  clear hK K
  simp only [Act.put, List.setIfInBounds_toArray, List.set_cons_zero, List.set_cons_succ]
  refine rcall (i := 9) (d := (some 14)) (by kernel_rfl) rfl (by kernel_rfl) (fun K hK => ?_)
  go_simp
  go_at_call 77; refine (HI2.out _).mono ?_; rintro e w' ⟨rfl, rfl⟩
  refine hK.out _ _ ?hS (fun hHeld => ?_)
  case hS => exact hHeld
  clear hK K
  simp only [Act.put, List.setIfInBounds_toArray, List.set_cons_zero, List.set_cons_succ]
  refine rcall (i := 14) (d := (some 19)) (by kernel_rfl) rfl (by kernel_rfl) (fun K hK => ?_)
  go_simp
  go_at_call 77; refine (HI3.out _).mono ?_; rintro e w' ⟨rfl, rfl⟩
  refine hK.out _ _ ?hS (fun hHeld => ?_)
  case hS => exact hHeld
  clear hK K
  simp only [Act.put, List.setIfInBounds_toArray, List.set_cons_zero, List.set_cons_succ]
  refine rcall (i := 19) (d := (some 24)) (by kernel_rfl) rfl (by kernel_rfl) (fun K hK => ?_)
  go_simp
  go_at_call 78; refine (HI4.out _).mono ?_; rintro e w' ⟨rfl, rfl⟩
  refine hK.out _ _ ?hS (fun hHeld => ?_)
  case hS => exact hHeld
  clear hK K
  simp only [Act.put, List.setIfInBounds_toArray, List.set_cons_zero, List.set_cons_succ]
  refine rcall (i := 24) (d := (some 29)) (by kernel_rfl) rfl (by kernel_rfl) (fun K hK => ?_)
  go_simp
  go_at_call 78; refine (HI5.out _).mono ?_; rintro e w' ⟨rfl, rfl⟩
  refine hK.out _ _ ?hS (fun hHeld => ?_)
  case hS => exact hHeld
  clear hK K
  simp only [Act.put, List.setIfInBounds_toArray, List.set_cons_zero, List.set_cons_succ]
  refine rcall (i := 25) (d := (some 30)) (by kernel_rfl) rfl (by kernel_rfl) (fun K hK => ?_)
  go_simp
  skip
  refine hK.out _ _ ?hS (fun hHeld => ?_)
  case hS => exact (have hA : ∀ (w : World) (o : Obj), Grw w (w.alloc o) := fun w o => (Grw.refl _).alloc o; ⟨cell_later (hA _ _).1 hHeld.1, cell_later (hA _ _).1 hHeld.2.1, cell_later (hA _ _).1 hHeld.2.2.1, cell_later (hA _ _).1 hHeld.2.2.2.1, cell_later (hA _ _).1 hHeld.2.2.2.2.1, cell_later (hA _ _).1 hHeld.2.2.2.2.2.1, cell_later (hA _ _).1 hHeld.2.2.2.2.2.2.1, cell_later (hA _ _).1 hHeld.2.2.2.2.2.2.2.1, cell_later (hA _ _).1 hHeld.2.2.2.2.2.2.2.2.1, cell_later (hA _ _).1 hHeld.2.2.2.2.2.2.2.2.2.1, hHeld.2.2.2.2.2.2.2.2.2.2.trans (hA _ _)⟩)
  clear hK K
  simp only [Act.put, List.setIfInBounds_toArray, List.set_cons_zero, List.set_cons_succ]
  refine rcall (i := 26) (d := (some 31)) (by kernel_rfl) rfl (by kernel_rfl) (fun K hK => ?_)
  go_simp
  go_at_call 76; refine (orI_any [c1, c2, c3, c4, c5] _ 5 _ (Box.sa (by first | exact Box.new _ _ _ | exact (Box.new _ _ _).drew) [c1, c2, c3, c4, c5] rfl) (by simp)).mono ?_; rintro e w' ⟨rfl, rfl⟩
  refine hK.out _ _ ?hS (fun hHeld => ?_)
  case hS => exact hHeld
  clear hK K
  simp only [Act.put, List.setIfInBounds_toArray, List.set_cons_zero, List.set_cons_succ]
  refine rtake (i := 27) (d := (some 4)) (v := ?_) rfl (by kernel_rfl) (by kernel_rfl) (by kernel_rfl) (by kernel_rfl) (fun _ _ _ h => h) (by kernel_rfl) (by assumption) ?_ ?_
  rotate_left 1
  · (intro wI hSI; (try dsimp only at hSI); go_simp; (try with_reducible rfl))
  simp only [Act.put, List.setIfInBounds_toArray, List.set_cons_zero, List.set_cons_succ]
  refine wpAnyH_done (by kernel_rfl) ?_ _
  have hbF := hG.trans hHeld.2.2.2.2.2.2.2.2.2.2
  go_wp2_with fail
  go_ret
  exact ⟨by rw [HC.out] <;> rfl, hbF⟩
set_option maxRecDepth 100000 in
set_option maxHeartbeats 4000000 in
theorem orderA_any (x y : Arv) (w : World) : Calls Tryz.prog 48 #[encA x, encA y] w (fun e w' => e = .returned (.int .i64 (cmpO x y)) ∧ Grw w w') := by
  obtain ⟨x1, x2, x3, x4, x5⟩ := x
  obtain ⟨y1, y2, y3, y4, y5⟩ := y
  have HC : Hid (cmpO (x1, x2, x3, x4, x5) (y1, y2, y3, y4, y5) = firstOf [Lib.compareInt x2 y2, Lib.compareInt x3 y3, cmpS x4 y4, cmpS x5 y5]) := rfl
  have HI2 := Lib.hid (fun W => Tryz.cmp_Compare_int x2 y2 W)
  have HI3 := Lib.hid (fun W => Tryz.cmp_Compare_int x3 y3 W)
  have HI4 : Hid (∀ W', Calls Tryz.prog 78 #[.string x4, .string y4] W' (fun e w' => e = .returned (.int .i64 (cmpS x4 y4)) ∧ w' = W')) := fun W' => Tryz.strings_Compare x4 y4 W'
  have HI5 : Hid (∀ W', Calls Tryz.prog 78 #[.string x5, .string y5] W' (fun e w' => e = .returned (.int .i64 (cmpS x5 y5)) ∧ w' = W')) := fun W' => Tryz.strings_Compare x5 y5 W'
  generalize cmpO (x1, x2, x3, x4, x5) (y1, y2, y3, y4, y5) = z at *
  generalize Lib.compareInt x2 y2 = c2 at *
  generalize Lib.compareInt x3 y3 = c3 at *
  generalize cmpS x4 y4 = c4 at *
  generalize cmpS x5 y5 = c5 at *
  have hX := (Box.new w 63 #[.string x1, .int .i64 x2, .int .i64 x3, .string x4, .string x5]).alloc (.cells #[.string y1, .int .i64 y2, .int .i64 y3, .string y4, .string y5] 63)
  have hY := Box.newAt (w.alloc (.cells #[.string x1, .int .i64 x2, .int .i64 x3, .string x4, .string x5] 63)) (w.heap.size + 1) 63 #[.string y1, .int .i64 y2, .int .i64 y3, .string y4, .string y5] (by simp)
  unfold encA
  go_enter Tryz.func48, Tryz.ntmps48
  go_upto_region 1 with (fail)
  have hG : Grw w ((w.alloc (.cells #[.string x1, .int .i64 x2, .int .i64 x3, .string x4, .string x5] 63)).alloc (.cells #[.string y1, .int .i64 y2, .int .i64 y3, .string y4, .string y5] 63)) := ((Grw.refl _).alloc _).alloc _
  generalize (w.alloc (.cells #[.string x1, .int .i64 x2, .int .i64 x3, .string x4, .string x5] 63)).alloc (.cells #[.string y1, .int .i64 y2, .int .i64 y3, .string y4, .string y5] 63) = W at *
  have hX_l := hX.lt; have hX_0 := hX.cell 0; have hX_1 := hX.cell 1; have hX_2 := hX.cell 2; have hX_3 := hX.cell 3; have hX_4 := hX.cell 4; simp at hX_0 hX_1 hX_2 hX_3 hX_4
  have hY_l := hY.lt; have hY_0 := hY.cell 0; have hY_1 := hY.cell 1; have hY_2 := hY.cell 2; have hY_3 := hY.cell 3; have hY_4 := hY.cell 4; simp at hY_0 hY_1 hY_2 hY_3 hY_4
  refine wp_region_held_drew (S := (fun wx => wx.cell? ⟨w.heap.size, 1, none⟩ = some (.int .i64 x2) ∧ wx.cell? ⟨w.heap.size, 2, none⟩ = some (.int .i64 x3) ∧ wx.cell? ⟨w.heap.size, 3, none⟩ = some (.string x4) ∧ wx.cell? ⟨w.heap.size, 4, none⟩ = some (.string x5) ∧ wx.cell? ⟨w.heap.size + 1, 1, none⟩ = some (.int .i64 y2) ∧ wx.cell? ⟨w.heap.size + 1, 2, none⟩ = some (.int .i64 y3) ∧ wx.cell? ⟨w.heap.size + 1, 3, none⟩ = some (.string y4) ∧ wx.cell? ⟨w.heap.size + 1, 4, none⟩ = some (.string y5) ∧ Grw W wx)) (by kernel_rfl) ?hS (fun hHeld => ?_)
  case hS => exact ⟨hX_1, hX_2, hX_3, hX_4, hY_1, hY_2, hY_3, hY_4, (Grw.refl _).drew⟩
  refine rtake (i := 0) (d := (some 5)) (v := ?_) rfl (by kernel_rfl) (by kernel_rfl) (by kernel_rfl) (by kernel_rfl) (fun _ _ _ h => h) (by kernel_rfl) (by assumption) ?_ ?_
  rotate_left 1
  · (intro wI hSI; (try dsimp only at hSI); go_simp; (try with_reducible rfl))
  simp only [Act.put, List.setIfInBounds_toArray, List.set_cons_zero, List.set_cons_succ]
  refine rtake (i := 1) (d := (some 6)) (v := ?_) rfl (by kernel_rfl) (by kernel_rfl) (by kernel_rfl) (by kernel_rfl) (fun _ _ _ h => h) (by kernel_rfl) (by assumption) ?_ ?_
  rotate_left 1
  · (intro wI hSI; (try dsimp only at hSI); go_simp; (try with_reducible rfl))
  simp only [Act.put, List.setIfInBounds_toArray, List.set_cons_zero, List.set_cons_succ]
  refine rtake (i := 2) (d := (some 7)) (v := ?_) rfl (by kernel_rfl) (by kernel_rfl) (by kernel_rfl) (by kernel_rfl) (fun _ _ _ h => h) (by kernel_rfl) (by assumption) ?_ ?_
  rotate_left 1
  · (intro wI hSI; (try dsimp only at hSI); go_simp; (try with_reducible rfl))
  simp only [Act.put, List.setIfInBounds_toArray, List.set_cons_zero, List.set_cons_succ]
  refine rtake (i := 3) (d := (some 8)) (v := ?_) rfl (by kernel_rfl) (by kernel_rfl) (by kernel_rfl) (by kernel_rfl) (fun _ _ _ h => h) (by kernel_rfl) (by assumption) ?_ ?_
  rotate_left 1
  · (intro wI hSI; (try dsimp only at hSI); go_simp; (try with_reducible rfl))
  simp only [Act.put, List.setIfInBounds_toArray, List.set_cons_zero, List.set_cons_succ]
  refine rtake (i := 5) (d := (some 10)) (v := ?_) rfl (by kernel_rfl) (by kernel_rfl) (by kernel_rfl) (by kernel_rfl) (fun _ _ _ h => h) (by kernel_rfl) (by assumption) ?_ ?_
  rotate_left 1
  · (intro wI hSI; (try dsimp only at hSI); go_simp; (try with_reducible rfl))
  simp only [Act.put, List.setIfInBounds_toArray, List.set_cons_zero, List.set_cons_succ]
  refine rtake (i := 6) (d := (some 11)) (v := ?_) rfl (by kernel_rfl) (by kernel_rfl) (by kernel_rfl) (by kernel_rfl) (fun _ _ _ h => h) (by kernel_rfl) (by assumption) ?_ ?_
  rotate_left 1
  · (intro wI hSI; (try dsimp only at hSI); go_simp; (try with_reducible rfl))
  simp only [Act.put, List.setIfInBounds_toArray, List.set_cons_zero, List.set_cons_succ]
  refine rtake (i := 7) (d := (some 12)) (v := ?_) rfl (by kernel_rfl) (by kernel_rfl) (by kernel_rfl) (by kernel_rfl) (fun _ _ _ h => h) (by kernel_rfl) (by assumption) ?_ ?_
  rotate_left 1
  · (intro wI hSI; (try dsimp only at hSI); go_simp; (try with_reducible rfl))
  simp only [Act.put, List.setIfInBounds_toArray, List.set_cons_zero, List.set_cons_succ]
  refine rtake (i := 8) (d := (some 13)) (v := ?_) rfl (by kernel_rfl) (by kernel_rfl) (by kernel_rfl) (by kernel_rfl) (fun _ _ _ h => h) (by kernel_rfl) (by assumption) ?_ ?_
  rotate_left 1
  · (intro wI hSI; (try dsimp only at hSI); go_simp; (try with_reducible rfl))
  simp only [Act.put, List.setIfInBounds_toArray, List.set_cons_zero, List.set_cons_succ]
  refine rtake (i := 10) (d := (some 15)) (v := ?_) rfl (by kernel_rfl) (by kernel_rfl) (by kernel_rfl) (by kernel_rfl) (fun _ _ _ h => h) (by kernel_rfl) (by assumption) ?_ ?_
  rotate_left 1
  · (intro wI hSI; (try dsimp only at hSI); go_simp; (try with_reducible rfl))
  simp only [Act.put, List.setIfInBounds_toArray, List.set_cons_zero, List.set_cons_succ]
  refine rtake (i := 11) (d := (some 16)) (v := ?_) rfl (by kernel_rfl) (by kernel_rfl) (by kernel_rfl) (by kernel_rfl) (fun _ _ _ h => h) (by kernel_rfl) (by assumption) ?_ ?_
  rotate_left 1
  · (intro wI hSI; (try dsimp only at hSI); go_simp; (try with_reducible rfl))
  simp only [Act.put, List.setIfInBounds_toArray, List.set_cons_zero, List.set_cons_succ]
  refine rtake (i := 12) (d := (some 17)) (v := ?_) rfl (by kernel_rfl) (by kernel_rfl) (by kernel_rfl) (by kernel_rfl) (fun _ _ _ h => h) (by kernel_rfl) (by assumption) ?_ ?_
  rotate_left 1
  · (intro wI hSI; (try dsimp only at hSI); go_simp; (try with_reducible rfl))
  simp only [Act.put, List.setIfInBounds_toArray, List.set_cons_zero, List.set_cons_succ]
  refine rtake (i := 13) (d := (some 18)) (v := ?_) rfl (by kernel_rfl) (by kernel_rfl) (by kernel_rfl) (by kernel_rfl) (fun _ _ _ h => h) (by kernel_rfl) (by assumption) ?_ ?_
  rotate_left 1
  · (intro wI hSI; (try dsimp only at hSI); go_simp; (try with_reducible rfl))
  simp only [Act.put, List.setIfInBounds_toArray, List.set_cons_zero, List.set_cons_succ]
  refine rtake (i := 15) (d := (some 20)) (v := ?_) rfl (by kernel_rfl) (by kernel_rfl) (by kernel_rfl) (by kernel_rfl) (fun _ _ _ h => h) (by kernel_rfl) (by assumption) ?_ ?_
  rotate_left 1
  · (intro wI hSI; (try dsimp only at hSI); go_simp; (try with_reducible rfl))
  simp only [Act.put, List.setIfInBounds_toArray, List.set_cons_zero, List.set_cons_succ]
  refine rtake (i := 16) (d := (some 21)) (v := ?_) rfl (by kernel_rfl) (by kernel_rfl) (by kernel_rfl) (by kernel_rfl) (fun _ _ _ h => h) (by kernel_rfl) (by assumption) ?_ ?_
  rotate_left 1
  · (intro wI hSI; (try dsimp only at hSI); go_simp; (try with_reducible rfl))
  simp only [Act.put, List.setIfInBounds_toArray, List.set_cons_zero, List.set_cons_succ]
  refine rtake (i := 17) (d := (some 22)) (v := ?_) rfl (by kernel_rfl) (by kernel_rfl) (by kernel_rfl) (by kernel_rfl) (fun _ _ _ h => h) (by kernel_rfl) (by assumption) ?_ ?_
  rotate_left 1
  · (intro wI hSI; (try dsimp only at hSI); go_simp; (try with_reducible rfl))
  simp only [Act.put, List.setIfInBounds_toArray, List.set_cons_zero, List.set_cons_succ]
  refine rtake (i := 18) (d := (some 23)) (v := ?_) rfl (by kernel_rfl) (by kernel_rfl) (by kernel_rfl) (by kernel_rfl) (fun _ _ _ h => h) (by kernel_rfl) (by assumption) ?_ ?_
  rotate_left 1
  · (intro wI hSI; (try dsimp only at hSI); go_simp; (try with_reducible rfl))
  simp only [Act.put, List.setIfInBounds_toArray, List.set_cons_zero, List.set_cons_succ]
  refine rcall (i := 4) (d := (some 9)) (by kernel_rfl) rfl (by kernel_rfl) (fun K hK => ?_)
  go_simp
  go_at_call 77; refine (HI2.out _).mono ?_; rintro e w' ⟨rfl, rfl⟩
  refine hK.out _ _ ?hS (fun hHeld => ?_)
  case hS => exact hHeld
  clear hK K
  simp only [Act.put, List.setIfInBounds_toArray, List.set_cons_zero, List.set_cons_succ]
  refine rcall (i := 9) (d := (some 14)) (by kernel_rfl) rfl (by kernel_rfl) (fun K hK => ?_)
  go_simp
  go_at_call 77; refine (HI3.out _).mono ?_; rintro e w' ⟨rfl, rfl⟩
  refine hK.out _ _ ?hS (fun hHeld => ?_)
  case hS => exact hHeld
  clear hK K
  simp only [Act.put, List.setIfInBounds_toArray, List.set_cons_zero, List.set_cons_succ]
  refine rcall (i := 14) (d := (some 19)) (by kernel_rfl) rfl (by kernel_rfl) (fun K hK => ?_)
  go_simp
  go_at_call 78; refine (HI4.out _).mono ?_; rintro e w' ⟨rfl, rfl⟩
  refine hK.out _ _ ?hS (fun hHeld => ?_)
  case hS => exact hHeld
  clear hK K
  simp only [Act.put, List.setIfInBounds_toArray, List.set_cons_zero, List.set_cons_succ]
  refine rcall (i := 19) (d := (some 24)) (by kernel_rfl) rfl (by kernel_rfl) (fun K hK => ?_)
  go_simp
  go_at_call 78; refine (HI5.out _).mono ?_; rintro e w' ⟨rfl, rfl⟩
  refine hK.out _ _ ?hS (fun hHeld => ?_)
  case hS => exact hHeld
  clear hK K
  simp only [Act.put, List.setIfInBounds_toArray, List.set_cons_zero, List.set_cons_succ]
  refine rcall (i := 20) (d := (some 25)) (by kernel_rfl) rfl (by kernel_rfl) (fun K hK => ?_)
  go_simp
  skip
  refine hK.out _ _ ?hS (fun hHeld => ?_)
  case hS => exact (have hA : ∀ (w : World) (o : Obj), Grw w (w.alloc o) := fun w o => (Grw.refl _).alloc o; ⟨cell_later (hA _ _).1 hHeld.1, cell_later (hA _ _).1 hHeld.2.1, cell_later (hA _ _).1 hHeld.2.2.1, cell_later (hA _ _).1 hHeld.2.2.2.1, cell_later (hA _ _).1 hHeld.2.2.2.2.1, cell_later (hA _ _).1 hHeld.2.2.2.2.2.1, cell_later (hA _ _).1 hHeld.2.2.2.2.2.2.1, cell_later (hA _ _).1 hHeld.2.2.2.2.2.2.2.1, hHeld.2.2.2.2.2.2.2.2.trans (hA _ _)⟩)
  clear hK K
  simp only [Act.put, List.setIfInBounds_toArray, List.set_cons_zero, List.set_cons_succ]
  refine rcall (i := 21) (d := (some 26)) (by kernel_rfl) rfl (by kernel_rfl) (fun K hK => ?_)
  go_simp
  go_at_call 76; refine (orI_any [c2, c3, c4, c5] _ 4 _ (Box.sa (by first | exact Box.new _ _ _ | exact (Box.new _ _ _).drew) [c2, c3, c4, c5] rfl) (by simp)).mono ?_; rintro e w' ⟨rfl, rfl⟩
  refine hK.out _ _ ?hS (fun hHeld => ?_)
  case hS => exact hHeld
  clear hK K
  simp only [Act.put, List.setIfInBounds_toArray, List.set_cons_zero, List.set_cons_succ]
  refine rtake (i := 22) (d := (some 4)) (v := ?_) rfl (by kernel_rfl) (by kernel_rfl) (by kernel_rfl) (by kernel_rfl) (fun _ _ _ h => h) (by kernel_rfl) (by assumption) ?_ ?_
  rotate_left 1
  · (intro wI hSI; (try dsimp only at hSI); go_simp; (try with_reducible rfl))
  simp only [Act.put, List.setIfInBounds_toArray, List.set_cons_zero, List.set_cons_succ]
  refine wpAnyH_done (by kernel_rfl) ?_ _
  have hbF := hG.trans hHeld.2.2.2.2.2.2.2.2
  go_wp2_with fail
  go_ret
  exact ⟨by rw [HC.out] <;> rfl, hbF⟩
set_option maxRecDepth 100000 in
theorem insArr_nil (a : Option Addr) (cap : Nat) (fv : Value) (w : World) : Calls Tryz.prog 131 #[.slice a 0 cap, .int .i64 0, .int .i64 0, fv] w (fun e w' => e = .returned (.tuple #[]) ∧ w' = w) := by
  go_enter Tryz.func131, Tryz.ntmps131
  go_wp2_with fail
  refine wp_loop_rounds 1 ?_
  rw [rounds_succ]
  go_wp2_with fail
  go_end0
  exact ⟨rfl, rfl⟩
set_option maxRecDepth 100000 in
theorem pdqArr_nil (a : Option Addr) (cap : Nat) (m : Int) (fv : Value) (w : World) : Calls Tryz.prog 90 #[.slice a 0 cap, .int .i64 0, .int .i64 0, .int .i64 m, fv] w (fun e w' => e = .returned (.tuple #[]) ∧ w' = w) := by
  have HI := Lib.hid (fun W => insArr_nil a cap fv W)
  go_enter Tryz.func90, Tryz.ntmps90
  go_wp2_with fail
  refine wp_loop_rounds 1 ?_
  rw [rounds_succ]
  go_wp2_with fail
  refine (HI.out _).mono ?_
  rintro e w' ⟨rfl, rfl⟩
  go_wp2_with fail
  (try simp only [Exit.inBlock, Exit.then]); refine bodyPost_ret (results_none rfl _ _ _) rfl ?_
  exact ⟨rfl, rfl⟩
set_option maxRecDepth 100000 in
theorem sortArr_nil (a : Option Addr) (cap : Nat) (fv : Value) (w : World) : Calls Tryz.prog 58 #[.slice a 0 cap, fv] w (fun e w' => e = .returned (.tuple #[]) ∧ w' = w) := by
  have HI := Lib.hid (fun m W => pdqArr_nil a cap m fv W)
  have HB := Lib.hid (fun W => Tryz.bits_Len 0 W (by omega) (by omega))
  go_enter Tryz.func58, Tryz.ntmps58
  go_wp2_with fail
  refine (HB.out _).mono ?_
  rintro e w' ⟨rfl, rfl⟩
  go_wp2_with fail
  refine (HI.out _ _).mono ?_
  rintro e w' ⟨rfl, rfl⟩
  go_wp2_with fail
  go_end0
  exact ⟨rfl, rfl⟩
theorem sortArr_any (base : Nat) (l : List Arv) (v : Value) (w : World) (g : Nat) (eg : ∀ args w, (callFunc g args).run Tryz.prog w = .ok (.enter g args) w) (hc : ∀ x y W, Calls Tryz.prog g #[encA x, encA y] W (fun e w' => e = .returned (.int .i64 (cmpA x y)) ∧ Grw W w'))
    (h : Own base 63 w v l) (hl : l.length ≤ 100000000) :
    Calls Tryz.prog 58 #[v, .func (.func g) #[] #[]] w (fun e w' => e = .returned (.tuple #[]) ∧ Own base 63 w' v (sortC cmpA l) ∧ Kp (fun j => v.ownBlock = some j) w w') := by
  by_cases hn : l = []
  · subst hn
    obtain ⟨a, cap, rfl, _⟩ := h.form
    refine (sortArr_nil a cap _ w).mono ?_
    rintro e w' ⟨rfl, rfl⟩
    rw [sortA_nil]
    exact ⟨rfl, h, Kp.refl _ _⟩
  · obtain ⟨a, cap, rfl, hsa, hab⟩ := h.form
    rcases hsa with hsa | ⟨b, off, rfl, hA⟩
    · exact absurd hsa hn
    have hob : off = 0 := by
      rcases hab with ⟨h1 | ⟨b2, h1, -⟩, -⟩
      · cases h1
      · exact congrArg (·.off) (Option.some.inj h1)
    subst hob
    obtain ⟨cur, hbox⟩ := h.box
    have hH := holdsK_of (fun x : Arv => x) l hbox (by rw [List.map_id']; exact hA)
    have hcon := AnyQ.slices_SortFunc_eq Tryz.sort_Arrival 5 Tryz.isAgg63 Tryz.sizeOf63 (fun x : Arv => Cel.cells x) (fun x => Cel.len _) (fun x => Cel.one _) cmpA totC_A.swo g #[] b 0 cap l.toArray w eg
      (fun m os dk hs x y => (hc x y _).mono fun e w' ⟨h1, h2⟩ => ⟨h1, h2.grown⟩) hH hbox.lt (by rw [List.size_toArray]; omega)
    rw [List.size_toArray] at hcon
    refine hcon.mono ?_
    rintro e w' ⟨rfl, n, os, rfl⟩
    refine ⟨rfl, ?_, (kp_sortK _ _ _ _ _ _ _).mono (fun k hk => .inl (by rw [hk]; rfl))⟩
    have hlen := sortC_len totC_A l
    have hd := holdsK_sortWorldK_c (fun x : Arv => Cel.cells x) 5 w b 0 _ (pdq (ltOf cmpA) l.toArray 0 l.length (Lib.bitLen l.length) true true) n os hH hbox.lt (by unfold sortC at hlen; rw [Array.length_toList] at hlen; rw [hlen, List.size_toArray])
    have hsa := arr_of_holdsK (fun x : Arv => x) hd
    rw [List.map_id'] at hsa
    exact h.turned (fun cur hb => box_sortK hb _ _ _ _ _) hlen hsa
end Go.Proofs.YtifflpilnpcmoaaGreatDoor
