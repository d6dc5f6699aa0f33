/- Twins in their order: the comparisons of both; slices.SortFunc of at most 12 twins. -/
import Derived.Test.YtlpknpjfmacemaaGreatDoorTwinP
import Derived.Test.YtlpknpjfmacemaaGreatDoorCmpF
import Derived.Test.YtlpknpjfmacemaaGreatDoorSortL
namespace Go.Proofs.YtlpknpjfmacemaaGreatDoor
open Go.RowKit Go.Sort
set_option linter.unusedVariables false
set_option linter.unusedSimpArgs false

/-- Compares two twins: more in common first, then by their names. -/
def cmpT (x y : Twin) : Int := firstOf [Lib.compareInt (y.2.2.1 * x.2.2.2) (x.2.2.1 * y.2.2.2), cmpS x.1 y.1, cmpS x.2.1 y.2.1]
def encT (x : Twin) : Value := .agg #[.string x.1, .string x.2.1, .int .i64 x.2.2.1, .int .i64 x.2.2.2]
theorem mul_okF {a b : Int} (h1 : 0 ≤ a) (h2 : a ≤ 600) (h3 : 0 ≤ b) (h4 : b ≤ 600) : 0 ≤ a * b ∧ a * b ≤ 360000 := by
  have := Int.mul_nonneg h1 h3
  have h := Int.mul_le_mul h2 h4 h3 (by omega : (0 : Int) ≤ 600)
  exact ⟨this, by omega⟩
set_option maxRecDepth 100000 in
set_option maxHeartbeats 2000000 in
theorem compareTwins_any (x y : Twin) (hx : OkT x) (hy : OkT y) (w : World) : Calls Tryz.prog 85 #[encT x, encT y] w (fun e w' => e = .returned (.int .i64 (cmpT x y)) ∧ Grw w w') := by
  obtain ⟨x1, x2, x3, x4⟩ := x
  obtain ⟨y1, y2, y3, y4⟩ := y
  obtain ⟨hx1, hx2, hx3, hx4⟩ := hx
  obtain ⟨hy1, hy2, hy3, hy4⟩ := hy
  simp only at hx1 hx2 hx3 hx4 hy1 hy2 hy3 hy4
  have m1 := mul_okF hy1 hy2 (by omega : 0 ≤ x4) hx4
  have m2 := mul_okF hx1 hx2 (by omega : 0 ≤ y4) hy4
  have hw1 : IntKind.i64.wrap (y3 * x4) = y3 * x4 := IntWalk.i64_in _ (by omega)
  have hw2 : IntKind.i64.wrap (x3 * y4) = x3 * y4 := IntWalk.i64_in _ (by omega)
  have HC : Hid (cmpT (x1, x2, x3, x4) (y1, y2, y3, y4) = firstOf [Lib.compareInt (y3 * x4) (x3 * y4), cmpS x1 y1, cmpS x2 y2]) := rfl
  have HI := Lib.hid (fun W => Tryz.cmp_Compare_int (y3 * x4) (x3 * y4) W)
  have HF := Lib.hid (fun W => cmpFracR_any y3 y4 x3 x4 W (by omega) (by omega))
  have HS1 : Hid (∀ W', Calls Tryz.prog 91 #[.string x1, .string y1] W' (fun e w' => e = .returned (.int .i64 (cmpS x1 y1)) ∧ w' = W')) := fun W' => Tryz.strings_Compare x1 y1 W'
  have HS2 : Hid (∀ W', Calls Tryz.prog 91 #[.string x2, .string y2] W' (fun e w' => e = .returned (.int .i64 (cmpS x2 y2)) ∧ w' = W')) := fun W' => Tryz.strings_Compare x2 y2 W'
  generalize cmpT (x1, x2, x3, x4) (y1, y2, y3, y4) = z at *
  generalize Lib.compareInt (y3 * x4) (x3 * y4) = ci at *
  generalize cmpS x1 y1 = c1 at *
  generalize cmpS x2 y2 = c2 at *
  have hX := (Box.new w 79 #[.string x1, .string x2, .int .i64 x3, .int .i64 x4]).alloc (.cells #[.string y1, .string y2, .int .i64 y3, .int .i64 y4] 79)
  have hY := Box.newAt (w.alloc (.cells #[.string x1, .string x2, .int .i64 x3, .int .i64 x4] 79)) (w.heap.size + 1) 79 #[.string y1, .string y2, .int .i64 y3, .int .i64 y4] (by simp)
  clear m1 m2 hx1 hx2 hx3 hx4 hy1 hy2 hy3 hy4
  unfold encT
  go_enter Tryz.func85, Tryz.ntmps85
  go_upto_region 1 with (fail)
  have hG : Grw w ((w.alloc (.cells #[.string x1, .string x2, .int .i64 x3, .int .i64 x4] 79)).alloc (.cells #[.string y1, .string y2, .int .i64 y3, .int .i64 y4] 79)) := ((Grw.refl _).alloc _).alloc _
  generalize (w.alloc (.cells #[.string x1, .string x2, .int .i64 x3, .int .i64 x4] 79)).alloc (.cells #[.string y1, .string y2, .int .i64 y3, .int .i64 y4] 79) = W at *
  have hX_l := hX.lt; have hX_0 := hX.cell 0; have hX_1 := hX.cell 1; have hX_2 := hX.cell 2; have hX_3 := hX.cell 3; simp at hX_0 hX_1 hX_2 hX_3
  have hY_l := hY.lt; have hY_0 := hY.cell 0; have hY_1 := hY.cell 1; have hY_2 := hY.cell 2; have hY_3 := hY.cell 3; simp at hY_0 hY_1 hY_2 hY_3
  refine wp_region_held_drew (S := (fun wx => wx.cell? ⟨w.heap.size, 0, none⟩ = some (.string x1) ∧ wx.cell? ⟨w.heap.size, 1, none⟩ = some (.string x2) ∧ wx.cell? ⟨w.heap.size, 2, none⟩ = some (.int .i64 x3) ∧ wx.cell? ⟨w.heap.size, 3, none⟩ = some (.int .i64 x4) ∧ wx.cell? ⟨w.heap.size + 1, 0, none⟩ = some (.string y1) ∧ wx.cell? ⟨w.heap.size + 1, 1, none⟩ = some (.string y2) ∧ wx.cell? ⟨w.heap.size + 1, 2, none⟩ = some (.int .i64 y3) ∧ wx.cell? ⟨w.heap.size + 1, 3, none⟩ = some (.int .i64 y4) ∧ Grw W wx)) (by kernel_rfl) ?hS (fun hHeld => ?_)
  case hS => exact ⟨hX_0, hX_1, hX_2, hX_3, hY_0, hY_1, hY_2, hY_3, (Grw.refl _).drew⟩
  refine rtake (i := 0) (d := (some 5)) (v := ?_) rfl (by kernel_rfl) (by kernel_rfl) (by kernel_rfl) (by kernel_rfl) (fun _ _ _ h => h) (by kernel_rfl) (by assumption) ?_ ?_
  rotate_left 1
  · (intro wI hSI; (try dsimp only at hSI); go_simp; (try with_reducible rfl))
  simp only [Act.put, List.setIfInBounds_toArray, List.set_cons_zero, List.set_cons_succ]
  refine rtake (i := 1) (d := (some 6)) (v := ?_) rfl (by kernel_rfl) (by kernel_rfl) (by kernel_rfl) (by kernel_rfl) (fun _ _ _ h => h) (by kernel_rfl) (by assumption) ?_ ?_
  rotate_left 1
  · (intro wI hSI; (try dsimp only at hSI); go_simp; (try with_reducible rfl))
  simp only [Act.put, List.setIfInBounds_toArray, List.set_cons_zero, List.set_cons_succ]
  refine rtake (i := 2) (d := (some 7)) (v := ?_) rfl (by kernel_rfl) (by kernel_rfl) (by kernel_rfl) (by kernel_rfl) (fun _ _ _ h => h) (by kernel_rfl) (by assumption) ?_ ?_
  rotate_left 1
  · (intro wI hSI; (try dsimp only at hSI); go_simp; (try with_reducible rfl))
  simp only [Act.put, List.setIfInBounds_toArray, List.set_cons_zero, List.set_cons_succ]
  refine rtake (i := 3) (d := (some 8)) (v := ?_) rfl (by kernel_rfl) (by kernel_rfl) (by kernel_rfl) (by kernel_rfl) (fun _ _ _ h => h) (by kernel_rfl) (by assumption) ?_ ?_
  rotate_left 1
  · (intro wI hSI; (try dsimp only at hSI); go_simp; (try with_reducible rfl))
  simp only [Act.put, List.setIfInBounds_toArray, List.set_cons_zero, List.set_cons_succ]
  refine rtake (i := 4) (d := (some 9)) (v := ?_) rfl (by kernel_rfl) (by kernel_rfl) (by kernel_rfl) (by kernel_rfl) (fun _ _ _ h => h) (by kernel_rfl) (by assumption) ?_ ?_
  rotate_left 1
  · (intro wI hSI; (try dsimp only at hSI); go_simp; (try with_reducible rfl))
  simp only [Act.put, List.setIfInBounds_toArray, List.set_cons_zero, List.set_cons_succ]
  refine rtake (i := 5) (d := (some 10)) (v := ?_) rfl (by kernel_rfl) (by kernel_rfl) (by kernel_rfl) (by kernel_rfl) (fun _ _ _ h => h) (by kernel_rfl) (by assumption) ?_ ?_
  rotate_left 1
  · (intro wI hSI; (try dsimp only at hSI); go_simp; (try with_reducible rfl))
  simp only [Act.put, List.setIfInBounds_toArray, List.set_cons_zero, List.set_cons_succ]
  refine rtake (i := 6) (d := (some 11)) (v := ?_) rfl (by kernel_rfl) (by kernel_rfl) (by kernel_rfl) (by kernel_rfl) (fun _ _ _ h => h) (by kernel_rfl) (by assumption) ?_ ?_
  rotate_left 1
  · (intro wI hSI; (try dsimp only at hSI); go_simp; (try with_reducible rfl))
  simp only [Act.put, List.setIfInBounds_toArray, List.set_cons_zero, List.set_cons_succ]
  refine rtake (i := 7) (d := (some 12)) (v := ?_) rfl (by kernel_rfl) (by kernel_rfl) (by kernel_rfl) (by kernel_rfl) (fun _ _ _ h => h) (by kernel_rfl) (by assumption) ?_ ?_
  rotate_left 1
  · (intro wI hSI; (try dsimp only at hSI); go_simp; (try with_reducible rfl))
  simp only [Act.put, List.setIfInBounds_toArray, List.set_cons_zero, List.set_cons_succ]
  refine rtake (i := 8) (d := (some 13)) (v := ?_) rfl (by kernel_rfl) (by kernel_rfl) (by kernel_rfl) (by kernel_rfl) (fun _ _ _ h => h) (by kernel_rfl) (by assumption) ?_ ?_
  rotate_left 1
  · (intro wI hSI; (try dsimp only at hSI); go_simp; (try with_reducible rfl))
  simp only [Act.put, List.setIfInBounds_toArray, List.set_cons_zero, List.set_cons_succ]
  refine rtake (i := 9) (d := (some 14)) (v := ?_) rfl (by kernel_rfl) (by kernel_rfl) (by kernel_rfl) (by kernel_rfl) (fun _ _ _ h => h) (by kernel_rfl) (by assumption) ?_ ?_
  rotate_left 1
  · (intro wI hSI; (try dsimp only at hSI); go_simp; (try with_reducible rfl))
  simp only [Act.put, List.setIfInBounds_toArray, List.set_cons_zero, List.set_cons_succ]
  refine rtake (i := 10) (d := (some 15)) (v := ?_) rfl (by kernel_rfl) (by kernel_rfl) (by kernel_rfl) (by kernel_rfl) (fun _ _ _ h => h) (by kernel_rfl) (by assumption) ?_ ?_
  rotate_left 1
  · (intro wI hSI; (try dsimp only at hSI); go_simp; (try with_reducible rfl))
  simp only [Act.put, List.setIfInBounds_toArray, List.set_cons_zero, List.set_cons_succ]
  refine rtake (i := 11) (d := (some 16)) (v := ?_) rfl (by kernel_rfl) (by kernel_rfl) (by kernel_rfl) (by kernel_rfl) (fun _ _ _ h => h) (by kernel_rfl) (by assumption) ?_ ?_
  rotate_left 1
  · (intro wI hSI; (try dsimp only at hSI); go_simp; (try with_reducible rfl))
  simp only [Act.put, List.setIfInBounds_toArray, List.set_cons_zero, List.set_cons_succ]
  refine rtake (i := 12) (d := (some 17)) (v := ?_) rfl (by kernel_rfl) (by kernel_rfl) (by kernel_rfl) (by kernel_rfl) (fun _ _ _ h => h) (by kernel_rfl) (by assumption) ?_ ?_
  rotate_left 1
  · (intro wI hSI; (try dsimp only at hSI); go_simp; (try with_reducible rfl))
  simp only [Act.put, List.setIfInBounds_toArray, List.set_cons_zero, List.set_cons_succ]
  refine rtake (i := 13) (d := (some 18)) (v := ?_) rfl (by kernel_rfl) (by kernel_rfl) (by kernel_rfl) (by kernel_rfl) (fun _ _ _ h => h) (by kernel_rfl) (by assumption) ?_ ?_
  rotate_left 1
  · (intro wI hSI; (try dsimp only at hSI); go_simp; (try with_reducible rfl))
  simp only [Act.put, List.setIfInBounds_toArray, List.set_cons_zero, List.set_cons_succ]
  refine rtake (i := 15) (d := (some 20)) (v := ?_) rfl (by kernel_rfl) (by kernel_rfl) (by kernel_rfl) (by kernel_rfl) (fun _ _ _ h => h) (by kernel_rfl) (by assumption) ?_ ?_
  rotate_left 1
  · (intro wI hSI; (try dsimp only at hSI); go_simp; (try with_reducible rfl))
  simp only [Act.put, List.setIfInBounds_toArray, List.set_cons_zero, List.set_cons_succ]
  refine rtake (i := 16) (d := (some 21)) (v := ?_) rfl (by kernel_rfl) (by kernel_rfl) (by kernel_rfl) (by kernel_rfl) (fun _ _ _ h => h) (by kernel_rfl) (by assumption) ?_ ?_
  rotate_left 1
  · (intro wI hSI; (try dsimp only at hSI); go_simp; (try with_reducible rfl))
  simp only [Act.put, List.setIfInBounds_toArray, List.set_cons_zero, List.set_cons_succ]
  refine rtake (i := 17) (d := (some 22)) (v := ?_) rfl (by kernel_rfl) (by kernel_rfl) (by kernel_rfl) (by kernel_rfl) (fun _ _ _ h => h) (by kernel_rfl) (by assumption) ?_ ?_
  rotate_left 1
  · (intro wI hSI; (try dsimp only at hSI); go_simp; (try with_reducible rfl))
  simp only [Act.put, List.setIfInBounds_toArray, List.set_cons_zero, List.set_cons_succ]
  refine rtake (i := 18) (d := (some 23)) (v := ?_) rfl (by kernel_rfl) (by kernel_rfl) (by kernel_rfl) (by kernel_rfl) (fun _ _ _ h => h) (by kernel_rfl) (by assumption) ?_ ?_
  rotate_left 1
  · (intro wI hSI; (try dsimp only at hSI); go_simp; (try with_reducible rfl))
  simp only [Act.put, List.setIfInBounds_toArray, List.set_cons_zero, List.set_cons_succ]
  refine rtake (i := 20) (d := (some 25)) (v := ?_) rfl (by kernel_rfl) (by kernel_rfl) (by kernel_rfl) (by kernel_rfl) (fun _ _ _ h => h) (by kernel_rfl) (by assumption) ?_ ?_
  rotate_left 1
  · (intro wI hSI; (try dsimp only at hSI); go_simp; (try with_reducible rfl))
  simp only [Act.put, List.setIfInBounds_toArray, List.set_cons_zero, List.set_cons_succ]
  refine rtake (i := 21) (d := (some 26)) (v := ?_) rfl (by kernel_rfl) (by kernel_rfl) (by kernel_rfl) (by kernel_rfl) (fun _ _ _ h => h) (by kernel_rfl) (by assumption) ?_ ?_
  rotate_left 1
  · (intro wI hSI; (try dsimp only at hSI); go_simp; (try with_reducible rfl))
  simp only [Act.put, List.setIfInBounds_toArray, List.set_cons_zero, List.set_cons_succ]
  refine rtake (i := 22) (d := (some 27)) (v := ?_) rfl (by kernel_rfl) (by kernel_rfl) (by kernel_rfl) (by kernel_rfl) (fun _ _ _ h => h) (by kernel_rfl) (by assumption) ?_ ?_
  rotate_left 1
  · (intro wI hSI; (try dsimp only at hSI); go_simp; (try with_reducible rfl))
  simp only [Act.put, List.setIfInBounds_toArray, List.set_cons_zero, List.set_cons_succ]
  refine rtake (i := 23) (d := (some 28)) (v := ?_) rfl (by kernel_rfl) (by kernel_rfl) (by kernel_rfl) (by kernel_rfl) (fun _ _ _ h => h) (by kernel_rfl) (by assumption) ?_ ?_
  rotate_left 1
  · (intro wI hSI; (try dsimp only at hSI); go_simp; (try with_reducible rfl))
  simp only [Act.put, List.setIfInBounds_toArray, List.set_cons_zero, List.set_cons_succ]
  refine rcall (i := 14) (d := (some 19)) (by kernel_rfl) rfl (by kernel_rfl) (fun K hK => ?_)
  go_simp
  go_at_call 109; refine (HI.out _).mono ?_; rintro e w' ⟨rfl, rfl⟩
  refine hK.out _ _ ?hS (fun hHeld => ?_)
  case hS => exact hHeld
  clear hK K
  simp only [Act.put, List.setIfInBounds_toArray, List.set_cons_zero, List.set_cons_succ]
  refine rcall (i := 19) (d := (some 24)) (by kernel_rfl) rfl (by kernel_rfl) (fun K hK => ?_)
  go_simp
  go_at_call 91; refine (HS1.out _).mono ?_; rintro e w' ⟨rfl, rfl⟩
  refine hK.out _ _ ?hS (fun hHeld => ?_)
  case hS => exact hHeld
  clear hK K
  simp only [Act.put, List.setIfInBounds_toArray, List.set_cons_zero, List.set_cons_succ]
  refine rcall (i := 24) (d := (some 29)) (by kernel_rfl) rfl (by kernel_rfl) (fun K hK => ?_)
  go_simp
  go_at_call 91; refine (HS2.out _).mono ?_; rintro e w' ⟨rfl, rfl⟩
  refine hK.out _ _ ?hS (fun hHeld => ?_)
  case hS => exact hHeld
  clear hK K
  simp only [Act.put, List.setIfInBounds_toArray, List.set_cons_zero, List.set_cons_succ]
  refine rcall (i := 25) (d := (some 30)) (by kernel_rfl) rfl (by kernel_rfl) (fun K hK => ?_)
  go_simp
  skip
  refine hK.out _ _ ?hS (fun hHeld => ?_)
  case hS => exact (have hA : ∀ (w : World) (o : Obj), Grw w (w.alloc o) := fun w o => (Grw.refl _).alloc o; ⟨cell_later (hA _ _).1 hHeld.1, cell_later (hA _ _).1 hHeld.2.1, cell_later (hA _ _).1 hHeld.2.2.1, cell_later (hA _ _).1 hHeld.2.2.2.1, cell_later (hA _ _).1 hHeld.2.2.2.2.1, cell_later (hA _ _).1 hHeld.2.2.2.2.2.1, cell_later (hA _ _).1 hHeld.2.2.2.2.2.2.1, cell_later (hA _ _).1 hHeld.2.2.2.2.2.2.2.1, hHeld.2.2.2.2.2.2.2.2.trans (hA _ _)⟩)
  clear hK K
  simp only [Act.put, List.setIfInBounds_toArray, List.set_cons_zero, List.set_cons_succ]
  refine rcall (i := 26) (d := (some 31)) (by kernel_rfl) rfl (by kernel_rfl) (fun K hK => ?_)
  go_simp
  go_at_call 90; refine (orI_any [ci, c1, c2] _ 3 _ (Box.sa (by first | exact Box.new _ _ _ | exact (Box.new _ _ _).drew) [ci, c1, c2] rfl) (by simp)).mono ?_; rintro e w' ⟨rfl, rfl⟩
  refine hK.out _ _ ?hS (fun hHeld => ?_)
  case hS => exact hHeld
  clear hK K
  simp only [Act.put, List.setIfInBounds_toArray, List.set_cons_zero, List.set_cons_succ]
  refine rtake (i := 27) (d := (some 4)) (v := ?_) rfl (by kernel_rfl) (by kernel_rfl) (by kernel_rfl) (by kernel_rfl) (fun _ _ _ h => h) (by kernel_rfl) (by assumption) ?_ ?_
  rotate_left 1
  · (intro wI hSI; (try dsimp only at hSI); go_simp; (try with_reducible rfl))
  simp only [Act.put, List.setIfInBounds_toArray, List.set_cons_zero, List.set_cons_succ]
  refine wpAnyH_done (by kernel_rfl) ?_ _
  have hbF := hG.trans hHeld.2.2.2.2.2.2.2.2
  go_wp2_with fail
  go_ret
  exact ⟨by rw [HC.out] <;> rfl, hbF⟩
set_option maxRecDepth 100000 in
set_option maxHeartbeats 2000000 in
theorem alikeClo_any (x y : Twin) (hx : OkT x) (hy : OkT y) (w : World) : Calls Tryz.prog 89 #[encT x, encT y] w (fun e w' => e = .returned (.int .i64 (cmpT x y)) ∧ Grw w w') := by
  obtain ⟨x1, x2, x3, x4⟩ := x
  obtain ⟨y1, y2, y3, y4⟩ := y
  obtain ⟨hx1, hx2, hx3, hx4⟩ := hx
  obtain ⟨hy1, hy2, hy3, hy4⟩ := hy
  simp only at hx1 hx2 hx3 hx4 hy1 hy2 hy3 hy4
  have m1 := mul_okF hy1 hy2 (by omega : 0 ≤ x4) hx4
  have m2 := mul_okF hx1 hx2 (by omega : 0 ≤ y4) hy4
  have hw1 : IntKind.i64.wrap (y3 * x4) = y3 * x4 := IntWalk.i64_in _ (by omega)
  have hw2 : IntKind.i64.wrap (x3 * y4) = x3 * y4 := IntWalk.i64_in _ (by omega)
  have HC : Hid (cmpT (x1, x2, x3, x4) (y1, y2, y3, y4) = firstOf [Lib.compareInt (y3 * x4) (x3 * y4), cmpS x1 y1, cmpS x2 y2]) := rfl
  have HI := Lib.hid (fun W => Tryz.cmp_Compare_int (y3 * x4) (x3 * y4) W)
  have HF := Lib.hid (fun W => cmpFracR_any y3 y4 x3 x4 W (by omega) (by omega))
  have HS1 : Hid (∀ W', Calls Tryz.prog 91 #[.string x1, .string y1] W' (fun e w' => e = .returned (.int .i64 (cmpS x1 y1)) ∧ w' = W')) := fun W' => Tryz.strings_Compare x1 y1 W'
  have HS2 : Hid (∀ W', Calls Tryz.prog 91 #[.string x2, .string y2] W' (fun e w' => e = .returned (.int .i64 (cmpS x2 y2)) ∧ w' = W')) := fun W' => Tryz.strings_Compare x2 y2 W'
  generalize cmpT (x1, x2, x3, x4) (y1, y2, y3, y4) = z at *
  generalize Lib.compareInt (y3 * x4) (x3 * y4) = ci at *
  generalize cmpS x1 y1 = c1 at *
  generalize cmpS x2 y2 = c2 at *
  have hX := (Box.new w 79 #[.string x1, .string x2, .int .i64 x3, .int .i64 x4]).alloc (.cells #[.string y1, .string y2, .int .i64 y3, .int .i64 y4] 79)
  have hY := Box.newAt (w.alloc (.cells #[.string x1, .string x2, .int .i64 x3, .int .i64 x4] 79)) (w.heap.size + 1) 79 #[.string y1, .string y2, .int .i64 y3, .int .i64 y4] (by simp)
  clear m1 m2 hx1 hx2 hx3 hx4 hy1 hy2 hy3 hy4
  unfold encT
  go_enter Tryz.func89, Tryz.ntmps89
  go_upto_region 1 with (fail)
  have hG : Grw w ((w.alloc (.cells #[.string x1, .string x2, .int .i64 x3, .int .i64 x4] 79)).alloc (.cells #[.string y1, .string y2, .int .i64 y3, .int .i64 y4] 79)) := ((Grw.refl _).alloc _).alloc _
  generalize (w.alloc (.cells #[.string x1, .string x2, .int .i64 x3, .int .i64 x4] 79)).alloc (.cells #[.string y1, .string y2, .int .i64 y3, .int .i64 y4] 79) = W at *
  have hX_l := hX.lt; have hX_0 := hX.cell 0; have hX_1 := hX.cell 1; have hX_2 := hX.cell 2; have hX_3 := hX.cell 3; simp at hX_0 hX_1 hX_2 hX_3
  have hY_l := hY.lt; have hY_0 := hY.cell 0; have hY_1 := hY.cell 1; have hY_2 := hY.cell 2; have hY_3 := hY.cell 3; simp at hY_0 hY_1 hY_2 hY_3
  refine wp_region_held_drew (S := (fun wx => wx.cell? ⟨w.heap.size, 0, none⟩ = some (.string x1) ∧ wx.cell? ⟨w.heap.size, 1, none⟩ = some (.string x2) ∧ wx.cell? ⟨w.heap.size, 2, none⟩ = some (.int .i64 x3) ∧ wx.cell? ⟨w.heap.size, 3, none⟩ = some (.int .i64 x4) ∧ wx.cell? ⟨w.heap.size + 1, 0, none⟩ = some (.string y1) ∧ wx.cell? ⟨w.heap.size + 1, 1, none⟩ = some (.string y2) ∧ wx.cell? ⟨w.heap.size + 1, 2, none⟩ = some (.int .i64 y3) ∧ wx.cell? ⟨w.heap.size + 1, 3, none⟩ = some (.int .i64 y4) ∧ Grw W wx)) (by kernel_rfl) ?hS (fun hHeld => ?_)
  case hS => exact ⟨hX_0, hX_1, hX_2, hX_3, hY_0, hY_1, hY_2, hY_3, (Grw.refl _).drew⟩
  refine rtake (i := 0) (d := (some 5)) (v := ?_) rfl (by kernel_rfl) (by kernel_rfl) (by kernel_rfl) (by kernel_rfl) (fun _ _ _ h => h) (by kernel_rfl) (by assumption) ?_ ?_
  rotate_left 1
  · (intro wI hSI; (try dsimp only at hSI); go_simp; (try with_reducible rfl))
  simp only [Act.put, List.setIfInBounds_toArray, List.set_cons_zero, List.set_cons_succ]
  refine rtake (i := 1) (d := (some 6)) (v := ?_) rfl (by kernel_rfl) (by kernel_rfl) (by kernel_rfl) (by kernel_rfl) (fun _ _ _ h => h) (by kernel_rfl) (by assumption) ?_ ?_
  rotate_left 1
  · (intro wI hSI; (try dsimp only at hSI); go_simp; (try with_reducible rfl))
  simp only [Act.put, List.setIfInBounds_toArray, List.set_cons_zero, List.set_cons_succ]
  refine rtake (i := 2) (d := (some 7)) (v := ?_) rfl (by kernel_rfl) (by kernel_rfl) (by kernel_rfl) (by kernel_rfl) (fun _ _ _ h => h) (by kernel_rfl) (by assumption) ?_ ?_
  rotate_left 1
  · (intro wI hSI; (try dsimp only at hSI); go_simp; (try with_reducible rfl))
  simp only [Act.put, List.setIfInBounds_toArray, List.set_cons_zero, List.set_cons_succ]
  refine rtake (i := 3) (d := (some 8)) (v := ?_) rfl (by kernel_rfl) (by kernel_rfl) (by kernel_rfl) (by kernel_rfl) (fun _ _ _ h => h) (by kernel_rfl) (by assumption) ?_ ?_
  rotate_left 1
  · (intro wI hSI; (try dsimp only at hSI); go_simp; (try with_reducible rfl))
  simp only [Act.put, List.setIfInBounds_toArray, List.set_cons_zero, List.set_cons_succ]
  refine rtake (i := 5) (d := (some 10)) (v := ?_) rfl (by kernel_rfl) (by kernel_rfl) (by kernel_rfl) (by kernel_rfl) (fun _ _ _ h => h) (by kernel_rfl) (by assumption) ?_ ?_
  rotate_left 1
  · (intro wI hSI; (try dsimp only at hSI); go_simp; (try with_reducible rfl))
  simp only [Act.put, List.setIfInBounds_toArray, List.set_cons_zero, List.set_cons_succ]
  refine rtake (i := 6) (d := (some 11)) (v := ?_) rfl (by kernel_rfl) (by kernel_rfl) (by kernel_rfl) (by kernel_rfl) (fun _ _ _ h => h) (by kernel_rfl) (by assumption) ?_ ?_
  rotate_left 1
  · (intro wI hSI; (try dsimp only at hSI); go_simp; (try with_reducible rfl))
  simp only [Act.put, List.setIfInBounds_toArray, List.set_cons_zero, List.set_cons_succ]
  refine rtake (i := 7) (d := (some 12)) (v := ?_) rfl (by kernel_rfl) (by kernel_rfl) (by kernel_rfl) (by kernel_rfl) (fun _ _ _ h => h) (by kernel_rfl) (by assumption) ?_ ?_
  rotate_left 1
  · (intro wI hSI; (try dsimp only at hSI); go_simp; (try with_reducible rfl))
  simp only [Act.put, List.setIfInBounds_toArray, List.set_cons_zero, List.set_cons_succ]
  refine rtake (i := 8) (d := (some 13)) (v := ?_) rfl (by kernel_rfl) (by kernel_rfl) (by kernel_rfl) (by kernel_rfl) (fun _ _ _ h => h) (by kernel_rfl) (by assumption) ?_ ?_
  rotate_left 1
  · (intro wI hSI; (try dsimp only at hSI); go_simp; (try with_reducible rfl))
  simp only [Act.put, List.setIfInBounds_toArray, List.set_cons_zero, List.set_cons_succ]
  refine rtake (i := 10) (d := (some 15)) (v := ?_) rfl (by kernel_rfl) (by kernel_rfl) (by kernel_rfl) (by kernel_rfl) (fun _ _ _ h => h) (by kernel_rfl) (by assumption) ?_ ?_
  rotate_left 1
  · (intro wI hSI; (try dsimp only at hSI); go_simp; (try with_reducible rfl))
  simp only [Act.put, List.setIfInBounds_toArray, List.set_cons_zero, List.set_cons_succ]
  refine rtake (i := 11) (d := (some 16)) (v := ?_) rfl (by kernel_rfl) (by kernel_rfl) (by kernel_rfl) (by kernel_rfl) (fun _ _ _ h => h) (by kernel_rfl) (by assumption) ?_ ?_
  rotate_left 1
  · (intro wI hSI; (try dsimp only at hSI); go_simp; (try with_reducible rfl))
  simp only [Act.put, List.setIfInBounds_toArray, List.set_cons_zero, List.set_cons_succ]
  refine rtake (i := 12) (d := (some 17)) (v := ?_) rfl (by kernel_rfl) (by kernel_rfl) (by kernel_rfl) (by kernel_rfl) (fun _ _ _ h => h) (by kernel_rfl) (by assumption) ?_ ?_
  rotate_left 1
  · (intro wI hSI; (try dsimp only at hSI); go_simp; (try with_reducible rfl))
  simp only [Act.put, List.setIfInBounds_toArray, List.set_cons_zero, List.set_cons_succ]
  refine rtake (i := 13) (d := (some 18)) (v := ?_) rfl (by kernel_rfl) (by kernel_rfl) (by kernel_rfl) (by kernel_rfl) (fun _ _ _ h => h) (by kernel_rfl) (by assumption) ?_ ?_
  rotate_left 1
  · (intro wI hSI; (try dsimp only at hSI); go_simp; (try with_reducible rfl))
  simp only [Act.put, List.setIfInBounds_toArray, List.set_cons_zero, List.set_cons_succ]
  refine rcall (i := 4) (d := (some 9)) (by kernel_rfl) rfl (by kernel_rfl) (fun K hK => ?_)
  go_simp
  go_at_call 81; refine (HF.out _).mono ?_; rintro e wa ⟨rfl, hg⟩
  refine hK.out _ _ ?hS (fun hHeld => ?_)
  case hS => exact ⟨cell_later hg.1 hHeld.1, cell_later hg.1 hHeld.2.1, cell_later hg.1 hHeld.2.2.1, cell_later hg.1 hHeld.2.2.2.1, cell_later hg.1 hHeld.2.2.2.2.1, cell_later hg.1 hHeld.2.2.2.2.2.1, cell_later hg.1 hHeld.2.2.2.2.2.2.1, cell_later hg.1 hHeld.2.2.2.2.2.2.2.1, hHeld.2.2.2.2.2.2.2.2.trans hg⟩
  clear hK K
  simp only [Act.put, List.setIfInBounds_toArray, List.set_cons_zero, List.set_cons_succ]
  refine rcall (i := 9) (d := (some 14)) (by kernel_rfl) rfl (by kernel_rfl) (fun K hK => ?_)
  go_simp
  go_at_call 91; refine (HS1.out _).mono ?_; rintro e w' ⟨rfl, rfl⟩
  refine hK.out _ _ ?hS (fun hHeld => ?_)
  case hS => exact hHeld
  clear hK K
  simp only [Act.put, List.setIfInBounds_toArray, List.set_cons_zero, List.set_cons_succ]
  refine rcall (i := 14) (d := (some 19)) (by kernel_rfl) rfl (by kernel_rfl) (fun K hK => ?_)
  go_simp
  go_at_call 91; refine (HS2.out _).mono ?_; rintro e w' ⟨rfl, rfl⟩
  refine hK.out _ _ ?hS (fun hHeld => ?_)
  case hS => exact hHeld
  clear hK K
  simp only [Act.put, List.setIfInBounds_toArray, List.set_cons_zero, List.set_cons_succ]
  refine rcall (i := 15) (d := (some 20)) (by kernel_rfl) rfl (by kernel_rfl) (fun K hK => ?_)
  go_simp
  skip
  refine hK.out _ _ ?hS (fun hHeld => ?_)
  case hS => exact (have hA : ∀ (w : World) (o : Obj), Grw w (w.alloc o) := fun w o => (Grw.refl _).alloc o; ⟨cell_later (hA _ _).1 hHeld.1, cell_later (hA _ _).1 hHeld.2.1, cell_later (hA _ _).1 hHeld.2.2.1, cell_later (hA _ _).1 hHeld.2.2.2.1, cell_later (hA _ _).1 hHeld.2.2.2.2.1, cell_later (hA _ _).1 hHeld.2.2.2.2.2.1, cell_later (hA _ _).1 hHeld.2.2.2.2.2.2.1, cell_later (hA _ _).1 hHeld.2.2.2.2.2.2.2.1, hHeld.2.2.2.2.2.2.2.2.trans (hA _ _)⟩)
  clear hK K
  simp only [Act.put, List.setIfInBounds_toArray, List.set_cons_zero, List.set_cons_succ]
  refine rcall (i := 16) (d := (some 21)) (by kernel_rfl) rfl (by kernel_rfl) (fun K hK => ?_)
  go_simp
  go_at_call 90; refine (orI_any [ci, c1, c2] _ 3 _ (Box.sa (by first | exact Box.new _ _ _ | exact (Box.new _ _ _).drew) [ci, c1, c2] rfl) (by simp)).mono ?_; rintro e w' ⟨rfl, rfl⟩
  refine hK.out _ _ ?hS (fun hHeld => ?_)
  case hS => exact hHeld
  clear hK K
  simp only [Act.put, List.setIfInBounds_toArray, List.set_cons_zero, List.set_cons_succ]
  refine rtake (i := 17) (d := (some 4)) (v := ?_) rfl (by kernel_rfl) (by kernel_rfl) (by kernel_rfl) (by kernel_rfl) (fun _ _ _ h => h) (by kernel_rfl) (by assumption) ?_ ?_
  rotate_left 1
  · (intro wI hSI; (try dsimp only at hSI); go_simp; (try with_reducible rfl))
  simp only [Act.put, List.setIfInBounds_toArray, List.set_cons_zero, List.set_cons_succ]
  refine wpAnyH_done (by kernel_rfl) ?_ _
  have hbF := hG.trans hHeld.2.2.2.2.2.2.2.2
  go_wp2_with fail
  go_ret
  exact ⟨by rw [HC.out] <;> rfl, hbF⟩

/-- Twins whose numbers are right. -/
abbrev TwinOk := { t : Twin // OkT t }
theorem okT_zero : OkT (⟨#[]⟩, ⟨#[]⟩, 0, 1) := ⟨by show (0 : Int) ≤ 0; omega, by show (0 : Int) ≤ 600; omega, by show (1 : Int) ≤ 1; omega, by show (1 : Int) ≤ 600; omega⟩
instance instInhTwinOk : Inhabited TwinOk := ⟨⟨_, okT_zero⟩⟩
noncomputable def toOk (t : Twin) : TwinOk := open Classical in if h : OkT t then ⟨t, h⟩ else default
theorem toOk_val {t : Twin} (h : OkT t) : (toOk t).1 = t := by unfold toOk; rw [dif_pos h]
theorem toOk_map {l : List Twin} (h : ∀ t ∈ l, OkT t) : (l.map toOk).map (·.1) = l := by
  rw [List.map_map]
  conv => rhs; rw [← List.map_id l]
  exact List.map_congr_left fun t ht => toOk_val (h t ht)
/-- Twins as slices.SortFunc puts them. -/
noncomputable def sortT (l : List Twin) : List Twin := (Sort.insertionSort (ltOf fun a b : TwinOk => cmpT a.1 b.1) (l.map toOk).toArray 0 (l.map toOk).length).toList.map (·.1)
theorem sortT_len (l : List Twin) : (sortT l).length = l.length := by
  unfold sortT
  rw [List.length_map, Array.length_toList, sorted_len, List.length_map]
theorem sortT_nil : sortT [] = [] := List.length_eq_zero_iff.1 (sortT_len [])
set_option maxRecDepth 100000 in
theorem insTwins_nil (a : Option Addr) (cap : Nat) (fv : Value) (w : World) : Calls Tryz.prog 169 #[.slice a 0 cap, .int .i64 0, .int .i64 0, fv] w (fun e w' => e = .returned (.tuple #[]) ∧ w' = w) := by
  go_enter Tryz.func169, Tryz.ntmps169
  go_wp2_with fail
  refine wp_loop_rounds 1 ?_
  rw [rounds_succ]
  go_wp2_with fail
  go_end0
  exact ⟨rfl, rfl⟩
set_option maxRecDepth 100000 in
theorem pdqTwins_nil (a : Option Addr) (cap : Nat) (m : Int) (fv : Value) (w : World) : Calls Tryz.prog 140 #[.slice a 0 cap, .int .i64 0, .int .i64 0, .int .i64 m, fv] w (fun e w' => e = .returned (.tuple #[]) ∧ w' = w) := by
  have HI := Lib.hid (fun W => insTwins_nil a cap fv W)
  go_enter Tryz.func140, Tryz.ntmps140
  go_wp2_with fail
  refine wp_loop_rounds 1 ?_
  rw [rounds_succ]
  go_wp2_with fail
  refine (HI.out _).mono ?_
  rintro e w' ⟨rfl, rfl⟩
  go_wp2_with fail
  (try simp only [Exit.inBlock, Exit.then]); refine bodyPost_ret (results_none rfl _ _ _) rfl ?_
  exact ⟨rfl, rfl⟩
set_option maxRecDepth 100000 in
theorem sortTwins_nil (a : Option Addr) (cap : Nat) (fv : Value) (w : World) : Calls Tryz.prog 84 #[.slice a 0 cap, fv] w (fun e w' => e = .returned (.tuple #[]) ∧ w' = w) := by
  have HI := Lib.hid (fun m W => pdqTwins_nil a cap m fv W)
  have HB := Lib.hid (fun W => Tryz.bits_Len 0 W (by omega) (by omega))
  go_enter Tryz.func84, Tryz.ntmps84
  go_wp2_with fail
  refine (HB.out _).mono ?_
  rintro e w' ⟨rfl, rfl⟩
  go_wp2_with fail
  refine (HI.out _ _).mono ?_
  rintro e w' ⟨rfl, rfl⟩
  go_wp2_with fail
  go_end0
  exact ⟨rfl, rfl⟩
theorem sortTwins_any (base : Nat) (l : List Twin) (v : Value) (w : World) (g : Nat) (eg : ∀ args w, (callFunc g args).run Tryz.prog w = .ok (.enter g args) w) (hc : ∀ x y, OkT x → OkT y → ∀ W, Calls Tryz.prog g #[encT x, encT y] W (fun e w' => e = .returned (.int .i64 (cmpT x y)) ∧ Grw W w'))
    (h : Own base 79 w v l) (hok : ∀ t ∈ l, OkT t) (hl : l.length ≤ 12) :
    Calls Tryz.prog 84 #[v, .func (.func g) #[] #[]] w (fun e w' => e = .returned (.tuple #[]) ∧ ∃ a cap, v = .slice a (sortT l).length cap ∧ SA w' a (sortT l) ∧ Kp (fun j => v.ownBlock = some j) w w') := by
  by_cases hn : l = []
  · subst hn
    obtain ⟨a, cap, rfl, _⟩ := h.form
    refine (sortTwins_nil a cap _ w).mono ?_
    rintro e w' ⟨rfl, rfl⟩
    rw [sortT_nil]
    exact ⟨rfl, a, cap, rfl, .inl rfl, Kp.refl _ _⟩
  · obtain ⟨a, cap, rfl, hsa, hab⟩ := h.form
    rcases hsa with hsa | ⟨b, off, rfl, hA⟩
    · exact absurd hsa hn
    have hob : off = 0 := by
      rcases hab with h1 | ⟨b2, h1, -⟩
      · cases h1
      · exact congrArg (·.off) (Option.some.inj h1)
    subst hob
    obtain ⟨cur, hbox⟩ := h.box
    rw [← toOk_map hok] at hA
    have hH := holdsK_of (fun x : TwinOk => x.1) (l.map toOk) hbox hA
    have hcon := AnyQ.slices_SortFunc_small Tryz.sort_Twins 4 Tryz.isAgg79 Tryz.sizeOf79 (fun x : TwinOk => Cel.cells x.1) (fun x => Cel.len _) (fun x => Cel.one _) (fun x y => cmpT x.1 y.1) g #[] b 0 cap (l.map toOk).toArray w eg
      (fun m os dk hs x y => (hc x.1 y.1 x.2 y.2 _).mono fun e w' ⟨h1, h2⟩ => ⟨h1, h2.grown⟩) hH hbox.lt (by rw [List.size_toArray, List.length_map]; exact hl) (fun n W hn => (Tryz.bits_Len n W (by omega) (by omega)).mono fun _ _ ⟨he, hw⟩ => ⟨⟨_, he⟩, hw⟩)
    rw [List.size_toArray, List.length_map] at hcon
    refine hcon.mono ?_
    rintro e w' ⟨rfl, n, os, rfl⟩
    refine ⟨rfl, some ⟨b, 0, none⟩, cap, by rw [sortT_len], ?_, (kp_sortK _ _ _ _ _ _ _).mono (fun k hk => .inl (by rw [hk]; rfl))⟩
    have hd := holdsK_sortWorldK_c (fun x : TwinOk => Cel.cells x.1) 4 w b 0 _ (Sort.insertionSort (ltOf fun x y : TwinOk => cmpT x.1 y.1) (l.map toOk).toArray 0 l.length) n os hH hbox.lt (by have := sorted_len (ltOf fun x y : TwinOk => cmpT x.1 y.1) (l.map toOk); rw [List.length_map] at this; rw [this, List.size_toArray, List.length_map])
    have hsa := arr_of_holdsK (fun x : TwinOk => x.1) hd
    refine .inr ⟨b, 0, rfl, ?_⟩
    unfold sortT
    rw [List.length_map]
    exact hsa
end Go.Proofs.YtlpknpjfmacemaaGreatDoor
