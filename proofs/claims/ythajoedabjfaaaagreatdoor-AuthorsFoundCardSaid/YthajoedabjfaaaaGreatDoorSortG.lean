/- What gives authors away, in order: the comparison, slices.SortFunc of any number of them. -/
import Derived.Test.YthajoedabjfaaaaGreatDoorAuthQ
import Derived.Test.YthajoedabjfaaaaGreatDoorCmpF
import Derived.Test.YthajoedabjfaaaaGreatDoorSortL
import Derived.Shelf.SlSortCmp.WholeK
/-! What gives authors away, in order: the comparison, slices.SortFunc of any number of them. -/
namespace Go.Proofs.YthajoedabjfaaaaGreatDoor
open Go.RowKit Go.Sort
set_option linter.unusedVariables false
set_option linter.unusedSimpArgs false

/-- A comparison that orders. -/
structure TotC {α : Type} (c : α → α → Int) : Prop where
  neg : ∀ x y, c x y < 0 ↔ 0 < c y x
  trans : ∀ x y z, c x y ≤ 0 → c y z ≤ 0 → c x z ≤ 0
theorem TotC.pull {α β : Type} {c : α → α → Int} (h : TotC c) (f : β → α) : TotC (fun x y => c (f x) (f y)) := ⟨fun x y => h.neg _ _, fun x y z => h.trans _ _ _⟩
theorem TotC.lex {α : Type} {c d : α → α → Int} (h : TotC c) (k : TotC d) : TotC (fun x y => if c x y ≠ 0 then c x y else d x y) := by
  have n1 := h.neg
  refine ⟨fun x y => ?_, fun x y z h1 h2 => ?_⟩
  · have a := n1 x y
    have b := n1 y x
    show (if c x y ≠ 0 then c x y else d x y) < 0 ↔ 0 < (if c y x ≠ 0 then c y x else d y x)
    split <;> split
    · exact a
    · omega
    · omega
    · exact k.neg x y
  · show (if c x z ≠ 0 then c x z else d x z) ≤ 0
    have g1 : c x y ≤ 0 := by split at h1 <;> omega
    have g2 : c y z ≤ 0 := by split at h2 <;> omega
    have g3 := h.trans x y z g1 g2
    split
    · exact g3
    · rename_i h0
      have h0' : c x z = 0 := Classical.not_not.1 h0
      have e1 : c x y = 0 := by
        apply Classical.byContradiction
        intro e
        have := h.trans y z x g2 (by have := n1 x z; have := n1 z x; omega)
        have := n1 x y
        omega
      have e2 : c y z = 0 := by
        apply Classical.byContradiction
        intro e
        have := h.trans z x y (by have := n1 x z; have := n1 z x; omega) g1
        have := n1 y z
        omega
      rw [if_neg (fun e => e e1)] at h1
      rw [if_neg (fun e => e e2)] at h2
      exact k.trans x y z h1 h2
theorem TotC.swo {α : Type} {c : α → α → Int} (h : TotC c) : SWO (ltOf c) := by
  have n1 := h.neg
  refine ⟨fun x => ?_, fun x y z h1 h2 => ?_, fun x y z h1 h2 => ?_⟩
  · have := n1 x x
    exact decide_eq_false (by omega)
  · have g1 := of_decide_eq_true h1
    have g2 := of_decide_eq_true h2
    refine decide_eq_true ?_
    apply Classical.byContradiction
    intro e
    have := h.trans y z x (by omega) (by have := n1 x z; omega)
    have := n1 x y
    omega
  · have g1 := of_decide_eq_false h1
    have g2 := of_decide_eq_false h2
    refine decide_eq_false ?_
    have := h.trans z y x (by have := n1 z y; have := n1 y z; omega) (by have := n1 x y; have := n1 y x; omega)
    have := n1 x z
    omega
theorem totC_int : TotC Lib.compareInt := by
  refine ⟨fun x y => ?_, fun x y z => ?_⟩
  · unfold Lib.compareInt
    repeat' split
    all_goals omega
  · unfold Lib.compareInt
    repeat' split
    all_goals omega
theorem totC_S : TotC cmpS := by
  refine ⟨fun x y => ?_, fun x y z h1 h2 => ?_⟩
  · unfold cmpS
    rw [cmpB_lt, cmpB_gt]
  · have le : ∀ a b : ByteArray, cmpS a b ≤ 0 ↔ ltS a b ∨ a = b := fun a b => by
      rw [← cmpS_lt, ← cmpS_zero]; omega
    rw [le] at h1 h2 ⊢
    rcases h1 with h1 | rfl
    · rcases h2 with h2 | rfl
      · exact .inl (ltS_trans h1 h2)
      · exact .inl h1
    · exact h2
/-- Compares two places: by where they lie, their kinds, and whom they give away. -/
def cmpG (x y : Gv) : Int := firstOf [Lib.compareInt x.2.1 y.2.1, Lib.compareInt x.2.2.1 y.2.2.1, Lib.compareInt x.1 y.1, cmpS x.2.2.2 y.2.2.2]
theorem totC_G : TotC cmpG := by
  have h := (totC_int.pull (fun x : Gv => x.2.1)).lex ((totC_int.pull (fun x : Gv => x.2.2.1)).lex ((totC_int.pull (fun x : Gv => x.1)).lex ((totC_S.pull (fun x : Gv => x.2.2.2)).lex (d := fun _ _ => 0) ⟨fun _ _ => by omega, fun _ _ _ _ _ => Int.le_refl _⟩)))
  exact h
theorem swoG : SWO (ltOf cmpG) := totC_G.swo
instance instInhGv : Inhabited Gv := ⟨(0, 0, 0, ⟨#[]⟩)⟩
/-- As slices.SortFunc puts them. -/
noncomputable def sortG (l : List Gv) : List Gv := (pdq (ltOf cmpG) l.toArray 0 l.length (Lib.bitLen l.length) true true).toList
theorem sortG_len (l : List Gv) : (sortG l).length = l.length := by
  have h := (pdq_sorts (ltOf cmpG) swoG l.toArray 0 l.length (Lib.bitLen l.length) true true (Nat.zero_le _) (by rw [List.size_toArray]; exact Nat.le_refl _) (Or.inl rfl)).1.1
  unfold sortG
  rw [Array.length_toList, h, List.size_toArray]
theorem sortG_nil : sortG [] = [] := List.length_eq_zero_iff.1 (sortG_len [])
def encG (x : Gv) : Value := .agg #[.int .i64 x.1, .int .i64 x.2.1, .int .i64 x.2.2.1, .string x.2.2.2]
set_option maxRecDepth 100000 in
set_option maxHeartbeats 2000000 in
theorem compareGives_any (x y : Gv) (w : World) : Calls Tryz.prog 40 #[encG x, encG y] w (fun e w' => e = .returned (.int .i64 (cmpG x y)) ∧ Grw w w') := by
  obtain ⟨x1, x2, x3, x4⟩ := x
  obtain ⟨y1, y2, y3, y4⟩ := y
  have HC : Hid (cmpG (x1, x2, x3, x4) (y1, y2, y3, y4) = firstOf [Lib.compareInt x2 y2, Lib.compareInt x3 y3, Lib.compareInt x1 y1, cmpS x4 y4]) := rfl
  have HI1 := Lib.hid (fun W => Tryz.cmp_Compare_int x2 y2 W)
  have HI2 := Lib.hid (fun W => Tryz.cmp_Compare_int x3 y3 W)
  have HI3 := Lib.hid (fun W => Tryz.cmp_Compare_int x1 y1 W)
  have HS1 : Hid (∀ W', Calls Tryz.prog 53 #[.string x4, .string y4] W' (fun e w' => e = .returned (.int .i64 (cmpS x4 y4)) ∧ w' = W')) := fun W' => Tryz.strings_Compare x4 y4 W'
  generalize cmpG (x1, x2, x3, x4) (y1, y2, y3, y4) = z at *
  generalize Lib.compareInt x2 y2 = c1 at *
  generalize Lib.compareInt x3 y3 = c2 at *
  generalize Lib.compareInt x1 y1 = c3 at *
  generalize cmpS x4 y4 = c4 at *
  have hX := (Box.new w 42 #[.int .i64 x1, .int .i64 x2, .int .i64 x3, .string x4]).alloc (.cells #[.int .i64 y1, .int .i64 y2, .int .i64 y3, .string y4] 42)
  have hY := Box.newAt (w.alloc (.cells #[.int .i64 x1, .int .i64 x2, .int .i64 x3, .string x4] 42)) (w.heap.size + 1) 42 #[.int .i64 y1, .int .i64 y2, .int .i64 y3, .string y4] (by simp)
  unfold encG
  go_enter Tryz.func40, Tryz.ntmps40
  go_upto_region 1 with (fail)
  have hG : Grw w ((w.alloc (.cells #[.int .i64 x1, .int .i64 x2, .int .i64 x3, .string x4] 42)).alloc (.cells #[.int .i64 y1, .int .i64 y2, .int .i64 y3, .string y4] 42)) := ((Grw.refl _).alloc _).alloc _
  generalize (w.alloc (.cells #[.int .i64 x1, .int .i64 x2, .int .i64 x3, .string x4] 42)).alloc (.cells #[.int .i64 y1, .int .i64 y2, .int .i64 y3, .string y4] 42) = W at *
  have hX_l := hX.lt; have hX_0 := hX.cell 0; have hX_1 := hX.cell 1; have hX_2 := hX.cell 2; have hX_3 := hX.cell 3; simp at hX_0 hX_1 hX_2 hX_3
  have hY_l := hY.lt; have hY_0 := hY.cell 0; have hY_1 := hY.cell 1; have hY_2 := hY.cell 2; have hY_3 := hY.cell 3; simp at hY_0 hY_1 hY_2 hY_3
  refine wp_region_held_drew (S := (fun wx => wx.cell? ⟨w.heap.size, 0, none⟩ = some (.int .i64 x1) ∧ wx.cell? ⟨w.heap.size, 1, none⟩ = some (.int .i64 x2) ∧ wx.cell? ⟨w.heap.size, 2, none⟩ = some (.int .i64 x3) ∧ wx.cell? ⟨w.heap.size, 3, none⟩ = some (.string x4) ∧ wx.cell? ⟨w.heap.size + 1, 0, none⟩ = some (.int .i64 y1) ∧ wx.cell? ⟨w.heap.size + 1, 1, none⟩ = some (.int .i64 y2) ∧ wx.cell? ⟨w.heap.size + 1, 2, none⟩ = some (.int .i64 y3) ∧ wx.cell? ⟨w.heap.size + 1, 3, none⟩ = some (.string y4) ∧ Grw W wx)) (by kernel_rfl) ?hS (fun hHeld => ?_)
  case hS => exact ⟨hX_0, hX_1, hX_2, hX_3, hY_0, hY_1, hY_2, hY_3, (Grw.refl _).drew⟩
  refine rtake (i := 0) (d := (some 5)) (v := ?_) rfl (by kernel_rfl) (by kernel_rfl) (by kernel_rfl) (by kernel_rfl) (fun _ _ _ h => h) (by kernel_rfl) (by assumption) ?_ ?_
  rotate_left 1
  · (intro wI hSI; (try dsimp only at hSI); go_simp; (try with_reducible rfl))
  simp only [Act.put, List.setIfInBounds_toArray, List.set_cons_zero, List.set_cons_succ]
  refine rtake (i := 1) (d := (some 6)) (v := ?_) rfl (by kernel_rfl) (by kernel_rfl) (by kernel_rfl) (by kernel_rfl) (fun _ _ _ h => h) (by kernel_rfl) (by assumption) ?_ ?_
  rotate_left 1
  · (intro wI hSI; (try dsimp only at hSI); go_simp; (try with_reducible rfl))
  simp only [Act.put, List.setIfInBounds_toArray, List.set_cons_zero, List.set_cons_succ]
  refine rtake (i := 2) (d := (some 7)) (v := ?_) rfl (by kernel_rfl) (by kernel_rfl) (by kernel_rfl) (by kernel_rfl) (fun _ _ _ h => h) (by kernel_rfl) (by assumption) ?_ ?_
  rotate_left 1
  · (intro wI hSI; (try dsimp only at hSI); go_simp; (try with_reducible rfl))
  simp only [Act.put, List.setIfInBounds_toArray, List.set_cons_zero, List.set_cons_succ]
  refine rtake (i := 3) (d := (some 8)) (v := ?_) rfl (by kernel_rfl) (by kernel_rfl) (by kernel_rfl) (by kernel_rfl) (fun _ _ _ h => h) (by kernel_rfl) (by assumption) ?_ ?_
  rotate_left 1
  · (intro wI hSI; (try dsimp only at hSI); go_simp; (try with_reducible rfl))
  simp only [Act.put, List.setIfInBounds_toArray, List.set_cons_zero, List.set_cons_succ]
  refine rtake (i := 4) (d := (some 9)) (v := ?_) rfl (by kernel_rfl) (by kernel_rfl) (by kernel_rfl) (by kernel_rfl) (fun _ _ _ h => h) (by kernel_rfl) (by assumption) ?_ ?_
  rotate_left 1
  · (intro wI hSI; (try dsimp only at hSI); go_simp; (try with_reducible rfl))
  simp only [Act.put, List.setIfInBounds_toArray, List.set_cons_zero, List.set_cons_succ]
  refine rtake (i := 5) (d := (some 10)) (v := ?_) rfl (by kernel_rfl) (by kernel_rfl) (by kernel_rfl) (by kernel_rfl) (fun _ _ _ h => h) (by kernel_rfl) (by assumption) ?_ ?_
  rotate_left 1
  · (intro wI hSI; (try dsimp only at hSI); go_simp; (try with_reducible rfl))
  simp only [Act.put, List.setIfInBounds_toArray, List.set_cons_zero, List.set_cons_succ]
  refine rtake (i := 7) (d := (some 12)) (v := ?_) rfl (by kernel_rfl) (by kernel_rfl) (by kernel_rfl) (by kernel_rfl) (fun _ _ _ h => h) (by kernel_rfl) (by assumption) ?_ ?_
  rotate_left 1
  · (intro wI hSI; (try dsimp only at hSI); go_simp; (try with_reducible rfl))
  simp only [Act.put, List.setIfInBounds_toArray, List.set_cons_zero, List.set_cons_succ]
  refine rtake (i := 8) (d := (some 13)) (v := ?_) rfl (by kernel_rfl) (by kernel_rfl) (by kernel_rfl) (by kernel_rfl) (fun _ _ _ h => h) (by kernel_rfl) (by assumption) ?_ ?_
  rotate_left 1
  · (intro wI hSI; (try dsimp only at hSI); go_simp; (try with_reducible rfl))
  simp only [Act.put, List.setIfInBounds_toArray, List.set_cons_zero, List.set_cons_succ]
  refine rtake (i := 9) (d := (some 14)) (v := ?_) rfl (by kernel_rfl) (by kernel_rfl) (by kernel_rfl) (by kernel_rfl) (fun _ _ _ h => h) (by kernel_rfl) (by assumption) ?_ ?_
  rotate_left 1
  · (intro wI hSI; (try dsimp only at hSI); go_simp; (try with_reducible rfl))
  simp only [Act.put, List.setIfInBounds_toArray, List.set_cons_zero, List.set_cons_succ]
  refine rtake (i := 10) (d := (some 15)) (v := ?_) rfl (by kernel_rfl) (by kernel_rfl) (by kernel_rfl) (by kernel_rfl) (fun _ _ _ h => h) (by kernel_rfl) (by assumption) ?_ ?_
  rotate_left 1
  · (intro wI hSI; (try dsimp only at hSI); go_simp; (try with_reducible rfl))
  simp only [Act.put, List.setIfInBounds_toArray, List.set_cons_zero, List.set_cons_succ]
  refine rtake (i := 11) (d := (some 16)) (v := ?_) rfl (by kernel_rfl) (by kernel_rfl) (by kernel_rfl) (by kernel_rfl) (fun _ _ _ h => h) (by kernel_rfl) (by assumption) ?_ ?_
  rotate_left 1
  · (intro wI hSI; (try dsimp only at hSI); go_simp; (try with_reducible rfl))
  simp only [Act.put, List.setIfInBounds_toArray, List.set_cons_zero, List.set_cons_succ]
  refine rtake (i := 12) (d := (some 17)) (v := ?_) rfl (by kernel_rfl) (by kernel_rfl) (by kernel_rfl) (by kernel_rfl) (fun _ _ _ h => h) (by kernel_rfl) (by assumption) ?_ ?_
  rotate_left 1
  · (intro wI hSI; (try dsimp only at hSI); go_simp; (try with_reducible rfl))
  simp only [Act.put, List.setIfInBounds_toArray, List.set_cons_zero, List.set_cons_succ]
  refine rtake (i := 14) (d := (some 19)) (v := ?_) rfl (by kernel_rfl) (by kernel_rfl) (by kernel_rfl) (by kernel_rfl) (fun _ _ _ h => h) (by kernel_rfl) (by assumption) ?_ ?_
  rotate_left 1
  · (intro wI hSI; (try dsimp only at hSI); go_simp; (try with_reducible rfl))
  simp only [Act.put, List.setIfInBounds_toArray, List.set_cons_zero, List.set_cons_succ]
  refine rtake (i := 15) (d := (some 20)) (v := ?_) rfl (by kernel_rfl) (by kernel_rfl) (by kernel_rfl) (by kernel_rfl) (fun _ _ _ h => h) (by kernel_rfl) (by assumption) ?_ ?_
  rotate_left 1
  · (intro wI hSI; (try dsimp only at hSI); go_simp; (try with_reducible rfl))
  simp only [Act.put, List.setIfInBounds_toArray, List.set_cons_zero, List.set_cons_succ]
  refine rtake (i := 16) (d := (some 21)) (v := ?_) rfl (by kernel_rfl) (by kernel_rfl) (by kernel_rfl) (by kernel_rfl) (fun _ _ _ h => h) (by kernel_rfl) (by assumption) ?_ ?_
  rotate_left 1
  · (intro wI hSI; (try dsimp only at hSI); go_simp; (try with_reducible rfl))
  simp only [Act.put, List.setIfInBounds_toArray, List.set_cons_zero, List.set_cons_succ]
  refine rtake (i := 17) (d := (some 22)) (v := ?_) rfl (by kernel_rfl) (by kernel_rfl) (by kernel_rfl) (by kernel_rfl) (fun _ _ _ h => h) (by kernel_rfl) (by assumption) ?_ ?_
  rotate_left 1
  · (intro wI hSI; (try dsimp only at hSI); go_simp; (try with_reducible rfl))
  simp only [Act.put, List.setIfInBounds_toArray, List.set_cons_zero, List.set_cons_succ]
  refine rtake (i := 19) (d := (some 24)) (v := ?_) rfl (by kernel_rfl) (by kernel_rfl) (by kernel_rfl) (by kernel_rfl) (fun _ _ _ h => h) (by kernel_rfl) (by assumption) ?_ ?_
  rotate_left 1
  · (intro wI hSI; (try dsimp only at hSI); go_simp; (try with_reducible rfl))
  simp only [Act.put, List.setIfInBounds_toArray, List.set_cons_zero, List.set_cons_succ]
  refine rtake (i := 20) (d := (some 25)) (v := ?_) rfl (by kernel_rfl) (by kernel_rfl) (by kernel_rfl) (by kernel_rfl) (fun _ _ _ h => h) (by kernel_rfl) (by assumption) ?_ ?_
  rotate_left 1
  · (intro wI hSI; (try dsimp only at hSI); go_simp; (try with_reducible rfl))
  simp only [Act.put, List.setIfInBounds_toArray, List.set_cons_zero, List.set_cons_succ]
  refine rtake (i := 21) (d := (some 26)) (v := ?_) rfl (by kernel_rfl) (by kernel_rfl) (by kernel_rfl) (by kernel_rfl) (fun _ _ _ h => h) (by kernel_rfl) (by assumption) ?_ ?_
  rotate_left 1
  · (intro wI hSI; (try dsimp only at hSI); go_simp; (try with_reducible rfl))
  simp only [Act.put, List.setIfInBounds_toArray, List.set_cons_zero, List.set_cons_succ]
  refine rtake (i := 22) (d := (some 27)) (v := ?_) rfl (by kernel_rfl) (by kernel_rfl) (by kernel_rfl) (by kernel_rfl) (fun _ _ _ h => h) (by kernel_rfl) (by assumption) ?_ ?_
  rotate_left 1
  · (intro wI hSI; (try dsimp only at hSI); go_simp; (try with_reducible rfl))
  simp only [Act.put, List.setIfInBounds_toArray, List.set_cons_zero, List.set_cons_succ]
  refine rcall (i := 6) (d := (some 11)) (by kernel_rfl) rfl (by kernel_rfl) (fun K hK => ?_)
  go_simp
  go_at_call 52; refine (HI1.out _).mono ?_; rintro e w' ⟨rfl, rfl⟩
  refine hK.out _ _ ?hS (fun hHeld => ?_)
  case hS => exact hHeld
  clear hK K
  simp only [Act.put, List.setIfInBounds_toArray, List.set_cons_zero, List.set_cons_succ]
  refine rcall (i := 13) (d := (some 18)) (by kernel_rfl) rfl (by kernel_rfl) (fun K hK => ?_)
  go_simp
  go_at_call 52; refine (HI2.out _).mono ?_; rintro e w' ⟨rfl, rfl⟩
  refine hK.out _ _ ?hS (fun hHeld => ?_)
  case hS => exact hHeld
  clear hK K
  simp only [Act.put, List.setIfInBounds_toArray, List.set_cons_zero, List.set_cons_succ]
  refine rcall (i := 18) (d := (some 23)) (by kernel_rfl) rfl (by kernel_rfl) (fun K hK => ?_)
  go_simp
  go_at_call 52; refine (HI3.out _).mono ?_; rintro e w' ⟨rfl, rfl⟩
  refine hK.out _ _ ?hS (fun hHeld => ?_)
  case hS => exact hHeld
  clear hK K
  simp only [Act.put, List.setIfInBounds_toArray, List.set_cons_zero, List.set_cons_succ]
  refine rcall (i := 23) (d := (some 28)) (by kernel_rfl) rfl (by kernel_rfl) (fun K hK => ?_)
  go_simp
  go_at_call 53; refine (HS1.out _).mono ?_; rintro e w' ⟨rfl, rfl⟩
  refine hK.out _ _ ?hS (fun hHeld => ?_)
  case hS => exact hHeld
  clear hK K
  simp only [Act.put, List.setIfInBounds_toArray, List.set_cons_zero, List.set_cons_succ]
  refine rcall (i := 24) (d := (some 29)) (by kernel_rfl) rfl (by kernel_rfl) (fun K hK => ?_)
  go_simp
  skip
  refine hK.out _ _ ?hS (fun hHeld => ?_)
  case hS => exact (have hA : ∀ (w : World) (o : Obj), Grw w (w.alloc o) := fun w o => (Grw.refl _).alloc o; ⟨cell_later (hA _ _).1 hHeld.1, cell_later (hA _ _).1 hHeld.2.1, cell_later (hA _ _).1 hHeld.2.2.1, cell_later (hA _ _).1 hHeld.2.2.2.1, cell_later (hA _ _).1 hHeld.2.2.2.2.1, cell_later (hA _ _).1 hHeld.2.2.2.2.2.1, cell_later (hA _ _).1 hHeld.2.2.2.2.2.2.1, cell_later (hA _ _).1 hHeld.2.2.2.2.2.2.2.1, hHeld.2.2.2.2.2.2.2.2.trans (hA _ _)⟩)
  clear hK K
  simp only [Act.put, List.setIfInBounds_toArray, List.set_cons_zero, List.set_cons_succ]
  refine rcall (i := 25) (d := (some 30)) (by kernel_rfl) rfl (by kernel_rfl) (fun K hK => ?_)
  go_simp
  go_at_call 51; refine (orI_any [c1, c2, c3, c4] _ 4 _ (Box.sa (by first | exact Box.new _ _ _ | exact (Box.new _ _ _).drew) [c1, c2, c3, c4] rfl) (by simp)).mono ?_; rintro e w' ⟨rfl, rfl⟩
  refine hK.out _ _ ?hS (fun hHeld => ?_)
  case hS => exact hHeld
  clear hK K
  simp only [Act.put, List.setIfInBounds_toArray, List.set_cons_zero, List.set_cons_succ]
  refine rtake (i := 26) (d := (some 4)) (v := ?_) rfl (by kernel_rfl) (by kernel_rfl) (by kernel_rfl) (by kernel_rfl) (fun _ _ _ h => h) (by kernel_rfl) (by assumption) ?_ ?_
  rotate_left 1
  · (intro wI hSI; (try dsimp only at hSI); go_simp; (try with_reducible rfl))
  simp only [Act.put, List.setIfInBounds_toArray, List.set_cons_zero, List.set_cons_succ]
  refine wpAnyH_done (by kernel_rfl) ?_ _
  have hbF := hG.trans hHeld.2.2.2.2.2.2.2.2
  go_wp2_with fail
  go_ret
  exact ⟨by rw [HC.out] <;> rfl, hbF⟩
set_option maxRecDepth 100000 in
set_option maxHeartbeats 2000000 in
theorem anonClo2_any (x y : Gv) (w : World) : Calls Tryz.prog 50 #[encG x, encG y] w (fun e w' => e = .returned (.int .i64 (cmpG x y)) ∧ Grw w w') := by
  obtain ⟨x1, x2, x3, x4⟩ := x
  obtain ⟨y1, y2, y3, y4⟩ := y
  have HC : Hid (cmpG (x1, x2, x3, x4) (y1, y2, y3, y4) = firstOf [Lib.compareInt x2 y2, Lib.compareInt x3 y3, Lib.compareInt x1 y1, cmpS x4 y4]) := rfl
  have HI1 := Lib.hid (fun W => Tryz.cmp_Compare_int x2 y2 W)
  have HI2 := Lib.hid (fun W => Tryz.cmp_Compare_int x3 y3 W)
  have HI3 := Lib.hid (fun W => Tryz.cmp_Compare_int x1 y1 W)
  have HS1 : Hid (∀ W', Calls Tryz.prog 53 #[.string x4, .string y4] W' (fun e w' => e = .returned (.int .i64 (cmpS x4 y4)) ∧ w' = W')) := fun W' => Tryz.strings_Compare x4 y4 W'
  generalize cmpG (x1, x2, x3, x4) (y1, y2, y3, y4) = z at *
  generalize Lib.compareInt x2 y2 = c1 at *
  generalize Lib.compareInt x3 y3 = c2 at *
  generalize Lib.compareInt x1 y1 = c3 at *
  generalize cmpS x4 y4 = c4 at *
  have hX := (Box.new w 42 #[.int .i64 x1, .int .i64 x2, .int .i64 x3, .string x4]).alloc (.cells #[.int .i64 y1, .int .i64 y2, .int .i64 y3, .string y4] 42)
  have hY := Box.newAt (w.alloc (.cells #[.int .i64 x1, .int .i64 x2, .int .i64 x3, .string x4] 42)) (w.heap.size + 1) 42 #[.int .i64 y1, .int .i64 y2, .int .i64 y3, .string y4] (by simp)
  unfold encG
  go_enter Tryz.func50, Tryz.ntmps50
  go_upto_region 1 with (fail)
  have hG : Grw w ((w.alloc (.cells #[.int .i64 x1, .int .i64 x2, .int .i64 x3, .string x4] 42)).alloc (.cells #[.int .i64 y1, .int .i64 y2, .int .i64 y3, .string y4] 42)) := ((Grw.refl _).alloc _).alloc _
  generalize (w.alloc (.cells #[.int .i64 x1, .int .i64 x2, .int .i64 x3, .string x4] 42)).alloc (.cells #[.int .i64 y1, .int .i64 y2, .int .i64 y3, .string y4] 42) = W at *
  have hX_l := hX.lt; have hX_0 := hX.cell 0; have hX_1 := hX.cell 1; have hX_2 := hX.cell 2; have hX_3 := hX.cell 3; simp at hX_0 hX_1 hX_2 hX_3
  have hY_l := hY.lt; have hY_0 := hY.cell 0; have hY_1 := hY.cell 1; have hY_2 := hY.cell 2; have hY_3 := hY.cell 3; simp at hY_0 hY_1 hY_2 hY_3
  refine wp_region_held_drew (S := (fun wx => wx.cell? ⟨w.heap.size, 0, none⟩ = some (.int .i64 x1) ∧ wx.cell? ⟨w.heap.size, 1, none⟩ = some (.int .i64 x2) ∧ wx.cell? ⟨w.heap.size, 2, none⟩ = some (.int .i64 x3) ∧ wx.cell? ⟨w.heap.size, 3, none⟩ = some (.string x4) ∧ wx.cell? ⟨w.heap.size + 1, 0, none⟩ = some (.int .i64 y1) ∧ wx.cell? ⟨w.heap.size + 1, 1, none⟩ = some (.int .i64 y2) ∧ wx.cell? ⟨w.heap.size + 1, 2, none⟩ = some (.int .i64 y3) ∧ wx.cell? ⟨w.heap.size + 1, 3, none⟩ = some (.string y4) ∧ Grw W wx)) (by kernel_rfl) ?hS (fun hHeld => ?_)
  case hS => exact ⟨hX_0, hX_1, hX_2, hX_3, hY_0, hY_1, hY_2, hY_3, (Grw.refl _).drew⟩
  refine rtake (i := 0) (d := (some 5)) (v := ?_) rfl (by kernel_rfl) (by kernel_rfl) (by kernel_rfl) (by kernel_rfl) (fun _ _ _ h => h) (by kernel_rfl) (by assumption) ?_ ?_
  rotate_left 1
  · (intro wI hSI; (try dsimp only at hSI); go_simp; (try with_reducible rfl))
  simp only [Act.put, List.setIfInBounds_toArray, List.set_cons_zero, List.set_cons_succ]
  refine rtake (i := 1) (d := (some 6)) (v := ?_) rfl (by kernel_rfl) (by kernel_rfl) (by kernel_rfl) (by kernel_rfl) (fun _ _ _ h => h) (by kernel_rfl) (by assumption) ?_ ?_
  rotate_left 1
  · (intro wI hSI; (try dsimp only at hSI); go_simp; (try with_reducible rfl))
  simp only [Act.put, List.setIfInBounds_toArray, List.set_cons_zero, List.set_cons_succ]
  refine rtake (i := 2) (d := (some 7)) (v := ?_) rfl (by kernel_rfl) (by kernel_rfl) (by kernel_rfl) (by kernel_rfl) (fun _ _ _ h => h) (by kernel_rfl) (by assumption) ?_ ?_
  rotate_left 1
  · (intro wI hSI; (try dsimp only at hSI); go_simp; (try with_reducible rfl))
  simp only [Act.put, List.setIfInBounds_toArray, List.set_cons_zero, List.set_cons_succ]
  refine rtake (i := 3) (d := (some 8)) (v := ?_) rfl (by kernel_rfl) (by kernel_rfl) (by kernel_rfl) (by kernel_rfl) (fun _ _ _ h => h) (by kernel_rfl) (by assumption) ?_ ?_
  rotate_left 1
  · (intro wI hSI; (try dsimp only at hSI); go_simp; (try with_reducible rfl))
  simp only [Act.put, List.setIfInBounds_toArray, List.set_cons_zero, List.set_cons_succ]
  refine rtake (i := 4) (d := (some 9)) (v := ?_) rfl (by kernel_rfl) (by kernel_rfl) (by kernel_rfl) (by kernel_rfl) (fun _ _ _ h => h) (by kernel_rfl) (by assumption) ?_ ?_
  rotate_left 1
  · (intro wI hSI; (try dsimp only at hSI); go_simp; (try with_reducible rfl))
  simp only [Act.put, List.setIfInBounds_toArray, List.set_cons_zero, List.set_cons_succ]
  refine rtake (i := 5) (d := (some 10)) (v := ?_) rfl (by kernel_rfl) (by kernel_rfl) (by kernel_rfl) (by kernel_rfl) (fun _ _ _ h => h) (by kernel_rfl) (by assumption) ?_ ?_
  rotate_left 1
  · (intro wI hSI; (try dsimp only at hSI); go_simp; (try with_reducible rfl))
  simp only [Act.put, List.setIfInBounds_toArray, List.set_cons_zero, List.set_cons_succ]
  refine rtake (i := 7) (d := (some 12)) (v := ?_) rfl (by kernel_rfl) (by kernel_rfl) (by kernel_rfl) (by kernel_rfl) (fun _ _ _ h => h) (by kernel_rfl) (by assumption) ?_ ?_
  rotate_left 1
  · (intro wI hSI; (try dsimp only at hSI); go_simp; (try with_reducible rfl))
  simp only [Act.put, List.setIfInBounds_toArray, List.set_cons_zero, List.set_cons_succ]
  refine rtake (i := 8) (d := (some 13)) (v := ?_) rfl (by kernel_rfl) (by kernel_rfl) (by kernel_rfl) (by kernel_rfl) (fun _ _ _ h => h) (by kernel_rfl) (by assumption) ?_ ?_
  rotate_left 1
  · (intro wI hSI; (try dsimp only at hSI); go_simp; (try with_reducible rfl))
  simp only [Act.put, List.setIfInBounds_toArray, List.set_cons_zero, List.set_cons_succ]
  refine rtake (i := 9) (d := (some 14)) (v := ?_) rfl (by kernel_rfl) (by kernel_rfl) (by kernel_rfl) (by kernel_rfl) (fun _ _ _ h => h) (by kernel_rfl) (by assumption) ?_ ?_
  rotate_left 1
  · (intro wI hSI; (try dsimp only at hSI); go_simp; (try with_reducible rfl))
  simp only [Act.put, List.setIfInBounds_toArray, List.set_cons_zero, List.set_cons_succ]
  refine rtake (i := 10) (d := (some 15)) (v := ?_) rfl (by kernel_rfl) (by kernel_rfl) (by kernel_rfl) (by kernel_rfl) (fun _ _ _ h => h) (by kernel_rfl) (by assumption) ?_ ?_
  rotate_left 1
  · (intro wI hSI; (try dsimp only at hSI); go_simp; (try with_reducible rfl))
  simp only [Act.put, List.setIfInBounds_toArray, List.set_cons_zero, List.set_cons_succ]
  refine rtake (i := 11) (d := (some 16)) (v := ?_) rfl (by kernel_rfl) (by kernel_rfl) (by kernel_rfl) (by kernel_rfl) (fun _ _ _ h => h) (by kernel_rfl) (by assumption) ?_ ?_
  rotate_left 1
  · (intro wI hSI; (try dsimp only at hSI); go_simp; (try with_reducible rfl))
  simp only [Act.put, List.setIfInBounds_toArray, List.set_cons_zero, List.set_cons_succ]
  refine rtake (i := 12) (d := (some 17)) (v := ?_) rfl (by kernel_rfl) (by kernel_rfl) (by kernel_rfl) (by kernel_rfl) (fun _ _ _ h => h) (by kernel_rfl) (by assumption) ?_ ?_
  rotate_left 1
  · (intro wI hSI; (try dsimp only at hSI); go_simp; (try with_reducible rfl))
  simp only [Act.put, List.setIfInBounds_toArray, List.set_cons_zero, List.set_cons_succ]
  refine rtake (i := 14) (d := (some 19)) (v := ?_) rfl (by kernel_rfl) (by kernel_rfl) (by kernel_rfl) (by kernel_rfl) (fun _ _ _ h => h) (by kernel_rfl) (by assumption) ?_ ?_
  rotate_left 1
  · (intro wI hSI; (try dsimp only at hSI); go_simp; (try with_reducible rfl))
  simp only [Act.put, List.setIfInBounds_toArray, List.set_cons_zero, List.set_cons_succ]
  refine rtake (i := 15) (d := (some 20)) (v := ?_) rfl (by kernel_rfl) (by kernel_rfl) (by kernel_rfl) (by kernel_rfl) (fun _ _ _ h => h) (by kernel_rfl) (by assumption) ?_ ?_
  rotate_left 1
  · (intro wI hSI; (try dsimp only at hSI); go_simp; (try with_reducible rfl))
  simp only [Act.put, List.setIfInBounds_toArray, List.set_cons_zero, List.set_cons_succ]
  refine rtake (i := 16) (d := (some 21)) (v := ?_) rfl (by kernel_rfl) (by kernel_rfl) (by kernel_rfl) (by kernel_rfl) (fun _ _ _ h => h) (by kernel_rfl) (by assumption) ?_ ?_
  rotate_left 1
  · (intro wI hSI; (try dsimp only at hSI); go_simp; (try with_reducible rfl))
  simp only [Act.put, List.setIfInBounds_toArray, List.set_cons_zero, List.set_cons_succ]
  refine rtake (i := 17) (d := (some 22)) (v := ?_) rfl (by kernel_rfl) (by kernel_rfl) (by kernel_rfl) (by kernel_rfl) (fun _ _ _ h => h) (by kernel_rfl) (by assumption) ?_ ?_
  rotate_left 1
  · (intro wI hSI; (try dsimp only at hSI); go_simp; (try with_reducible rfl))
  simp only [Act.put, List.setIfInBounds_toArray, List.set_cons_zero, List.set_cons_succ]
  refine rtake (i := 19) (d := (some 24)) (v := ?_) rfl (by kernel_rfl) (by kernel_rfl) (by kernel_rfl) (by kernel_rfl) (fun _ _ _ h => h) (by kernel_rfl) (by assumption) ?_ ?_
  rotate_left 1
  · (intro wI hSI; (try dsimp only at hSI); go_simp; (try with_reducible rfl))
  simp only [Act.put, List.setIfInBounds_toArray, List.set_cons_zero, List.set_cons_succ]
  refine rtake (i := 20) (d := (some 25)) (v := ?_) rfl (by kernel_rfl) (by kernel_rfl) (by kernel_rfl) (by kernel_rfl) (fun _ _ _ h => h) (by kernel_rfl) (by assumption) ?_ ?_
  rotate_left 1
  · (intro wI hSI; (try dsimp only at hSI); go_simp; (try with_reducible rfl))
  simp only [Act.put, List.setIfInBounds_toArray, List.set_cons_zero, List.set_cons_succ]
  refine rtake (i := 21) (d := (some 26)) (v := ?_) rfl (by kernel_rfl) (by kernel_rfl) (by kernel_rfl) (by kernel_rfl) (fun _ _ _ h => h) (by kernel_rfl) (by assumption) ?_ ?_
  rotate_left 1
  · (intro wI hSI; (try dsimp only at hSI); go_simp; (try with_reducible rfl))
  simp only [Act.put, List.setIfInBounds_toArray, List.set_cons_zero, List.set_cons_succ]
  refine rtake (i := 22) (d := (some 27)) (v := ?_) rfl (by kernel_rfl) (by kernel_rfl) (by kernel_rfl) (by kernel_rfl) (fun _ _ _ h => h) (by kernel_rfl) (by assumption) ?_ ?_
  rotate_left 1
  · (intro wI hSI; (try dsimp only at hSI); go_simp; (try with_reducible rfl))
  simp only [Act.put, List.setIfInBounds_toArray, List.set_cons_zero, List.set_cons_succ]
  refine rcall (i := 6) (d := (some 11)) (by kernel_rfl) rfl (by kernel_rfl) (fun K hK => ?_)
  go_simp
  go_at_call 52; refine (HI1.out _).mono ?_; rintro e w' ⟨rfl, rfl⟩
  refine hK.out _ _ ?hS (fun hHeld => ?_)
  case hS => exact hHeld
  clear hK K
  simp only [Act.put, List.setIfInBounds_toArray, List.set_cons_zero, List.set_cons_succ]
  refine rcall (i := 13) (d := (some 18)) (by kernel_rfl) rfl (by kernel_rfl) (fun K hK => ?_)
  go_simp
  go_at_call 52; refine (HI2.out _).mono ?_; rintro e w' ⟨rfl, rfl⟩
  refine hK.out _ _ ?hS (fun hHeld => ?_)
  case hS => exact hHeld
  clear hK K
  simp only [Act.put, List.setIfInBounds_toArray, List.set_cons_zero, List.set_cons_succ]
  refine rcall (i := 18) (d := (some 23)) (by kernel_rfl) rfl (by kernel_rfl) (fun K hK => ?_)
  go_simp
  go_at_call 52; refine (HI3.out _).mono ?_; rintro e w' ⟨rfl, rfl⟩
  refine hK.out _ _ ?hS (fun hHeld => ?_)
  case hS => exact hHeld
  clear hK K
  simp only [Act.put, List.setIfInBounds_toArray, List.set_cons_zero, List.set_cons_succ]
  refine rcall (i := 23) (d := (some 28)) (by kernel_rfl) rfl (by kernel_rfl) (fun K hK => ?_)
  go_simp
  go_at_call 53; refine (HS1.out _).mono ?_; rintro e w' ⟨rfl, rfl⟩
  refine hK.out _ _ ?hS (fun hHeld => ?_)
  case hS => exact hHeld
  clear hK K
  simp only [Act.put, List.setIfInBounds_toArray, List.set_cons_zero, List.set_cons_succ]
  refine rcall (i := 24) (d := (some 29)) (by kernel_rfl) rfl (by kernel_rfl) (fun K hK => ?_)
  go_simp
  skip
  refine hK.out _ _ ?hS (fun hHeld => ?_)
  case hS => exact (have hA : ∀ (w : World) (o : Obj), Grw w (w.alloc o) := fun w o => (Grw.refl _).alloc o; ⟨cell_later (hA _ _).1 hHeld.1, cell_later (hA _ _).1 hHeld.2.1, cell_later (hA _ _).1 hHeld.2.2.1, cell_later (hA _ _).1 hHeld.2.2.2.1, cell_later (hA _ _).1 hHeld.2.2.2.2.1, cell_later (hA _ _).1 hHeld.2.2.2.2.2.1, cell_later (hA _ _).1 hHeld.2.2.2.2.2.2.1, cell_later (hA _ _).1 hHeld.2.2.2.2.2.2.2.1, hHeld.2.2.2.2.2.2.2.2.trans (hA _ _)⟩)
  clear hK K
  simp only [Act.put, List.setIfInBounds_toArray, List.set_cons_zero, List.set_cons_succ]
  refine rcall (i := 25) (d := (some 30)) (by kernel_rfl) rfl (by kernel_rfl) (fun K hK => ?_)
  go_simp
  go_at_call 51; refine (orI_any [c1, c2, c3, c4] _ 4 _ (Box.sa (by first | exact Box.new _ _ _ | exact (Box.new _ _ _).drew) [c1, c2, c3, c4] rfl) (by simp)).mono ?_; rintro e w' ⟨rfl, rfl⟩
  refine hK.out _ _ ?hS (fun hHeld => ?_)
  case hS => exact hHeld
  clear hK K
  simp only [Act.put, List.setIfInBounds_toArray, List.set_cons_zero, List.set_cons_succ]
  refine rtake (i := 26) (d := (some 4)) (v := ?_) rfl (by kernel_rfl) (by kernel_rfl) (by kernel_rfl) (by kernel_rfl) (fun _ _ _ h => h) (by kernel_rfl) (by assumption) ?_ ?_
  rotate_left 1
  · (intro wI hSI; (try dsimp only at hSI); go_simp; (try with_reducible rfl))
  simp only [Act.put, List.setIfInBounds_toArray, List.set_cons_zero, List.set_cons_succ]
  refine wpAnyH_done (by kernel_rfl) ?_ _
  have hbF := hG.trans hHeld.2.2.2.2.2.2.2.2
  go_wp2_with fail
  go_ret
  exact ⟨by rw [HC.out] <;> rfl, hbF⟩
end Go.Proofs.YthajoedabjfaaaaGreatDoor

/-! slices.SortFunc of what gives authors away: any number of them. -/
namespace Go.Proofs.YthajoedabjfaaaaGreatDoor
open Go.RowKit Go.Sort
set_option linter.unusedVariables false
set_option linter.unusedSimpArgs false

theorem flat_cells_len {α : Type} [Cel α] : ∀ l : List α, (l.flatMap Cel.cells).length = l.length * Cel.k α
  | [] => by simp
  | x :: l => by rw [List.flatMap_cons, List.length_append, Cel.len, flat_cells_len l, List.length_cons, Nat.add_mul]; omega
theorem flat_of_arr {α : Type} [Cel α] {w : World} {b : Nat} {E : TypeId} {cur : Array Value} {l : List α} (hbox : Box w b E cur) (h : ArrAt w b 0 l) : cur.toList.take (l.length * Cel.k α) = l.flatMap Cel.cells := by
  apply List.ext_getElem?
  intro t
  by_cases ht : t < l.length * Cel.k α
  · have hk := Cel.pos (α := α)
    have hi : t / Cel.k α < l.length := Nat.div_lt_of_lt_mul (by rw [Nat.mul_comm]; exact ht)
    have hj := Nat.mod_lt t hk
    have e : t / Cel.k α * Cel.k α + t % Cel.k α = t := by rw [Nat.mul_comm]; exact Nat.div_add_mod _ _
    have hx : l[t / Cel.k α]? = some l[t / Cel.k α] := List.getElem?_eq_getElem hi
    have h1 := h _ _ _ hx hj
    have h2 := flat_get l _ _ _ hx hj
    rw [e] at h1 h2
    rw [Nat.zero_add, hbox.cell] at h1
    rw [List.getElem?_take_of_lt ht, h2, ← h1]
    simp
  · rw [List.getElem?_take_eq_none (by omega), List.getElem?_eq_none (by rw [flat_cells_len]; omega)]
/-- A slice of one's own whose cells were turned in place. -/
theorem Own.turned {α : Type} [Cel α] {w w' : World} {base : Nat} {E : TypeId} {g n cap : Nat} {l l' : List α} (h : Own base E w (.slice (some ⟨g, 0, none⟩) n cap) l) (hs : ∀ cur, Box w g E cur → ∃ cur', Box w' g E cur' ∧ cur'.size = cur.size) (hl : l'.length = l.length) (ha : ArrAt w' g 0 l') : Own base E w' (.slice (some ⟨g, 0, none⟩) n cap) l' := by
  obtain ⟨h1, h2⟩ := h
  refine ⟨flat_cells_len l', ?_⟩
  rcases h2 with ⟨h2, _⟩ | ⟨g', cap', cur, he, r1, r2, r3, r4, r5, r6⟩
  · cases h2
  · cases he
    obtain ⟨cur', b1, b2⟩ := hs cur r2
    rw [hl]
    refine .inr ⟨g, cap, cur', rfl, r1, b1, r3, r4, by rw [b2]; exact r5, ?_⟩
    rw [← hl]
    exact flat_of_arr b1 ha
theorem box_sortK {w : World} {blk : Nat} {E : TypeId} {cur : Array Value} (h : Box w blk E cur) {α : Type} [Inhabited α] (enc : α → List Value) (k n : Nat) (d : Array α) (os : Array Obj) : ∃ cur', Box (sortWorldK enc k w blk 0 n d os) blk E cur' ∧ cur'.size = cur.size := by
  refine ⟨putCells id 0 (flatK enc k d) cur, ?_, by unfold putCells; simp⟩
  have hlt := h.lt
  show _ = _
  unfold sortWorldK
  rw [heap_grow_old _ _ (by rw [size_putRowK]; exact hlt)]
  show (putRow id (Sort.ahead w n) blk 0 (flatK enc k d)).heap[blk]? = _
  unfold putRow mapBlock
  have e : (Sort.ahead w n).heap[blk]? = some (.cells cur E (0, 0)) := h
  simp only [Array.getElem?_modify, if_true, e]
  rfl
set_option maxRecDepth 100000 in
theorem insGives_nil (a : Option Addr) (cap : Nat) (fv : Value) (w : World) : Calls Tryz.prog 105 #[.slice a 0 cap, .int .i64 0, .int .i64 0, fv] w (fun e w' => e = .returned (.tuple #[]) ∧ w' = w) := by
  go_enter Tryz.func105, Tryz.ntmps105
  go_wp2_with fail
  refine wp_loop_rounds 1 ?_
  rw [rounds_succ]
  go_wp2_with fail
  go_end0
  exact ⟨rfl, rfl⟩
set_option maxRecDepth 100000 in
theorem pdqGives_nil (a : Option Addr) (cap : Nat) (m : Int) (fv : Value) (w : World) : Calls Tryz.prog 79 #[.slice a 0 cap, .int .i64 0, .int .i64 0, .int .i64 m, fv] w (fun e w' => e = .returned (.tuple #[]) ∧ w' = w) := by
  have HI := Lib.hid (fun W => insGives_nil a cap fv W)
  go_enter Tryz.func79, Tryz.ntmps79
  go_wp2_with fail
  refine wp_loop_rounds 1 ?_
  rw [rounds_succ]
  go_wp2_with fail
  refine (HI.out _).mono ?_
  rintro e w' ⟨rfl, rfl⟩
  go_wp2_with fail
  (try simp only [Exit.inBlock, Exit.then]); refine bodyPost_ret (results_none rfl _ _ _) rfl ?_
  exact ⟨rfl, rfl⟩
set_option maxRecDepth 100000 in
theorem sortGives_nil (a : Option Addr) (cap : Nat) (fv : Value) (w : World) : Calls Tryz.prog 39 #[.slice a 0 cap, fv] w (fun e w' => e = .returned (.tuple #[]) ∧ w' = w) := by
  have HI := Lib.hid (fun m W => pdqGives_nil a cap m fv W)
  have HB := Lib.hid (fun W => Tryz.bits_Len 0 W (by omega) (by omega))
  go_enter Tryz.func39, Tryz.ntmps39
  go_wp2_with fail
  refine (HB.out _).mono ?_
  rintro e w' ⟨rfl, rfl⟩
  go_wp2_with fail
  refine (HI.out _ _).mono ?_
  rintro e w' ⟨rfl, rfl⟩
  go_wp2_with fail
  go_end0
  exact ⟨rfl, rfl⟩
theorem sortGives_any (base : Nat) (l : List Gv) (v : Value) (w : World) (g : Nat) (eg : ∀ args w, (callFunc g args).run Tryz.prog w = .ok (.enter g args) w) (hc : ∀ x y W, Calls Tryz.prog g #[encG x, encG y] W (fun e w' => e = .returned (.int .i64 (cmpG x y)) ∧ Grw W w'))
    (h : Own base 42 w v l) (hl : l.length ≤ 100000000) :
    Calls Tryz.prog 39 #[v, .func (.func g) #[] #[]] w (fun e w' => e = .returned (.tuple #[]) ∧ Own base 42 w' v (sortG l) ∧ Kp (fun j => v.ownBlock = some j) w w') := by
  by_cases hn : l = []
  · subst hn
    obtain ⟨a, cap, rfl, _⟩ := h.form
    refine (sortGives_nil a cap _ w).mono ?_
    rintro e w' ⟨rfl, rfl⟩
    rw [sortG_nil]
    exact ⟨rfl, h, Kp.refl _ _⟩
  · obtain ⟨a, cap, rfl, hsa, hab⟩ := h.form
    rcases hsa with hsa | ⟨b, off, rfl, hA⟩
    · exact absurd hsa hn
    have hob : off = 0 := by
      rcases hab with ⟨h1 | ⟨b2, h1, -⟩, -⟩
      · cases h1
      · exact congrArg (·.off) (Option.some.inj h1)
    subst hob
    obtain ⟨cur, hbox⟩ := h.box
    have hH := holdsK_of (fun x : Gv => x) l hbox (by rw [List.map_id']; exact hA)
    have hcon := AnyQ.slices_SortFunc_eq Tryz.sort_Give 4 Tryz.isAgg42 Tryz.sizeOf42 (fun x : Gv => Cel.cells x) (fun x => Cel.len _) (fun x => Cel.one _) cmpG swoG g #[] b 0 cap l.toArray w eg
      (fun m os dk hs x y => (hc x y _).mono fun e w' ⟨h1, h2⟩ => ⟨h1, h2.grown⟩) hH hbox.lt (by rw [List.size_toArray]; omega)
    rw [List.size_toArray] at hcon
    refine hcon.mono ?_
    rintro e w' ⟨rfl, n, os, rfl⟩
    refine ⟨rfl, ?_, (kp_sortK _ _ _ _ _ _ _).mono (fun k hk => .inl (by rw [hk]; rfl))⟩
    have hlen := sortG_len l
    have hd := holdsK_sortWorldK_c (fun x : Gv => Cel.cells x) 4 w b 0 _ (pdq (ltOf cmpG) l.toArray 0 l.length (Lib.bitLen l.length) true true) n os hH hbox.lt (by unfold sortG at hlen; rw [Array.length_toList] at hlen; rw [hlen, List.size_toArray])
    have hsa := arr_of_holdsK (fun x : Gv => x) hd
    rw [List.map_id'] at hsa
    exact h.turned (fun cur hb => box_sortK hb _ _ _ _ _) hlen hsa
end Go.Proofs.YthajoedabjfaaaaGreatDoor
