/- Marks: the order of pairs, and what is wrong with marks (the program). -/
import Derived.Test.YtpgofjjcmldhpaaGreatDoorMarkPure
import Derived.Test.YtpgofjjcmldhpaaGreatDoorOutside
import Derived.Test.YtpgofjjcmldhpaaGreatDoorReg
import Derived.Test.YtpgofjjcmldhpaaGreatDoorKeep
/-! Marks: the order of pairs, and what is wrong with marks (the program). -/
namespace Go.Proofs.YtpgofjjcmldhpaaGreatDoor
open Go.RowKit
set_option linter.unusedVariables false
set_option linter.unusedSimpArgs false

theorem isKeyB_any (s : ByteArray) (w : World) (hs : s.size ≤ 9223372036854775807) : Calls Tryz.prog 54 #[.string s] w (Gives (.bool (keyB s)) w) :=
  (isKey_any s w hs).mono fun e w' ⟨h1, h2⟩ => ⟨h1, by subst h2; exact Below.refl _ _⟩
theorem compareS_any (a b : ByteArray) (w : World) : Calls Tryz.prog 102 #[.string a, .string b] w (fun e w' => e = .returned (.int .i64 (cmpS a b)) ∧ w = w') :=
  (Tryz.strings_Compare a b w).mono fun e w' ⟨h1, h2⟩ => ⟨h1, h2.symm⟩

set_option maxHeartbeats 1000000 in
theorem comparePairs_any (x y : Mark) (w : World) :
    Calls Tryz.prog 55 #[.agg #[.string x.1, .string x.2.1], .agg #[.string y.1, .string y.2.1]] w (Gives (.int .i64 (cmpP x y)) w) := by
  have H := Lib.hid (show cmpP x y = if cmpS x.1 y.1 ≠ 0 then cmpS x.1 y.1 else cmpS x.2.1 y.2.1 from rfl)
  generalize cmpP x y = r at *
  have H1 := Lib.hid (compareS_any x.1 y.1)
  have H2 := Lib.hid (compareS_any x.2.1 y.2.1)
  generalize cmpS x.1 y.1 = c1 at *
  generalize cmpS x.2.1 y.2.1 = c2 at *
  generalize x.1 = x1 at *
  generalize x.2.1 = x2 at *
  generalize y.1 = y1 at *
  generalize y.2.1 = y2 at *
  go_enter Tryz.func55, Tryz.ntmps55
  go_wp2_with fail
  refine (H1.out _).mono ?_
  rintro e w1 ⟨rfl, rfl⟩
  by_cases h0 : c1 = 0
  · subst h0
    rw [if_neg (by simp)] at H
    go_wp2_with fail
    refine (H2.out _).mono ?_
    rintro e w1 ⟨rfl, rfl⟩
    go_wp2_with fail
    go_ret
    exact ⟨by rw [H.out]; rfl, by (repeat' (first | exact Below.refl _ _ | assumption | refine Below.setCell ?_ ?_ _ | refine below_drewN ?_ _ | refine Below.drew ?_ | refine Below.alloc ?_ ?_ _ | (with_reducible refine Below.trans ?_ (Below.mono hb ?_)) | (with_reducible refine Below.trans ?_ (Below.mono hb0 ?_)) | (with_reducible refine Below.trans ?_ (Below.mono hb1 ?_)) | (with_reducible refine Below.trans ?_ (Below.mono hb2 ?_)) | (with_reducible refine Below.trans ?_ (Below.mono hb3 ?_)) | (with_reducible refine Below.trans ?_ (Below.mono hb4 ?_)) | (with_reducible refine Below.trans ?_ (Below.mono hb5 ?_)) | (with_reducible refine Below.trans ?_ (Below.mono hb6 ?_)) | (with_reducible refine Below.trans ?_ (Below.mono hb7 ?_)) | (with_reducible refine Below.trans ?_ (Below.mono hb8 ?_)) | (with_reducible refine Below.trans ?_ (Below.mono hb9 ?_)) | (with_reducible refine Below.trans ?_ (Below.mono hb10 ?_)) | (with_reducible refine Below.trans ?_ (Below.mono hb11 ?_)) | (with_reducible refine Below.trans ?_ (Below.mono hb12 ?_)) | (with_reducible refine Below.trans ?_ (Below.mono hb13 ?_)) | (with_reducible refine Below.trans ?_ (Below.mono hb14 ?_)) | (with_reducible refine Below.trans ?_ (Below.mono hb15 ?_)) | omega | (simp; done) | (simp; omega)))⟩
  · rw [if_pos h0] at H
    have h1 : (c1 != 0) = true := by simpa using h0
    clear h0
    go_wp2_with fail
    go_ret
    exact ⟨by rw [H.out]; rfl, by (repeat' (first | exact Below.refl _ _ | assumption | refine Below.setCell ?_ ?_ _ | refine below_drewN ?_ _ | refine Below.drew ?_ | refine Below.alloc ?_ ?_ _ | (with_reducible refine Below.trans ?_ (Below.mono hb ?_)) | (with_reducible refine Below.trans ?_ (Below.mono hb0 ?_)) | (with_reducible refine Below.trans ?_ (Below.mono hb1 ?_)) | (with_reducible refine Below.trans ?_ (Below.mono hb2 ?_)) | (with_reducible refine Below.trans ?_ (Below.mono hb3 ?_)) | (with_reducible refine Below.trans ?_ (Below.mono hb4 ?_)) | (with_reducible refine Below.trans ?_ (Below.mono hb5 ?_)) | (with_reducible refine Below.trans ?_ (Below.mono hb6 ?_)) | (with_reducible refine Below.trans ?_ (Below.mono hb7 ?_)) | (with_reducible refine Below.trans ?_ (Below.mono hb8 ?_)) | (with_reducible refine Below.trans ?_ (Below.mono hb9 ?_)) | (with_reducible refine Below.trans ?_ (Below.mono hb10 ?_)) | (with_reducible refine Below.trans ?_ (Below.mono hb11 ?_)) | (with_reducible refine Below.trans ?_ (Below.mono hb12 ?_)) | (with_reducible refine Below.trans ?_ (Below.mono hb13 ?_)) | (with_reducible refine Below.trans ?_ (Below.mono hb14 ?_)) | (with_reducible refine Below.trans ?_ (Below.mono hb15 ?_)) | omega | (simp; done) | (simp; omega)))⟩

/-- 'many' before the mark at k. -/
def prevN (l : List Mark) : Nat → Int
  | 0 => 0
  | p + 1 => runN l p
theorem runN_bd (l : List Mark) (k : Nat) : 1 ≤ runN l k ∧ runN l k ≤ k + 1 := by
  induction k with
  | zero => simp [runN]
  | succ p ih => rw [runN]; split <;> omega
theorem prevN_bd (l : List Mark) (k : Nat) : 0 ≤ prevN l k ∧ prevN l k ≤ k := by
  cases k with
  | zero => simp [prevN]
  | succ p => have := runN_bd l p; simp only [prevN]; omega
/-- The mark at k is of another paper than the one before it. -/
def chgB (l : List Mark) : Nat → Bool
  | 0 => false
  | p + 1 => !decide ((l[p]?.map (·.1)) = (l[p + 1]?.map (·.1)))
theorem runN_step (l : List Mark) (k : Nat) : runN l k = if chgB l k then 1 else prevN l k + 1 := by
  cases k with
  | zero => simp [runN, chgB, prevN]
  | succ p => rw [runN, chgB, prevN]; by_cases h : (l[p]?.map (·.1)) = (l[p + 1]?.map (·.1)) <;> simp [h]
theorem badOrd_at {l : List Mark} {k p : Nat} {x y : Mark} (hk : k = p + 1) (hx : l[p]? = some x) (hy : l[k]? = some y) : badOrd l k = decide (0 ≤ cmpP x y) := by
  subst hk; rw [badOrd, hx, hy]
theorem chgB_at {l : List Mark} {k p : Nat} {x y : Mark} (hk : k = p + 1) (hx : l[p]? = some x) (hy : l[k]? = some y) : chgB l k = !decide (x.1 = y.1) := by
  subst hk; rw [chgB, hx, hy]; simp

theorem beq_ba' (a b : ByteArray) : (a.toList == b.toList) = decide (a = b) := by
  rw [Bool.eq_iff_iff, beq_iff_eq, toList_inj, decide_eq_true_eq]
end Go.Proofs.YtpgofjjcmldhpaaGreatDoor

/-! Marks: what is wrong with marks (the reference). -/
namespace Go.Proofs.YtpgofjjcmldhpaaGreatDoor
open Go.RowKit
set_option linter.unusedVariables false
set_option linter.unusedSimpArgs false

set_option maxRecDepth 100000 in
set_option maxHeartbeats 4000000 in
/-- The first of two numbers that is not 0. -/
theorem cmpOrI_any (x y : Int) (b : Nat) (w : World) (h : Box w b 3 #[.int .i64 x, .int .i64 y]) :
    Calls Tryz.prog 104 #[.slice (some ⟨b, 0, none⟩) 2 2] w (fun e w' => e = .returned (.int .i64 (if x ≠ 0 then x else y)) ∧ w = w') := by
  have h_l := h.lt; have h_0 := h.cell 0; have h_1 := h.cell 1; simp at h_0 h_1
  by_cases hx : x = 0
  · rw [if_neg (by simp [hx])]
    have hq : (x != 0) = false := by simpa using hx
    clear hx
    by_cases hy : y = 0
    · have hq2 : (y != 0) = false := by simpa using hy
      go_enter Tryz.func104, Tryz.ntmps104
      go_wp2_with fail
      refine wp_loop_rounds 3 ?_
      rw [rounds_succ]
      go_wp2_with fail
      rw [rounds_succ]
      go_wp2_with fail
      rw [rounds_succ]
      go_wp2_with fail
      go_ret
      exact ⟨by rw [hy]; rfl, rfl⟩
    · have hq2 : (y != 0) = true := by simpa using hy
      go_enter Tryz.func104, Tryz.ntmps104
      go_wp2_with fail
      refine wp_loop_rounds 2 ?_
      rw [rounds_succ]
      go_wp2_with fail
      rw [rounds_succ]
      go_wp2_with fail
      go_ret
      exact ⟨rfl, rfl⟩
  · rw [if_pos hx]
    have hq : (x != 0) = true := by simpa using hx
    go_enter Tryz.func104, Tryz.ntmps104
    go_wp2_with fail
    refine wp_loop_rounds 1 ?_
    rw [rounds_succ]
    go_wp2_with fail
    go_ret
    exact ⟨rfl, rfl⟩

set_option maxRecDepth 100000 in
set_option maxHeartbeats 1000000 in
theorem pairOrder_any (x y : Mark) (w : World) :
    Calls Tryz.prog 57 #[.agg #[.string x.1, .string x.2.1], .agg #[.string y.1, .string y.2.1]] w (Gives (.int .i64 (cmpP x y)) w) := by
  have H := Lib.hid (show cmpP x y = if cmpS x.1 y.1 ≠ 0 then cmpS x.1 y.1 else cmpS x.2.1 y.2.1 from rfl)
  generalize cmpP x y = r at *
  have H1 := Lib.hid (compareS_any x.1 y.1)
  have H2 := Lib.hid (compareS_any x.2.1 y.2.1)
  have H3 := Lib.hid (cmpOrI_any (cmpS x.1 y.1) (cmpS x.2.1 y.2.1))
  rw [← H.out] at H3
  generalize cmpS x.1 y.1 = c1 at *
  generalize cmpS x.2.1 y.2.1 = c2 at *
  generalize x.1 = x1 at *
  generalize x.2.1 = x2 at *
  generalize y.1 = y1 at *
  generalize y.2.1 = y2 at *
  have hX := (Box.new w 94 #[.string x1, .string x2]).alloc (.cells #[.string y1, .string y2] 94)
  have hY := Box.newAt (w.alloc (.cells #[.string x1, .string x2] 94)) (w.heap.size + 1) 94 #[.string y1, .string y2] (by simp)
  go_enter Tryz.func57, Tryz.ntmps57
  go_upto_region 1 with (fail)
  have hB : Below w.heap.size w ((w.alloc (.cells #[.string x1, .string x2] 94)).alloc (.cells #[.string y1, .string y2] 94)) := by (repeat' (first | exact Below.refl _ _ | assumption | refine Below.setCell ?_ ?_ _ | refine below_drewN ?_ _ | refine Below.drew ?_ | refine Below.alloc ?_ ?_ _ | (with_reducible refine Below.trans ?_ (Below.mono hb ?_)) | (with_reducible refine Below.trans ?_ (Below.mono hb0 ?_)) | (with_reducible refine Below.trans ?_ (Below.mono hb1 ?_)) | (with_reducible refine Below.trans ?_ (Below.mono hb2 ?_)) | (with_reducible refine Below.trans ?_ (Below.mono hb3 ?_)) | (with_reducible refine Below.trans ?_ (Below.mono hb4 ?_)) | (with_reducible refine Below.trans ?_ (Below.mono hb5 ?_)) | (with_reducible refine Below.trans ?_ (Below.mono hb6 ?_)) | (with_reducible refine Below.trans ?_ (Below.mono hb7 ?_)) | (with_reducible refine Below.trans ?_ (Below.mono hb8 ?_)) | (with_reducible refine Below.trans ?_ (Below.mono hb9 ?_)) | (with_reducible refine Below.trans ?_ (Below.mono hb10 ?_)) | (with_reducible refine Below.trans ?_ (Below.mono hb11 ?_)) | (with_reducible refine Below.trans ?_ (Below.mono hb12 ?_)) | (with_reducible refine Below.trans ?_ (Below.mono hb13 ?_)) | (with_reducible refine Below.trans ?_ (Below.mono hb14 ?_)) | (with_reducible refine Below.trans ?_ (Below.mono hb15 ?_)) | omega | (simp; done) | (simp; omega)))
  generalize (w.alloc (.cells #[.string x1, .string x2] 94)).alloc (.cells #[.string y1, .string y2] 94) = W at *
  have hX_l := hX.lt; have hX_0 := hX.cell 0; have hX_1 := hX.cell 1; simp at hX_0 hX_1
  have hY_l := hY.lt; have hY_0 := hY.cell 0; have hY_1 := hY.cell 1; simp at hY_0 hY_1
  refine wp_region_held_drew (S := (fun wx => wx.cell? ⟨w.heap.size, 0, none⟩ = some (.string x1) ∧ wx.cell? ⟨w.heap.size, 1, none⟩ = some (.string x2) ∧ wx.cell? ⟨w.heap.size + 1, 0, none⟩ = some (.string y1) ∧ wx.cell? ⟨w.heap.size + 1, 1, none⟩ = some (.string y2) ∧ Below W.heap.size W wx)) (by kernel_rfl) ?hS (fun hHeld => ?_)
  case hS => exact ⟨hX_0, hX_1, hY_0, hY_1, (Below.refl _ _).drew⟩
  refine rtake (i := 0) (d := (some 5)) (v := ?_) rfl (by kernel_rfl) (by kernel_rfl) (by kernel_rfl) (by kernel_rfl) (fun _ _ _ h => h) (by kernel_rfl) (by assumption) ?_ ?_
  rotate_left 1
  · (intro wI hSI; (try dsimp only at hSI); go_simp; (try with_reducible rfl))
  simp only [Act.put, List.setIfInBounds_toArray, List.set_cons_zero, List.set_cons_succ]
  refine rtake (i := 1) (d := (some 6)) (v := ?_) rfl (by kernel_rfl) (by kernel_rfl) (by kernel_rfl) (by kernel_rfl) (fun _ _ _ h => h) (by kernel_rfl) (by assumption) ?_ ?_
  rotate_left 1
  · (intro wI hSI; (try dsimp only at hSI); go_simp; (try with_reducible rfl))
  simp only [Act.put, List.setIfInBounds_toArray, List.set_cons_zero, List.set_cons_succ]
  refine rtake (i := 2) (d := (some 7)) (v := ?_) rfl (by kernel_rfl) (by kernel_rfl) (by kernel_rfl) (by kernel_rfl) (fun _ _ _ h => h) (by kernel_rfl) (by assumption) ?_ ?_
  rotate_left 1
  · (intro wI hSI; (try dsimp only at hSI); go_simp; (try with_reducible rfl))
  simp only [Act.put, List.setIfInBounds_toArray, List.set_cons_zero, List.set_cons_succ]
  refine rtake (i := 3) (d := (some 8)) (v := ?_) rfl (by kernel_rfl) (by kernel_rfl) (by kernel_rfl) (by kernel_rfl) (fun _ _ _ h => h) (by kernel_rfl) (by assumption) ?_ ?_
  rotate_left 1
  · (intro wI hSI; (try dsimp only at hSI); go_simp; (try with_reducible rfl))
  simp only [Act.put, List.setIfInBounds_toArray, List.set_cons_zero, List.set_cons_succ]
  refine rtake (i := 5) (d := (some 10)) (v := ?_) rfl (by kernel_rfl) (by kernel_rfl) (by kernel_rfl) (by kernel_rfl) (fun _ _ _ h => h) (by kernel_rfl) (by assumption) ?_ ?_
  rotate_left 1
  · (intro wI hSI; (try dsimp only at hSI); go_simp; (try with_reducible rfl))
  simp only [Act.put, List.setIfInBounds_toArray, List.set_cons_zero, List.set_cons_succ]
  refine rtake (i := 6) (d := (some 11)) (v := ?_) rfl (by kernel_rfl) (by kernel_rfl) (by kernel_rfl) (by kernel_rfl) (fun _ _ _ h => h) (by kernel_rfl) (by assumption) ?_ ?_
  rotate_left 1
  · (intro wI hSI; (try dsimp only at hSI); go_simp; (try with_reducible rfl))
  simp only [Act.put, List.setIfInBounds_toArray, List.set_cons_zero, List.set_cons_succ]
  refine rtake (i := 7) (d := (some 12)) (v := ?_) rfl (by kernel_rfl) (by kernel_rfl) (by kernel_rfl) (by kernel_rfl) (fun _ _ _ h => h) (by kernel_rfl) (by assumption) ?_ ?_
  rotate_left 1
  · (intro wI hSI; (try dsimp only at hSI); go_simp; (try with_reducible rfl))
  simp only [Act.put, List.setIfInBounds_toArray, List.set_cons_zero, List.set_cons_succ]
  refine rtake (i := 8) (d := (some 13)) (v := ?_) rfl (by kernel_rfl) (by kernel_rfl) (by kernel_rfl) (by kernel_rfl) (fun _ _ _ h => h) (by kernel_rfl) (by assumption) ?_ ?_
  rotate_left 1
  · (intro wI hSI; (try dsimp only at hSI); go_simp; (try with_reducible rfl))
  simp only [Act.put, List.setIfInBounds_toArray, List.set_cons_zero, List.set_cons_succ]
  refine rcall (i := 4) (d := (some 9)) (by kernel_rfl) rfl (by kernel_rfl) (fun K hK => ?_)
  go_simp
  go_at_call 102; refine (H1.out _).mono ?_; rintro e w' ⟨rfl, rfl⟩
  refine hK.out _ _ ?hS (fun hHeld => ?_)
  case hS => exact hHeld
  clear hK K
  simp only [Act.put, List.setIfInBounds_toArray, List.set_cons_zero, List.set_cons_succ]
  refine rcall (i := 9) (d := (some 14)) (by kernel_rfl) rfl (by kernel_rfl) (fun K hK => ?_)
  go_simp
  go_at_call 102; refine (H2.out _).mono ?_; rintro e w' ⟨rfl, rfl⟩
  refine hK.out _ _ ?hS (fun hHeld => ?_)
  case hS => exact hHeld
  clear hK K
  simp only [Act.put, List.setIfInBounds_toArray, List.set_cons_zero, List.set_cons_succ]
  refine rcall (i := 10) (d := (some 15)) (by kernel_rfl) rfl (by kernel_rfl) (fun K hK => ?_)
  go_simp
  skip
  refine hK.out _ _ ?hS (fun hHeld => ?_)
  case hS => exact (have hA : ∀ (w : World) (o : Obj), Below w.heap.size w (w.alloc o) := fun w o => (Below.refl _ _).alloc (Nat.le_refl _) o; ⟨cell_later (hA _ _) hHeld.1, cell_later (hA _ _) hHeld.2.1, cell_later (hA _ _) hHeld.2.2.1, cell_later (hA _ _) hHeld.2.2.2.1, hHeld.2.2.2.2.trans ((hA _ _).mono hHeld.2.2.2.2.size)⟩)
  clear hK K
  simp only [Act.put, List.setIfInBounds_toArray, List.set_cons_zero, List.set_cons_succ]
  refine rcall (i := 11) (d := (some 16)) (by kernel_rfl) rfl (by kernel_rfl) (fun K hK => ?_)
  go_simp
  go_at_call 104; refine (H3.out _ _ (by first | exact Box.new _ _ _ | exact (Box.new _ _ _).drew)).mono ?_; rintro e w' ⟨rfl, rfl⟩
  refine hK.out _ _ ?hS (fun hHeld => ?_)
  case hS => exact hHeld
  clear hK K
  simp only [Act.put, List.setIfInBounds_toArray, List.set_cons_zero, List.set_cons_succ]
  refine rtake (i := 12) (d := (some 4)) (v := ?_) rfl (by kernel_rfl) (by kernel_rfl) (by kernel_rfl) (by kernel_rfl) (fun _ _ _ h => h) (by kernel_rfl) (by assumption) ?_ ?_
  rotate_left 1
  · (intro wI hSI; (try dsimp only at hSI); go_simp; (try with_reducible rfl))
  simp only [Act.put, List.setIfInBounds_toArray, List.set_cons_zero, List.set_cons_succ]
  refine wpAnyH_done (by kernel_rfl) ?_ _
  have hbF := below_next hB hHeld.2.2.2.2
  go_wp2_with fail
  go_ret
  exact ⟨rfl, hbF⟩

/-- How many marks of a paper there are. -/
def cntP (l : List Mark) (p : ByteArray) : Nat := l.countP (fun x => decide (x.1 = p))
theorem cntM_eq {l : List Mark} {k : Nat} (hk : k < l.length) : cntM l k = cntP (l.take (k + 1)) l[k].1 := by
  unfold cntM cntP; rw [List.getElem?_eq_getElem hk]; simp
theorem cntP_succ {l : List Mark} {k : Nat} (hk : k < l.length) (p : ByteArray) : cntP (l.take (k + 1)) p = cntP (l.take k) p + if l[k].1 = p then 1 else 0 := by
  unfold cntP; rw [List.take_succ_eq_append_getElem hk, List.countP_append]; simp [List.countP_cons]
theorem cntP_le (l : List Mark) (p : ByteArray) : cntP l p ≤ l.length := List.countP_le_length
/-- The map in block b counts the papers of l. -/
def MCnt (w : World) (b : Nat) (l : List Mark) : Prop := ∃ es, MBox w b es ∧ ∀ p, mget es p = if cntP l p = 0 then none else some (.int .i64 (cntP l p))
theorem MCnt.lt {w : World} {b : Nat} {l : List Mark} (h : MCnt w b l) : b < w.heap.size := by obtain ⟨es, h1, _⟩ := h; exact h1.lt
theorem MCnt.below {w w' : World} {b : Nat} {l : List Mark} (h : MCnt w b l) (k : Below w.heap.size w w') : MCnt w' b l := by obtain ⟨es, h1, h2⟩ := h; exact ⟨es, h1.below k, h2⟩
theorem MCnt.alloc {w : World} {b : Nat} {l : List Mark} (h : MCnt w b l) (o : Obj) : MCnt (w.alloc o) b l := by obtain ⟨es, h1, h2⟩ := h; exact ⟨es, h1.alloc o, h2⟩
theorem MCnt.look {w : World} {b : Nat} {l : List Mark} (h : MCnt w b l) (p : ByteArray) : (Instr.lookup 129 (.map (some b)) (.string p) false).run Tryz.prog w = .ok (.int .i64 (cntP l p)) w := by
  obtain ⟨es, h1, h2⟩ := h
  rw [MBox.look h1 Tryz.underlying129 Tryz.underlying9 (.int .i64 0) (fun w => Tryz.zeroValue3 w) p false]
  unfold looked
  rw [h2]
  by_cases h0 : cntP l p = 0 <;> simp [h0]
theorem MCnt.put {w : World} {b : Nat} {l : List Mark} {k : Nat} {es : List (ByteArray × Value)} (hk : k < l.length) (h2 : ∀ p, mget es p = if cntP (l.take k) p = 0 then none else some (.int .i64 (cntP (l.take k) p)))
    (h : MBox w b (mput es l[k].1 (.int .i64 ((cntP (l.take k) l[k].1 : Int) + 1)))) : MCnt w b (l.take (k + 1)) := by
  refine ⟨_, h, fun p => ?_⟩
  rw [mget_mput, cntP_succ hk]
  by_cases hp : l[k].1 = p
  · subst hp; simp
  · simp [hp, h2]

end Go.Proofs.YtpgofjjcmldhpaaGreatDoor

/-! Marks by papers and by persons: maps of slices. -/
namespace Go.Proofs.YtpgofjjcmldhpaaGreatDoor
open Go.RowKit
set_option linter.unusedVariables false
set_option linter.unusedSimpArgs false


/-- append(s, y) in a region that draws its order; where the slice lies. -/
theorem step_append_lie {α : Type} [Cel α] {w : World} {base : Nat} {P : Program} {ops : Array Oper} {o : Oper} {a : Act} {K : Act → World → Prop} {Q : Exit → Act → World → Prop} {E' : Prop} (hgd : o.guard = none) (s x : Operand) (t : TypeId)
    (ho : o.op = .call { callee := .builtin .append, args := #[s, x], argTypes := #[t, t] }) (E bytes : Nat) (z : Value) (ht : P.underlying t = some (.slice E))
    (hE : (P.info? E).map (fun i => (i.zero, i.size, i.bytes)) = some (some z, Cel.k α, bytes)) (hzs : z.cells.size = Cel.k α)
    (v : Value) (l : List α) (hs : a.eval s = v) (hown : Own base E w v l) (y : α) (nb : Nat) (hx : a.eval x = .slice (some ⟨nb, 0, none⟩) 1 1)
    (hbox : Box w nb E (Cel.cells y).toArray) (hlen : (l.length + 1) * bytes ≤ 140737488355328) (hmax : l.length + 1 ≤ 1000000000000) (hbase : base ≤ w.heap.size)
    (h : ∀ g cap w', Own base E w' (.slice (some ⟨g, 0, none⟩) (l.length + 1) cap) (l ++ [y]) → w.grownBy w' v.ownBlock → (v.ownBlock = some g ∨ g = w.heap.size) → K (a.put o.dst (.slice (some ⟨g, 0, none⟩) (l.length + 1) cap)) w') :
    if Region.wanted o (yielded ops a.tmps) = true then Oper.wp P o a w K Q else E' := by
  obtain ⟨i0, hi, hz0, hz1, hz2⟩ := info_parts hE
  refine step_append_lies w hgd s x t ho base E i0 z (Cel.k α) bytes ht hi hz0 hz1 hz2 hzs Cel.pos v l.length (l.flatMap Cel.cells) hs hown ⟨nb, 0, none⟩ 1 1 (Cel.cells y) hx (by rw [Cel.len]; omega) ?_ (Cel.one y) (by omega) (by unfold maxLen; omega) hlen hbase w.heap.size rfl ?_
  · intro j u hu
    have hb := hbox.cell j
    rw [show (Addr.add ⟨nb, 0, none⟩ j : Addr) = ⟨nb, j, none⟩ from by unfold Addr.add; split <;> simp_all]
    rw [hb]
    simpa using hu
  · intro g cap w' h1 h2 h3 _
    refine h g cap w' ?_ h2 h3
    unfold Own
    rw [List.length_append, List.flatMap_append]
    simpa using h1

/-- The marks with a key. -/
def sel (f : Mark → ByteArray) (p : ByteArray) (l : List Mark) : List Mark := l.filter (fun x => decide (f x = p))
/-- The value of a key in a list of entries; nil if there is none. -/
def valOf (es : List (ByteArray × Value)) (p : ByteArray) : Value := (mget es p).getD (.slice none 0 0)
/-- The blocks of the values. -/
def blk (es : List (ByteArray × Value)) (j : Nat) : Prop := ∃ p, (valOf es p).ownBlock = some j
theorem mput_keys (es : List (ByteArray × Value)) (k : ByteArray) (v : Value) (p : ByteArray) : p ∈ (mput es k v).map (·.1) ↔ p = k ∨ p ∈ es.map (·.1) := by
  induction es with
  | nil => simp [mput]
  | cons x r ih =>
    unfold mput
    by_cases h : x.1 = k
    · subst h
      simp
    · rw [if_neg h, List.map_cons, List.mem_cons, ih, List.map_cons, List.mem_cons]
      constructor
      · rintro (h | h | h) <;> simp [h]
      · rintro (h | h | h) <;> simp [h]
theorem mput_nodup (es : List (ByteArray × Value)) (k : ByteArray) (v : Value) (h : (es.map (·.1)).Nodup) : ((mput es k v).map (·.1)).Nodup := by
  induction es with
  | nil => simp [mput]
  | cons x r ih =>
    rw [List.map_cons, List.nodup_cons] at h
    unfold mput
    by_cases hx : x.1 = k
    · subst hx
      simpa using h
    · rw [if_neg hx, List.map_cons, List.nodup_cons]
      refine ⟨?_, ih h.2⟩
      rw [mput_keys]
      rintro (h1 | h1)
      · exact hx h1
      · exact h.1 h1
theorem valOf_put (es : List (ByteArray × Value)) (k : ByteArray) (v : Value) (p : ByteArray) : valOf (mput es k v) p = if k = p then v else valOf es p := by
  unfold valOf; rw [mget_mput]; split <;> simp

theorem sel_snoc (f : Mark → ByteArray) (p : ByteArray) (ms : List Mark) (x : Mark) : sel f p (ms ++ [x]) = if f x = p then sel f p ms ++ [x] else sel f p ms := by
  unfold sel
  rw [List.filter_append, List.filter_cons]
  by_cases h : f x = p <;> simp [h]
theorem sel_nil {f : Mark → ByteArray} {p : ByteArray} {l : List Mark} : sel f p l = [] ↔ ¬ ∃ x ∈ l, f x = p := by
  unfold sel
  rw [List.filter_eq_nil_iff]
  constructor
  · rintro h ⟨x, hx, e⟩
    exact h x hx (by simp [e])
  · intro h x hx e
    exact h ⟨x, hx, by simpa using e⟩
theorem sel_len (f : Mark → ByteArray) (p : ByteArray) (ms : List Mark) : (sel f p ms).length ≤ ms.length := List.length_filter_le _ _
theorem mget_of_mem {es : List (ByteArray × Value)} (hn : (es.map (·.1)).Nodup) {k : ByteArray} {v : Value} (h : (k, v) ∈ es) : mget es k = some v := by
  induction es with
  | nil => cases h
  | cons x r ih =>
    rw [List.map_cons, List.nodup_cons] at hn
    unfold mget
    rcases List.mem_cons.1 h with h | h
    · subst h; simp
    · have : x.1 ≠ k := fun e => hn.1 (by rw [e]; exact List.mem_map_of_mem (f := (·.1)) h)
      rw [if_neg this]
      exact ih hn.2 h
theorem valOf_mem {es : List (ByteArray × Value)} (hn : (es.map (·.1)).Nodup) {k : ByteArray} {v : Value} (h : (k, v) ∈ es) : valOf es k = v := by
  unfold valOf; rw [mget_of_mem hn h]; rfl
end Go.Proofs.YtpgofjjcmldhpaaGreatDoor

/-! sheetOf: marks by papers and by persons. -/
namespace Go.Proofs.YtpgofjjcmldhpaaGreatDoor
open Go.RowKit
set_option linter.unusedVariables false
set_option linter.unusedSimpArgs false

end Go.Proofs.YtpgofjjcmldhpaaGreatDoor
