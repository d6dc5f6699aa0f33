/- Events that are the same: SameEvent; slices.Concat of events; UnitedOf of the reference. -/
import Derived.Test.YtnocceilpnmbpaaGreatDoorEv7
import Derived.Test.YtnocceilpnmbpaaGreatDoorEvSort
import Derived.Lib.AppendZerosOnto
namespace Go.Proofs.YtnocceilpnmbpaaGreatDoor
open Go.RowKit
set_option linter.unusedVariables false
set_option linter.unusedSimpArgs false

/-- Two events say the same. -/
def sameE (x y : Ev) : Bool := decide (x.sum = y.sum ∧ x.desk = y.desk ∧ x.at_ = y.at_ ∧ x.after = y.after ∧ x.kind = y.kind ∧ x.who = y.who ∧ x.paper = y.paper ∧ x.wth = y.wth ∧ x.txt = y.txt)
set_option maxRecDepth 100000 in
set_option maxHeartbeats 4000000 in
theorem sameEvent_any (x y : Ev) (w : World) (hx : ERd w x) (hy : ERd w y) (hxl : x.after.length ≤ 1000000) (hyl : y.after.length ≤ 1000000) : Calls Tryz.prog 67 #[x.agg, y.agg] w (Gives (.bool (sameE x y)) w) := by
 obtain ⟨x1, x2, x3, x4, x5, x6, x7, x8, x9, xa, xc⟩ := x
 obtain ⟨y1, y2, y3, y4, y5, y6, y7, y8, y9, ya, yc⟩ := y
 obtain ⟨hxa, -⟩ := hx
 obtain ⟨hya, -⟩ := hy
 simp only at hxa hya hxl hyl
 have HS : Hid (sameE ⟨x1, x2, x3, x4, x5, x6, x7, x8, x9, xa, xc⟩ ⟨y1, y2, y3, y4, y5, y6, y7, y8, y9, ya, yc⟩ = decide (x1 = y1 ∧ x2 = y2 ∧ x3 = y3 ∧ x4 = y4 ∧ x5 = y5 ∧ x6 = y6 ∧ x7 = y7 ∧ x8 = y8 ∧ x9 = y9)) := rfl
 generalize sameE ⟨x1, x2, x3, x4, x5, x6, x7, x8, x9, xa, xc⟩ ⟨y1, y2, y3, y4, y5, y6, y7, y8, y9, ya, yc⟩ = sm at *
 have hX := (Box.new w 53 #[.string x1, .string x2, .int .i64 x3, .slice xa x4.length xc, .int .i64 x5, .string x6, .string x7, .string x8, .string x9]).alloc (.cells #[.string y1, .string y2, .int .i64 y3, .slice ya y4.length yc, .int .i64 y5, .string y6, .string y7, .string y8, .string y9] 53)
 have hY := Box.newAt (w.alloc (.cells #[.string x1, .string x2, .int .i64 x3, .slice xa x4.length xc, .int .i64 x5, .string x6, .string x7, .string x8, .string x9] 53)) (w.heap.size + 1) 53 #[.string y1, .string y2, .int .i64 y3, .slice ya y4.length yc, .int .i64 y5, .string y6, .string y7, .string y8, .string y9] (by simp)
 have Hb := Lib.hid (show Below w.heap.size w ((w.alloc (.cells #[.string x1, .string x2, .int .i64 x3, .slice xa x4.length xc, .int .i64 x5, .string x6, .string x7, .string x8, .string x9] 53)).alloc (.cells #[.string y1, .string y2, .int .i64 y3, .slice ya y4.length yc, .int .i64 y5, .string y6, .string y7, .string y8, .string y9] 53)) from ((Below.refl _ _).alloc (Nat.le_refl _) _).alloc (by simp) _)
 unfold Ev.agg
 simp only
 go_enter Tryz.func67, Tryz.ntmps67
 go_upto_region 1 with (fail)
 generalize (w.alloc (.cells #[.string x1, .string x2, .int .i64 x3, .slice xa x4.length xc, .int .i64 x5, .string x6, .string x7, .string x8, .string x9] 53)).alloc (.cells #[.string y1, .string y2, .int .i64 y3, .slice ya y4.length yc, .int .i64 y5, .string y6, .string y7, .string y8, .string y9] 53) = W at *
 have HEq := Lib.hid (equal_any x4 y4 xa ya xc yc W (hxa.below Hb.out) (hya.below Hb.out) (by omega) (by omega))
 have HX := Lib.hid hX
 have HY := Lib.hid hY
 have hX_l := hX.lt; have hX_0 := hX.cell 0; have hX_1 := hX.cell 1; have hX_2 := hX.cell 2; have hX_3 := hX.cell 3; have hX_4 := hX.cell 4; have hX_5 := hX.cell 5; have hX_6 := hX.cell 6; have hX_7 := hX.cell 7; have hX_8 := hX.cell 8; simp at hX_0 hX_1 hX_2 hX_3 hX_4 hX_5 hX_6 hX_7 hX_8
 have hY_l := hY.lt; have hY_0 := hY.cell 0; have hY_1 := hY.cell 1; have hY_2 := hY.cell 2; have hY_3 := hY.cell 3; have hY_4 := hY.cell 4; have hY_5 := hY.cell 5; have hY_6 := hY.cell 6; have hY_7 := hY.cell 7; have hY_8 := hY.cell 8; simp at hY_0 hY_1 hY_2 hY_3 hY_4 hY_5 hY_6 hY_7 hY_8
 by_cases h : x1 = y1
 rotate_left 1
 ·
  have Hv := Lib.hid (show sm = false by rw [HS.out]; exact decide_eq_false (by rintro ⟨g1, g2, g3, g4, g5, g6, g7, g8, g9⟩; first | exact h g1 | exact h g2 | exact h g3 | exact h g4 | exact h g5 | exact h g6 | exact h g7 | exact h g8 | exact h g9))
  have q1 := tl_ne h
  clear h
  go_wp2_with fail
  go_ret
  exact ⟨by rw [Hv.out] <;> rfl, Hb.out⟩
 subst h
 by_cases h : x2 = y2
 rotate_left 1
 ·
  have Hv := Lib.hid (show sm = false by rw [HS.out]; exact decide_eq_false (by rintro ⟨g1, g2, g3, g4, g5, g6, g7, g8, g9⟩; first | exact h g1 | exact h g2 | exact h g3 | exact h g4 | exact h g5 | exact h g6 | exact h g7 | exact h g8 | exact h g9))
  have q1 := tl_ne h
  clear h
  go_wp2_with fail
  go_ret
  exact ⟨by rw [Hv.out] <;> rfl, Hb.out⟩
 subst h
 by_cases h : x3 = y3
 rotate_left 1
 ·
  have Hv := Lib.hid (show sm = false by rw [HS.out]; exact decide_eq_false (by rintro ⟨g1, g2, g3, g4, g5, g6, g7, g8, g9⟩; first | exact h g3 | exact h g5))
  have q1 := beq_eq_false_iff_ne.2 h
  clear h
  go_wp2_with fail
  go_ret
  exact ⟨by rw [Hv.out] <;> rfl, Hb.out⟩
 subst h
 go_wp2_with fail
 refine HEq.out.mono ?_
 rintro e w2 ⟨rfl, n, hw2⟩
 have Hb2 : Hid (Below w.heap.size w w2) := by show Below _ _ _; rw [hw2]; exact below_drewN Hb.out n
 have hX2 := HX.out.drewN n
 rw [← hw2] at hX2
 have hY2 := HY.out.drewN n
 rw [← hw2] at hY2
 clear hX_l hX_0 hX_1 hX_2 hX_3 hX_4 hX_5 hX_6 hX_7 hX_8
 clear hY_l hY_0 hY_1 hY_2 hY_3 hY_4 hY_5 hY_6 hY_7 hY_8
 clear hX hY HX HY Hb hw2
 have Hb := Hb2
 clear Hb2
 have hX2_l := hX2.lt; have hX2_0 := hX2.cell 0; have hX2_1 := hX2.cell 1; have hX2_2 := hX2.cell 2; have hX2_3 := hX2.cell 3; have hX2_4 := hX2.cell 4; have hX2_5 := hX2.cell 5; have hX2_6 := hX2.cell 6; have hX2_7 := hX2.cell 7; have hX2_8 := hX2.cell 8; simp at hX2_0 hX2_1 hX2_2 hX2_3 hX2_4 hX2_5 hX2_6 hX2_7 hX2_8
 have hY2_l := hY2.lt; have hY2_0 := hY2.cell 0; have hY2_1 := hY2.cell 1; have hY2_2 := hY2.cell 2; have hY2_3 := hY2.cell 3; have hY2_4 := hY2.cell 4; have hY2_5 := hY2.cell 5; have hY2_6 := hY2.cell 6; have hY2_7 := hY2.cell 7; have hY2_8 := hY2.cell 8; simp at hY2_0 hY2_1 hY2_2 hY2_3 hY2_4 hY2_5 hY2_6 hY2_7 hY2_8
 by_cases h : x4 = y4
 rotate_left 1
 ·
  have Hv := Lib.hid (show sm = false by rw [HS.out]; exact decide_eq_false (by rintro ⟨g1, g2, g3, g4, g5, g6, g7, g8, g9⟩; exact h g4))
  rw [decide_eq_false h]
  clear h
  go_wp2_with fail
  go_ret
  exact ⟨by rw [Hv.out] <;> rfl, Hb.out⟩
 rw [decide_eq_true h]
 subst h
 by_cases h : x5 = y5
 rotate_left 1
 ·
  have Hv := Lib.hid (show sm = false by rw [HS.out]; exact decide_eq_false (by rintro ⟨g1, g2, g3, g4, g5, g6, g7, g8, g9⟩; first | exact h g3 | exact h g5))
  have q1 := beq_eq_false_iff_ne.2 h
  clear h
  go_wp2_with fail
  go_ret
  exact ⟨by rw [Hv.out] <;> rfl, Hb.out⟩
 subst h
 by_cases h : x6 = y6
 rotate_left 1
 ·
  have Hv := Lib.hid (show sm = false by rw [HS.out]; exact decide_eq_false (by rintro ⟨g1, g2, g3, g4, g5, g6, g7, g8, g9⟩; first | exact h g1 | exact h g2 | exact h g3 | exact h g4 | exact h g5 | exact h g6 | exact h g7 | exact h g8 | exact h g9))
  have q1 := tl_ne h
  clear h
  go_wp2_with fail
  go_ret
  exact ⟨by rw [Hv.out] <;> rfl, Hb.out⟩
 subst h
 by_cases h : x7 = y7
 rotate_left 1
 ·
  have Hv := Lib.hid (show sm = false by rw [HS.out]; exact decide_eq_false (by rintro ⟨g1, g2, g3, g4, g5, g6, g7, g8, g9⟩; first | exact h g1 | exact h g2 | exact h g3 | exact h g4 | exact h g5 | exact h g6 | exact h g7 | exact h g8 | exact h g9))
  have q1 := tl_ne h
  clear h
  go_wp2_with fail
  go_ret
  exact ⟨by rw [Hv.out] <;> rfl, Hb.out⟩
 subst h
 by_cases h : x8 = y8
 rotate_left 1
 ·
  have Hv := Lib.hid (show sm = false by rw [HS.out]; exact decide_eq_false (by rintro ⟨g1, g2, g3, g4, g5, g6, g7, g8, g9⟩; first | exact h g1 | exact h g2 | exact h g3 | exact h g4 | exact h g5 | exact h g6 | exact h g7 | exact h g8 | exact h g9))
  have q1 := tl_ne h
  clear h
  go_wp2_with fail
  go_ret
  exact ⟨by rw [Hv.out] <;> rfl, Hb.out⟩
 subst h
 by_cases h : x9 = y9
 rotate_left 1
 ·
  have Hv := Lib.hid (show sm = false by rw [HS.out]; exact decide_eq_false (by rintro ⟨g1, g2, g3, g4, g5, g6, g7, g8, g9⟩; first | exact h g1 | exact h g2 | exact h g3 | exact h g4 | exact h g5 | exact h g6 | exact h g7 | exact h g8 | exact h g9))
  have q1 := tl_ne h
  clear h
  go_wp2_with fail
  go_ret
  exact ⟨by rw [Hv.out] <;> rfl, Hb.out⟩
 subst h
 have Hv := Lib.hid (show sm = true by rw [HS.out]; simp)
 go_wp2_with fail
 go_ret
 exact ⟨by rw [Hv.out] <;> rfl, Hb.out⟩
set_option maxRecDepth 100000 in
set_option maxHeartbeats 4000000 in
theorem same_any (x y : Ev) (w : World) (hx : ERd w x) (hy : ERd w y) (hxl : x.after.length ≤ 1000000) (hyl : y.after.length ≤ 1000000) : Calls Tryz.prog 74 #[x.agg, y.agg] w (Gives (.bool (sameE x y)) w) := by
 obtain ⟨x1, x2, x3, x4, x5, x6, x7, x8, x9, xa, xc⟩ := x
 obtain ⟨y1, y2, y3, y4, y5, y6, y7, y8, y9, ya, yc⟩ := y
 obtain ⟨hxa, -⟩ := hx
 obtain ⟨hya, -⟩ := hy
 simp only at hxa hya hxl hyl
 have HS : Hid (sameE ⟨x1, x2, x3, x4, x5, x6, x7, x8, x9, xa, xc⟩ ⟨y1, y2, y3, y4, y5, y6, y7, y8, y9, ya, yc⟩ = decide (x1 = y1 ∧ x2 = y2 ∧ x3 = y3 ∧ x4 = y4 ∧ x5 = y5 ∧ x6 = y6 ∧ x7 = y7 ∧ x8 = y8 ∧ x9 = y9)) := rfl
 generalize sameE ⟨x1, x2, x3, x4, x5, x6, x7, x8, x9, xa, xc⟩ ⟨y1, y2, y3, y4, y5, y6, y7, y8, y9, ya, yc⟩ = sm at *
 have hX := (Box.new w 53 #[.string x1, .string x2, .int .i64 x3, .slice xa x4.length xc, .int .i64 x5, .string x6, .string x7, .string x8, .string x9]).alloc (.cells #[.string y1, .string y2, .int .i64 y3, .slice ya y4.length yc, .int .i64 y5, .string y6, .string y7, .string y8, .string y9] 53)
 have hY := Box.newAt (w.alloc (.cells #[.string x1, .string x2, .int .i64 x3, .slice xa x4.length xc, .int .i64 x5, .string x6, .string x7, .string x8, .string x9] 53)) (w.heap.size + 1) 53 #[.string y1, .string y2, .int .i64 y3, .slice ya y4.length yc, .int .i64 y5, .string y6, .string y7, .string y8, .string y9] (by simp)
 have Hb := Lib.hid (show Below w.heap.size w ((w.alloc (.cells #[.string x1, .string x2, .int .i64 x3, .slice xa x4.length xc, .int .i64 x5, .string x6, .string x7, .string x8, .string x9] 53)).alloc (.cells #[.string y1, .string y2, .int .i64 y3, .slice ya y4.length yc, .int .i64 y5, .string y6, .string y7, .string y8, .string y9] 53)) from ((Below.refl _ _).alloc (Nat.le_refl _) _).alloc (by simp) _)
 unfold Ev.agg
 simp only
 go_enter Tryz.func74, Tryz.ntmps74
 go_upto_region 1 with (fail)
 generalize (w.alloc (.cells #[.string x1, .string x2, .int .i64 x3, .slice xa x4.length xc, .int .i64 x5, .string x6, .string x7, .string x8, .string x9] 53)).alloc (.cells #[.string y1, .string y2, .int .i64 y3, .slice ya y4.length yc, .int .i64 y5, .string y6, .string y7, .string y8, .string y9] 53) = W at *
 have HEq := Lib.hid (equal_any x4 y4 xa ya xc yc W (hxa.below Hb.out) (hya.below Hb.out) (by omega) (by omega))
 have HX := Lib.hid hX
 have HY := Lib.hid hY
 have hX_l := hX.lt; have hX_0 := hX.cell 0; have hX_1 := hX.cell 1; have hX_2 := hX.cell 2; have hX_3 := hX.cell 3; have hX_4 := hX.cell 4; have hX_5 := hX.cell 5; have hX_6 := hX.cell 6; have hX_7 := hX.cell 7; have hX_8 := hX.cell 8; simp at hX_0 hX_1 hX_2 hX_3 hX_4 hX_5 hX_6 hX_7 hX_8
 have hY_l := hY.lt; have hY_0 := hY.cell 0; have hY_1 := hY.cell 1; have hY_2 := hY.cell 2; have hY_3 := hY.cell 3; have hY_4 := hY.cell 4; have hY_5 := hY.cell 5; have hY_6 := hY.cell 6; have hY_7 := hY.cell 7; have hY_8 := hY.cell 8; simp at hY_0 hY_1 hY_2 hY_3 hY_4 hY_5 hY_6 hY_7 hY_8
 by_cases h : x1 = y1
 rotate_left 1
 ·
  have Hv := Lib.hid (show sm = false by rw [HS.out]; exact decide_eq_false (by rintro ⟨g1, g2, g3, g4, g5, g6, g7, g8, g9⟩; first | exact h g1 | exact h g2 | exact h g3 | exact h g4 | exact h g5 | exact h g6 | exact h g7 | exact h g8 | exact h g9))
  have q1 := tl_ne h
  clear h
  go_wp2_with fail
  go_ret
  exact ⟨by rw [Hv.out] <;> rfl, Hb.out⟩
 subst h
 by_cases h : x2 = y2
 rotate_left 1
 ·
  have Hv := Lib.hid (show sm = false by rw [HS.out]; exact decide_eq_false (by rintro ⟨g1, g2, g3, g4, g5, g6, g7, g8, g9⟩; first | exact h g1 | exact h g2 | exact h g3 | exact h g4 | exact h g5 | exact h g6 | exact h g7 | exact h g8 | exact h g9))
  have q1 := tl_ne h
  clear h
  go_wp2_with fail
  go_ret
  exact ⟨by rw [Hv.out] <;> rfl, Hb.out⟩
 subst h
 by_cases h : x3 = y3
 rotate_left 1
 ·
  have Hv := Lib.hid (show sm = false by rw [HS.out]; exact decide_eq_false (by rintro ⟨g1, g2, g3, g4, g5, g6, g7, g8, g9⟩; first | exact h g3 | exact h g5))
  have q1 := beq_eq_false_iff_ne.2 h
  clear h
  go_wp2_with fail
  go_ret
  exact ⟨by rw [Hv.out] <;> rfl, Hb.out⟩
 subst h
 go_wp2_with fail
 refine HEq.out.mono ?_
 rintro e w2 ⟨rfl, n, hw2⟩
 have Hb2 : Hid (Below w.heap.size w w2) := by show Below _ _ _; rw [hw2]; exact below_drewN Hb.out n
 have hX2 := HX.out.drewN n
 rw [← hw2] at hX2
 have hY2 := HY.out.drewN n
 rw [← hw2] at hY2
 clear hX_l hX_0 hX_1 hX_2 hX_3 hX_4 hX_5 hX_6 hX_7 hX_8
 clear hY_l hY_0 hY_1 hY_2 hY_3 hY_4 hY_5 hY_6 hY_7 hY_8
 clear hX hY HX HY Hb hw2
 have Hb := Hb2
 clear Hb2
 have hX2_l := hX2.lt; have hX2_0 := hX2.cell 0; have hX2_1 := hX2.cell 1; have hX2_2 := hX2.cell 2; have hX2_3 := hX2.cell 3; have hX2_4 := hX2.cell 4; have hX2_5 := hX2.cell 5; have hX2_6 := hX2.cell 6; have hX2_7 := hX2.cell 7; have hX2_8 := hX2.cell 8; simp at hX2_0 hX2_1 hX2_2 hX2_3 hX2_4 hX2_5 hX2_6 hX2_7 hX2_8
 have hY2_l := hY2.lt; have hY2_0 := hY2.cell 0; have hY2_1 := hY2.cell 1; have hY2_2 := hY2.cell 2; have hY2_3 := hY2.cell 3; have hY2_4 := hY2.cell 4; have hY2_5 := hY2.cell 5; have hY2_6 := hY2.cell 6; have hY2_7 := hY2.cell 7; have hY2_8 := hY2.cell 8; simp at hY2_0 hY2_1 hY2_2 hY2_3 hY2_4 hY2_5 hY2_6 hY2_7 hY2_8
 by_cases h : x4 = y4
 rotate_left 1
 ·
  have Hv := Lib.hid (show sm = false by rw [HS.out]; exact decide_eq_false (by rintro ⟨g1, g2, g3, g4, g5, g6, g7, g8, g9⟩; exact h g4))
  rw [decide_eq_false h]
  clear h
  go_wp2_with fail
  go_ret
  exact ⟨by rw [Hv.out] <;> rfl, Hb.out⟩
 rw [decide_eq_true h]
 subst h
 by_cases h : x5 = y5
 rotate_left 1
 ·
  have Hv := Lib.hid (show sm = false by rw [HS.out]; exact decide_eq_false (by rintro ⟨g1, g2, g3, g4, g5, g6, g7, g8, g9⟩; first | exact h g3 | exact h g5))
  have q1 := beq_eq_false_iff_ne.2 h
  clear h
  go_wp2_with fail
  go_ret
  exact ⟨by rw [Hv.out] <;> rfl, Hb.out⟩
 subst h
 by_cases h : x6 = y6
 rotate_left 1
 ·
  have Hv := Lib.hid (show sm = false by rw [HS.out]; exact decide_eq_false (by rintro ⟨g1, g2, g3, g4, g5, g6, g7, g8, g9⟩; first | exact h g1 | exact h g2 | exact h g3 | exact h g4 | exact h g5 | exact h g6 | exact h g7 | exact h g8 | exact h g9))
  have q1 := tl_ne h
  clear h
  go_wp2_with fail
  go_ret
  exact ⟨by rw [Hv.out] <;> rfl, Hb.out⟩
 subst h
 by_cases h : x7 = y7
 rotate_left 1
 ·
  have Hv := Lib.hid (show sm = false by rw [HS.out]; exact decide_eq_false (by rintro ⟨g1, g2, g3, g4, g5, g6, g7, g8, g9⟩; first | exact h g1 | exact h g2 | exact h g3 | exact h g4 | exact h g5 | exact h g6 | exact h g7 | exact h g8 | exact h g9))
  have q1 := tl_ne h
  clear h
  go_wp2_with fail
  go_ret
  exact ⟨by rw [Hv.out] <;> rfl, Hb.out⟩
 subst h
 by_cases h : x8 = y8
 rotate_left 1
 ·
  have Hv := Lib.hid (show sm = false by rw [HS.out]; exact decide_eq_false (by rintro ⟨g1, g2, g3, g4, g5, g6, g7, g8, g9⟩; first | exact h g1 | exact h g2 | exact h g3 | exact h g4 | exact h g5 | exact h g6 | exact h g7 | exact h g8 | exact h g9))
  have q1 := tl_ne h
  clear h
  go_wp2_with fail
  go_ret
  exact ⟨by rw [Hv.out] <;> rfl, Hb.out⟩
 subst h
 by_cases h : x9 = y9
 rotate_left 1
 ·
  have Hv := Lib.hid (show sm = false by rw [HS.out]; exact decide_eq_false (by rintro ⟨g1, g2, g3, g4, g5, g6, g7, g8, g9⟩; first | exact h g1 | exact h g2 | exact h g3 | exact h g4 | exact h g5 | exact h g6 | exact h g7 | exact h g8 | exact h g9))
  have q1 := tl_ne h
  clear h
  go_wp2_with fail
  go_ret
  exact ⟨by rw [Hv.out] <;> rfl, Hb.out⟩
 subst h
 have Hv := Lib.hid (show sm = true by rw [HS.out]; simp)
 go_wp2_with fail
 go_ret
 exact ⟨by rw [Hv.out] <;> rfl, Hb.out⟩
set_option maxRecDepth 100000 in
set_option maxHeartbeats 4000000 in
theorem growEv_any (n : Nat) (w : World) (hn : n ≤ 100000) : Calls Tryz.prog 118 #[.slice none 0 0, .int .i64 (n : Int)] w (GivesOwn 53 ([] : List Ev) w) := by
 by_cases h0 : n = 0
 ·
  subst h0
  go_enter Tryz.func118, Tryz.ntmps118
  go_wp2_with fail
  go_ret
  exact ⟨_, rfl, Own.nil _ _ _, Below.refl _ _⟩
 ·
  obtain ⟨i0, hi, hz0, hz1, hz2⟩ := info_parts infoEv
  have hcap0 : grownCap w (0 + n) 0 53 ≤ maxLen := grownCap_le_maxLen w (0 + n) 0 53 (by unfold maxLen; omega)
  have hGn : 0 + n ≤ grownCap w (0 + n) 0 53 := grownCap_ge w _ _ _
  have hrz : ∀ ty, (Builtin.append_ #[26, 3] ty #[.slice none 0 0, .int .i64 (n : Int)]).run Tryz.prog w =
    .ok (.slice (some ⟨w.heap.size, 0, none⟩) (0 + n) (grownCap w (0 + n) 0 53)) (w.drew.alloc (.cells ((#[] : Array Value) ++ Builtin.zeroCells (Value.agg #[.string ⟨#[]⟩, .string ⟨#[]⟩, .int .i64 0, .slice none 0 0, .int .i64 0, .string ⟨#[]⟩, .string ⟨#[]⟩, .string ⟨#[]⟩, .string ⟨#[]⟩]).cells n ++ Builtin.zeroCells (Value.agg #[.string ⟨#[]⟩, .string ⟨#[]⟩, .int .i64 0, .slice none 0 0, .int .i64 0, .string ⟨#[]⟩, .string ⟨#[]⟩, .string ⟨#[]⟩, .string ⟨#[]⟩]).cells (grownCap w (0 + n) 0 53 - (0 + n))) 53)) := fun ty => by
   have h := Lib.run_append_grow_zeros w 26 3 ty 53 i0 (.agg #[.string ⟨#[]⟩, .string ⟨#[]⟩, .int .i64 0, .slice none 0 0, .int .i64 0, .string ⟨#[]⟩, .string ⟨#[]⟩, .string ⟨#[]⟩, .string ⟨#[]⟩]) .i64 .i64 Tryz.underlying26 Tryz.underlying3 hi hz0 none 0 0 [] (run_firstCells_none w.drew i0.size 0 0 0) n (by omega) (by rw [hz1]; decide) (by omega) (by omega)
    (by rw [hz2]; omega)
    (growslice_fits (by omega) (by rw [hz2]; omega))
   exact h
  obtain ⟨G, hG⟩ : ∃ G, grownCap w (0 + n) 0 53 = G := ⟨_, rfl⟩
  rw [hG] at hrz hGn hcap0
  rw [Nat.zero_add] at hrz hGn
  have h1 : ¬ ((n : Int) < 0) := by omega
  have h2 : IntKind.i64.wrap (n : Int) = (n : Int) := IntWalk.i64_in _ (by omega)
  have h3 : (0 : Int) < (n : Int) := by omega
  clear hG hi hz0 hz1 hz2 h0
  go_enter Tryz.func118, Tryz.ntmps118
  go_wp2_with (at_builtin; refine Lib.wpList_append_run _ rfl _ _ _ _ rfl _ _ rfl rfl _ _ (hrz _) ?_)
  all_goals
   go_ret
   refine ⟨_, rfl, ⟨by simp, .inr ⟨w.heap.size, G, _, rfl, Nat.le_refl _, Box.new _ _ _, Nat.zero_le _, hcap0, ?_, by simp⟩⟩, (Below.refl _ _).drew.alloc (by simp) _⟩
   simp [Builtin.zeroCells, Value.cells]
   have hk : Cel.k Ev = 9 := rfl
   rw [hk]
   omega
set_option maxRecDepth 100000 in
set_option maxHeartbeats 8000000 in
theorem concatEv_any (a b : List Ev) (aa ba : Option Addr) (ac bc x : Nat) (w : World) (hbox : Box w x 26 #[.slice aa a.length ac, .slice ba b.length bc]) (ha : SA w aa a) (hb : SA w ba b) (hal : a.length ≤ 10000) (hbl : b.length ≤ 10000) :
  Calls Tryz.prog 81 #[.slice (some ⟨x, 0, none⟩) 2 2] w (GivesOwn 53 (a ++ b) w) := by
 obtain ⟨n, hn⟩ : ∃ n, a.length + b.length = n := ⟨_, rfl⟩
 have hw0 : IntKind.i64.wrap (0 + (a.length : Int)) = (a.length : Int) := by rw [IntWalk.i64_in _ (by omega)]; omega
 have hw0' : IntKind.i64.wrap (a.length : Int) = (a.length : Int) := IntWalk.i64_in _ (by omega)
 have hw1 : IntKind.i64.wrap ((a.length : Int) + (b.length : Int)) = (n : Int) := by rw [IntWalk.i64_in _ (by omega)]; omega
 have hneg0 : decide ((a.length : Int) < 0) = false := decide_eq_false (by omega)
 have hneg1 : decide ((n : Int) < 0) = false := decide_eq_false (by omega)
 have HG := Lib.hid (growEv_any n w (by omega))
 have HB := Lib.hid hbox
 have hbox_l := hbox.lt; have hbox_0 := hbox.cell 0; have hbox_1 := hbox.cell 1; simp at hbox_0 hbox_1
 go_enter Tryz.func81, Tryz.ntmps81
 go_wp2_with fail
 refine wp_loop_rounds 3 ?_
 rw [rounds_succ]
 go_wp2_with fail
 rw [rounds_succ]
 go_wp2_with fail
 rw [rounds_succ]
 go_wp2_with fail
 refine HG.out.mono ?_
 rintro e w1 ⟨v1, rfl, hown1, hb1⟩
 have hB1 := HB.out.below hb1
 have Hl1 := Lib.hid hown1.lt
 have hB1_l := hB1.lt; have hB1_0 := hB1.cell 0; have hB1_1 := hB1.cell 1; simp at hB1_0 hB1_1
 go_wp2_with fail
 refine wp_loop_rounds 3 ?_
 rw [rounds_succ]
 go_wp2_with (at_builtin; refine wpList_append_all (α := Ev) rfl _ _ 26 rfl 53 136 (.agg #[.string ⟨#[]⟩, .string ⟨#[]⟩, .int .i64 0, .slice none 0 0, .int .i64 0, .string ⟨#[]⟩, .string ⟨#[]⟩, .string ⟨#[]⟩, .string ⟨#[]⟩]) Tryz.underlying26 infoEv rfl v1 [] rfl hown1 a aa ac rfl (ha.below hb1) (by simp; omega) (by simp; omega) hb1.size ?_; intro v2 w2 hown2 hg2; have hb2 := hb1.grown hg2 hb1.size (fun j hj => (Hl1.out j hj).1); have hB2 := HB.out.below hb2; have hB20 := hB2.cell 0; have hB21 := hB2.cell 1)
 rw [List.nil_append] at hown2
 have Hl2 := Lib.hid hown2.lt
 simp at hB20 hB21
 rw [rounds_succ]
 go_wp2_with (at_builtin; refine wpList_append_all (α := Ev) rfl _ _ 26 rfl 53 136 (.agg #[.string ⟨#[]⟩, .string ⟨#[]⟩, .int .i64 0, .slice none 0 0, .int .i64 0, .string ⟨#[]⟩, .string ⟨#[]⟩, .string ⟨#[]⟩, .string ⟨#[]⟩]) Tryz.underlying26 infoEv rfl v2 a rfl hown2 b ba bc rfl (hb.below hb2) (by omega) (by omega) hb2.size ?_; intro v3 w3 hown3 hg3; have hb3 := hb2.grown hg3 hb2.size (fun j hj => (Hl2.out j hj).1))
 rw [rounds_succ]
 go_wp2_with fail
 go_ret
 exact ⟨_, rfl, hown3, hb3⟩
end Go.Proofs.YtnocceilpnmbpaaGreatDoor
