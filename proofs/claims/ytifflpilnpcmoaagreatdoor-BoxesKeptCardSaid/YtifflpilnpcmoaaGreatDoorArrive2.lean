/- Arrivals: CheckArrival and ArrivalFault. -/
import Derived.Test.YtifflpilnpcmoaaGreatDoorArrive1
namespace Go.Proofs.YtifflpilnpcmoaaGreatDoor
open Go.RowKit
set_option linter.unusedVariables false
set_option linter.unusedSimpArgs false

def arrivalFault (p : ByteArray) (t k : Int) (r x : ByteArray) : Int :=
  if keyB p = false then 5
  else if momB t = false then 1
  else if kindB k = false then 4
  else if (decide (r.size ≠ 0) && !keyB r) then 5
  else if 20000 < x.size then 2
  else if textB x = false then 3
  else if decide (k = 3) && (decide (x.size ≠ 0) || decide (r.size ≠ 0)) then 3 else 0
theorem kindB_no {k : Int} (h : kindB k = false) : k < 1 ∨ 3 < k := by unfold kindB at h; simp at h; omega
theorem kindB_yes {k : Int} (h : kindB k = true) : 1 ≤ k ∧ k ≤ 3 := by unfold kindB at h; simp at h; omega
theorem str_empty {r : ByteArray} (h : r.size = 0) : r.toList = [] := List.isEmpty_iff.1 (by rw [isEmpty_size, decide_eq_true h])
theorem str_full {r : ByteArray} (h : r.size ≠ 0) : r.toList.isEmpty = false ∧ r.toList ≠ [] := by
  have he2 : r.toList.isEmpty = false := by rw [isEmpty_size, decide_eq_false h]
  exact ⟨he2, fun h => by rw [h] at he2; cases he2⟩

set_option maxRecDepth 100000 in
set_option maxHeartbeats 4000000 in
theorem checkArrival_any (p : ByteArray) (t k : Int) (r x : ByteArray) (w : World) (hE : Env w) (hp : p.size ≤ 1000000) (hr : r.size ≤ 1000000) (hx : x.size ≤ 1000000) :
    Calls Tryz.prog 63 #[arrAgg p t k r x] w (Gives (.int .i64 (arrivalFault p t k r x)) w) := by
  have HPF := Lib.hid (show arrivalFault p t k r x = (if keyB p = false then 5
  else if momB t = false then 1
  else if kindB k = false then 4
  else if (decide (r.size ≠ 0) && !keyB r) then 5
  else if 20000 < x.size then 2
  else if textB x = false then 3
  else if decide (k = 3) && (decide (x.size ≠ 0) || decide (r.size ≠ 0)) then 3 else 0) from rfl)
  generalize arrivalFault p t k r x = pf at *
  unfold arrAgg
  have HK := Lib.hid isKeyG
  have HT := Lib.hid (fun w h => isText_any x w h (by omega))
  have hbx := Box.new w 63 #[.string p, .int .i64 t, .int .i64 k, .string r, .string x]
  go_enter Tryz.func63, Tryz.ntmps63
  go_wp2_with fail
  refine (HK.out p _ (by omega)).mono ?_
  rintro e w1 ⟨rfl, hb1⟩
  have hz1 := hb1.size
  simp at hz1
  have hbx1 := hbx.below hb1
  have hb1' : Below w.heap.size w w1 := by (repeat' (first | exact Below.refl _ _ | assumption | refine Below.setCell ?_ ?_ _ | refine below_drewN ?_ _ | refine Below.drew ?_ | refine Below.alloc ?_ ?_ _ | (with_reducible refine Below.trans ?_ (Below.mono hb ?_)) | (with_reducible refine Below.trans ?_ (Below.mono hb0 ?_)) | (with_reducible refine Below.trans ?_ (Below.mono hb1 ?_)) | (with_reducible refine Below.trans ?_ (Below.mono hb2 ?_)) | (with_reducible refine Below.trans ?_ (Below.mono hb3 ?_)) | (with_reducible refine Below.trans ?_ (Below.mono hb4 ?_)) | (with_reducible refine Below.trans ?_ (Below.mono hb5 ?_)) | (with_reducible refine Below.trans ?_ (Below.mono hb6 ?_)) | (with_reducible refine Below.trans ?_ (Below.mono hb7 ?_)) | (with_reducible refine Below.trans ?_ (Below.mono hb8 ?_)) | (with_reducible refine Below.trans ?_ (Below.mono hb9 ?_)) | (with_reducible refine Below.trans ?_ (Below.mono hb10 ?_)) | (with_reducible refine Below.trans ?_ (Below.mono hb11 ?_)) | (with_reducible refine Below.trans ?_ (Below.mono hb12 ?_)) | (with_reducible refine Below.trans ?_ (Below.mono hb13 ?_)) | (with_reducible refine Below.trans ?_ (Below.mono hb14 ?_)) | (with_reducible refine Below.trans ?_ (Below.mono hb15 ?_)) | omega | (simp; done) | (simp; omega)))
  clear hbx hb1
  cases h1 : keyB p
  · have Hv := Lib.hid (show pf = 5 by rw [HPF.out, h1]; rfl)
    go_wp2_with fail
    go_ret
    exact ⟨by rw [Hv.out]; rfl, hb1'⟩
  rw [h1, if_neg (by decide)] at HPF
  have hbx1_l := hbx1.lt; have hbx1_0 := hbx1.cell 0; have hbx1_1 := hbx1.cell 1; have hbx1_2 := hbx1.cell 2; have hbx1_3 := hbx1.cell 3; have hbx1_4 := hbx1.cell 4; simp at hbx1_0 hbx1_1 hbx1_2 hbx1_3 hbx1_4
  go_wp2_with fail
  refine (isMoment_any t _).mono ?_
  rintro e w1 ⟨rfl, rfl⟩
  cases h2 : momB t
  · have Hv := Lib.hid (show pf = 1 by rw [HPF.out, h2]; rfl)
    go_wp2_with fail
    go_ret
    exact ⟨by rw [Hv.out]; rfl, hb1'⟩
  rw [h2, if_neg (by decide)] at HPF
  cases h3 : kindB k
  · have Hv := Lib.hid (show pf = 4 by rw [HPF.out, h3]; rfl)
    go_wp2_with fail; refine (isKind_any _ _).mono ?_; rintro e w2 ⟨rfl, rfl⟩; rw [h3]; go_wp2_with fail
    all_goals
      go_ret
      exact ⟨by rw [Hv.out]; rfl, hb1'⟩
  rw [h3, if_neg (by decide)] at HPF
  go_wp2_with fail; refine (isKind_any _ _).mono ?_; rintro e w2 ⟨rfl, rfl⟩; rw [h3]
  by_cases hr0 : r.size = 0
  · have hr1 := str_empty hr0
    rw [decide_eq_false (by simp [hr0]), Bool.false_and, if_neg (by decide)] at HPF
    by_cases h5 : 20000 < x.size
    · have Hv := Lib.hid (show pf = 2 by rw [HPF.out, if_pos h5])
      go_wp2_with fail
      go_ret
      exact ⟨by rw [Hv.out]; rfl, hb1'⟩
    rw [if_neg h5] at HPF
    go_wp2_with fail
    refine (HT.out _ (hE.below hb1')).mono ?_
    rintro e w3 ⟨rfl, hb3⟩
    have hz3 := hb3.size
    have hbx3 := (hbx1).below hb3
    have hb3' : Below w.heap.size w w3 := below_next hb1' hb3
    cases h6 : textB x
    · have Hv := Lib.hid (show pf = 3 by rw [HPF.out, h6]; rfl)
      go_wp2_with fail
      go_ret
      exact ⟨by rw [Hv.out]; rfl, hb3'⟩
    rw [h6, if_neg (by decide)] at HPF
    have hbx3_l := hbx3.lt; have hbx3_0 := hbx3.cell 0; have hbx3_1 := hbx3.cell 1; have hbx3_2 := hbx3.cell 2; have hbx3_3 := hbx3.cell 3; have hbx3_4 := hbx3.cell 4; simp at hbx3_0 hbx3_1 hbx3_2 hbx3_3 hbx3_4
    by_cases hk3 : k = 3
    · have hk4 : (k == 3) = true := by simp [hk3]
      rw [decide_eq_true hk3, Bool.true_and] at HPF
      by_cases hx0 : x.size = 0
      · have hx1 := str_empty hx0
        rw [decide_eq_false (by simp [hx0]), Bool.false_or] at HPF
        have Hv := Lib.hid (show pf = 0 by rw [HPF.out, if_neg (by simp)]); clear hk3; go_wp2_with fail; go_ret; exact ⟨by rw [Hv.out]; rfl, hb3'⟩
      · obtain ⟨hx1, hx2⟩ := str_full hx0
        have Hv := Lib.hid (show pf = 3 by rw [HPF.out, if_pos (by simp [hx0])])
        clear hk3
        go_wp2_with fail
        go_ret
        exact ⟨by rw [Hv.out]; rfl, hb3'⟩
    · have hk4 : (k == 3) = false := by simp [hk3]
      have Hv := Lib.hid (show pf = 0 by rw [HPF.out, decide_eq_false hk3]; rfl)
      clear hk3
      go_wp2_with fail
      go_ret
      exact ⟨by rw [Hv.out]; rfl, hb3'⟩
  · obtain ⟨hr1, hr2⟩ := str_full hr0
    rw [decide_eq_true hr0, Bool.true_and] at HPF
    go_wp2_with fail
    refine (HK.out r _ (by omega)).mono ?_
    rintro e w2 ⟨rfl, hb2⟩
    have hz2 := hb2.size
    have hbx2 := hbx1.below hb2
    have hb2' : Below w.heap.size w w2 := below_next hb1' hb2
    clear hbx1_l hbx1_0 hbx1_1 hbx1_2 hbx1_3 hbx1_4
    clear hb2 hbx1
    cases h4 : keyB r
    · have Hv := Lib.hid (show pf = 5 by rw [HPF.out, h4]; rfl)
      go_wp2_with fail
      go_ret
      exact ⟨by rw [Hv.out]; rfl, hb2'⟩
    rw [h4, if_neg (by decide)] at HPF
    have hbx2_l := hbx2.lt; have hbx2_0 := hbx2.cell 0; have hbx2_1 := hbx2.cell 1; have hbx2_2 := hbx2.cell 2; have hbx2_3 := hbx2.cell 3; have hbx2_4 := hbx2.cell 4; simp at hbx2_0 hbx2_1 hbx2_2 hbx2_3 hbx2_4
    by_cases h5 : 20000 < x.size
    · have Hv := Lib.hid (show pf = 2 by rw [HPF.out, if_pos h5])
      go_wp2_with fail
      go_ret
      exact ⟨by rw [Hv.out]; rfl, hb2'⟩
    rw [if_neg h5] at HPF
    go_wp2_with fail
    refine (HT.out _ (hE.below hb2')).mono ?_
    rintro e w3 ⟨rfl, hb3⟩
    have hz3 := hb3.size
    have hbx3 := (hbx2).below hb3
    have hb3' : Below w.heap.size w w3 := below_next hb2' hb3
    cases h6 : textB x
    · have Hv := Lib.hid (show pf = 3 by rw [HPF.out, h6]; rfl)
      go_wp2_with fail
      go_ret
      exact ⟨by rw [Hv.out]; rfl, hb3'⟩
    rw [h6, if_neg (by decide)] at HPF
    have hbx3_l := hbx3.lt; have hbx3_0 := hbx3.cell 0; have hbx3_1 := hbx3.cell 1; have hbx3_2 := hbx3.cell 2; have hbx3_3 := hbx3.cell 3; have hbx3_4 := hbx3.cell 4; simp at hbx3_0 hbx3_1 hbx3_2 hbx3_3 hbx3_4
    by_cases hk3 : k = 3
    · have hk4 : (k == 3) = true := by simp [hk3]
      rw [decide_eq_true hk3, Bool.true_and] at HPF
      by_cases hx0 : x.size = 0
      · have hx1 := str_empty hx0
        rw [decide_eq_false (by simp [hx0]), Bool.false_or] at HPF
        have Hv := Lib.hid (show pf = 3 by rw [HPF.out, if_pos (by simp [hr0])]); clear hk3; go_wp2_with fail; go_ret; exact ⟨by rw [Hv.out]; rfl, hb3'⟩
      · obtain ⟨hx1, hx2⟩ := str_full hx0
        have Hv := Lib.hid (show pf = 3 by rw [HPF.out, if_pos (by simp [hx0])])
        clear hk3
        go_wp2_with fail
        go_ret
        exact ⟨by rw [Hv.out]; rfl, hb3'⟩
    · have hk4 : (k == 3) = false := by simp [hk3]
      have Hv := Lib.hid (show pf = 0 by rw [HPF.out, decide_eq_false hk3]; rfl)
      clear hk3
      go_wp2_with fail
      go_ret
      exact ⟨by rw [Hv.out]; rfl, hb3'⟩
set_option maxRecDepth 100000 in
set_option maxHeartbeats 4000000 in
theorem arrivalFault_any (p : ByteArray) (t k : Int) (r x : ByteArray) (w : World) (hE : Env w) (hp : p.size ≤ 1000000) (hr : r.size ≤ 1000000) (hx : x.size ≤ 1000000) :
    Calls Tryz.prog 44 #[arrAgg p t k r x] w (Gives (.int .i64 (arrivalFault p t k r x)) w) := by
  have HPF := Lib.hid (show arrivalFault p t k r x = (if keyB p = false then 5
  else if momB t = false then 1
  else if kindB k = false then 4
  else if (decide (r.size ≠ 0) && !keyB r) then 5
  else if 20000 < x.size then 2
  else if textB x = false then 3
  else if decide (k = 3) && (decide (x.size ≠ 0) || decide (r.size ≠ 0)) then 3 else 0) from rfl)
  generalize arrivalFault p t k r x = pf at *
  unfold arrAgg
  have HK := Lib.hid keyOf_any
  have HT := Lib.hid (fun w h => textOf_any x w h (by omega))
  have hbx := Box.new w 63 #[.string p, .int .i64 t, .int .i64 k, .string r, .string x]
  go_enter Tryz.func44, Tryz.ntmps44
  go_wp2_with fail
  refine (HK.out p _ (by omega)).mono ?_
  rintro e w1 ⟨rfl, hb1⟩
  have hz1 := hb1.size
  simp at hz1
  have hbx1 := hbx.below hb1
  have hb1' : Below w.heap.size w w1 := by (repeat' (first | exact Below.refl _ _ | assumption | refine Below.setCell ?_ ?_ _ | refine below_drewN ?_ _ | refine Below.drew ?_ | refine Below.alloc ?_ ?_ _ | (with_reducible refine Below.trans ?_ (Below.mono hb ?_)) | (with_reducible refine Below.trans ?_ (Below.mono hb0 ?_)) | (with_reducible refine Below.trans ?_ (Below.mono hb1 ?_)) | (with_reducible refine Below.trans ?_ (Below.mono hb2 ?_)) | (with_reducible refine Below.trans ?_ (Below.mono hb3 ?_)) | (with_reducible refine Below.trans ?_ (Below.mono hb4 ?_)) | (with_reducible refine Below.trans ?_ (Below.mono hb5 ?_)) | (with_reducible refine Below.trans ?_ (Below.mono hb6 ?_)) | (with_reducible refine Below.trans ?_ (Below.mono hb7 ?_)) | (with_reducible refine Below.trans ?_ (Below.mono hb8 ?_)) | (with_reducible refine Below.trans ?_ (Below.mono hb9 ?_)) | (with_reducible refine Below.trans ?_ (Below.mono hb10 ?_)) | (with_reducible refine Below.trans ?_ (Below.mono hb11 ?_)) | (with_reducible refine Below.trans ?_ (Below.mono hb12 ?_)) | (with_reducible refine Below.trans ?_ (Below.mono hb13 ?_)) | (with_reducible refine Below.trans ?_ (Below.mono hb14 ?_)) | (with_reducible refine Below.trans ?_ (Below.mono hb15 ?_)) | omega | (simp; done) | (simp; omega)))
  clear hbx hb1
  cases h1 : keyB p
  · have Hv := Lib.hid (show pf = 5 by rw [HPF.out, h1]; rfl)
    go_wp2_with fail
    go_ret
    exact ⟨by rw [Hv.out]; rfl, hb1'⟩
  rw [h1, if_neg (by decide)] at HPF
  have hbx1_l := hbx1.lt; have hbx1_0 := hbx1.cell 0; have hbx1_1 := hbx1.cell 1; have hbx1_2 := hbx1.cell 2; have hbx1_3 := hbx1.cell 3; have hbx1_4 := hbx1.cell 4; simp at hbx1_0 hbx1_1 hbx1_2 hbx1_3 hbx1_4
  go_wp2_with fail
  refine (moment_any t _).mono ?_
  rintro e w1 ⟨rfl, rfl⟩
  cases h2 : momB t
  · have Hv := Lib.hid (show pf = 1 by rw [HPF.out, h2]; rfl)
    go_wp2_with fail
    go_ret
    exact ⟨by rw [Hv.out]; rfl, hb1'⟩
  rw [h2, if_neg (by decide)] at HPF
  cases h3 : kindB k
  · have Hv := Lib.hid (show pf = 4 by rw [HPF.out, h3]; rfl)
    rcases (kindB_no h3) with h9 | h9 <;> go_wp2_with fail
    all_goals
      go_ret
      exact ⟨by rw [Hv.out]; rfl, hb1'⟩
  rw [h3, if_neg (by decide)] at HPF
  obtain ⟨k1, k2⟩ := kindB_yes h3
  by_cases hr0 : r.size = 0
  · have hr1 := str_empty hr0
    rw [decide_eq_false (by simp [hr0]), Bool.false_and, if_neg (by decide)] at HPF
    by_cases h5 : 20000 < x.size
    · have Hv := Lib.hid (show pf = 2 by rw [HPF.out, if_pos h5])
      go_wp2_with fail
      go_ret
      exact ⟨by rw [Hv.out]; rfl, hb1'⟩
    rw [if_neg h5] at HPF
    go_wp2_with fail
    refine (HT.out _ (hE.below hb1')).mono ?_
    rintro e w3 ⟨rfl, hb3⟩
    have hz3 := hb3.size
    have hbx3 := (hbx1).below hb3
    have hb3' : Below w.heap.size w w3 := below_next hb1' hb3
    cases h6 : textB x
    · have Hv := Lib.hid (show pf = 3 by rw [HPF.out, h6]; rfl)
      go_wp2_with fail
      go_ret
      exact ⟨by rw [Hv.out]; rfl, hb3'⟩
    rw [h6, if_neg (by decide)] at HPF
    have hbx3_l := hbx3.lt; have hbx3_0 := hbx3.cell 0; have hbx3_1 := hbx3.cell 1; have hbx3_2 := hbx3.cell 2; have hbx3_3 := hbx3.cell 3; have hbx3_4 := hbx3.cell 4; simp at hbx3_0 hbx3_1 hbx3_2 hbx3_3 hbx3_4
    by_cases hk3 : k = 3
    · have hk4 : (k == 3) = true := by simp [hk3]
      rw [decide_eq_true hk3, Bool.true_and] at HPF
      by_cases hx0 : x.size = 0
      · have hx1 := str_empty hx0
        rw [decide_eq_false (by simp [hx0]), Bool.false_or] at HPF
        have Hv := Lib.hid (show pf = 0 by rw [HPF.out, if_neg (by simp)]); clear hk3; go_wp2_with fail; go_ret; exact ⟨by rw [Hv.out]; rfl, hb3'⟩
      · obtain ⟨hx1, hx2⟩ := str_full hx0
        have Hv := Lib.hid (show pf = 3 by rw [HPF.out, if_pos (by simp [hx0])])
        clear hk3
        go_wp2_with fail
        go_ret
        exact ⟨by rw [Hv.out]; rfl, hb3'⟩
    · have hk4 : (k == 3) = false := by simp [hk3]
      have Hv := Lib.hid (show pf = 0 by rw [HPF.out, decide_eq_false hk3]; rfl)
      clear hk3
      go_wp2_with fail
      go_ret
      exact ⟨by rw [Hv.out]; rfl, hb3'⟩
  · obtain ⟨hr1, hr2⟩ := str_full hr0
    rw [decide_eq_true hr0, Bool.true_and] at HPF
    go_wp2_with fail
    refine (HK.out r _ (by omega)).mono ?_
    rintro e w2 ⟨rfl, hb2⟩
    have hz2 := hb2.size
    have hbx2 := hbx1.below hb2
    have hb2' : Below w.heap.size w w2 := below_next hb1' hb2
    clear hbx1_l hbx1_0 hbx1_1 hbx1_2 hbx1_3 hbx1_4
    clear hb2 hbx1
    cases h4 : keyB r
    · have Hv := Lib.hid (show pf = 5 by rw [HPF.out, h4]; rfl)
      go_wp2_with fail
      go_ret
      exact ⟨by rw [Hv.out]; rfl, hb2'⟩
    rw [h4, if_neg (by decide)] at HPF
    have hbx2_l := hbx2.lt; have hbx2_0 := hbx2.cell 0; have hbx2_1 := hbx2.cell 1; have hbx2_2 := hbx2.cell 2; have hbx2_3 := hbx2.cell 3; have hbx2_4 := hbx2.cell 4; simp at hbx2_0 hbx2_1 hbx2_2 hbx2_3 hbx2_4
    by_cases h5 : 20000 < x.size
    · have Hv := Lib.hid (show pf = 2 by rw [HPF.out, if_pos h5])
      go_wp2_with fail
      go_ret
      exact ⟨by rw [Hv.out]; rfl, hb2'⟩
    rw [if_neg h5] at HPF
    go_wp2_with fail
    refine (HT.out _ (hE.below hb2')).mono ?_
    rintro e w3 ⟨rfl, hb3⟩
    have hz3 := hb3.size
    have hbx3 := (hbx2).below hb3
    have hb3' : Below w.heap.size w w3 := below_next hb2' hb3
    cases h6 : textB x
    · have Hv := Lib.hid (show pf = 3 by rw [HPF.out, h6]; rfl)
      go_wp2_with fail
      go_ret
      exact ⟨by rw [Hv.out]; rfl, hb3'⟩
    rw [h6, if_neg (by decide)] at HPF
    have hbx3_l := hbx3.lt; have hbx3_0 := hbx3.cell 0; have hbx3_1 := hbx3.cell 1; have hbx3_2 := hbx3.cell 2; have hbx3_3 := hbx3.cell 3; have hbx3_4 := hbx3.cell 4; simp at hbx3_0 hbx3_1 hbx3_2 hbx3_3 hbx3_4
    by_cases hk3 : k = 3
    · have hk4 : (k == 3) = true := by simp [hk3]
      rw [decide_eq_true hk3, Bool.true_and] at HPF
      by_cases hx0 : x.size = 0
      · have hx1 := str_empty hx0
        rw [decide_eq_false (by simp [hx0]), Bool.false_or] at HPF
        have Hv := Lib.hid (show pf = 3 by rw [HPF.out, if_pos (by simp [hr0])]); clear hk3; go_wp2_with fail; go_ret; exact ⟨by rw [Hv.out]; rfl, hb3'⟩
      · obtain ⟨hx1, hx2⟩ := str_full hx0
        have Hv := Lib.hid (show pf = 3 by rw [HPF.out, if_pos (by simp [hx0])])
        clear hk3
        go_wp2_with fail
        go_ret
        exact ⟨by rw [Hv.out]; rfl, hb3'⟩
    · have hk4 : (k == 3) = false := by simp [hk3]
      have Hv := Lib.hid (show pf = 0 by rw [HPF.out, decide_eq_false hk3]; rfl)
      clear hk3
      go_wp2_with fail
      go_ret
      exact ⟨by rw [Hv.out]; rfl, hb3'⟩
end Go.Proofs.YtifflpilnpcmoaaGreatDoor
