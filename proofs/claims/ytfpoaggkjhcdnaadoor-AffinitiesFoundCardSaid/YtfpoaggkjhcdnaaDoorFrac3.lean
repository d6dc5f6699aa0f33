/- Fractions: sums and comparisons of the reference, the comparison of the program. -/
import Derived.Test.YtfpoaggkjhcdnaaDoorFrac2
namespace Go.Proofs.YtfpoaggkjhcdnaaDoor
open Go.RowKit
set_option linter.unusedVariables false

/-- -1, 0 or 1. -/
def cmpZ (a b : Int) : Int := if a < b then -1 else if b < a then 1 else 0

theorem less_yes (a b c d : Int) (w : World) (h1 : -9223372036854775808 ≤ a * d) (h2 : a * d ≤ 9223372036854775807) (h3 : -9223372036854775808 ≤ c * b) (h4 : c * b ≤ 9223372036854775807) (h : a * d < c * b) :
    Calls Tryd.prog 64 #[.agg #[.int .i64 a, .int .i64 b], .agg #[.int .i64 c, .int .i64 d]] w (Gives (.bool true) w) := by
  have := less_any a b c d w h1 h2 h3 h4; rwa [decide_eq_true h] at this
theorem less_no (a b c d : Int) (w : World) (h1 : -9223372036854775808 ≤ a * d) (h2 : a * d ≤ 9223372036854775807) (h3 : -9223372036854775808 ≤ c * b) (h4 : c * b ≤ 9223372036854775807) (h : c * b ≤ a * d) :
    Calls Tryd.prog 64 #[.agg #[.int .i64 a, .int .i64 b], .agg #[.int .i64 c, .int .i64 d]] w (Gives (.bool false) w) := by
  have := less_any a b c d w h1 h2 h3 h4; rwa [decide_eq_false (by omega)] at this

theorem cmpCompare_any (a b : Int) (w : World) : Calls Tryd.prog 70 #[.int .i64 a, .int .i64 b] w (fun e w' => e = .returned (.int .i64 (cmpZ a b)) ∧ w = w') := by
  have hn1 : (a != a) = false := by simp
  have hn2 : (b != b) = false := by simp
  by_cases h1 : a < b
  · have hz : cmpZ a b = -1 := by simp [cmpZ, h1]
    rw [hz]
    go_enter Tryd.func70, Tryd.ntmps70
    go_wp2
    go_ret
    exact ⟨rfl, rfl⟩
  · by_cases h2 : b < a
    · have hz : cmpZ a b = 1 := by simp [cmpZ, h1, h2]
      rw [hz]
      go_enter Tryd.func70, Tryd.ntmps70
      go_wp2
      go_ret
      exact ⟨rfl, rfl⟩
    · have hz : cmpZ a b = 0 := by simp [cmpZ, h1, h2]
      rw [hz]
      go_enter Tryd.func70, Tryd.ntmps70
      go_wp2
      go_ret
      exact ⟨rfl, rfl⟩

theorem compareFractions_any (a b c d : Int) (w : World) (h1 : -9223372036854775808 ≤ a * d) (h2 : a * d ≤ 9223372036854775807) (h3 : -9223372036854775808 ≤ c * b) (h4 : c * b ≤ 9223372036854775807) :
    Calls Tryd.prog 65 #[.agg #[.int .i64 a, .int .i64 b], .agg #[.int .i64 c, .int .i64 d]] w (Gives (.int .i64 (cmpZ (a * d) (c * b))) w) := by
  go_enter Tryd.func65, Tryd.ntmps65
  go_wp2_with fail
  refine (cmpCompare_any _ _ _).mono ?_
  rintro e w1 ⟨rfl, rfl⟩
  go_wp2_with fail
  go_ret
  exact ⟨rfl, by (repeat' (first | exact Below.refl _ _ | assumption | refine Below.setCell ?_ ?_ _ | refine below_drewN ?_ _ | refine Below.drew ?_ | refine Below.alloc ?_ ?_ _ | (with_reducible refine Below.trans ?_ (Below.mono hb ?_)) | (with_reducible refine Below.trans ?_ (Below.mono hb1 ?_)) | (with_reducible refine Below.trans ?_ (Below.mono hb2 ?_)) | (with_reducible refine Below.trans ?_ (Below.mono hb3 ?_)) | (with_reducible refine Below.trans ?_ (Below.mono hb4 ?_)) | (with_reducible refine Below.trans ?_ (Below.mono hb5 ?_)) | (with_reducible refine Below.trans ?_ (Below.mono hb6 ?_)) | omega | (simp; done) | (simp; omega)))⟩


set_option maxHeartbeats 1000000 in
theorem topics_any (w : World) : Calls Tryd.prog 17 #[] w (Gives (.bool true) w) := by
  have HV := Lib.hid (show addV 1 2 1 6 = .tuple #[.agg #[.int .i64 2, .int .i64 3], .int .i64 0] by kernel_rfl)
  go_enter Tryd.func17, Tryd.ntmps17
  go_wp2_with fail
  refine (add_any 1 2 1 6 _).mono ?_
  rintro e w1 ⟨rfl, hb⟩
  rw [HV.out]
  have hz := hb.size
  go_wp2_with fail
  go_ret
  exact ⟨rfl, by (repeat' (first | exact Below.refl _ _ | assumption | refine Below.setCell ?_ ?_ _ | refine below_drewN ?_ _ | refine Below.drew ?_ | refine Below.alloc ?_ ?_ _ | (with_reducible refine Below.trans ?_ (Below.mono hb ?_)) | (with_reducible refine Below.trans ?_ (Below.mono hb1 ?_)) | (with_reducible refine Below.trans ?_ (Below.mono hb2 ?_)) | (with_reducible refine Below.trans ?_ (Below.mono hb3 ?_)) | (with_reducible refine Below.trans ?_ (Below.mono hb4 ?_)) | (with_reducible refine Below.trans ?_ (Below.mono hb5 ?_)) | (with_reducible refine Below.trans ?_ (Below.mono hb6 ?_)) | omega | (simp; done) | (simp; omega)))⟩
end Go.Proofs.YtfpoaggkjhcdnaaDoor
