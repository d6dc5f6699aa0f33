/- kit.Outside. -/
import Derived.Test.YtnocceilpnmbpaaGreatDoorBase
namespace Go.Proofs.YtnocceilpnmbpaaGreatDoor
open Go.RowKit
set_option linter.unusedVariables false

theorem outside_any (n lo hi : Int) (w : World) :
  Calls Tryz.prog 93 #[.int .i64 n, .int .i64 lo, .int .i64 hi] w (fun e w' => e = .returned (.bool (decide (n < lo) || decide (hi < n))) ∧ w = w') := by
 by_cases h : n < lo
 ·
  go_enter Tryz.func93, Tryz.ntmps93
  go_wp2
  go_ret
  exact ⟨by simp [h], rfl⟩
 ·
  have h' : decide (n < lo) = false := by simpa using h
  go_enter Tryz.func93, Tryz.ntmps93
  go_wp2
  go_ret
  exact ⟨by simp, rfl⟩
/-- A number is within the bounds: Outside says no. -/
theorem outside_no (n lo hi : Int) (w : World) (h1 : lo ≤ n) (h2 : n ≤ hi) :
  Calls Tryz.prog 93 #[.int .i64 n, .int .i64 lo, .int .i64 hi] w (fun e w' => e = .returned (.bool false) ∧ w = w') :=
 (outside_any n lo hi w).mono fun e w' ⟨h, k⟩ => ⟨by rw [h, decide_eq_false (by omega), decide_eq_false (by omega)]; rfl, k⟩
theorem outside_yes (n lo hi : Int) (w : World) (h : n < lo ∨ hi < n) :
  Calls Tryz.prog 93 #[.int .i64 n, .int .i64 lo, .int .i64 hi] w (fun e w' => e = .returned (.bool true) ∧ w = w') :=
 (outside_any n lo hi w).mono fun e w' ⟨h', k⟩ => ⟨by rw [h']; rcases h with h | h <;> simp [h], k⟩
end Go.Proofs.YtnocceilpnmbpaaGreatDoor
