/- Moments: IsMoment, Moment. -/
import Derived.Test.YtnocceilpnmbpaaGreatDoorBase
namespace Go.Proofs.YtnocceilpnmbpaaGreatDoor
open Go.RowKit
set_option linter.unusedVariables false
set_option linter.unusedSimpArgs false

def momB (n : Int) : Bool := decide (0 ≤ n) && decide (n < 5761440)
set_option maxHeartbeats 1000000 in
theorem isMoment_any (n : Int) (w : World) : Calls Tryz.prog 92 #[.int .i64 n] w (fun e w' => e = .returned (.bool (momB n)) ∧ w = w') := by
 unfold momB
 by_cases h1 : 0 ≤ n
 ·
  rw [decide_eq_true h1]
  by_cases h2 : n < 5761440
  ·
   rw [decide_eq_true h2]
   go_enter Tryz.func92, Tryz.ntmps92
   go_wp2_with fail
   go_ret
   exact ⟨rfl, rfl⟩
  ·
   rw [decide_eq_false h2]
   have hd : decide (n < 5761440) = false := decide_eq_false h2
   go_enter Tryz.func92, Tryz.ntmps92
   go_wp2_with fail
   go_ret
   exact ⟨rfl, rfl⟩
 ·
  rw [decide_eq_false h1]
  have hd : decide (0 ≤ n) = false := decide_eq_false h1
  go_enter Tryz.func92, Tryz.ntmps92
  go_wp2_with fail
  go_ret
  exact ⟨rfl, rfl⟩
set_option maxHeartbeats 1000000 in
theorem moment_any (n : Int) (w : World) : Calls Tryz.prog 101 #[.int .i64 n] w (fun e w' => e = .returned (.bool (momB n)) ∧ w = w') := by
 unfold momB
 by_cases h1 : 0 ≤ n
 ·
  rw [decide_eq_true h1]
  by_cases h2 : n < 5761440
  ·
   rw [decide_eq_true h2]
   go_enter Tryz.func101, Tryz.ntmps101
   go_wp2_with fail
   go_ret
   exact ⟨rfl, rfl⟩
  ·
   rw [decide_eq_false h2]
   have hd : decide (n < 5761440) = false := decide_eq_false h2
   go_enter Tryz.func101, Tryz.ntmps101
   go_wp2_with fail
   go_ret
   exact ⟨rfl, rfl⟩
 ·
  rw [decide_eq_false h1]
  have hd : decide (0 ≤ n) = false := decide_eq_false h1
  go_enter Tryz.func101, Tryz.ntmps101
  go_wp2_with fail
  go_ret
  exact ⟨rfl, rfl⟩
end Go.Proofs.YtnocceilpnmbpaaGreatDoor
