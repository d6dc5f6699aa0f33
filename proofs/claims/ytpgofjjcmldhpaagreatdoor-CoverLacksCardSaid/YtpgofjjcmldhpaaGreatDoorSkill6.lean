/- Equal lists; cmp.Or; the makers of skills and of wanted topics. -/
import Derived.Test.YtpgofjjcmldhpaaGreatDoorSkill5
import Derived.Test.YtpgofjjcmldhpaaGreatDoorTopicMake
namespace Go.Proofs.YtpgofjjcmldhpaaGreatDoor
open Go.RowKit
set_option linter.unusedVariables false
set_option linter.unusedSimpArgs false


set_option maxRecDepth 100000 in
set_option maxHeartbeats 4000000 in
/-- The first of two errors. -/
theorem cmpOr2_any (x y : Int) (b : Nat) (w : World) (h : Box w b 40 #[.int .i64 x, .int .i64 y]) :
    Calls Tryz.prog 68 #[.slice (some ⟨b, 0, none⟩) 2 2] w (fun e w' => e = .returned (.int .i64 (if x ≠ 0 then x else y)) ∧ w = w') := by
  have h_l := h.lt; have h_0 := h.cell 0; have h_1 := h.cell 1; simp at h_0 h_1
  by_cases hx : x = 0
  · rw [if_neg (by simp [hx])]
    have hq : (x != 0) = false := by simpa using hx
    clear hx
    by_cases hy : y = 0
    · have hq2 : (y != 0) = false := by simpa using hy
      go_enter Tryz.func68, Tryz.ntmps68
      go_wp2_with fail
      refine wp_loop_rounds 3 ?_
      rw [rounds_succ]
      go_wp2_with fail
      rw [rounds_succ]
      go_wp2_with fail
      rw [rounds_succ]
      go_wp2_with fail
      go_ret
      exact ⟨by rw [hy]; rfl, rfl⟩
    · have hq2 : (y != 0) = true := by simpa using hy
      go_enter Tryz.func68, Tryz.ntmps68
      go_wp2_with fail
      refine wp_loop_rounds 2 ?_
      rw [rounds_succ]
      go_wp2_with fail
      rw [rounds_succ]
      go_wp2_with fail
      go_ret
      exact ⟨rfl, rfl⟩
  · rw [if_pos hx]
    have hq : (x != 0) = true := by simpa using hx
    go_enter Tryz.func68, Tryz.ntmps68
    go_wp2_with fail
    refine wp_loop_rounds 1 ?_
    rw [rounds_succ]
    go_wp2_with fail
    go_ret
    exact ⟨rfl, rfl⟩
end Go.Proofs.YtpgofjjcmldhpaaGreatDoor
