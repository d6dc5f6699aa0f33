/- Equal lists; cmp.Or; the makers of skills and of wanted topics. -/
import Derived.Test.YtfpoaggkjhcdnaaDoorSkill5
import Derived.Test.YtfpoaggkjhcdnaaDoorTopicMake4
namespace Go.Proofs.YtfpoaggkjhcdnaaDoor
open Go.RowKit
set_option linter.unusedVariables false
set_option linter.unusedSimpArgs false

set_option maxRecDepth 100000 in
set_option maxHeartbeats 4000000 in
/-- Two slices that read alike are equal. -/
theorem equalBec_any (l : List Bec) (a a2 : Option Addr) (cap cap2 : Nat) (w : World) (h : SA w a l) (h2 : SA w a2 l) (hlen : l.length ≤ 1000000000) :
    Calls Tryd.prog 28 #[.slice a l.length cap, .slice a2 l.length cap2] w (Draws (.bool true) w) := by
  have hq0 : ((l.length : Int) != (l.length : Int)) = false := by simp
  go_enter Tryd.func28, Tryd.ntmps28
  go_wp2_with fail
  go_loopg [13] l.length (fun gk i wr => ∃ k : Nat, i = .int .i64 k ∧ k ≤ l.length ∧ Hid (gk = l.length - k) ∧ ∃ n, wr = w.drewN n)
  case atStart => exact ⟨0, rfl, by omega, rfl, 0, rfl⟩
  case round =>
    obtain ⟨k, rfl, hk, hgk, n, rfl⟩ := hrel
    by_cases hlt : k < l.length
    · obtain ⟨b, off, ha, c0, c1, c2, c3⟩ := h.bec hlt
      obtain ⟨b', off', ha', d0, d1, d2, d3⟩ := h2.bec hlt
      rw [ha, ha']
      generalize l[k] = x at *
      obtain ⟨x1, x2, x3, x4⟩ := x
      simp only at c0 c1 c2 c3 d0 d1 d2 d3
      have hk1 : (0 : Int) ≤ (k : Int) := by omega
      have hk2 : (k : Int) < (l.length : Int) := by omega
      go_wp2_with fail
      go_quiet (fail)
      go_wp2_with fail
      rw [← ha, ← ha']
      go_roundg (l.length - (k + 1))
      case measure => have := hgk.out; omega
      case rel => exact ⟨k + 1, by go_num, by omega, rfl, _, rfl⟩
    · go_wp2_with fail
      go_ret
      exact ⟨rfl, _, rfl⟩

set_option maxRecDepth 100000 in
set_option maxHeartbeats 4000000 in
/-- The first of two errors. -/
theorem cmpOr2_any (x y : Int) (b : Nat) (w : World) (h : Box w b 29 #[.int .i64 x, .int .i64 y]) :
    Calls Tryd.prog 24 #[.slice (some ⟨b, 0, none⟩) 2 2] w (fun e w' => e = .returned (.int .i64 (if x ≠ 0 then x else y)) ∧ w = w') := by
  have h_l := h.lt; have h_0 := h.cell 0; have h_1 := h.cell 1; simp at h_0 h_1
  by_cases hx : x = 0
  · rw [if_neg (by simp [hx])]
    have hq : (x != 0) = false := by simpa using hx
    clear hx
    by_cases hy : y = 0
    · have hq2 : (y != 0) = false := by simpa using hy
      go_enter Tryd.func24, Tryd.ntmps24
      go_wp2_with fail
      refine wp_loop_rounds 3 ?_
      rw [rounds_succ]
      go_wp2_with fail
      rw [rounds_succ]
      go_wp2_with fail
      rw [rounds_succ]
      go_wp2_with fail
      go_ret
      exact ⟨by rw [hy]; rfl, rfl⟩
    · have hq2 : (y != 0) = true := by simpa using hy
      go_enter Tryd.func24, Tryd.ntmps24
      go_wp2_with fail
      refine wp_loop_rounds 2 ?_
      rw [rounds_succ]
      go_wp2_with fail
      rw [rounds_succ]
      go_wp2_with fail
      go_ret
      exact ⟨rfl, rfl⟩
  · rw [if_pos hx]
    have hq : (x != 0) = true := by simpa using hx
    go_enter Tryd.func24, Tryd.ntmps24
    go_wp2_with fail
    refine wp_loop_rounds 1 ?_
    rw [rounds_succ]
    go_wp2_with fail
    go_ret
    exact ⟨rfl, rfl⟩
end Go.Proofs.YtfpoaggkjhcdnaaDoor
