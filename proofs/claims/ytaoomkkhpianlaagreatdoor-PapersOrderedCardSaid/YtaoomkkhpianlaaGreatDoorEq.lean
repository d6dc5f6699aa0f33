/- slices.Equal of lists that read alike. -/
import Derived.Test.YtaoomkkhpianlaaGreatDoorList
namespace Go.Proofs.YtaoomkkhpianlaaGreatDoor
open Go.RowKit
set_option linter.unusedVariables false
set_option linter.unusedSimpArgs false

set_option maxRecDepth 100000 in
set_option maxHeartbeats 4000000 in
/-- Two slices that read alike are equal. -/
theorem equalLevel_any (l : List Skill) (a a2 : Option Addr) (cap cap2 : Nat) (w : World) (h : SA w a l) (h2 : SA w a2 l) (hlen : l.length ≤ 1000000000) :
    Calls Tryz.prog 45 #[.slice a l.length cap, .slice a2 l.length cap2] w (Draws (.bool true) w) := by
  have hq0 : ((l.length : Int) != (l.length : Int)) = false := by simp
  go_enter Tryz.func45, Tryz.ntmps45
  go_wp2_with fail
  go_loopg [13] l.length (fun gk i wr => ∃ k : Nat, i = .int .i64 k ∧ k ≤ l.length ∧ Hid (gk = l.length - k) ∧ ∃ n, wr = w.drewN n)
  case atStart => exact ⟨0, rfl, by omega, rfl, 0, rfl⟩
  case round =>
    obtain ⟨k, rfl, hk, hgk, n, rfl⟩ := hrel
    by_cases hlt : k < l.length
    · obtain ⟨b, off, ha, c0, c1⟩ := h.skill hlt
      obtain ⟨b', off', ha', d0, d1⟩ := h2.skill hlt
      rw [ha, ha']
      generalize l[k] = x at *
      obtain ⟨x1, x2⟩ := x
      simp only at *
      have hk1 : (0 : Int) ≤ (k : Int) := by omega
      have hk2 : (k : Int) < (l.length : Int) := by omega
      go_wp2_with fail
      go_quiet (fail)
      go_wp2_with fail
      rw [← ha, ← ha']
      go_roundg (l.length - (k + 1))
      case measure => have := hgk.out; omega
      case rel => exact ⟨k + 1, by go_num, by omega, rfl, _, rfl⟩
    · go_wp2_with fail
      go_ret
      exact ⟨rfl, _, rfl⟩
end Go.Proofs.YtaoomkkhpianlaaGreatDoor
