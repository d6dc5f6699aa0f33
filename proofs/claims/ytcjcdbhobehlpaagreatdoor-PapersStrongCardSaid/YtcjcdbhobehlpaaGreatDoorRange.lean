/- The maker Range. -/
import Derived.Test.YtcjcdbhobehlpaaGreatDoorStream
namespace Go.Proofs.YtcjcdbhobehlpaaGreatDoor
open Go.RowKit
set_option linter.unusedVariables false
set_option linter.unusedSimpArgs false

/-- A number in some bounds is drawn. -/
def SomeRange (S : Nat) (B lo hi : Int) (w : World) (e : Ending) (w' : World) : Prop :=
 ∃ r : Int, (lo ≤ r ∧ r ≤ hi) ∧ e = .returned (.int .i64 r) ∧ Stp S w w' ∧ Strm S (B + 1) w'
set_option maxHeartbeats 1000000 in
theorem range_any (S : Nat) (B lo hi : Int) (w : World) (hs : Strm S B w) (hB : B ≤ 1000000000) (h0 : -1000000 ≤ lo) (h1 : lo ≤ hi) (h2 : hi ≤ 1000000) :
  Calls Tryz.prog 18 #[.pointer (some ⟨S, 0, none⟩), .int .i64 lo, .int .i64 hi] w (SomeRange S B lo hi w) := by
 go_enter Tryz.func18, Tryz.ntmps18
 go_wp2_with fail
 refine (next_any S B _ _ hs hB (by omega) (by omega)).mono ?_
 rintro e w' ⟨r, ⟨hr, hr2⟩, rfl, h3, h4⟩
 go_wp2_with fail
 go_ret
 exact ⟨_, ⟨by omega, by omega⟩, rfl, h3, h4⟩
theorem pick_in {z : Int} {l : List Int} (h : z ∈ l) (lo hi : Int) (hl : l.all (fun x => decide (lo ≤ x) && decide (x ≤ hi)) = true) : lo ≤ z ∧ z ≤ hi := by
 have := List.all_eq_true.1 hl z h
 simpa using this
end Go.Proofs.YtcjcdbhobehlpaaGreatDoor
