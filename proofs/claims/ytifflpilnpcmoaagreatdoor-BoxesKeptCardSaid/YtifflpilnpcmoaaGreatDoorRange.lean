/- The maker Range. -/
import Derived.Test.YtifflpilnpcmoaaGreatDoorStream
namespace Go.Proofs.YtifflpilnpcmoaaGreatDoor
open Go.RowKit
set_option linter.unusedVariables false
set_option linter.unusedSimpArgs false

/-- A number in some bounds is drawn. -/
def SomeRange (S : Nat) (B lo hi : Int) (w : World) (e : Ending) (w' : World) : Prop :=
  ∃ r : Int, (lo ≤ r ∧ r ≤ hi) ∧ e = .returned (.int .i64 r) ∧ Stp S w w' ∧ Strm S (B + 1) w'
theorem pick_in {z : Int} {l : List Int} (h : z ∈ l) (lo hi : Int) (hl : l.all (fun x => decide (lo ≤ x) && decide (x ≤ hi)) = true) : lo ≤ z ∧ z ≤ hi := by
  have := List.all_eq_true.1 hl z h
  simpa using this
end Go.Proofs.YtifflpilnpcmoaaGreatDoor
