/- The makers AnyMarks, MarkPaper, MarkPerson. -/
import Derived.Test.YtgihommenknhoaaGreatDoorMakeMark
namespace Go.Proofs.YtgihommenknhoaaGreatDoor
open Go.RowKit
set_option linter.unusedVariables false
set_option linter.unusedSimpArgs false

set_option maxHeartbeats 400000 in
theorem MarkPaper_any (S : Nat) (B : Int) (w : World) (hs : Strm S B w) (hB : B ≤ 1000000) : Calls Tryz.prog 8 #[.pointer (some ⟨S, 0, none⟩)] w (SomeStr S B w) := by
  have hS := hs.lt
  go_enter Tryz.func8, Tryz.ntmps8
  go_wp2_with fail
  refine (one_any S B _ 7 7 9 _ _ (hs.alloc _) (by omega) (Box.new _ _ _) (by omega) rfl (by omega) (by omega) (by simp; decide)).mono ?_
  rintro e w1 ⟨x, hx, rfl, h1, s1⟩
  go_wp2_with fail
  go_ret
  exact ⟨x, hx, rfl, ((Stp.refl _ _).alloc _).trans h1, s1⟩
end Go.Proofs.YtgihommenknhoaaGreatDoor
