/- The makers AnyMarks, MarkPaper, MarkPerson. -/
import Derived.Test.YtaoomkkhpianlaaGreatDoorMakeMark
namespace Go.Proofs.YtaoomkkhpianlaaGreatDoor
open Go.RowKit
set_option linter.unusedVariables false
set_option linter.unusedSimpArgs false

set_option maxHeartbeats 400000 in
theorem anyMarksN_any (S : Nat) (B : Int) (w : World) (hs : Strm S B w) (hB : B ≤ 100000) :
    Calls Tryz.prog 9 #[.pointer (some ⟨S, 0, none⟩)] w (SomeMarksN S (B + 2) 6 w) := by
  go_enter Tryz.func9, Tryz.ntmps9
  go_wp2_with fail
  refine (next_any S B 7 _ hs (by omega) (by omega) (by omega)).mono ?_
  rintro e w1 ⟨r, ⟨hr1, hr2⟩, rfl, h1, s1⟩
  obtain ⟨m, rfl⟩ := Int.eq_ofNat_of_zero_le hr1
  go_wp2_with fail
  refine (next_any S (B + 1) 6 _ s1 (by omega) (by omega) (by omega)).mono ?_
  rintro e w2 ⟨r, ⟨hr3, hr4⟩, rfl, h2, s2⟩
  obtain ⟨n, rfl⟩ := Int.eq_ofNat_of_zero_le hr3
  go_wp2_with fail
  refine (marksN_any S (B + 1 + 1) m n _ s2 (by omega) (by omega) (by omega)).mono ?_
  rintro e w3 ⟨l, v, rfl, hown, hlen, hsm, h3, s3, names, hn1, hn2⟩
  have Hn2 := Lib.hid hn2
  clear hn2
  go_wp2_with fail
  go_ret
  have h12 := h1.trans h2
  exact ⟨l, v, rfl, hown.mono h12.size, hlen, hsm, h12.trans h3, s3.mono (by omega), names, by omega, Hn2.out⟩
theorem anyMarks_any (S : Nat) (B : Int) (w : World) (hs : Strm S B w) (hB : B ≤ 100000) :
    Calls Tryz.prog 9 #[.pointer (some ⟨S, 0, none⟩)] w (SomeMarks S (B + 2) w) := by
  refine (anyMarksN_any S B w hs hB).mono ?_
  rintro e w' ⟨l, v, h1, h2, h3, h4, h5, h6, _⟩
  exact ⟨l, v, h1, h2, h3, h4, h5, h6⟩
set_option maxHeartbeats 400000 in
theorem MarkPaper_any (S : Nat) (B : Int) (w : World) (hs : Strm S B w) (hB : B ≤ 1000000) : Calls Tryz.prog 17 #[.pointer (some ⟨S, 0, none⟩)] w (SomeStr S B w) := by
  have hS := hs.lt
  go_enter Tryz.func17, Tryz.ntmps17
  go_wp2_with fail
  refine (one_any S B _ 7 7 9 _ _ (hs.alloc _) (by omega) (Box.new _ _ _) (by omega) rfl (by omega) (by omega) (by simp; decide)).mono ?_
  rintro e w1 ⟨x, hx, rfl, h1, s1⟩
  go_wp2_with fail
  go_ret
  exact ⟨x, hx, rfl, ((Stp.refl _ _).alloc _).trans h1, s1⟩
set_option maxHeartbeats 400000 in
theorem MarkPerson_any (S : Nat) (B : Int) (w : World) (hs : Strm S B w) (hB : B ≤ 1000000) : Calls Tryz.prog 10 #[.pointer (some ⟨S, 0, none⟩)] w (SomeStr S B w) := by
  have hS := hs.lt
  go_enter Tryz.func10, Tryz.ntmps10
  go_wp2_with fail
  refine (one_any S B _ 6 6 9 _ _ (hs.alloc _) (by omega) (Box.new _ _ _) (by omega) rfl (by omega) (by omega) (by simp; decide)).mono ?_
  rintro e w1 ⟨x, hx, rfl, h1, s1⟩
  go_wp2_with fail
  go_ret
  exact ⟨x, hx, rfl, ((Stp.refl _ _).alloc _).trans h1, s1⟩
end Go.Proofs.YtaoomkkhpianlaaGreatDoor
