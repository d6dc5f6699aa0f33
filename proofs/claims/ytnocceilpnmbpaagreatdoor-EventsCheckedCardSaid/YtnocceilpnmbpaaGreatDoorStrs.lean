/- The library's slices of strings: Clone, Equal. -/
import Derived.Test.YtnocceilpnmbpaaGreatDoorList
namespace Go.Proofs.YtnocceilpnmbpaaGreatDoor
open Go.RowKit
set_option linter.unusedVariables false

theorem ArrAt.getD {w : World} {b off : Nat} {l : List ByteArray} (h : ArrAt w b off l) : ∀ j, j < l.length → w.cell? ⟨b, off + j, none⟩ = some (.string (l.getD j ByteArray.empty)) := fun j hj => by
 have := h j 0 l[j] (List.getElem?_eq_getElem hj) (by decide)
 rw [show off + (j * Cel.k ByteArray + 0) = off + j from by show off + (j * 1 + 0) = _; omega] at this
 rw [this, List.getD_eq_getElem?_getD, List.getElem?_eq_getElem hj]
 rfl
theorem strs_flat (l : List ByteArray) : l.map Value.string = l.flatMap Cel.cells := by
 induction l with
 | nil => rfl
 | cons x r ih => rw [List.map_cons, List.flatMap_cons, ih]; rfl
theorem clone_any (l : List ByteArray) (a : Option Addr) (cap : Nat) (w : World) (h : SA w a l) (hlen : l.length ≤ 1000000000) :
  Calls Tryz.prog 42 #[.slice a l.length cap] w (GivesOwn 9 l w) := by
 cases a with
 | none =>
  rcases h with rfl | ⟨b, off, h, _⟩
  ·
   refine (Tryz.slices_Clone_string_nil 0 cap w).mono ?_
   rintro e w' ⟨rfl, rfl⟩
   exact ⟨_, rfl, Own.nil _ _ _, Below.refl _ _⟩
  ·
   cases h
 | some x =>
  rcases h with rfl | ⟨b, off, h, ha⟩
  ·
   refine (Tryz.slices_Clone_string_zero x cap w).mono ?_
   rintro e w' ⟨v, rfl, h1, _, h2⟩
   exact ⟨v, rfl, h1, h2⟩
  ·
   cases h
   refine (Tryz.slices_Clone_string b off l.length cap l w (Nat.le_refl _) (by omega) ha.getD).mono ?_
   rintro e w' ⟨v, rfl, h1, _, h2⟩
   rw [List.take_length, strs_flat] at h1
   exact ⟨v, rfl, h1, h2⟩
theorem equal_any (l m : List ByteArray) (a a2 : Option Addr) (cap cap2 : Nat) (w : World) (h : SA w a l) (h2 : SA w a2 m) (hlen : l.length ≤ 1000000000) (hlen2 : m.length ≤ 1000000000) :
  Calls Tryz.prog 23 #[.slice a l.length cap, .slice a2 m.length cap2] w (Draws (.bool (decide (l = m))) w) := by
 rcases h with rfl | ⟨b, off, rfl, ha⟩
 ·
  refine (Tryz.slices_Equal_string_empty a a2 cap m.length cap2 w (by omega)).mono ?_
  rintro e w' ⟨rfl, rfl⟩
  refine ⟨?_, 0, rfl⟩
  congr 2
  rw [Bool.eq_iff_iff]
  cases m <;> simp
 ·
  rcases h2 with rfl | ⟨b2, off2, rfl, ha2⟩
  ·
   by_cases hl : l = []
   ·
    subst hl
    refine (Tryz.slices_Equal_string_empty _ a2 cap 0 cap2 w (by omega)).mono ?_
    rintro e w' ⟨rfl, rfl⟩
    exact ⟨rfl, 0, rfl⟩
   ·
    refine (Tryz.slices_Equal_string_lens _ a2 l.length cap 0 cap2 w (by simpa using hl)).mono ?_
    rintro e w' ⟨rfl, rfl⟩
    exact ⟨by simp [hl], 0, rfl⟩
  ·
   refine (Tryz.slices_Equal_string b off l.length cap b2 off2 m.length cap2 l m w (Nat.le_refl _) (Nat.le_refl _) (by omega) (by omega) ha.getD ha2.getD).mono ?_
   rintro e w' ⟨rfl, n, rfl⟩
   exact ⟨by rw [List.take_length, List.take_length], n, rfl⟩
end Go.Proofs.YtnocceilpnmbpaaGreatDoor
