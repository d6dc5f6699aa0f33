/- Keys: kit.IsKey of the program, KeyOf of the reference. -/
import Derived.Test.YthajoedabjfaaaaGreatDoorBase
import Derived.Test.YthajoedabjfaaaaGreatDoorShelf
import Derived.Shelf.Strings.SlTrimAscii
namespace Go.Proofs.YthajoedabjfaaaaGreatDoor
open Go.RowKit
set_option linter.unusedVariables false

/-- Byte n may stand at place j of a key. -/
def okN (j n : Nat) : Prop := (97 ≤ n ∧ n ≤ 122) ∨ (0 < j ∧ ((48 ≤ n ∧ n ≤ 57) ∨ n = 45 ∨ n = 95))
instance (j n : Nat) : Decidable (okN j n) := by unfold okN; infer_instance
/-- All bytes before place i may stand there. -/
def okTo (s : ByteArray) (i : Nat) : Prop := ∀ j, (h : j < s.size) → j < i → okN j s[j].toNat
instance (s : ByteArray) (i : Nat) : Decidable (okTo s i) := by unfold okTo; infer_instance
/-- A string is a key. -/
def keyB (s : ByteArray) : Bool := decide (1 ≤ s.size ∧ s.size ≤ 40 ∧ okTo s s.size)

theorem okTo_succ {s : ByteArray} {i : Nat} (h : i < s.size) : okTo s (i + 1) ↔ okTo s i ∧ okN i s[i].toNat := by
  constructor
  · intro h1
    exact ⟨fun j hj hl => h1 j hj (by omega), h1 i h (by omega)⟩
  · rintro ⟨h1, h2⟩ j hj hl
    by_cases e : j = i
    · subst e; exact h2
    · exact h1 j hj (by omega)


/-- All bytes of a string are in a set. -/
def allIn (s : ByteArray) (cs : List UInt8) : Bool := s.data.toList.all (fun c => cs.contains c)

theorem dropWhile_nil {p : UInt8 → Bool} (l : List UInt8) : l.dropWhile p = [] ↔ l.all p = true := by
  induction l with
  | nil => simp
  | cons x r ih => by_cases h : p x = true <;> simp [h, ih]
theorem trimS_nil (l cs : List UInt8) : Lib.trimS l cs = [] ↔ l.all (fun c => cs.contains c) = true := by
  unfold Lib.trimS Lib.trimLeftS Lib.trimRightS
  rw [dropWhile_nil, List.all_reverse]
  constructor
  · intro h
    have h2 : (l.reverse.dropWhile (fun c => cs.contains c)) = [] := by
      rcases hd : l.reverse.dropWhile (fun c => cs.contains c) with _ | ⟨x, r⟩
      · rfl
      · have hx := List.head?_dropWhile_not (fun c => cs.contains c) l.reverse
        rw [hd] at hx h
        simp at hx h
        exact absurd h.1 (by simp [hx])
    rw [dropWhile_nil, List.all_reverse] at h2
    exact h2
  · intro h
    have h2 : l.reverse.dropWhile (fun c => cs.contains c) = [] := by rw [dropWhile_nil, List.all_reverse]; exact h
    rw [h2]; rfl

end Go.Proofs.YthajoedabjfaaaaGreatDoor
