/- Covered texts. Plain. -/
import Derived.Test.YthajoedabjfaaaaGreatDoorAuthQ
import Derived.Test.YthajoedabjfaaaaGreatDoorOverP
import Derived.Test.YthajoedabjfaaaaGreatDoorLine1
namespace Go.Proofs.YthajoedabjfaaaaGreatDoor
open Go.RowKit
set_option linter.unusedVariables false
set_option linter.unusedSimpArgs false

/-- How many bytes the code point at a place has. -/
def runeAt (s : ByteArray) (i : Nat) : Nat := runeN (s.extract i s.size)
theorem runeAt_pos {s : ByteArray} {i : Nat} (h : i < s.size) : 1 ≤ runeAt s i := runeN_pos (by rw [ByteArray.size_extract]; omega)
theorem runeAt_le (s : ByteArray) (i : Nat) : i < s.size → i + runeAt s i ≤ s.size := fun h => by
  have := runeN_le (s.extract i s.size)
  rw [ByteArray.size_extract] at this
  unfold runeAt
  omega
theorem runeAt_4 (s : ByteArray) (i : Nat) : runeAt s i ≤ 4 := Lib.decodeGo_le4 _
/-- What is written for the code point at a place. -/
def covP (s : ByteArray) (q : Nat → Nat → Bool) (i : Nat) : List UInt8 := if (wAt s i && q i (i + runeAt s i)) = true then List.replicate (runeAt s i) 120 else (s.extract i (i + runeAt s i)).data.toList
theorem covP_length (s : ByteArray) (q : Nat → Nat → Bool) {i : Nat} (h : i < s.size) : (covP s q i).length = runeAt s i := by
  unfold covP
  split
  · exact List.length_replicate
  · have e : s.size = s.data.toList.length := by simp
    have := runeAt_le s i h
    rw [extract_list, List.length_drop, List.length_take]; omega
def covF (s : ByteArray) (q : Nat → Nat → Bool) : Nat → Nat → List UInt8
  | 0, _ => []
  | f + 1, i => if i < s.size then covP s q i ++ covF s q f (i + runeAt s i) else []
def covL (s : ByteArray) (q : Nat → Nat → Bool) : List UInt8 := covF s q s.size 0
def covS (s : ByteArray) (q : Nat → Nat → Bool) : ByteArray := ⟨(covL s q).toArray⟩
/-- What stands at the place i: written so far is o. -/
def CovAt (s : ByteArray) (q : Nat → Nat → Bool) (i : Nat) (o : List UInt8) : Prop := o.length = i ∧ i ≤ s.size ∧ ∃ f, s.size ≤ i + f ∧ o ++ covF s q f i = covL s q
theorem CovAt.start (s : ByteArray) (q : Nat → Nat → Bool) : CovAt s q 0 [] := ⟨rfl, Nat.zero_le _, s.size, by omega, rfl⟩
theorem CovAt.next {s : ByteArray} {q : Nat → Nat → Bool} {i : Nat} {o : List UInt8} (h : CovAt s q i o) (hi : i < s.size) : CovAt s q (i + runeAt s i) (o ++ covP s q i) := by
  obtain ⟨h1, h2, f, h3, h4⟩ := h
  have hp := runeAt_pos hi
  refine ⟨by rw [List.length_append, covP_length s q hi, h1], runeAt_le s i hi, ?_⟩
  match f, h3, h4 with
  | 0, h3, _ => omega
  | f + 1, h3, h4 =>
    refine ⟨f, by omega, ?_⟩
    rw [List.append_assoc, ← h4]
    show _ = o ++ (if i < s.size then covP s q i ++ covF s q f (i + runeAt s i) else [])
    rw [if_pos hi]
theorem CovAt.done {s : ByteArray} {q : Nat → Nat → Bool} {i : Nat} {o : List UInt8} (h : CovAt s q i o) (hi : ¬ i < s.size) : o = covL s q := by
  obtain ⟨h1, h2, f, h3, h4⟩ := h
  rw [← h4]
  match f with
  | 0 => show o = o ++ []; rw [List.append_nil]
  | f + 1 =>
    show o = o ++ (if i < s.size then covP s q i ++ covF s q f (i + runeAt s i) else [])
    rw [if_neg hi, List.append_nil]
/-- Some give lies over the bytes from a to b. -/
def overG (gs : List Gv) (a b : Nat) : Bool := gs.any (fun g => decide (g.2.1 < (b : Int)) && decide ((a : Int) < g.2.2.1))
/-- The bytes that are hidden. -/
def hidG (gs : List Gv) (j : Nat) : Bool := gs.any (fun g => decide (g.2.1 ≤ (j : Int)) && decide ((j : Int) < g.2.2.1))
def GiveOk (n : Nat) (g : Gv) : Prop := 0 ≤ g.2.1 ∧ g.2.1 < g.2.2.1 ∧ g.2.2.1 ≤ n
def giveB (n : Nat) (g : Gv) : Bool := decide (g.2.1 < 0) || (decide (g.2.2.1 ≤ g.2.1) || decide ((n : Int) < g.2.2.1))
theorem giveB_ok {n : Nat} {g : Gv} (h : giveB n g = false) : GiveOk n g := by
  unfold giveB at h
  simp only [Bool.or_eq_false_iff, decide_eq_false_iff_not] at h
  exact ⟨by omega, by omega, by omega⟩
def coverE (s : ByteArray) (gs : List Gv) : Int := if bodyE s ≠ 0 then bodyE s else if gs.any (giveB s.size) = true then 1 else 0
theorem over_hid {gs : List Gv} {n a b : Nat} (hok : ∀ g ∈ gs, GiveOk n g) (hab : a < b) : overG gs a b = true ↔ ∃ j, a ≤ j ∧ j < b ∧ hidG gs j = true := by
  unfold overG hidG
  simp only [List.any_eq_true, Bool.and_eq_true, decide_eq_true_eq]
  constructor
  · rintro ⟨g, hg, h1, h2⟩
    obtain ⟨h3, h4, h5⟩ := hok g hg
    by_cases h6 : g.2.1 ≤ (a : Int)
    · exact ⟨a, Nat.le_refl _, hab, g, hg, h6, h2⟩
    · exact ⟨g.2.1.toNat, by omega, by omega, g, hg, by omega, by omega⟩
  · rintro ⟨j, h1, h2, g, hg, h3, h4⟩
    exact ⟨g, hg, by omega, by omega⟩
end Go.Proofs.YthajoedabjfaaaaGreatDoor
