/- Above, Below, Meet and Near of the program; slices.Clone and slices.Equal of strings. -/
import Derived.Test.YtpgofjjcmldhpaaGreatDoorStrs
import Derived.Test.YtpgofjjcmldhpaaGreatDoorTopic4
namespace Go.Proofs.YtpgofjjcmldhpaaGreatDoor
open Go.RowKit
set_option linter.unusedVariables false


theorem Box.sa1 {w : World} {b : Nat} {T : TypeId} {x : ByteArray} (h : Box w b T #[.string x]) : SA w (some ⟨b, 0, none⟩) [x] := .inr ⟨b, 0, rfl, fun i j y hy hj => by
  cases i with
  | zero =>
    simp at hy
    subst hy
    have : j = 0 := by have : Cel.k ByteArray = 1 := rfl; omega
    subst this
    exact (h.cell 0).trans rfl
  | succ i => simp at hy⟩
theorem Box.sa2 {w : World} {b : Nat} {T : TypeId} {x y : ByteArray} (h : Box w b T #[.string x, .string y]) : SA w (some ⟨b, 0, none⟩) [x, y] := .inr ⟨b, 0, rfl, fun i j z hz hj => by
  have : j = 0 := by have : Cel.k ByteArray = 1 := rfl; omega
  subst this
  have hk : ∀ i, 0 + (i * Cel.k ByteArray + 0) = i := fun i => by show 0 + (i * 1 + 0) = i; omega
  rw [hk]
  match i, hz with
  | 0, hz => simp at hz; subst hz; exact (h.cell 0).trans rfl
  | 1, hz => simp at hz; subst hz; exact (h.cell 1).trans rfl⟩

theorem ab_pos {l : List Topic} {k : ByteArray} (h : (ForestPure.topicOf l k).isNone = false) : 1 ≤ (ab l k).length := by
  unfold ab
  rw [ForestPure.aboveN]
  cases ho : ForestPure.topicOf l k with
  | none => rw [ho] at h; cases h
  | some t => simp
theorem knownE_pos {l : List Topic} {p q : ByteArray} (h : knownE l [p, q] = 0) : 1 ≤ (ab l p).length := by
  refine ab_pos ?_
  unfold knownE at h
  split at h
  · exact absurd h ‹_›
  · split at h
    · cases h
    · rename_i h2
      cases ho : (ForestPure.topicOf l p).isNone
      · rfl
      · exact absurd (by simp [ho]) h2

/-- A value and an error code. -/
def GivesStrs (l : List ByteArray) (er : Int) (w : World) (e : Ending) (w' : World) : Prop :=
  Below w.heap.size w w' ∧ ∃ v ls, e = .returned (.tuple #[v, .int .i64 er]) ∧ Rds w' v ls ∧ ls.length ≤ 1000001 ∧ (er = 0 → ls = l)
def GivesVal (u z : Value) (er : Int) (w : World) (e : Ending) (w' : World) : Prop :=
  Below w.heap.size w w' ∧ e = .returned (.tuple #[if er = 0 then u else z, .int .i64 er])

end Go.Proofs.YtpgofjjcmldhpaaGreatDoor
