/- Agreement of the reference: the plain laws. -/
import Derived.Test.YtaoomkkhpianlaaGreatDoorAgree3
namespace Go.Proofs.YtaoomkkhpianlaaGreatDoor
open Go.RowKit Go.Sort
set_option linter.unusedVariables false
set_option linter.unusedSimpArgs false

/-- All scores of papers with two or more, of each rising. -/
def allS (l : List Mark) (ks : List ByteArray) : List Int := ks.flatMap (fun p => if 1 < (ofP l p).length then sortI (scL (ofP l p)) else [])
theorem allS_snoc (l : List Mark) (ks : List ByteArray) (p : ByteArray) : allS l (ks ++ [p]) = allS l ks ++ (if 1 < (ofP l p).length then sortI (scL (ofP l p)) else []) := by unfold allS; rw [List.flatMap_append]; simp
theorem sum1_append (a b : List Mark) : sum1 (a ++ b) = sum1 a + sum1 b := by unfold sum1; simp
theorem sum2_append (a b : List Mark) : sum2 (a ++ b) = sum2 a + sum2 b := by unfold sum2; simp
theorem sqI_append (a b : List Int) : sqI (a ++ b) = sqI a + sqI b := by unfold sqI; simp
theorem allS_is (l : List Mark) : ∀ ks, (allS l ks).length = (bigs l ks).length ∧ (allS l ks).sum = sum1 (bigs l ks) ∧ sqI (allS l ks) = sum2 (bigs l ks)
  | [] => by simp [allS, bigs, sum1, sum2, sqI]
  | p :: r => by
    obtain ⟨h1, h2, h3⟩ := allS_is l r
    have e1 : allS l (p :: r) = (if 1 < (ofP l p).length then sortI (scL (ofP l p)) else []) ++ allS l r := by unfold allS; rw [List.flatMap_cons]
    have e2 : bigs l (p :: r) = (if 1 < (ofP l p).length then ofP l p else []) ++ bigs l r := by unfold bigs; rw [List.flatMap_cons]
    rw [e1, e2]
    split
    · rw [List.length_append, List.length_append, List.sum_append, sum1_append, sqI_append, sum2_append, h1, h2, h3, sortI_length, perm_sum (sortI_perm _), sqI_perm (sortI_perm _), ← sum2_scL, ← sum1_scL]
      refine ⟨?_, rfl, rfl⟩
      unfold scL
      rw [List.length_map]
    · simpa using ⟨h1, h2, h3⟩
theorem allS_dif (l : List Mark) (ks : List ByteArray) : dif2 (allS l ks) (allS l ks) = apartI (bigs l ks) := by
  obtain ⟨h1, h2, h3⟩ := allS_is l ks
  rw [dif2_self, h1, h2, h3]; rfl
theorem allS_ok {l : List Mark} (h : okScores l) (ks : List ByteArray) : okI (allS l ks) := fun x hx => by
  obtain ⟨p, _, hp⟩ := List.mem_flatMap.1 hx
  split at hp
  · exact okI_sort (okI_scL (okScores_sel h)) x hp
  · cases hp
end Go.Proofs.YtaoomkkhpianlaaGreatDoor
