/- What a forest without faults is; CheckForest of the program. -/
import Derived.Test.YtfpoaggkjhcdnaaDoorForest
namespace Go.Proofs.YtfpoaggkjhcdnaaDoor
open Go.RowKit
set_option linter.unusedVariables false

theorem bl_eq : ∀ (x y : List UInt8), Op.bytesLess x y = decide (x < y)
  | _, [] => by simp [Op.bytesLess]
  | [], _ :: _ => by simp [Op.bytesLess]
  | a :: x, b :: y => by
    rw [Op.bytesLess, bl_eq x y, Bool.eq_iff_iff]
    simp [List.cons_lt_cons_iff]
theorem bl_trans {x y z : List UInt8} (h : Op.bytesLess x y = true) (k : Op.bytesLess y z = true) : Op.bytesLess x z = true := by
  rw [bl_eq, decide_eq_true_eq] at *
  exact List.lt_trans h k
theorem bl_irrefl (x : List UInt8) : Op.bytesLess x x = false := by
  rw [bl_eq, decide_eq_false_iff_not]; exact List.lt_irrefl x
theorem bl_total {x y : List UInt8} (h : (Op.bytesLess x y || x == y) = false) : Op.bytesLess y x = true := by
  rw [bl_eq] at *
  rw [Bool.or_eq_false_iff, decide_eq_false_iff_not, beq_eq_false_iff_ne] at h
  rw [decide_eq_true_eq]
  have h1 : y ≤ x := List.not_lt.1 h.1
  exact Std.lt_of_le_of_ne h1 (Ne.symm h.2)

theorem f1_zero {l : List Topic} {i : Nat} (hi : i < l.length) (h : f1 l i = 0) : nameBad l[i] = false ∧ (∀ j, (hj : i = j + 1) → leB l[i].1 (l[j]'(by omega)).1 = false) := by
  unfold f1 at h
  rw [List.getElem?_eq_getElem hi] at h
  simp only at h
  cases hb : nameBad l[i]
  · refine ⟨rfl, fun j hj => ?_⟩
    rw [hb] at h
    subst hj
    simp only [Bool.false_eq_true, if_false] at h
    cases hl : leB l[j + 1].1 (l[j]'(by omega)).1
    · rfl
    · exfalso
      rw [Nat.add_sub_cancel, List.getD_eq_getElem?_getD, List.getElem?_eq_getElem (show j < l.length by omega)] at h
      simp [hl] at h
  · rw [hb] at h; simp at h

/-- The keys rise. -/
theorem rises {l : List Topic} {n : Nat} (h : ∀ j, j < n → f1 l j = 0) (hn : n ≤ l.length) (i k : Nat) (hik : i < k) (hk : k < n) : Op.bytesLess (l[i]'(by omega)).1.toList (l[k]'(by omega)).1.toList = true := by
  induction k with
  | zero => omega
  | succ k ih =>
    have h1 := (f1_zero (show k + 1 < l.length by omega) (h (k + 1) hk)).2 k rfl
    have h2 := bl_total h1
    by_cases e : i = k
    · subst e; exact h2
    · exact bl_trans (ih (by omega) (by omega)) h2

theorem rises_ne {l : List Topic} {n : Nat} (h : ∀ j, j < n → f1 l j = 0) (hn : n ≤ l.length) (i k : Nat) (hik : i < k) (hk : k < n) : (l[i]'(by omega)).1 ≠ (l[k]'(by omega)).1 := fun e => by
  have := rises h hn i k hik hk
  rw [e, bl_irrefl] at this
  cases this

theorem rises_take {l : List Topic} {k : Nat} (h : ∀ j, j < k + 1 → f1 l j = 0) (hk : k < l.length) : ∀ t ∈ l.take k, t.1 ≠ l[k].1 := by
  intro t ht
  obtain ⟨i, hi, rfl⟩ := List.mem_take_iff_getElem.1 ht
  exact rises_ne h (by omega) i k (by omega) (by omega)

theorem f1_once {l : List Topic} (h : ∀ j, j < l.length → f1 l j = 0) : ForestPure.Once l := by
  unfold ForestPure.Once
  rw [List.nodup_iff_pairwise_ne, List.pairwise_iff_getElem]
  intro i j hi hj hij
  simp at hi hj ⊢
  exact rises_ne h (Nat.le_refl _) i j hij hj

theorem f1_keys {l : List Topic} (h : ∀ j, j < l.length → f1 l j = 0) : ∀ t ∈ l, t.1 ≠ e0 := by
  intro t ht he
  obtain ⟨i, hi, rfl⟩ := List.mem_iff_getElem.1 ht
  have := (f1_zero hi (h i hi)).1
  unfold nameBad at this
  rw [he] at this
  have hk : keyB e0 = false := by decide
  simp [hk] at this

theorem f2_closed {l : List Topic} (h : ∀ j, j < l.length → f2 l j = 0) : ForestPure.Closed e0 l := by
  intro t ht
  obtain ⟨i, hi, rfl⟩ := List.mem_iff_getElem.1 ht
  have h1 := h i hi
  unfold f2 at h1
  rw [List.getElem?_eq_getElem hi] at h1
  by_cases he : l[i].2 = e0
  · exact .inl he
  · right
    have hq : l[i].2.toList.isEmpty = false := by
      cases hh : l[i].2.toList.isEmpty
      · rfl
      · exact absurd (toList_empty.1 hh) he
    cases ho : ForestPure.topicOf l l[i].2 with
    | none => simp [hq, ho] at h1
    | some t => exact ⟨t, (ForestPure.topicOf_some ho).1, (ForestPure.topicOf_some ho).2⟩

/-- The third loop, as the program asks. -/
theorem f3_iter {l : List Topic} (hk : ∀ t ∈ l, t.1 ≠ e0) (ho : ForestPure.Once l) {i : Nat} (hi : i < l.length) :
    (∃ j, j < l.length ∧ ForestPure.iterUp e0 l j l[i].2 = l[i].1) ↔ f3 l i = 14 := by
  unfold f3
  rw [List.getElem?_eq_getElem hi]
  have ht : ForestPure.topicOf l l[i].1 = some l[i] := ForestPure.topicOf_mem ho (List.getElem_mem hi)
  have h1 : (ForestPure.aboveN l (l.length + 1) l[i].1).tail = ForestPure.aboveN l l.length l[i].2 := by
    rw [ForestPure.aboveN, ht]; rfl
  simp only [h1]
  rw [← ForestPure.mem_aboveN hk ⟨l[i], List.getElem_mem hi, rfl⟩]
  constructor
  · intro h
    rw [if_pos]
    exact List.any_eq_true.2 ⟨_, h, by simp⟩
  · intro h
    by_cases hh : (ForestPure.aboveN l l.length l[i].2).any (fun y => decide (y = l[i].1)) = true
    · obtain ⟨y, hy, he⟩ := List.any_eq_true.1 hh
      have : y = l[i].1 := by simpa using he
      rwa [← this]
    · rw [if_neg hh] at h; cases h

theorem f3_or (l : List Topic) (i : Nat) : f3 l i = 0 ∨ f3 l i = 14 := by
  unfold f3; split
  · exact .inl rfl
  · split
    · exact .inr rfl
    · exact .inl rfl

theorem f3_noLoop {l : List Topic} (hk : ∀ t ∈ l, t.1 ≠ e0) (ho : ForestPure.Once l) (h : ∀ j, j < l.length → f3 l j = 0) : ForestPure.NoLoop e0 l := by
  intro t ht j hj he
  obtain ⟨i, hi, rfl⟩ := List.mem_iff_getElem.1 ht
  have := (f3_iter hk ho hi).1 ⟨j, hj, he⟩
  rw [h i hi] at this
  cases this

theorem rightF_of {l : List Topic} (h1 : ∀ j, j < l.length → f1 l j = 0) (h2 : ∀ j, j < l.length → f2 l j = 0) (h3 : ∀ j, j < l.length → f3 l j = 0) : RightF l :=
  ⟨f1_keys h1, f1_once h1, f2_closed h2, f3_noLoop (f1_keys h1) (f1_once h1) h3⟩

theorem firstErr_zeros {f : Nat → Int} {n : Nat} (h : firstErr f n = 0) : ∀ j, j < n → f j = 0 := by
  induction n with
  | zero => intro j hj; omega
  | succ n ih =>
    rw [firstErr] at h
    by_cases hz : firstErr f n = 0
    · simp [hz] at h
      exact zeros_succ (ih hz) h
    · simp [hz] at h

theorem fault_zero {l : List Topic} (h : forestFault l = 0) : l.length ≤ 100 ∧ RightF l ∧ (∀ j, j < l.length → f4 l j = 0) := by
  unfold forestFault at h
  by_cases h100 : 100 < l.length
  · simp [h100] at h
  · simp only [h100, if_false, firstOf] at h
    by_cases g1 : firstErr (f1 l) l.length = 0
    · by_cases g2 : firstErr (f2 l) l.length = 0
      · by_cases g3 : firstErr (f3 l) l.length = 0
        · by_cases g4 : firstErr (f4 l) l.length = 0
          · exact ⟨by omega, rightF_of (firstErr_zeros g1) (firstErr_zeros g2) (firstErr_zeros g3), firstErr_zeros g4⟩
          · simp [g1, g2, g3, g4] at h
        · simp [g1, g2, g3] at h
      · simp [g1, g2] at h
    · simp [g1] at h
end Go.Proofs.YtfpoaggkjhcdnaaDoor
