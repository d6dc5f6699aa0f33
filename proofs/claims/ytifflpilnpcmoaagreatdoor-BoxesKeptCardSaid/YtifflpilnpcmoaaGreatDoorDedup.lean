/- Lists without repeated neighbours; rising lists with the same members. Plain. -/
import Derived.Test.YtifflpilnpcmoaaGreatDoorTotC
namespace Go.Proofs.YtifflpilnpcmoaaGreatDoor
open Go.RowKit
set_option linter.unusedVariables false
set_option linter.unusedSimpArgs false

section
variable {α : Type} [DecidableEq α]
/-- The place k of a list differs from the one ahead of it. -/
def keepD (l : List α) (k : Nat) : Bool := decide (k = 0 ∨ l[k]? ≠ l[k - 1]?)
def dedTo (l : List α) : Nat → List α
  | 0 => []
  | k + 1 => dedTo l k ++ if keepD l k = true then l[k]?.toList else []
/-- A list without repeated neighbours. -/
def dedL (l : List α) : List α := dedTo l l.length
theorem dedTo_yes {l : List α} {k : Nat} (hk : k < l.length) (h : keepD l k = true) : dedTo l (k + 1) = dedTo l k ++ [l[k]] := by
  show dedTo l k ++ (if keepD l k = true then l[k]?.toList else []) = _
  rw [if_pos h, List.getElem?_eq_getElem hk]
  rfl
theorem dedTo_no {l : List α} {k : Nat} (h : keepD l k = false) : dedTo l (k + 1) = dedTo l k := by
  show dedTo l k ++ (if keepD l k = true then l[k]?.toList else []) = _
  rw [if_neg (by rw [h]; decide), List.append_nil]
theorem dedTo_all {l : List α} : ∀ k, k ≤ l.length → (∀ j, j < k → keepD l j = true) → dedTo l k = l.take k
  | 0, _, _ => by simp [dedTo]
  | k + 1, hk, h => by
    rw [dedTo_yes (by omega) (h k (Nat.lt_succ_self k)), dedTo_all k (by omega) (fun j hj => h j (by omega)), List.take_succ_eq_append_getElem (by omega)]
theorem dedTo_len (l : List α) : ∀ k, (dedTo l k).length ≤ k
  | 0 => Nat.le_refl _
  | k + 1 => by
    have := dedTo_len l k
    show (dedTo l k ++ (if keepD l k = true then l[k]?.toList else [])).length ≤ k + 1
    rw [List.length_append]
    split
    · have : l[k]?.toList.length ≤ 1 := by cases l[k]? <;> simp
      omega
    · simp; omega
theorem keepD_succ {l : List α} {p : Nat} (h : p + 1 < l.length) : keepD l (p + 1) = !decide (l[p + 1] = l[p]) := by
  unfold keepD
  rw [Nat.add_sub_cancel, List.getElem?_eq_getElem h, List.getElem?_eq_getElem (by omega), Bool.eq_iff_iff]
  simp
theorem keepD_zero (l : List α) : keepD l 0 = true := by unfold keepD; simp
theorem dedL_short {l : List α} (h : l.length < 2) : dedL l = l := by
  unfold dedL
  rw [dedTo_all _ (Nat.le_refl _) (fun j hj => ?_), List.take_length]
  obtain rfl : j = 0 := by omega
  exact keepD_zero l
theorem dedTo_mem {l : List α} : ∀ k, k ≤ l.length → ∀ x, x ∈ dedTo l k ↔ x ∈ l.take k
  | 0, _, x => by simp [dedTo]
  | k + 1, hk, x => by
    rw [List.take_succ_eq_append_getElem (by omega), List.mem_append, List.mem_singleton]
    cases h : keepD l k
    · rw [dedTo_no h, dedTo_mem k (by omega)]
      constructor
      · exact .inl
      · rintro (h1 | rfl)
        · exact h1
        · cases k with
          | zero => rw [keepD_zero] at h; cases h
          | succ k =>
            rw [keepD_succ (by omega)] at h
            have e : l[k + 1] = l[k] := by simpa using h
            rw [e]
            exact List.mem_take_iff_getElem.2 ⟨k, by omega, rfl⟩
    · rw [dedTo_yes (by omega) h, List.mem_append, List.mem_singleton, dedTo_mem k (by omega)]
theorem dedL_mem {l : List α} (x : α) : x ∈ dedL l ↔ x ∈ l := by
  unfold dedL
  rw [dedTo_mem _ (Nat.le_refl _), List.take_length]
/-- Sorted, it rises. -/
theorem dedTo_rise {c : α → α → Int} (hc : TotC c) (h0 : ∀ x y, c x y = 0 → x = y) {l : List α} (hl : l.Pairwise (fun x y => c x y ≤ 0)) : ∀ k, k ≤ l.length → (dedTo l k).Pairwise (fun x y => c x y < 0)
  | 0, _ => by simp [dedTo]
  | k + 1, hk => by
    have hs := List.pairwise_iff_getElem.1 hl
    cases h : keepD l k
    · rw [dedTo_no h]; exact dedTo_rise hc h0 hl k (by omega)
    · rw [dedTo_yes (by omega) h, List.pairwise_append]
      refine ⟨dedTo_rise hc h0 hl k (by omega), List.pairwise_singleton _ _, fun x hx y hy => ?_⟩
      rw [List.mem_singleton] at hy
      subst hy
      rw [dedTo_mem k (by omega)] at hx
      obtain ⟨j, hj, rfl⟩ := List.mem_take_iff_getElem.1 hx
      have hjk : j < k := by omega
      have h1 := hs j k (by omega) (by omega) hjk
      apply Classical.byContradiction
      intro hn
      have e := h0 _ _ (by omega : c l[j] l[k] = 0)
      cases k with
      | zero => omega
      | succ k =>
        rw [keepD_succ (by omega)] at h
        have hne : l[k + 1] ≠ l[k] := by simpa using h
        have h2 := hs k (k + 1) (by omega) (by omega) (by omega)
        have h3 : c l[j] l[k] ≤ 0 := by
          by_cases e' : j = k
          · subst e'
            have := hc.neg l[j] l[j]
            omega
          · exact hs j k (by omega) (by omega) (by omega)
        rw [e] at h3
        have n1 := hc.neg l[k] l[k + 1]
        have n2 := hc.neg l[k + 1] l[k]
        exact hne (h0 _ _ (by omega))
theorem dedL_rise {c : α → α → Int} (hc : TotC c) (h0 : ∀ x y, c x y = 0 → x = y) {l : List α} (hl : l.Pairwise (fun x y => c x y ≤ 0)) : (dedL l).Pairwise (fun x y => c x y < 0) := dedTo_rise hc h0 hl _ (Nat.le_refl _)
end
/-- Two rising lists with the same members are the same. -/
theorem rise_same {α : Type} {r : α → α → Prop} (has : ∀ x y, r x y → r y x → False) : ∀ l m : List α, l.Pairwise r → m.Pairwise r → (∀ x, x ∈ l ↔ x ∈ m) → l = m
  | [], [], _, _, _ => rfl
  | [], y :: m, _, _, h => absurd ((h y).2 (List.mem_cons_self ..)) (by simp)
  | x :: l, [], _, _, h => absurd ((h x).1 (List.mem_cons_self ..)) (by simp)
  | x :: l, y :: m, hl, hm, h => by
    rw [List.pairwise_cons] at hl hm
    have e : x = y := by
      rcases List.mem_cons.1 ((h x).1 (List.mem_cons_self ..)) with e | hx
      · exact e
      · rcases List.mem_cons.1 ((h y).2 (List.mem_cons_self ..)) with e | hy
        · exact e.symm
        · exact (has _ _ (hl.1 y hy) (hm.1 x hx)).elim
    subst e
    congr 1
    refine rise_same has l m hl.2 hm.2 (fun z => ?_)
    have hz := h z
    constructor
    · intro hzl
      rcases List.mem_cons.1 (hz.1 (List.mem_cons_of_mem _ hzl)) with e | hzm
      · subst e; exact (has _ _ (hl.1 z hzl) (hl.1 z hzl)).elim
      · exact hzm
    · intro hzm
      rcases List.mem_cons.1 (hz.2 (List.mem_cons_of_mem _ hzm)) with e | hzl
      · subst e; exact (has _ _ (hm.1 z hzm) (hm.1 z hzm)).elim
      · exact hzl
end Go.Proofs.YtifflpilnpcmoaaGreatDoor
