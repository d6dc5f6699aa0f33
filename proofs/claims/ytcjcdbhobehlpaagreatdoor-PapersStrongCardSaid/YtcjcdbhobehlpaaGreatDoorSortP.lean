/- The library's sorts of strings; sorted; the keys of a map. -/
import Derived.Test.YtcjcdbhobehlpaaGreatDoorOrd
import Derived.Test.YtcjcdbhobehlpaaGreatDoorStrs
import Derived.Sort.OwnSorted
import Derived.Lib.SlicesCompact
namespace Go.Proofs.YtcjcdbhobehlpaaGreatDoor
open Go.RowKit Go.Sort
set_option linter.unusedVariables false
set_option linter.unusedSimpArgs false

/-- A string of bytes. -/
def ofL (x : List UInt8) : ByteArray := ⟨x.toArray⟩
/-- The bytes of a string. -/
def toL (s : ByteArray) : List UInt8 := s.data.toList
theorem ofL_toL (s : ByteArray) : ofL (toL s) = s := by obtain ⟨⟨x⟩⟩ := s; rfl
theorem toL_ofL (x : List UInt8) : toL (ofL x) = x := rfl
theorem enc_toL (l : List ByteArray) : (l.map toL).map encStr = l.flatMap Cel.cells := by
 rw [← strs_flat, List.map_map]
 apply List.map_congr_left
 intro s _
 show Value.string ⟨s.data.toList.toArray⟩ = Value.string s
 rw [Array.toArray_toList]
theorem enc_ofL (l : List (List UInt8)) : l.map encStr = (l.map ofL).flatMap Cel.cells := by
 rw [← strs_flat, List.map_map]; rfl
/-- Strings in their order. -/
def sortS (l : List ByteArray) : List ByteArray := (((l.map toL).mergeSort (fun x y => decide (x ≤ y))).map ofL)
theorem sortS_length (l : List ByteArray) : (sortS l).length = l.length := by simp [sortS]
theorem sortS_mem (l : List ByteArray) (p : ByteArray) : p ∈ sortS l ↔ p ∈ l := by
 unfold sortS
 rw [List.mem_map]
 constructor
 ·
  rintro ⟨x, hx, rfl⟩
  rw [List.mem_mergeSort, List.mem_map] at hx
  obtain ⟨y, hy, rfl⟩ := hx
  rw [ofL_toL]; exact hy
 ·
  intro h
  exact ⟨toL p, by rw [List.mem_mergeSort]; exact List.mem_map_of_mem h, ofL_toL p⟩
theorem sorted_le (l : List (List UInt8)) : (l.mergeSort (fun x y => decide (x ≤ y))).Pairwise (fun x y => x ≤ y) := by
 have h := List.pairwise_mergeSort (le := fun x y : List UInt8 => decide (x ≤ y)) (fun a b c h1 h2 => by simp only [decide_eq_true_eq] at *; exact List.le_trans h1 h2) (fun a b => by simp only [Bool.or_eq_true, decide_eq_true_eq]; exact List.le_total a b) l
 exact h.imp (fun h => by simpa using h)
theorem le_ltS {x y : List UInt8} (h : x ≤ y) (hne : x ≠ y) : ltS (ofL x) (ofL y) := by
 rcases ltS_tri (ofL x) (ofL y) with k | k | k
 ·
  exact k
 ·
  exact absurd (congrArg toL k) hne
 ·
  exact absurd h (List.not_le.2 k)
theorem rise_sorted (l : List (List UInt8)) (hn : l.Nodup) : Rise ((l.mergeSort (fun x y => decide (x ≤ y))).map ofL) := by
 unfold Rise
 rw [List.pairwise_map]
 have h1 := sorted_le l
 have h2 : (l.mergeSort (fun x y => decide (x ≤ y))).Nodup := (List.mergeSort_perm l _).nodup_iff.2 hn
 exact (h1.and h2).imp (fun {a b} h => le_ltS h.1 h.2)
theorem compact_mem (l : List (List UInt8)) (p : List UInt8) : p ∈ Lib.compact l ↔ p ∈ l := by
 unfold Lib.compact
 have key : ∀ m, m ≤ l.length → (p ∈ Lib.compactUpTo l.toArray m ↔ p ∈ l.take m) := by
  intro m
  induction m with
  | zero => simp [Lib.compactUpTo]
  | succ m ih =>
   intro hm
   have hml : m < l.length := by omega
   rw [Lib.compactUpTo_succ, List.mem_append, ih (by omega), List.take_succ_eq_append_getElem hml, List.mem_append, List.mem_singleton]
   have hg : l.toArray[m]! = l[m] := by simp [hml]
   by_cases hk : Lib.keeps l.toArray m = true
   ·
    rw [if_pos hk, List.mem_singleton, hg]
   ·
    rw [if_neg hk]
    constructor
    ·
     rintro (h | h)
     ·
      exact .inl h
     ·
      simp at h
    ·
     rintro (h | h)
     ·
      exact .inl h
     ·
      left
      have h0 : m ≠ 0 := fun e => hk (by simp [Lib.keeps, e])
      have hne : l.toArray[m]! = l.toArray[m - 1]! := by
       apply Classical.byContradiction
       intro hc
       exact hk (Lib.keeps_pos hc)
      rw [hg] at hne
      have hg2 : l.toArray[m - 1]! = l[m - 1] := by simp [show m - 1 < l.length by omega]
      rw [h, hne, hg2]
      exact List.mem_take_iff_getElem.2 ⟨m - 1, by omega, rfl⟩
 have := key l.length (Nat.le_refl _)
 rwa [List.take_length] at this
theorem compact_rise (l : List (List UInt8)) (h : l.Pairwise (fun x y => x ≤ y)) : Rise ((Lib.compact l).map ofL) := by
 unfold Lib.compact
 have key : ∀ m, m ≤ l.length → Rise ((Lib.compactUpTo l.toArray m).map ofL) ∧ ∀ z ∈ Lib.compactUpTo l.toArray m, z ∈ l.take m := by
  intro m
  induction m with
  | zero => intro _; exact ⟨List.Pairwise.nil, by simp [Lib.compactUpTo]⟩
  | succ m ih =>
   intro hm
   have hml : m < l.length := by omega
   obtain ⟨i1, i2⟩ := ih (by omega)
   have hg : l.toArray[m]! = l[m] := by simp [hml]
   rw [Lib.compactUpTo_succ]
   by_cases hk : Lib.keeps l.toArray m = true
   ·
    rw [if_pos hk, hg]
    refine ⟨?_, fun z hz => ?_⟩
    ·
     unfold Rise
     rw [List.map_append, List.pairwise_append]
     refine ⟨i1, List.pairwise_singleton _ _, ?_⟩
     intro a ha b hb
     obtain ⟨u, hu, rfl⟩ := List.mem_map.1 ha
     simp at hb
     subst hb
     obtain ⟨j, hj, hju⟩ := List.mem_take_iff_getElem.1 (i2 u hu)
     have hjm : j < m := by omega
     subst hju
     refine le_ltS (List.pairwise_iff_getElem.1 h j m (by omega) hml hjm) (fun e => ?_)
     have h0 : m ≠ 0 := by omega
     have hp : l.toArray[m - 1]! = l[m - 1] := by simp [show m - 1 < l.length by omega]
     have hne : l[m] ≠ l[m - 1] := by
      simp only [Lib.keeps, decide_eq_true_eq, h0, false_or] at hk
      rw [hg, hp] at hk; exact hk
     apply hne
     by_cases hj1 : j = m - 1
     ·
      subst hj1; exact e.symm
     ·
      have h1 := List.pairwise_iff_getElem.1 h j (m - 1) (by omega) (by omega) (by omega)
      have h2 := List.pairwise_iff_getElem.1 h (m - 1) m (by omega) hml (by omega)
      rw [e] at h1
      exact List.le_antisymm h1 h2
    ·
     rw [List.mem_append] at hz
     rw [List.take_succ_eq_append_getElem hml, List.mem_append]
     rcases hz with hz | hz
     ·
      exact .inl (i2 z hz)
     ·
      exact .inr hz
   ·
    rw [if_neg hk, List.append_nil]
    exact ⟨i1, fun z hz => by rw [List.take_succ_eq_append_getElem hml, List.mem_append]; exact .inl (i2 z hz)⟩
 exact (key l.length (Nat.le_refl _)).1
theorem compact_sort (l : List ByteArray) : (Lib.compact ((l.map toL).mergeSort (fun x y => decide (x ≤ y)))).map ofL = keysS l := by
 refine keysS_is (compact_rise _ (sorted_le _)) (fun p => ?_)
 rw [List.mem_map]
 constructor
 ·
  rintro ⟨x, hx, rfl⟩
  rw [compact_mem, List.mem_mergeSort, List.mem_map] at hx
  obtain ⟨y, hy, rfl⟩ := hx
  rw [ofL_toL]; exact hy
 ·
  intro h
  exact ⟨toL p, by rw [compact_mem, List.mem_mergeSort]; exact List.mem_map_of_mem h, ofL_toL p⟩
end Go.Proofs.YtcjcdbhobehlpaaGreatDoor
