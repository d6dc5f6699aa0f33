/- Comparisons that order; what sorting by one gives. Plain. -/
import Derived.Test.YtnocceilpnmbpaaGreatDoorOrd
import Derived.Test.YtnocceilpnmbpaaGreatDoorList
import Derived.Test.YtnocceilpnmbpaaGreatDoorSortF
import Derived.Sort.AssemblyPlain
namespace Go.Proofs.YtnocceilpnmbpaaGreatDoor
open Go.RowKit Go.Sort
set_option linter.unusedVariables false
set_option linter.unusedSimpArgs false

/-- A comparison that orders. -/
structure TotC {α : Type} (c : α → α → Int) : Prop where
 neg : ∀ x y, c x y < 0 ↔ 0 < c y x
 trans : ∀ x y z, c x y ≤ 0 → c y z ≤ 0 → c x z ≤ 0
theorem TotC.pull {α β : Type} {c : α → α → Int} (h : TotC c) (f : β → α) : TotC (fun x y => c (f x) (f y)) := ⟨fun x y => h.neg _ _, fun x y z => h.trans _ _ _⟩
theorem TotC.lex {α : Type} {c d : α → α → Int} (h : TotC c) (k : TotC d) : TotC (fun x y => if c x y ≠ 0 then c x y else d x y) := by
 have n1 := h.neg
 refine ⟨fun x y => ?_, fun x y z h1 h2 => ?_⟩
 ·
  have a := n1 x y
  have b := n1 y x
  show (if c x y ≠ 0 then c x y else d x y) < 0 ↔ 0 < (if c y x ≠ 0 then c y x else d y x)
  split <;> split
  ·
   exact a
  ·
   omega
  ·
   omega
  ·
   exact k.neg x y
 ·
  show (if c x z ≠ 0 then c x z else d x z) ≤ 0
  have g1 : c x y ≤ 0 := by split at h1 <;> omega
  have g2 : c y z ≤ 0 := by split at h2 <;> omega
  have g3 := h.trans x y z g1 g2
  split
  ·
   exact g3
  ·
   rename_i h0
   have h0' : c x z = 0 := Classical.not_not.1 h0
   have e1 : c x y = 0 := by
    apply Classical.byContradiction
    intro e
    have := h.trans y z x g2 (by have := n1 x z; have := n1 z x; omega)
    have := n1 x y
    omega
   have e2 : c y z = 0 := by
    apply Classical.byContradiction
    intro e
    have := h.trans z x y (by have := n1 x z; have := n1 z x; omega) g1
    have := n1 y z
    omega
   rw [if_neg (fun e => e e1)] at h1
   rw [if_neg (fun e => e e2)] at h2
   exact k.trans x y z h1 h2
theorem TotC.swo {α : Type} {c : α → α → Int} (h : TotC c) : SWO (ltOf c) := by
 have n1 := h.neg
 refine ⟨fun x => ?_, fun x y z h1 h2 => ?_, fun x y z h1 h2 => ?_⟩
 ·
  have := n1 x x
  exact decide_eq_false (by omega)
 ·
  have g1 := of_decide_eq_true h1
  have g2 := of_decide_eq_true h2
  refine decide_eq_true ?_
  apply Classical.byContradiction
  intro e
  have := h.trans y z x (by omega) (by have := n1 x z; omega)
  have := n1 x y
  omega
 ·
  have g1 := of_decide_eq_false h1
  have g2 := of_decide_eq_false h2
  refine decide_eq_false ?_
  have := h.trans z y x (by have := n1 z y; have := n1 y z; omega) (by have := n1 x y; have := n1 y x; omega)
  have := n1 x z
  omega
theorem totC_int : TotC Lib.compareInt := by
 refine ⟨fun x y => ?_, fun x y z => ?_⟩
 ·
  unfold Lib.compareInt
  repeat' split
  all_goals omega
 ·
  unfold Lib.compareInt
  repeat' split
  all_goals omega
theorem totC_S : TotC cmpS := by
 refine ⟨fun x y => ?_, fun x y z h1 h2 => ?_⟩
 ·
  unfold cmpS
  rw [cmpB_lt, cmpB_gt]
 ·
  have le : ∀ a b : ByteArray, cmpS a b ≤ 0 ↔ ltS a b ∨ a = b := fun a b => by
   rw [← cmpS_lt, ← cmpS_zero]; omega
  rw [le] at h1 h2 ⊢
  rcases h1 with h1 | rfl
  ·
   rcases h2 with h2 | rfl
   ·
    exact .inl (ltS_trans h1 h2)
   ·
    exact .inl h1
  ·
   exact h2
/-- A list as slices.SortFunc of any size leaves it. -/
noncomputable def sortC {α : Type} [Inhabited α] (c : α → α → Int) (l : List α) : List α := (pdq (ltOf c) l.toArray 0 l.length (Lib.bitLen l.length) true true).toList
section
variable {α : Type} [Inhabited α] {c : α → α → Int}
theorem sortC_both (h : TotC c) (l : List α) : (sortC c l).length = l.length ∧ (sortC c l).Perm l ∧ (sortC c l).Pairwise (fun x y => c x y ≤ 0) := by
 obtain ⟨⟨h1, -, h2⟩, h3⟩ := pdq_sorts (ltOf c) h.swo l.toArray 0 l.length (Lib.bitLen l.length) true true (Nat.zero_le _) (by rw [List.size_toArray]; exact Nat.le_refl _) (Or.inl rfl)
 rw [List.size_toArray] at h1
 unfold sortC
 generalize pdq (ltOf c) l.toArray 0 l.length (Lib.bitLen l.length) true true = d at *
 have hl : d.toList.length = l.length := by rw [Array.length_toList]; exact h1
 refine ⟨hl, ?_, ?_⟩
 ·
  rw [Array.toList_extract, Array.toList_extract] at h2
  simp only [List.extract, Nat.sub_zero, List.drop_zero] at h2
  rw [List.take_of_length_le (by rw [hl]; exact Nat.le_refl _), List.take_of_length_le (Nat.le_refl _)] at h2
  exact h2
 ·
  rw [List.pairwise_iff_getElem]
  intro i j hi hj hij
  have hi' : i < d.size := by rw [Array.length_toList] at hi; exact hi
  have hj' : j < d.size := by rw [Array.length_toList] at hj; exact hj
  have h4 := h3 i j (Nat.zero_le _) hij (by rw [← hl]; exact hj)
  rw [getElem!_pos d i hi', getElem!_pos d j hj'] at h4
  have h5 : ¬ c d[j] d[i] < 0 := of_decide_eq_false h4
  have n1 := h.neg d[j] d[i]
  rw [Array.getElem_toList, Array.getElem_toList]
  omega
theorem sortC_len (h : TotC c) (l : List α) : (sortC c l).length = l.length := (sortC_both h l).1
end
end Go.Proofs.YtnocceilpnmbpaaGreatDoor
