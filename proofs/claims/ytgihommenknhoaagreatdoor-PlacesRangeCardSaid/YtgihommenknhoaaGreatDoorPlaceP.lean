/- The best and the worst place of a paper: plain laws. -/
import Derived.Test.YtgihommenknhoaaGreatDoorOrder
namespace Go.Proofs.YtgihommenknhoaaGreatDoor
open Go.RowKit Go.Sort
set_option linter.unusedVariables false
set_option linter.unusedSimpArgs false

theorem fault_at {l : List Mark} (h : marksFault l = 0) (i : Nat) (hi : i < l.length) : markE cntM l i = 0 := by
  unfold marksFault at h
  split at h
  · cases h
  · exact firstErr_all h i hi
theorem fault_keys {l : List Mark} (h : marksFault l = 0) : ∀ x ∈ l, keyB x.1 = true ∧ keyB x.2.1 = true := by
  intro x hx
  obtain ⟨i, hi, rfl⟩ := List.mem_iff_getElem.1 hx
  have h1 := fault_at h i hi
  unfold markE at h1
  rw [List.getElem?_eq_getElem hi] at h1
  simp only at h1
  split at h1
  · cases h1
  · rename_i h2
    simpa using h2
/-- Marks that are left of right ones are right. -/
theorem fault_filter {l : List Mark} (h : marksFault l = 0) (q : Mark → Bool) : marksFault (l.filter q) = 0 := by
  have hlen : ¬ 3000 < l.length := by
    intro hc; unfold marksFault at h; rw [if_pos hc] at h; cases h
  have hfl := List.length_filter_le q l
  have hri := (fault_rise h).filter q
  have hsc := fault_scores h
  have hke := fault_keys h
  have hmem : ∀ x ∈ l.filter q, x ∈ l := fun x hx => (List.mem_filter.1 hx).1
  have hfew : ∀ p, (ofP (l.filter q) p).length ≤ 12 := fun p => by
    have h1 := paper_few h p
    have h2 : (ofP (l.filter q) p).length ≤ (ofP l p).length := by
      unfold ofP sel
      rw [List.filter_filter, show (fun a : Mark => decide (a.1 = p) && q a) = (fun a => q a && decide (a.1 = p)) from funext fun a => Bool.and_comm _ _, ← List.filter_filter]
      exact List.length_filter_le _ _
    omega
  generalize l.filter q = m at *
  unfold marksFault
  rw [if_neg (by omega)]
  refine firstErr_zero fun i hi => ?_
  unfold markE
  rw [List.getElem?_eq_getElem hi]
  have hx := hmem m[i] (List.getElem_mem hi)
  have hk := hke _ hx
  have hs := hsc _ hx
  have hb : badOrd m i = false := by
    cases i with
    | zero => rfl
    | succ p =>
      rw [badOrd, List.getElem?_eq_getElem (show p < m.length by omega), List.getElem?_eq_getElem hi]
      simp only [decide_eq_false_iff_not, Int.not_le]
      exact cmpP_lt.2 (List.pairwise_iff_getElem.1 hri p (p + 1) (by omega) hi (by omega))
  have hc : ¬ 12 < cntM m i := by
    rw [cnt_sel m i hi]
    have h1 := hfew m[i].1
    have h2 : (ofP (m.take (i + 1)) m[i].1).length ≤ (ofP m m[i].1).length := by
      unfold ofP sel
      exact ((List.take_sublist _ _).filter _).length_le
    omega
  simp only [hk.1, hk.2, hb, Bool.not_true, Bool.or_self, Bool.false_eq_true, if_false]
  rw [if_neg (by simp; omega), if_neg hc]

theorem idx_bd (p : ByteArray) : ∀ (zs : List ByteArray) (i : Nat), -1 ≤ Lib.idxFromS zs p i ∧ Lib.idxFromS zs p i < (i + zs.length : Nat)
  | [], i => by simp [Lib.idxFromS]; omega
  | z :: r, i => by
    have ih := idx_bd p r (i + 1)
    unfold Lib.idxFromS
    split
    · simp only [List.length_cons]; omega
    · simp only [List.length_cons] at *; omega
/-- The place of a paper in an order of papers; 0: it has none. -/
def placeL (l : List Mark) (how : Int) (p : ByteArray) : Int := Lib.idxOfS (orderL l how) p + 1
theorem orderL_mem (l : List Mark) (how : Int) (p : ByteArray) : p ∈ orderL l how ↔ p ∈ keysOf (fun x => x.1) l := (isort_perm _ _).mem_iff
theorem placeL_pos (l : List Mark) (how : Int) (p : ByteArray) : 0 < placeL l how p ↔ ofP l p ≠ [] := by
  unfold placeL
  have h1 := Lib.idxOfS_nonneg_iff (orderL l how) p
  have h2 := orderL_mem l how p
  have h3 := keysOf_mem (fun x => x.1) l p
  have h4 := @sel_nil (fun x => x.1) p l
  constructor
  · intro h e
    exact h4.1 e (h3.1 (h2.1 (h1.1 (by omega))))
  · intro h
    have : ∃ x ∈ l, x.1 = p := Classical.byContradiction fun g => h (h4.2 g)
    have := h1.2 (h2.2 (h3.2 this))
    omega
theorem placeL_bd (l : List Mark) (how : Int) (p : ByteArray) : 0 ≤ placeL l how p ∧ placeL l how p ≤ l.length := by
  unfold placeL
  have h1 := idx_bd p (orderL l how) 0
  have h2 : (orderL l how).length = (keysOf (fun x => x.1) l).length := by unfold orderL; rw [isort_length]
  have h3 := keysOf_length (fun x => x.1) l
  unfold Lib.idxOfS
  omega
/-- The marks but those of a person. -/
def outM (l : List Mark) (who : ByteArray) : List Mark := l.filter (fun m => !decide (m.2.1 = who))
theorem outM_fault {l : List Mark} (h : marksFault l = 0) (who : ByteArray) : marksFault (outM l who) = 0 := by unfold outM; exact fault_filter h _
theorem outM_len (l : List Mark) (who : ByteArray) : (outM l who).length ≤ l.length := by unfold outM; exact List.length_filter_le _ _
theorem outM_mem {l : List Mark} {who : ByteArray} {x : Mark} (h : x ∈ outM l who) : x ∈ l := by unfold outM at h; exact (List.mem_filter.1 h).1
theorem outM_keys {l : List Mark} (h : (keysOf (fun x => x.1) l).length ≤ 19) (who : ByteArray) : (keysOf (fun x => x.1) (outM l who)).length ≤ 19 := by
  have := nodup_len (a := keysOf (fun x => x.1) (outM l who)) (b := keysOf (fun x => x.1) l) (keysS_rise _).nodup (fun p hp => by
    rw [keysOf_mem] at *
    obtain ⟨x, hx, e⟩ := hp
    exact ⟨x, outM_mem hx, e⟩)
  omega
def plW (l : List Mark) (how : Int) (p who : ByteArray) : Int := placeL (outM l who) how p
/-- The best and the worst place so far. -/
def bwS (f : ByteArray → Int) (a : Int × Int) (who : ByteArray) : Int × Int := if 0 < f who then (min a.1 (f who), max a.2 (f who)) else a
theorem bwS_comm (f : ByteArray → Int) (a : Int × Int) (x y : ByteArray) : bwS f (bwS f a x) y = bwS f (bwS f a y) x := by
  unfold bwS
  by_cases hx : 0 < f x <;> by_cases hy : 0 < f y <;> simp only [hx, hy, if_true, if_false]
  exact Prod.ext (by simp only; omega) (by simp only; omega)
def bwL (f : ByteArray → Int) (a : Int × Int) (ks : List ByteArray) : Int × Int := ks.foldl (bwS f) a
theorem bwL_snoc (f : ByteArray → Int) (a : Int × Int) (ks : List ByteArray) (k : ByteArray) : bwL f a (ks ++ [k]) = bwS f (bwL f a ks) k := by unfold bwL; rw [List.foldl_append]; rfl
theorem bwL_perm (f : ByteArray → Int) {ks ks' : List ByteArray} (h : ks.Perm ks') : ∀ a, bwL f a ks = bwL f a ks' := by
  induction h with
  | nil => intro a; rfl
  | cons x _ ih => intro a; exact ih _
  | swap x y r => intro a; show bwL f (bwS f (bwS f a y) x) r = bwL f (bwS f (bwS f a x) y) r; rw [bwS_comm]
  | trans _ _ ih1 ih2 => intro a; rw [ih1, ih2]
theorem bwL_bd (f : ByteArray → Int) (N : Int) (hf : ∀ k, f k ≤ N) (ks : List ByteArray) : ∀ a : Int × Int, 0 ≤ a.1 → a.1 ≤ N → 0 ≤ a.2 → a.2 ≤ N → (0 ≤ (bwL f a ks).1 ∧ (bwL f a ks).1 ≤ N) ∧ (0 ≤ (bwL f a ks).2 ∧ (bwL f a ks).2 ≤ N) := by
  induction ks with
  | nil => intro a h1 h2 h3 h4; exact ⟨⟨h1, h2⟩, h3, h4⟩
  | cons k r ih =>
    intro a h1 h2 h3 h4
    show (0 ≤ (bwL f (bwS f a k) r).1 ∧ (bwL f (bwS f a k) r).1 ≤ N) ∧ (0 ≤ (bwL f (bwS f a k) r).2 ∧ (bwL f (bwS f a k) r).2 ≤ N)
    have := hf k
    unfold bwS
    split
    · exact ih _ (by simp only; omega) (by simp only; omega) (by simp only; omega) (by simp only; omega)
    · exact ih _ h1 h2 h3 h4
theorem bwL_mid {α : Type} (f : ByteArray → Int) (a : Int × Int) (p q : List (ByteArray × α)) (k : ByteArray) (v : α) : bwL f a ((p ++ (k, v) :: q).map (·.1)) = bwL f (bwS f a k) ((p ++ q).map (·.1)) := by
  have h := bwL_perm f ((List.perm_middle (a := (k, v)) (l₁ := p) (l₂ := q)).map (·.1)) a
  rw [h, List.map_cons]
  rfl
theorem bw_skip (l : List Mark) (how : Int) (p k : ByteArray) (a : Int × Int) (h : ofP (outM l k) p = []) : bwS (plW l how p) a k = a := by
  unfold bwS plW
  rw [if_neg fun g => (placeL_pos _ how p).1 g h]
theorem bw_take (l : List Mark) (how : Int) (p k : ByteArray) (a : Int × Int) (h : ofP (outM l k) p ≠ []) : bwS (plW l how p) a k = (min a.1 (placeL (outM l k) how p), max a.2 (placeL (outM l k) how p)) := by
  unfold bwS plW
  rw [if_pos ((placeL_pos _ how p).2 h)]
/-- The best and the worst place of a paper. -/
def rangeN (l : List Mark) (how : Int) (p : ByteArray) : Int × Int := bwL (plW l how p) (placeL l how p, placeL l how p) (keysOf (fun x => x.2.1) l)
theorem range_ref {l : List Mark} (h : marksFault l = 0) (how : Int) (p : ByteArray) (hp : ofP l p ≠ []) : bwL (plW l how p) ((l.length : Int) + 1, 0) ((⟨#[]⟩ : ByteArray) :: keysOf (fun x => x.2.1) l) = rangeN l how p := by
  have h1 : outM l (⟨#[]⟩ : ByteArray) = l := by
    unfold outM
    rw [List.filter_eq_self]
    intro x hx
    have := (fault_keys h x hx).2
    simp only [Bool.not_eq_true', decide_eq_false_iff_not]
    intro e
    rw [e] at this
    exact absurd this (by decide +kernel)
  have h2 := (placeL_pos l how p).2 hp
  have h3 := placeL_bd l how p
  show bwL (plW l how p) (bwS (plW l how p) ((l.length : Int) + 1, 0) (⟨#[]⟩ : ByteArray)) (keysOf (fun x => x.2.1) l) = _
  have h4 : bwS (plW l how p) ((l.length : Int) + 1, 0) (⟨#[]⟩ : ByteArray) = (placeL l how p, placeL l how p) := by
    unfold bwS plW
    rw [h1, if_pos h2]
    exact Prod.ext (by simp only; omega) (by simp only; omega)
  rw [h4]
  rfl
end Go.Proofs.YtgihommenknhoaaGreatDoor
