/- Words in runs: marks of a row, and their number. Plain. -/
import Derived.Test.YthajoedabjfaaaaGreatDoorRunT
namespace Go.Proofs.YthajoedabjfaaaaGreatDoor
open Go.RowKit
set_option linter.unusedVariables false
set_option linter.unusedSimpArgs false

/-- A word lies in one of the runs; f tells where a run begins. -/
def inRuns (rs : List Run3) (f : Run3 → Int) (i : Nat) : Bool := rs.any fun r => decide (f r ≤ (i : Int)) && decide ((i : Int) < f r + r.2.2)
/-- How many of the first n are marked. -/
def cntB (n : Nat) (p : Nat → Bool) : Nat := (List.range n).countP p
/-- One more is marked. -/
def andB (p : Nat → Bool) (i : Nat) (j : Nat) : Bool := p j || j == i
theorem cntB_le (n : Nat) (p : Nat → Bool) : cntB n p ≤ n := by
  have h := List.countP_le_length (p := p) (l := List.range n)
  rw [List.length_range] at h
  exact h
theorem cntB_succ (n : Nat) (p : Nat → Bool) : cntB (n + 1) p = cntB n p + (if p n then 1 else 0) := by
  unfold cntB
  rw [List.range_succ, List.countP_append, List.countP_singleton]
theorem cntB_congr {n : Nat} {p q : Nat → Bool} (h : ∀ i, i < n → p i = q i) : cntB n p = cntB n q := by
  unfold cntB
  exact List.countP_congr fun i hi => by rw [h i (List.mem_range.1 hi)]
theorem cntB_none (n : Nat) : cntB n (fun _ => false) = 0 := by unfold cntB; simp
theorem andB_out {p : Nat → Bool} {i j : Nat} (h : j ≠ i) : andB p i j = p j := by
  unfold andB
  rw [show (j == i) = false from beq_eq_false_iff_ne.2 h, Bool.or_false]
theorem andB_at (p : Nat → Bool) (i : Nat) : andB p i i = true := by unfold andB; simp
theorem cntB_more {p : Nat → Bool} {i : Nat} (hp : p i = false) : ∀ n, cntB n (andB p i) = cntB n p + (if i < n then 1 else 0)
  | 0 => by simp [cntB]
  | n + 1 => by
    have ih := cntB_more hp n
    rw [cntB_succ, cntB_succ, ih]
    by_cases h : n = i
    · subst h
      rw [andB_at, hp, if_neg (Nat.lt_irrefl _), if_pos (Nat.lt_succ_self _)]
      simp
    · rw [andB_out h]
      by_cases h2 : i < n
      · rw [if_pos h2, if_pos (show i < n + 1 by omega)]; omega
      · rw [if_neg h2, if_neg (show ¬ i < n + 1 by omega)]; omega
theorem andB_had {p : Nat → Bool} {i : Nat} (hp : p i = true) (j : Nat) : andB p i j = p j := by
  unfold andB
  by_cases h : j = i
  · subst h; rw [hp]; rfl
  · rw [show (j == i) = false from beq_eq_false_iff_ne.2 h, Bool.or_false]
theorem inRuns_nil (f : Run3 → Int) (i : Nat) : inRuns [] f i = false := rfl
theorem inRuns_snoc (rs : List Run3) (r : Run3) (f : Run3 → Int) (i : Nat) : inRuns (rs ++ [r]) f i = (inRuns rs f i || (decide (f r ≤ (i : Int)) && decide ((i : Int) < f r + r.2.2))) := by
  unfold inRuns
  rw [List.any_append]
  simp
/-- The first q words of a run are marked behind p. -/
def someB (p : Nat → Bool) (a : Int) (q : Nat) (j : Nat) : Bool := p j || (decide (a ≤ (j : Int)) && decide ((j : Int) < a + (q : Int)))
theorem someB_zero (p : Nat → Bool) (a : Int) (j : Nat) : someB p a 0 j = p j := by
  unfold someB
  by_cases h : a ≤ (j : Int)
  · rw [decide_eq_false (p := (j : Int) < a + ((0 : Nat) : Int)) (by omega), Bool.and_false, Bool.or_false]
  · rw [decide_eq_false h, Bool.false_and, Bool.or_false]
theorem someB_succ (p : Nat → Bool) {a : Int} {i : Nat} (q : Nat) (hi : (i : Int) = a + (q : Int)) (j : Nat) : andB (someB p a q) i j = someB p a (q + 1) j := by
  unfold andB someB
  by_cases h : j = i
  · subst h
    rw [decide_eq_true (p := a ≤ (j : Int)) (by omega), decide_eq_true (p := (j : Int) < a + ((q + 1 : Nat) : Int)) (by omega)]
    simp
  · rw [show (j == i) = false from beq_eq_false_iff_ne.2 h, Bool.or_false]
    by_cases h2 : (j : Int) < a + (q : Int)
    · rw [decide_eq_true h2, decide_eq_true (p := (j : Int) < a + ((q + 1 : Nat) : Int)) (by omega)]
    · rw [decide_eq_false h2]
      by_cases h3 : (j : Int) < a + ((q + 1 : Nat) : Int)
      · exact absurd (show j = i by omega) h
      · rw [decide_eq_false h3]

/-- A row of marks in memory. -/
def Marks (w : World) (b n : Nat) (p : Nat → Bool) : Prop := ∃ us : Array Value, Box w b 4 us ∧ us.size = n ∧ ∀ i, i < n → us[i]? = some (.bool (p i))
theorem Tryz.infoDB : (Tryz.prog.info? 4).map (fun i => (i.zero, i.size, i.bytes)) = some (some (.bool false), 1, 1) := by kernel_rfl
section
variable {w w' : World} {b n : Nat} {p q : Nat → Bool}
theorem Marks.below (h : Marks w b n p) (hb : Below w.heap.size w w') : Marks w' b n p := by
  obtain ⟨us, h1, h2, h3⟩ := h
  exact ⟨us, h1.below hb, h2, h3⟩
theorem Marks.congr (h : Marks w b n p) (he : ∀ i, i < n → p i = q i) : Marks w b n q := by
  obtain ⟨us, h1, h2, h3⟩ := h
  exact ⟨us, h1, h2, fun i hi => by rw [h3 i hi, he i hi]⟩
theorem Marks.cell (h : Marks w b n p) {i : Nat} (hi : i < n) : w.cell? ⟨b, i, none⟩ = some (.bool (p i)) := by
  obtain ⟨us, h1, h2, h3⟩ := h
  rw [h1.cell, h3 i hi]
theorem Marks.frozen (h : Marks w b n p) (i : Nat) : w.frozen? ⟨b, i, none⟩ = false := by
  obtain ⟨us, h1, h2, h3⟩ := h
  exact h1.frozen i
theorem Marks.put (h : Marks w b n p) {i : Nat} (hi : i < n) : Marks (w.setCell ⟨b, i, none⟩ (.bool true)) b n (andB p i) := by
  obtain ⟨us, h1, h2, h3⟩ := h
  refine ⟨_, h1.set i _, by simpa using h2, fun j hj => ?_⟩
  by_cases e : j = i
  · subst e
    rw [andB_at]
    simp [Array.getElem?_setIfInBounds, h2, hj]
  · rw [Array.getElem?_setIfInBounds, if_neg (fun x => e x.symm), h3 j hj, andB_out e]
theorem Marks.putOther (h : Marks w b n p) {a : Addr} (ha : a.block ≠ b) (v : Value) : Marks (w.setCell a v) b n p := by
  obtain ⟨us, h1, h2, h3⟩ := h
  exact ⟨us, h1.setOther ha _, h2, h3⟩
theorem Marks.alloc (h : Marks w b n p) (o : Obj) : Marks (w.alloc o) b n p := by
  obtain ⟨us, h1, h2, h3⟩ := h
  exact ⟨us, h1.alloc _, h2, h3⟩
theorem Marks.new (w : World) (n : Nat) : Marks (w.alloc (.cells (Array.replicate n (.bool false)) 4)) w.heap.size n (fun _ => false) := ⟨_, Box.new _ _ _, by simp, fun i hi => by simp [hi]⟩
end
end Go.Proofs.YthajoedabjfaaaaGreatDoor
