/- A table of rows of numbers, made by make. -/
import Derived.Test.YthajoedabjfaaaaGreatDoorRunP
import Derived.Laws.MakeOwn
import Derived.Laws.OwnMore
namespace Go.Proofs.YthajoedabjfaaaaGreatDoor
open Go.RowKit
set_option linter.unusedVariables false
set_option linter.unusedSimpArgs false

theorem run_make_len {P : Program} (t e : TypeId) (z : Value) (bts : Nat) (h1 : P.underlying t = some (.slice e)) (h2 : (P.info? e).map (fun i => (i.zero, i.size, i.bytes)) = some (some z, 1, bts)) (hz : z.cells = #[z])
    (n : Nat) (hn : bts * n ≤ 281474976710656) (hn2 : n ≤ 9223372036854775807) (w : World) :
    (Instr.makeSlice t (.int .i64 (n : Int)) (.int .i64 (n : Int))).run P w = .ok (.slice (some ⟨w.heap.size, 0, none⟩) n n) (w.alloc (.cells (Array.replicate n z) e)) := by
  obtain ⟨i, hi, he⟩ := Option.map_eq_some_iff.1 h2
  obtain ⟨e1, e2, e3⟩ : i.zero = some z ∧ i.size = 1 ∧ i.bytes = bts := by simpa using he
  have hb : (i.bytes : Int) * (n : Int) ≤ 281474976710656 := by
    have h : ((i.bytes * n : Nat) : Int) ≤ 281474976710656 := by rw [e3]; omega
    rwa [Int.natCast_mul] at h
  have hr := run_make (P := P) w t e i z h1 hi e1 .i64 .i64 n n (by omega) (by omega) hb (by omega)
  simp only [Int.toNat_natCast] at hr
  rw [hr, e2, Nat.mul_one, hz]
  have hm : madeCells #[z] n = Array.replicate n z := by rw [← Array.toList_inj, toList_madeCells_one, Array.toList_replicate]
  rw [hm]
theorem Tryz.infoDI : (Tryz.prog.info? 3).map (fun i => (i.zero, i.size, i.bytes)) = some (some (.int .i64 0), 1, 8) := by kernel_rfl
theorem Tryz.infoDR : (Tryz.prog.info? 22).map (fun i => (i.zero, i.size, i.bytes)) = some (some (.slice none 0 0), 1, 24) := by kernel_rfl

/-- The rows 0 .. k of a table, each in the block behind the one before. -/
def Rows (w : World) (tb m k : Nat) (T : Nat → Nat → Int) : Prop :=
  ∀ j, j < k → ∃ us : Array Value, Box w (tb + 1 + j) 3 us ∧ us.size = m ∧ ∀ i, i < m → us[i]? = some (.int .i64 (T j i))
/-- The table's own block: its first k cells hold rows. -/
def Outer (w : World) (tb n m k : Nat) : Prop :=
  ∃ vs : Array Value, Box w tb 22 vs ∧ vs.size = n ∧ ∀ j, j < k → vs[j]? = some (.slice (some ⟨tb + 1 + j, 0, none⟩) m m)
section
variable {w w' : World} {tb n m k : Nat} {T T' : Nat → Nat → Int}
theorem Rows.below (h : Rows w tb m k T) (hb : Below w.heap.size w w') : Rows w' tb m k T := fun j hj => by
  obtain ⟨us, h1, h2, h3⟩ := h j hj
  exact ⟨us, h1.below hb, h2, h3⟩
theorem Outer.below (h : Outer w tb n m k) (hb : Below w.heap.size w w') : Outer w' tb n m k := by
  obtain ⟨us, h1, h2, h3⟩ := h
  exact ⟨us, h1.below hb, h2, h3⟩
theorem Rows.congr (h : Rows w tb m k T) (he : ∀ j, j < k → ∀ i, i < m → T j i = T' j i) : Rows w tb m k T' := fun j hj => by
  obtain ⟨us, h1, h2, h3⟩ := h j hj
  exact ⟨us, h1, h2, fun i hi => by rw [h3 i hi, he j hj i hi]⟩
theorem Rows.cell (h : Rows w tb m k T) {j i : Nat} (hj : j < k) (hi : i < m) : w.cell? ⟨tb + 1 + j, i, none⟩ = some (.int .i64 (T j i)) := by
  obtain ⟨us, h1, h2, h3⟩ := h j hj
  rw [h1.cell, h3 i hi]
theorem Rows.frozen (h : Rows w tb m k T) {j : Nat} (hj : j < k) (i : Nat) : w.frozen? ⟨tb + 1 + j, i, none⟩ = false := by
  obtain ⟨us, h1, h2, h3⟩ := h j hj
  exact h1.frozen i
theorem Outer.cell (h : Outer w tb n m k) {j : Nat} (hj : j < k) : w.cell? ⟨tb, j, none⟩ = some (.slice (some ⟨tb + 1 + j, 0, none⟩) m m) := by
  obtain ⟨us, h1, h2, h3⟩ := h
  rw [h1.cell, h3 j hj]
theorem Outer.has (h : Outer w tb n m k) {j : Nat} (hj : j < n) : ∃ u, w.cell? ⟨tb, j, none⟩ = some u ∧ w.frozen? ⟨tb, j, none⟩ = false := by
  obtain ⟨us, h1, h2, h3⟩ := h
  exact ⟨us[j]'(by omega), by rw [h1.cell, Array.getElem?_eq_getElem (by omega)], h1.frozen j⟩
theorem Rows.put (h : Rows w tb m k T) {j i : Nat} (hj : j < k) (hi : i < m) (v : Int) : Rows (w.setCell ⟨tb + 1 + j, i, none⟩ (.int .i64 v)) tb m k (fun a b => if a = j ∧ b = i then v else T a b) := fun a ha => by
  obtain ⟨us, h1, h2, h3⟩ := h a ha
  by_cases e : a = j
  · subst e
    refine ⟨_, h1.set i _, by simpa using h2, fun b hb => ?_⟩
    by_cases e2 : b = i
    · subst e2
      simp [Array.getElem?_setIfInBounds, h2, hb]
    · rw [Array.getElem?_setIfInBounds, if_neg (fun e => e2 e.symm), h3 b hb]; simp [e2]
  · exact ⟨us, h1.setOther (by show tb + 1 + j ≠ tb + 1 + a; omega) _, h2, fun b hb => by rw [h3 b hb]; simp [e]⟩
theorem Outer.putRow (h : Outer w tb n m k) {j : Nat} (v : Value) (i : Nat) : Outer (w.setCell ⟨tb + 1 + j, i, none⟩ v) tb n m k := by
  obtain ⟨us, h1, h2, h3⟩ := h
  exact ⟨us, h1.setOther (by show tb + 1 + j ≠ tb; omega) _, h2, h3⟩
theorem Outer.put (h : Outer w tb n m k) (hk : k < n) {s : Nat} (hs : s = tb + 1 + k) : Outer (w.setCell ⟨tb, k, none⟩ (.slice (some ⟨s, 0, none⟩) m m)) tb n m (k + 1) := by
  subst hs
  obtain ⟨us, h1, h2, h3⟩ := h
  refine ⟨_, h1.set k _, by simpa using h2, fun j hj => ?_⟩
  by_cases e : j = k
  · subst e
    simp [Array.getElem?_setIfInBounds, h2, hk]
  · rw [Array.getElem?_setIfInBounds, if_neg (fun x => e x.symm), h3 j (by omega)]
theorem Rows.putOuter (h : Rows w tb m k T) (v : Value) (i : Nat) : Rows (w.setCell ⟨tb, i, none⟩ v) tb m k T := fun a ha => by
  obtain ⟨us, h1, h2, h3⟩ := h a ha
  exact ⟨us, h1.setOther (by show tb ≠ tb + 1 + a; omega) _, h2, h3⟩
theorem Rows.snoc (h : Rows w tb m k T) (hs : w.heap.size = tb + 1 + k) (hT : ∀ i, i < m → T k i = 0) : Rows (w.alloc (.cells (Array.replicate m (.int .i64 0)) 3)) tb m (k + 1) T := fun a ha => by
  by_cases e : a = k
  · subst e
    have hn := Box.new w 3 (Array.replicate m (.int .i64 0))
    rw [hs] at hn
    exact ⟨_, hn, by simp, fun i hi => by rw [hT i hi]; simp [hi]⟩
  · obtain ⟨us, h1, h2, h3⟩ := h a (by omega)
    exact ⟨us, h1.alloc _, h2, h3⟩
theorem Outer.alloc (h : Outer w tb n m k) (o : Obj) : Outer (w.alloc o) tb n m k := by
  obtain ⟨us, h1, h2, h3⟩ := h
  exact ⟨us, h1.alloc _, h2, h3⟩
theorem Outer.new (w : World) (n m : Nat) : Outer (w.alloc (.cells (Array.replicate n (.slice none 0 0)) 22)) w.heap.size n m 0 := ⟨_, Box.new _ _ _, by simp, fun j hj => by omega⟩
end

/-- The table of runs, filled from the end down to row k, and in the row before down to column q. -/
def tabT (x y : List ByteArray) (k q : Nat) (a b : Nat) : Int := if k ≤ a ∨ (a + 1 = k ∧ q ≤ b) then (cpl x y a b : Int) else 0
theorem tabT_start (x y : List ByteArray) (a b : Nat) (ha : a ≤ x.length) : (0 : Int) = tabT x y x.length (y.length + 1) a b ∨ y.length < b := by
  unfold tabT
  by_cases hb : y.length < b
  · exact .inr hb
  · left
    by_cases h : x.length ≤ a
    · rw [cpl_outL h]; split <;> rfl
    · rw [if_neg (by omega)]
theorem tabT_row (x y : List ByteArray) {k a b : Nat} (hb : b < y.length + 1) : tabT x y k (y.length + 1) a b = tabT x y k y.length a b := by
  unfold tabT
  by_cases h : k ≤ a
  · rw [if_pos (.inl h), if_pos (.inl h)]
  · rw [if_neg (by omega)]
    by_cases h2 : a + 1 = k ∧ y.length ≤ b
    · rw [if_pos (.inr h2), cpl_outR h2.2]; rfl
    · rw [if_neg (by omega)]
theorem tabT_next (x y : List ByteArray) {k a b : Nat} (hb : b < y.length + 1) : tabT x y (k + 1) 0 a b = tabT x y k (y.length + 1) a b := by
  unfold tabT
  by_cases h : k ≤ a
  · rw [if_pos (by omega), if_pos (.inl h)]
  · rw [if_neg (by omega), if_neg (by omega)]
theorem tabT_eq (x y : List ByteArray) {k q : Nat} (hk : k < x.length) (hq : q < y.length) (h : x[k] = y[q]) (a b : Nat) :
    (if a = k ∧ b = q then ((tabT x y (k + 1) (q + 1) (k + 1) (q + 1) : Int) + 1) else tabT x y (k + 1) (q + 1) a b) = tabT x y (k + 1) q a b := by
  unfold tabT
  by_cases e : a = k ∧ b = q
  · obtain ⟨rfl, rfl⟩ := e
    rw [if_pos ⟨rfl, rfl⟩, if_pos (.inl (Nat.le_refl _)), if_pos (.inr ⟨rfl, Nat.le_refl _⟩), cpl_eq hk hq h]
    omega
  · rw [if_neg e]
    by_cases h2 : k + 1 ≤ a ∨ (a + 1 = k + 1 ∧ q + 1 ≤ b)
    · rw [if_pos h2, if_pos (by omega)]
    · rw [if_neg h2, if_neg (by omega)]
theorem tabT_ne (x y : List ByteArray) {k q : Nat} (hk : k < x.length) (hq : q < y.length) (h : ¬ x[k] = y[q]) (a b : Nat) : tabT x y (k + 1) (q + 1) a b = tabT x y (k + 1) q a b := by
  unfold tabT
  by_cases e : a = k ∧ b = q
  · obtain ⟨rfl, rfl⟩ := e
    rw [if_neg (by omega), if_pos (.inr ⟨rfl, Nat.le_refl _⟩), cpl_ne hk hq h]
    rfl
  · by_cases h2 : k + 1 ≤ a ∨ (a + 1 = k + 1 ∧ q + 1 ≤ b)
    · rw [if_pos h2, if_pos (by omega)]
    · rw [if_neg h2, if_neg (by omega)]
theorem tabT_end (x y : List ByteArray) (a b q : Nat) : tabT x y 0 q a b = cpl x y a b := by unfold tabT; rw [if_pos (by omega)]
end Go.Proofs.YthajoedabjfaaaaGreatDoor
