/- What slices.SortFunc of any size leaves of a slice of one's own. -/
import Derived.Test.YtnocceilpnmbpaaGreatDoorSortF
import Derived.Shelf.SlSortCmp.WholeK
import Derived.Test.YtnocceilpnmbpaaGreatDoorKeep
import Derived.Lib.AppendZerosOnto
import Derived.Laws.IdiomCopy
/-! What slices.SortFunc of any size leaves of a slice of one's own. -/
namespace Go.Proofs.YtnocceilpnmbpaaGreatDoor
open Go.RowKit Go.Sort
set_option linter.unusedVariables false
set_option linter.unusedSimpArgs false

theorem flat_cells_len {α : Type} [Cel α] : ∀ l : List α, (l.flatMap Cel.cells).length = l.length * Cel.k α
 | [] => by simp
 | x :: l => by rw [List.flatMap_cons, List.length_append, Cel.len, flat_cells_len l, List.length_cons, Nat.add_mul]; omega
theorem flat_of_arr {α : Type} [Cel α] {w : World} {b : Nat} {E : TypeId} {cur : Array Value} {l : List α} (hbox : Box w b E cur) (h : ArrAt w b 0 l) : cur.toList.take (l.length * Cel.k α) = l.flatMap Cel.cells := by
 apply List.ext_getElem?
 intro t
 by_cases ht : t < l.length * Cel.k α
 ·
  have hk := Cel.pos (α := α)
  have hi : t / Cel.k α < l.length := Nat.div_lt_of_lt_mul (by rw [Nat.mul_comm]; exact ht)
  have hj := Nat.mod_lt t hk
  have e : t / Cel.k α * Cel.k α + t % Cel.k α = t := by rw [Nat.mul_comm]; exact Nat.div_add_mod _ _
  have hx : l[t / Cel.k α]? = some l[t / Cel.k α] := List.getElem?_eq_getElem hi
  have h1 := h _ _ _ hx hj
  have h2 := flat_get l _ _ _ hx hj
  rw [e] at h1 h2
  rw [Nat.zero_add, hbox.cell] at h1
  rw [List.getElem?_take_of_lt ht, h2, ← h1]
  simp
 ·
  rw [List.getElem?_take_eq_none (by omega), List.getElem?_eq_none (by rw [flat_cells_len]; omega)]
/-- A slice of one's own whose cells were turned in place. -/
theorem Own.turned {α : Type} [Cel α] {w w' : World} {base : Nat} {E : TypeId} {g n cap : Nat} {l l' : List α} (h : Own base E w (.slice (some ⟨g, 0, none⟩) n cap) l) (hs : ∀ cur, Box w g E cur → ∃ cur', Box w' g E cur' ∧ cur'.size = cur.size) (hl : l'.length = l.length) (ha : ArrAt w' g 0 l') : Own base E w' (.slice (some ⟨g, 0, none⟩) n cap) l' := by
 obtain ⟨h1, h2⟩ := h
 refine ⟨flat_cells_len l', ?_⟩
 rcases h2 with ⟨h2, _⟩ | ⟨g', cap', cur, he, r1, r2, r3, r4, r5, r6⟩
 ·
  cases h2
 ·
  cases he
  obtain ⟨cur', b1, b2⟩ := hs cur r2
  rw [hl]
  refine .inr ⟨g, cap, cur', rfl, r1, b1, r3, r4, by rw [b2]; exact r5, ?_⟩
  rw [← hl]
  exact flat_of_arr b1 ha
theorem box_sortK {w : World} {blk : Nat} {E : TypeId} {cur : Array Value} (h : Box w blk E cur) {α : Type} [Inhabited α] (enc : α → List Value) (k n : Nat) (d : Array α) (os : Array Obj) : ∃ cur', Box (sortWorldK enc k w blk 0 n d os) blk E cur' ∧ cur'.size = cur.size := by
 refine ⟨putCells id 0 (flatK enc k d) cur, ?_, by unfold putCells; simp⟩
 have hlt := h.lt
 show _ = _
 unfold sortWorldK
 rw [heap_grow_old _ _ (by rw [size_putRowK]; exact hlt)]
 show (putRow id (Sort.ahead w n) blk 0 (flatK enc k d)).heap[blk]? = _
 unfold putRow mapBlock
 have e : (Sort.ahead w n).heap[blk]? = some (.cells cur E (0, 0)) := h
 simp only [Array.getElem?_modify, if_true, e]
 rfl
end Go.Proofs.YtnocceilpnmbpaaGreatDoor

/-! Slices of one's own that are turned in place: an element is laid between others; copy of structs. -/
namespace Go.Proofs.YtnocceilpnmbpaaGreatDoor
open Go.RowKit
set_option linter.unusedVariables false
set_option linter.unusedSimpArgs false

theorem Box.sets {g : Nat} {E : TypeId} : ∀ (vs : List Value) (o : Nat) {w : World} {cur : Array Value}, Box w g E cur → ∃ cur', Box (w.setCells g o vs) g E cur' ∧ cur'.size = cur.size
 | [], _, _, cur, h => ⟨cur, h, rfl⟩
 | v :: r, o, _, cur, h => by
  obtain ⟨c, hb, hs⟩ := Box.sets r (o + 1) (h.set o v)
  exact ⟨c, hb, by rw [hs, Array.size_setIfInBounds]⟩
theorem kp_sets {w : World} {g : Nat} {X : Nat → Prop} (hX : X g ∨ w.heap.size ≤ g) : ∀ (vs : List Value) (o : Nat) {w' : World}, Kp X w w' → Kp X w (w'.setCells g o vs)
 | [], _, _, h => h
 | v :: r, o, w', h => kp_sets hX r (o + 1) (h.setCell (p := ⟨g, o, none⟩) hX v)
section
variable {α : Type} [Cel α] {w w' : World} {base : Nat} {E : TypeId} {g n cap : Nat} {l l' : List α}
/-- The whole block of a slice of one's own. -/
theorem Own.spare (h : Own base E w (.slice (some ⟨g, 0, none⟩) n cap) l) : ∃ cur, Box w g E cur ∧ cur.size = cap * Cel.k α ∧ base ≤ g ∧ n = l.length ∧ l.length ≤ cap ∧ ArrAt w g 0 l := by
 have hsa := h.sa
 obtain ⟨h1, h2⟩ := h
 rcases h2 with ⟨h2, _⟩ | ⟨g', cap', cur, he, r1, r2, r3, r4, r5, r6⟩
 ·
  cases h2
 ·
  cases he
  refine ⟨cur, r2, r5, r1, rfl, r3, ?_⟩
  intro i j x hx hj
  have hf := flat_get l i j x hx hj
  have hi : i < l.length := (List.getElem?_eq_some_iff.1 hx).1
  have hij : i * Cel.k α + j < l.length * Cel.k α := by
   have : (i + 1) * Cel.k α ≤ l.length * Cel.k α := Nat.mul_le_mul_right _ (by omega)
   rw [Nat.add_mul] at this
   omega
  rw [← hf, ← r6, List.getElem?_take_of_lt hij, Nat.zero_add, Box.cell r2]
  simp
/-- A slice of one's own whose cells were turned in place; it may be longer or shorter. -/
theorem Own.turnedN (h : Own base E w (.slice (some ⟨g, 0, none⟩) n cap) l) (hs : ∀ cur, Box w g E cur → ∃ cur', Box w' g E cur' ∧ cur'.size = cur.size) (hl : l'.length ≤ cap) (ha : ArrAt w' g 0 l') : Own base E w' (.slice (some ⟨g, 0, none⟩) l'.length cap) l' := by
 obtain ⟨h1, h2⟩ := h
 refine ⟨flat_cells_len l', ?_⟩
 rcases h2 with ⟨h2, _⟩ | ⟨g', cap', cur, he, r1, r2, r3, r4, r5, r6⟩
 ·
  cases h2
 ·
  cases he
  obtain ⟨cur', b1, b2⟩ := hs cur r2
  exact .inr ⟨g, cap, cur', rfl, r1, b1, hl, r4, by rw [b2]; exact r5, flat_of_arr b1 ha⟩
/-- A block laid whole is a slice of one's own. -/
theorem Own.laid {cur : Array Value} (hb : Box w g E cur) (hg : base ≤ g) (hs : cur.size = cap * Cel.k α) (hc : cap ≤ maxLen) (hl : l.length ≤ cap) (ha : ArrAt w g 0 l) : Own base E w (.slice (some ⟨g, 0, none⟩) l.length cap) l :=
 ⟨flat_cells_len l, .inr ⟨g, cap, cur, rfl, hg, hb, hl, hc, hs, flat_of_arr hb ha⟩⟩
/-- An element laid between others. -/
theorem arr_insert {i : Nat} {x : α} (hi : i ≤ l.length) (ha : ∀ p j y, p < i → l[p]? = some y → j < Cel.k α → w.cell? ⟨g, p * Cel.k α + j, none⟩ = (Cel.cells y)[j]?) (hsome : ∀ t, t < (l.length + 1) * Cel.k α → (w.cell? ⟨g, t, none⟩).isSome = true) :
  ArrAt ((w.setCells g ((i + 1) * Cel.k α) ((l.drop i).flatMap Cel.cells)).setCells g (i * Cel.k α) (Cel.cells x)) g 0 (l.take i ++ x :: l.drop i) := by
 intro p j y hy hj
 have hfl : ((l.drop i).flatMap Cel.cells).length = (l.length - i) * Cel.k α := by rw [flat_cells_len, List.length_drop]
 have hxl : (Cel.cells x).length = Cel.k α := Cel.len x
 have htl : (l.take i).length = i := by rw [List.length_take]; omega
 have hsum : (i + 1) * Cel.k α + (l.length - i) * Cel.k α = (l.length + 1) * Cel.k α := by rw [← Nat.add_mul]; congr 1; omega
 have hik : (i + 1) * Cel.k α = i * Cel.k α + Cel.k α := by rw [Nat.add_mul]; omega
 have hsome1 : ∀ t, t < ((l.drop i).flatMap Cel.cells).length → (w.cell? ⟨g, (i + 1) * Cel.k α + t, none⟩).isSome = true := fun t ht => hsome _ (by omega)
 have hlk : (i + 1) * Cel.k α ≤ (l.length + 1) * Cel.k α := Nat.mul_le_mul_right _ (by omega)
 have hsome2 : ∀ t, t < (Cel.cells x).length → ((w.setCells g ((i + 1) * Cel.k α) ((l.drop i).flatMap Cel.cells)).cell? ⟨g, i * Cel.k α + t, none⟩).isSome = true := fun t ht => by
  rw [World.cell?_setCells_out g _ _ _ _ (fun _ _ => .inl (by show i * Cel.k α + t < _; omega))]
  exact hsome _ (by omega)
 rw [Nat.zero_add]
 rcases Nat.lt_trichotomy p i with hp | rfl | hp
 ·
  rw [List.getElem?_append_left (by omega), List.getElem?_take_of_lt hp] at hy
  have hpk : (p + 1) * Cel.k α ≤ i * Cel.k α := Nat.mul_le_mul_right _ (by omega)
  rw [Nat.add_mul] at hpk
  rw [World.cell?_setCells_out g _ _ _ _ (fun _ _ => .inl (by show p * Cel.k α + j < _; omega)), World.cell?_setCells_out g _ _ _ _ (fun _ _ => .inl (by show p * Cel.k α + j < _; omega))]
  exact ha p j y hp hy hj
 ·
  rw [List.getElem?_append_right (by omega), htl, Nat.sub_self, List.getElem?_cons_zero] at hy
  obtain rfl := Option.some.inj hy
  rw [World.cell?_setCells_in g _ _ _ hsome2 j (by omega), List.getElem?_eq_getElem (by omega)]
 ·
  obtain ⟨q, rfl⟩ : ∃ q, p = i + 1 + q := ⟨p - i - 1, by omega⟩
  rw [List.getElem?_append_right (by omega), htl, show i + 1 + q - i = q + 1 by omega, List.getElem?_cons_succ] at hy
  have hq : q < l.length - i := by have := (List.getElem?_eq_some_iff.1 hy).1; rw [List.length_drop] at this; exact this
  have hqk : (q + 1) * Cel.k α ≤ (l.length - i) * Cel.k α := Nat.mul_le_mul_right _ (by omega)
  rw [Nat.add_mul q] at hqk
  have e : (i + 1 + q) * Cel.k α + j = (i + 1) * Cel.k α + (q * Cel.k α + j) := by rw [Nat.add_mul (i + 1)]; omega
  rw [e, World.cell?_setCells_out g _ _ _ _ (fun _ _ => .inr (by show i * Cel.k α + (Cel.cells x).length ≤ (i + 1) * Cel.k α + (q * Cel.k α + j); omega)), World.cell?_setCells_in g _ _ _ hsome1 _ (by omega), ← flat_get (l.drop i) q j y hy hj, List.getElem?_eq_getElem (by omega)]
/-- The same, laid in the other order. -/
theorem arr_insert2 {i : Nat} {x : α} (hi : i ≤ l.length) (ha : ∀ p j y, p < i → l[p]? = some y → j < Cel.k α → w.cell? ⟨g, p * Cel.k α + j, none⟩ = (Cel.cells y)[j]?) (hsome : ∀ t, t < (l.length + 1) * Cel.k α → (w.cell? ⟨g, t, none⟩).isSome = true) :
  ArrAt ((w.setCells g (i * Cel.k α) (Cel.cells x)).setCells g ((i + 1) * Cel.k α) ((l.drop i).flatMap Cel.cells)) g 0 (l.take i ++ x :: l.drop i) := by
 intro p j y hy hj
 have hfl : ((l.drop i).flatMap Cel.cells).length = (l.length - i) * Cel.k α := by rw [flat_cells_len, List.length_drop]
 have hxl : (Cel.cells x).length = Cel.k α := Cel.len x
 have htl : (l.take i).length = i := by rw [List.length_take]; omega
 have hsum : (i + 1) * Cel.k α + (l.length - i) * Cel.k α = (l.length + 1) * Cel.k α := by rw [← Nat.add_mul]; congr 1; omega
 have hik : (i + 1) * Cel.k α = i * Cel.k α + Cel.k α := by rw [Nat.add_mul]; omega
 have hsome1 : ∀ t, t < ((l.drop i).flatMap Cel.cells).length → ((w.setCells g (i * Cel.k α) (Cel.cells x)).cell? ⟨g, (i + 1) * Cel.k α + t, none⟩).isSome = true := fun t ht => by
  rw [World.cell?_setCells_out g _ _ _ _ (fun _ _ => .inr (by show i * Cel.k α + (Cel.cells x).length ≤ (i + 1) * Cel.k α + t; omega))]
  exact hsome _ (by omega)
 have hlk : (i + 1) * Cel.k α ≤ (l.length + 1) * Cel.k α := Nat.mul_le_mul_right _ (by omega)
 have hsome2 : ∀ t, t < (Cel.cells x).length → (w.cell? ⟨g, i * Cel.k α + t, none⟩).isSome = true := fun t ht => hsome _ (by omega)
 rw [Nat.zero_add]
 rcases Nat.lt_trichotomy p i with hp | rfl | hp
 ·
  rw [List.getElem?_append_left (by omega), List.getElem?_take_of_lt hp] at hy
  have hpk : (p + 1) * Cel.k α ≤ i * Cel.k α := Nat.mul_le_mul_right _ (by omega)
  rw [Nat.add_mul] at hpk
  rw [World.cell?_setCells_out g _ _ _ _ (fun _ _ => .inl (by show p * Cel.k α + j < _; omega)), World.cell?_setCells_out g _ _ _ _ (fun _ _ => .inl (by show p * Cel.k α + j < _; omega))]
  exact ha p j y hp hy hj
 ·
  rw [List.getElem?_append_right (by omega), htl, Nat.sub_self, List.getElem?_cons_zero] at hy
  obtain rfl := Option.some.inj hy
  rw [World.cell?_setCells_out g _ _ _ _ (fun _ _ => .inl (by show p * Cel.k α + j < _; omega)), World.cell?_setCells_in g _ _ _ hsome2 j (by omega), List.getElem?_eq_getElem (by omega)]
 ·
  obtain ⟨q, rfl⟩ : ∃ q, p = i + 1 + q := ⟨p - i - 1, by omega⟩
  rw [List.getElem?_append_right (by omega), htl, show i + 1 + q - i = q + 1 by omega, List.getElem?_cons_succ] at hy
  have hq : q < l.length - i := by have := (List.getElem?_eq_some_iff.1 hy).1; rw [List.length_drop] at this; exact this
  have hqk : (q + 1) * Cel.k α ≤ (l.length - i) * Cel.k α := Nat.mul_le_mul_right _ (by omega)
  rw [Nat.add_mul q] at hqk
  have e : (i + 1 + q) * Cel.k α + j = (i + 1) * Cel.k α + (q * Cel.k α + j) := by rw [Nat.add_mul (i + 1)]; omega
  rw [e, World.cell?_setCells_in g _ _ _ hsome1 _ (by omega), ← flat_get (l.drop i) q j y hy hj, List.getElem?_eq_getElem (by omega)]
/-- An element laid between others of a slice that has room. -/
theorem Own.insert (h : Own base E w (.slice (some ⟨g, 0, none⟩) n cap) l) {i : Nat} {x : α} (hi : i ≤ l.length) (hroom : l.length + 1 ≤ cap) :
  Own base E ((w.setCells g ((i + 1) * Cel.k α) ((l.drop i).flatMap Cel.cells)).setCells g (i * Cel.k α) (Cel.cells x)) (.slice (some ⟨g, 0, none⟩) (l.length + 1) cap) (l.take i ++ x :: l.drop i) := by
 obtain ⟨cur, hb, hsz, -, -, -, ha⟩ := h.spare
 have e : (l.take i ++ x :: l.drop i).length = l.length + 1 := by simp; omega
 rw [← e]
 refine h.turnedN (fun c hc => ?_) (by omega) (arr_insert hi (fun p j y hp hy hj => by have := ha p j y hy hj; rwa [Nat.zero_add] at this) (fun t ht => ?_))
 ·
  obtain ⟨c1, k1, k2⟩ := hc.sets _ _
  obtain ⟨c2, k3, k4⟩ := k1.sets _ _
  exact ⟨c2, k3, k4.trans k2⟩
 ·
  have : (l.length + 1) * Cel.k α ≤ cap * Cel.k α := Nat.mul_le_mul_right _ hroom
  rw [hb.cell, Array.getElem?_eq_getElem (by omega)]
  rfl
end
/-- copy of elements of several cells: all is read before anything is written. -/
theorem run_copy_many {P : Program} (w : World) (dT sT ty elem : TypeId) (b o dLen dCap : Nat) (a : Addr) (sLen sCap k : Nat) (cs : List Value)
  (hu : P.underlying dT = some (.slice elem)) (hs : (P.info? elem).map (·.size) = some k) (hn : cs.length = Nat.min sLen dLen * k)
  (hsrc : ∀ j v, cs[j]? = some v → w.cell? (a.add j) = some v) (hc : ∀ j, j < cs.length → (w.cell? ⟨b, o + j, none⟩).isSome = true) (hf : ∀ j, j < cs.length → w.frozen? ⟨b, o + j, none⟩ = false) (h1 : ∀ v ∈ cs, v.oneCell' = true) :
  (Builtin.copy_ #[dT, sT] ty #[.slice (some ⟨b, o, none⟩) dLen dCap, .slice (some a) sLen sCap]).run P w = .ok (goInt (Nat.min sLen dLen)) (w.setCells b o cs) := by
 have hl := run_loadCells_list (P := P) w a cs hsrc
 have hst := run_storeCells_cells (P := P) b o cs 0 w (by simpa using hc) (by simpa using hf) h1
 cases hq : P.info? elem with
 | none => simp [hq] at hs
 | some i =>
  have hi : i.size = k := by simpa [hq] using hs
  simp [Builtin.copy_, run_underlying hu, Builtin.lenOf, Builtin.firstCells, sizeOf, typeInfo, hq, hi, ← hn, hl, hst]
end Go.Proofs.YtnocceilpnmbpaaGreatDoor
