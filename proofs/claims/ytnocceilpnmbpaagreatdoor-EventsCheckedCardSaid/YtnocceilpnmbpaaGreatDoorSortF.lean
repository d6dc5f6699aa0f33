/- slices.SortFunc of at most 12 structs: the worlds, and what a list reads as. -/
import Derived.Test.YtnocceilpnmbpaaGreatDoorKeep
import Derived.Test.YtnocceilpnmbpaaGreatDoorOrd
import Derived.Shelf.SlSortCmp.SmallK

namespace Go.Proofs.YtnocceilpnmbpaaGreatDoor
open Go.RowKit Go.Sort
set_option linter.unusedVariables false
set_option linter.unusedSimpArgs false

/-- New blocks, more draws; all else as it was. -/
def Grw (w w' : World) : Prop := Below w.heap.size w w' ∧ w.drawn ≤ w'.drawn
section
variable {a b c : World}
theorem Grw.refl (w : World) : Grw w w := ⟨Below.refl _ _, Nat.le_refl _⟩
theorem Grw.trans (h : Grw a b) (k : Grw b c) : Grw a c := ⟨below_next h.1 k.1, Nat.le_trans h.2 k.2⟩
theorem Grw.alloc (h : Grw a b) (o : Obj) : Grw a (b.alloc o) := ⟨h.1.alloc h.1.size o, h.2⟩
theorem Grw.drew (h : Grw a b) : Grw a b.drew := ⟨h.1.drew, Nat.le_trans h.2 (Nat.le_succ _)⟩
theorem Grw.drewN (h : Grw a b) (n : Nat) : Grw a (b.drewN n) := ⟨below_drewN h.1 n, Nat.le_trans h.2 (Nat.le_add_right _ _)⟩
theorem Grw.grown (h : Grw a b) : ∃ (q : Nat) (os : Array Obj), b = grow (a.drewN q) os := by
 obtain ⟨hb, hd⟩ := h
 refine ⟨b.drawn - a.drawn, b.heap.extract a.heap.size b.heap.size, ?_⟩
 have e1 : b.heap = a.heap ++ b.heap.extract a.heap.size b.heap.size := by
  apply Array.ext_getElem?
  intro i
  have hs := hb.size
  by_cases h : i < a.heap.size
  ·
   rw [hb.block i h, Array.getElem?_append_left h]
  ·
   rw [Array.getElem?_append_right (by omega), Array.getElem?_extract]
   by_cases h2 : i < b.heap.size
   ·
    rw [if_pos (by omega)]
    congr 1
    omega
   ·
    rw [if_neg (by omega), Array.getElem?_eq_none (by omega)]
 have e2 := hb.os
 have e3 := hb.tape
 have e4 := hb.output
 have e5 : b.drawn = a.drawn + (b.drawn - a.drawn) := by omega
 generalize b.heap.extract a.heap.size b.heap.size = os at *
 generalize b.drawn - a.drawn = q at *
 clear hb hd
 obtain ⟨h1, h2, h3, h4, h5⟩ := b
 simp only at e1 e2 e3 e4 e5
 subst e1 e2 e3 e4 e5
 rfl
end

section
variable {α β : Type} [Inhabited α] [Cel β] {w : World} {b : Nat} (f : α → β)
theorem holdsK_of (d : List α) {E : TypeId} {cur : Array Value} (hbox : Box w b E cur) (h : ArrAt w b 0 (d.map f)) : HoldsK (fun x => Cel.cells (f x)) (Cel.k β) w b 0 d.toArray := by
 intro t ht
 rw [size_flatK, List.size_toArray] at ht
 have hk := Cel.pos (α := β)
 have hi : t / Cel.k β < d.length := Nat.div_lt_of_lt_mul (by rw [Nat.mul_comm]; exact ht)
 have hj : t % Cel.k β < Cel.k β := Nat.mod_lt _ hk
 refine ⟨?_, hbox.frozen _⟩
 have hx : (d.map f)[t / Cel.k β]? = some (f d[t / Cel.k β]) := by rw [List.getElem?_map, List.getElem?_eq_getElem hi]; rfl
 have h1 := h _ _ _ hx hj
 have e : t / Cel.k β * Cel.k β + t % Cel.k β = t := by rw [Nat.mul_comm]; exact Nat.div_add_mod _ _
 rw [e] at h1
 rw [h1]
 show _ = some (id _)
 have hl := Cel.len (f d[t / Cel.k β])
 rw [get_flatK _ _ _ _ (by rw [List.size_toArray]; exact ht), List.getElem?_eq_getElem (by omega)]
 have e2 : d.toArray[t / Cel.k β]! = d[t / Cel.k β] := by simp [hi]
 show _ = some (Cel.cells (f (d.toArray[t / Cel.k β]!)))[t % Cel.k β]!
 rw [e2, getElem!_pos _ _ (by omega)]
theorem arr_of_holdsK {d : Array α} (h : HoldsK (fun x => Cel.cells (f x)) (Cel.k β) w b 0 d) : ArrAt w b 0 (d.toList.map f) := by
 intro i j x hx hj
 rw [List.getElem?_map] at hx
 obtain ⟨y, hy, rfl⟩ := Option.map_eq_some_iff.1 hx
 obtain ⟨hi, rfl⟩ := List.getElem?_eq_some_iff.1 hy
 rw [Array.length_toList] at hi
 have h1 := (h.cell hi hj).1
 rw [← Nat.add_assoc, h1, getElem!_pos d i hi, Array.getElem_toList]
 have hl := Cel.len (f d[i])
 rw [List.getElem?_eq_getElem (by omega), getElem!_pos _ _ (by omega)]
theorem kp_sortK (w : World) (blk : Nat) (enc : α → List Value) (k n : Nat) (d : Array α) (os : Array Obj) : Kp (· = blk) w (sortWorldK enc k w blk 0 n d os) := by
 refine ⟨rfl, rfl, rfl, by unfold sortWorldK; rw [size_grow, size_putRowK]; exact Nat.le_add_right _ _, fun j hj hne => ?_⟩
 unfold sortWorldK
 rw [heap_grow_old _ _ (by rw [size_putRowK]; exact hj)]
 show (putRow id (Sort.ahead w n) blk 0 (flatK enc k d)).heap[j]? = _
 unfold putRow mapBlock
 simp [Array.getElem?_modify, Ne.symm hne]
end
section
variable {α : Type} [Inhabited α]
theorem insInner_sz (lt : α → α → Bool) (a : Nat) : ∀ (j : Nat) (d : Array α), (insInner lt a j d).size = d.size
 | 0, d => by unfold insInner; rfl
 | j + 1, d => by
  unfold insInner
  split
  ·
   rw [insInner_sz lt a j, size_swp]
  ·
   rfl
theorem insOuter_sz (lt : α → α → Bool) (a b : Nat) : ∀ (n i : Nat) (d : Array α), b - i = n → (insOuter lt a b i d).size = d.size
 | 0, i, d, h => by rw [insOuter, if_neg (by omega)]
 | n + 1, i, d, h => by rw [insOuter, if_pos (by omega), insOuter_sz lt a b n (i + 1) _ (by omega), insInner_sz]
theorem sorted_len (lt : α → α → Bool) (d : List α) : (Sort.insertionSort lt d.toArray 0 d.length).size = d.length := by
 unfold Sort.insertionSort
 rw [insOuter_sz lt 0 d.length _ _ _ rfl, List.size_toArray]
end
end Go.Proofs.YtnocceilpnmbpaaGreatDoor
