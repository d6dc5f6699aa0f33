/- What is kept while some blocks may turn; an append that says where the new slice lies. -/
import Derived.Test.YtnocceilpnmbpaaGreatDoorList
namespace Go.Proofs.YtnocceilpnmbpaaGreatDoor
open Go.RowKit
set_option linter.unusedVariables false
set_option linter.unusedSimpArgs false

/-- All blocks but those of X are as they were. -/
structure Kp (X : Nat → Prop) (w w' : World) : Prop where
 os : w'.os = w.os
 tape : w'.tape = w.tape
 output : w'.output = w.output
 size : w.heap.size ≤ w'.heap.size
 block : ∀ k, k < w.heap.size → ¬ X k → w'.heap[k]? = w.heap[k]?
section
variable {X : Nat → Prop} {a b c w w' : World}
theorem Kp.refl (X : Nat → Prop) (w : World) : Kp X w w := ⟨rfl, rfl, rfl, Nat.le_refl _, fun _ _ _ => rfl⟩
theorem Kp.trans (h : Kp X a b) (k : Kp X b c) : Kp X a c :=
 ⟨k.os.trans h.os, k.tape.trans h.tape, k.output.trans h.output, Nat.le_trans h.size k.size, fun i hi hs => (k.block i (Nat.lt_of_lt_of_le hi h.size) hs).trans (h.block i hi hs)⟩
theorem Kp.drewN (h : Kp X a w) (n : Nat) : Kp X a (w.drewN n) := ⟨h.os, h.tape, h.output, h.size, h.block⟩
theorem Kp.drew (h : Kp X a w) : Kp X a w.drew := ⟨h.os, h.tape, h.output, h.size, h.block⟩
theorem Kp.alloc (h : Kp X a w) (o : Obj) : Kp X a (w.alloc o) :=
 h.trans ⟨rfl, rfl, rfl, by simp, fun k hk _ => Below.heap_alloc _ _ _ hk⟩
theorem Kp.setCell (h : Kp X a w) {p : Addr} (hp : X p.block ∨ a.heap.size ≤ p.block) (u : Value) : Kp X a (w.setCell p u) :=
 ⟨h.os, h.tape, h.output, by simpa [World.setCell] using h.size, fun k hk hs => by
  rw [Below.heap_setCell _ _ _ _ (by rintro rfl; rcases hp with hp | hp; exact hs hp; omega)]; exact h.block k hk hs⟩
theorem Kp.grown {row : Option Nat} (h : Kp X a w) (k : w.grownBy w' row) (hr : ∀ j, row = some j → X j ∨ a.heap.size ≤ j) : Kp X a w' :=
 ⟨k.os.trans h.os, k.tape.trans h.tape, k.output.trans h.output, Nat.le_trans h.size k.size, fun j hj hs => by
  rw [k.block j (Nat.lt_of_lt_of_le hj h.size) (fun e => by rcases hr j e.symm with hr | hr; exact hs hr; omega)]; exact h.block j hj hs⟩
theorem Kp.of_below (h : Below w.heap.size w w') : Kp X w w' := ⟨h.os, h.tape, h.output, h.size, fun k hk _ => h.block k hk⟩
theorem Kp.of_stp {S : Nat} (h : Stp S w w') (hS : X S) : Kp X w w' := ⟨h.os, h.tape, h.output, h.size, fun k hk hx => h.block k hk (fun e => hx (by rw [e]; exact hS))⟩
theorem Kp.mono {Y : Nat → Prop} (h : Kp X w w') (hxy : ∀ k, X k → Y k ∨ w.heap.size ≤ k) : Kp Y w w' :=
 ⟨h.os, h.tape, h.output, h.size, fun k hk hy => h.block k hk (fun hx => by rcases hxy k hx with h1 | h1; exact hy h1; omega)⟩
theorem Kp.stp {S : Nat} (h : Kp X w w') (hS : ∀ k, X k → k = S ∨ w.heap.size ≤ k) : Stp S w w' :=
 ⟨h.os, h.tape, h.output, h.size, fun k hk hs => h.block k hk (fun hx => by rcases hS k hx with h1 | h1; exact hs h1; omega)⟩
theorem SA.kp {α : Type} [Cel α] {ad : Option Addr} {l : List α} (h : SA w ad l) (k : Kp X w w') (hX : ∀ x : Addr, ad = some x → x.block < w.heap.size → ¬ X x.block) : SA w' ad l := by
 rcases h with h | ⟨b, off, rfl, h⟩
 ·
  exact .inl h
 ·
  by_cases hl : l = []
  ·
   exact .inl hl
  ·
   exact .inr ⟨b, off, rfl, h.same (k.block b (h.lt hl) (hX _ rfl (h.lt hl)))⟩
theorem Box.kp {bb : Nat} {T : TypeId} {vs : Array Value} (h : Box w bb T vs) (k : Kp X w w') (hX : ¬ X bb) : Box w' bb T vs := h.same (k.block _ h.lt hX)
theorem Own.kp {α : Type} [Cel α] {base : Nat} {E : TypeId} {v : Value} {l : List α} (h : Own base E w v l) (k : Kp X w w') (hX : ∀ j, v.ownBlock = some j → ¬ X j) : Own base E w' v l :=
 h.same fun j hj => k.block j (h.lt j hj).2 (hX j hj)
theorem Strm.kp {S : Nat} {B : Int} (h : Strm S B w) (k : Kp X w w') (hX : ∀ j, j ≤ S → ¬ X j) : Strm S B w' := h.keepS fun j hj => k.block j (by have := h.lt; omega) (hX j hj)
end

/-- append(s, y): one element more; the slice lies where it lay, or in a new block. -/
theorem wpList_append_lie {α : Type} [Cel α] {w : World} {base : Nat} {P : Program} {ops : Array Oper} {rest : List Oper} {o : Oper} {a : Act} {Q : Exit → Act → World → Prop} (hgd : o.guard = none) (s x : Operand) (t : TypeId)
  (ho : o.op = .call { callee := .builtin .append, args := #[s, x], argTypes := #[t, t] }) (E bytes : Nat) (z : Value) (ht : P.underlying t = some (.slice E))
  (hE : (P.info? E).map (fun i => (i.zero, i.size, i.bytes)) = some (some z, Cel.k α, bytes)) (hzs : z.cells.size = Cel.k α)
  (v : Value) (l : List α) (hs : a.eval s = v) (hown : Own base E w v l) (y : α) (nb : Nat) (hx : a.eval x = .slice (some ⟨nb, 0, none⟩) 1 1)
  (hbox : Box w nb E (Cel.cells y).toArray) (hlen : (l.length + 1) * bytes ≤ 140737488355328) (hmax : l.length + 1 ≤ 1000000000000) (hbase : base ≤ w.heap.size)
  (h : ∀ g cap w', Own base E w' (.slice (some ⟨g, 0, none⟩) (l.length + 1) cap) (l ++ [y]) → w.grownBy w' v.ownBlock → (v.ownBlock = some g ∨ g = w.heap.size) → wpList P ops Q rest (a.put o.dst (.slice (some ⟨g, 0, none⟩) (l.length + 1) cap)) w') : wpList P ops Q (o :: rest) a w := by
 obtain ⟨i0, hi, hz0, hz1, hz2⟩ := info_parts hE
 refine wpList_append_lies w hgd s x t ho base E i0 z (Cel.k α) bytes ht hi hz0 hz1 hz2 hzs Cel.pos v l.length (l.flatMap Cel.cells) hs hown ⟨nb, 0, none⟩ 1 1 (Cel.cells y) hx (by rw [Cel.len]; omega) ?_ (Cel.one y) (by omega) (by unfold maxLen; omega) hlen hbase w.heap.size rfl ?_
 ·
  intro j u hu
  have hb := hbox.cell j
  rw [show (Addr.add ⟨nb, 0, none⟩ j : Addr) = ⟨nb, j, none⟩ from by unfold Addr.add; split <;> simp_all]
  rw [hb]
  simpa using hu
 ·
  intro g cap w' h1 h2 h3 _
  refine h g cap w' ?_ h2 h3
  unfold Own
  rw [List.length_append, List.flatMap_append]
  simpa using h1
theorem SA.grownS {α : Type} [Cel α] {w w' : World} {a : Option Addr} {l : List α} {row : Option Nat} (h : SA w a l) (hg : w.grownBy w' row) (hne : ∀ x, a = some x → some x.block ≠ row) : SA w' a l := by
 rcases h with h | ⟨b, off, rfl, h⟩
 ·
  exact .inl h
 ·
  by_cases hl : l = []
  ·
   exact .inl hl
  ·
   exact .inr ⟨b, off, rfl, h.same (hg.block b (h.lt hl) (hne _ rfl))⟩
theorem belowKp {base : Nat} {a w w' : World} {X : Nat → Prop} (h : Below base a w) (hk : Kp X w w') (hX : ∀ k, X k → base ≤ k) (hbase : base ≤ w.heap.size) : Below base a w' :=
 ⟨hk.os.trans h.os, hk.tape.trans h.tape, hk.output.trans h.output, Nat.le_trans h.size hk.size, fun k hkk => (hk.block k (Nat.lt_of_lt_of_le hkk hbase) (fun hx => by have := hX k hx; omega)).trans (h.block k hkk)⟩
theorem cellKp {X : Nat → Prop} {w w' : World} (hk : Kp X w w') {b o : Nat} {v : Value} (hX : ¬ X b) (h : w.cell? ⟨b, o, none⟩ = some v) : w'.cell? ⟨b, o, none⟩ = some v := by
 have hl := cell_lt h
 rw [← h]
 unfold World.cell?
 rw [hk.block b hl hX]
def TestAt {α : Type} (enc : α → Value) (g : Nat) (lb : Array Value) (c : α → Bool) (l : List α) (w : World) : Prop :=
 ∀ x ∈ l, ∀ W : World, Below w.heap.size w W → Calls Tryz.prog g (#[enc x] ++ lb) W (Gives (.bool (c x)) W)
theorem any_at {α : Type} {c : α → Bool} {l : List α} {i : Nat} (hi : i < l.length) (h : c l[i] = true) : l.any c = true := List.any_eq_true.2 ⟨_, List.getElem_mem hi, h⟩
theorem any_none {α : Type} {c : α → Bool} {l : List α} (h : ∀ x ∈ l.take l.length, c x = false) : l.any c = false := by
 rw [List.take_length] at h
 rw [List.any_eq_false]
 exact fun x hx => by simp [h x hx]
theorem Gives.mono {v : Value} {w w' W : World} {e : Ending} (h : Gives v W e w') (hb : Below w.heap.size w W) : Gives v w e w' := ⟨h.1, below_next hb h.2⟩
/-- The first index that passes a test, or -1. -/
def idxI {α : Type} (c : α → Bool) (l : List α) : Int := match l.findIdx? c with | some k => k | none => -1
theorem idxI_at {α : Type} {c : α → Bool} {l : List α} {k : Nat} (hk : k < l.length) (h : c l[k] = true) (hf : ∀ x ∈ l.take k, c x = false) : idxI c l = k := by
 have : l.findIdx? c = some k := by
  rw [List.findIdx?_eq_some_iff_getElem]
  exact ⟨hk, h, fun j hj => by simp [hf l[j] (List.mem_take_iff_getElem.2 ⟨j, by omega, rfl⟩)]⟩
 unfold idxI; rw [this]
theorem idxI_none {α : Type} {c : α → Bool} {l : List α} (h : ∀ x ∈ l.take l.length, c x = false) : idxI c l = -1 := by
 rw [List.take_length] at h
 have : l.findIdx? c = none := List.findIdx?_eq_none_iff.2 (fun x hx => h x hx)
 unfold idxI; rw [this]
theorem toList_beq (a b : ByteArray) : (a.toList == b.toList) = decide (a = b) := by
 rw [Bool.eq_iff_iff, beq_iff_eq, toList_inj, decide_eq_true_eq]

/-- append(s, y) in a region that draws its order; where the slice lies. -/
theorem step_append_lie {α : Type} [Cel α] {w : World} {base : Nat} {P : Program} {ops : Array Oper} {o : Oper} {a : Act} {K : Act → World → Prop} {Q : Exit → Act → World → Prop} {E' : Prop} (hgd : o.guard = none) (s x : Operand) (t : TypeId)
  (ho : o.op = .call { callee := .builtin .append, args := #[s, x], argTypes := #[t, t] }) (E bytes : Nat) (z : Value) (ht : P.underlying t = some (.slice E))
  (hE : (P.info? E).map (fun i => (i.zero, i.size, i.bytes)) = some (some z, Cel.k α, bytes)) (hzs : z.cells.size = Cel.k α)
  (v : Value) (l : List α) (hs : a.eval s = v) (hown : Own base E w v l) (y : α) (nb : Nat) (hx : a.eval x = .slice (some ⟨nb, 0, none⟩) 1 1)
  (hbox : Box w nb E (Cel.cells y).toArray) (hlen : (l.length + 1) * bytes ≤ 140737488355328) (hmax : l.length + 1 ≤ 1000000000000) (hbase : base ≤ w.heap.size)
  (h : ∀ g cap w', Own base E w' (.slice (some ⟨g, 0, none⟩) (l.length + 1) cap) (l ++ [y]) → w.grownBy w' v.ownBlock → (v.ownBlock = some g ∨ g = w.heap.size) → K (a.put o.dst (.slice (some ⟨g, 0, none⟩) (l.length + 1) cap)) w') :
  if Region.wanted o (yielded ops a.tmps) = true then Oper.wp P o a w K Q else E' := by
 obtain ⟨i0, hi, hz0, hz1, hz2⟩ := info_parts hE
 refine step_append_lies w hgd s x t ho base E i0 z (Cel.k α) bytes ht hi hz0 hz1 hz2 hzs Cel.pos v l.length (l.flatMap Cel.cells) hs hown ⟨nb, 0, none⟩ 1 1 (Cel.cells y) hx (by rw [Cel.len]; omega) ?_ (Cel.one y) (by omega) (by unfold maxLen; omega) hlen hbase w.heap.size rfl ?_
 ·
  intro j u hu
  have hb := hbox.cell j
  rw [show (Addr.add ⟨nb, 0, none⟩ j : Addr) = ⟨nb, j, none⟩ from by unfold Addr.add; split <;> simp_all]
  rw [hb]
  simpa using hu
 ·
  intro g cap w' h1 h2 h3 _
  refine h g cap w' ?_ h2 h3
  unfold Own
  rw [List.length_append, List.flatMap_append]
  simpa using h1

end Go.Proofs.YtnocceilpnmbpaaGreatDoor
