/- Slices whose elements are read as values of a Lean type: what they hold, and that it stays. -/
import Derived.Test.YtnocceilpnmbpaaGreatDoorBase
import Derived.OwnWalk
import Derived.Deep.RegionHeld3
import Derived.Deep.AppendLies
namespace Go.Proofs.YtnocceilpnmbpaaGreatDoor
open Go.RowKit
set_option linter.unusedVariables false

/-- A type whose values lie in a fixed number of cells. -/
class Cel (α : Type) where
 k : Nat
 cells : α → List Value
 len : ∀ x, (cells x).length = k
 pos : 0 < k
 one : ∀ x, ∀ u ∈ cells x, u.oneCell' = true

instance : Cel ByteArray := ⟨1, fun s => [.string s], fun _ => rfl, by decide, by simp [Value.oneCell']⟩
instance : Cel Int := ⟨1, fun n => [.int .i64 n], fun _ => rfl, by decide, by simp [Value.oneCell']⟩

/-- The cells from off on in block b hold the elements of l. -/
def ArrAt {α : Type} [Cel α] (w : World) (b off : Nat) (l : List α) : Prop :=
 ∀ (i j : Nat) (x : α), l[i]? = some x → j < Cel.k α → w.cell? ⟨b, off + (i * Cel.k α + j), none⟩ = (Cel.cells x)[j]?

/-- A slice at address a holds the elements of l. -/
def SA {α : Type} [Cel α] (w : World) (a : Option Addr) (l : List α) : Prop :=
 l = [] ∨ ∃ b off, a = some ⟨b, off, none⟩ ∧ ArrAt w b off l

section
variable {α : Type} [Cel α] {w w' : World} {a : Option Addr} {l : List α}

theorem cell_lt {w : World} {b o : Nat} {v : Value} (h : w.cell? ⟨b, o, none⟩ = some v) : b < w.heap.size := World.block_lt_of_cell? w ⟨b, o, none⟩ h

theorem ArrAt.lt {b off : Nat} (h : ArrAt w b off l) (hl : l ≠ []) : b < w.heap.size := by
 cases l with
 | nil => exact absurd rfl hl
 | cons x r =>
  have h0 := h 0 0 x rfl (Cel.pos)
  have hx := Cel.len x
  have hp := Cel.pos (α := α)
  rw [List.getElem?_eq_getElem (by omega)] at h0
  exact cell_lt h0

theorem ArrAt.same {b off : Nat} (h : ArrAt w b off l) (k : w'.heap[b]? = w.heap[b]?) : ArrAt w' b off l := fun i j x hx hj => by
 rw [World.cell?_of_block (w := w) (a := ⟨b, off + (i * Cel.k α + j), none⟩) k]; exact h i j x hx hj

theorem SA.nil (w : World) (a : Option Addr) : SA w a ([] : List α) := .inl rfl
theorem SA.below (h : SA w a l) (hb : Below w.heap.size w w') : SA w' a l := by
 rcases h with h | ⟨b, off, rfl, h⟩
 ·
  exact .inl h
 ·
  by_cases hl : l = []
  ·
   exact .inl hl
  ·
   exact .inr ⟨b, off, rfl, h.same (hb.block b (h.lt hl))⟩
theorem SA.alloc (h : SA w a l) (o : Obj) : SA (w.alloc o) a l := h.below ((Below.refl _ _).alloc (Nat.le_refl _) o)
theorem SA.drewN (h : SA w a l) (n : Nat) : SA (w.drewN n) a l := h.below (below_drewN (Below.refl _ _) n)
theorem SA.drew (h : SA w a l) : SA w.drew a l := h.below (Below.refl _ _).drew
/-- A maker has run: the slice lies apart from the stream. -/
theorem SA.stp {S : Nat} (h : SA w a l) (hb : Stp S w w') (hS : ∀ x : Addr, a = some x → x.block ≠ S) : SA w' a l := by
 rcases h with h | ⟨b, off, rfl, h⟩
 ·
  exact .inl h
 ·
  by_cases hl : l = []
  ·
   exact .inl hl
  ·
   exact .inr ⟨b, off, rfl, h.same (hb.block b (h.lt hl) (hS _ rfl))⟩
/-- The block of a slice that is not empty, and its cells. -/
theorem SA.at (h : SA w a l) {i : Nat} (hi : i < l.length) : ∃ b off, a = some ⟨b, off, none⟩ ∧ ∀ j, j < Cel.k α → w.cell? ⟨b, off + (i * Cel.k α + j), none⟩ = (Cel.cells l[i])[j]? := by
 rcases h with rfl | ⟨b, off, rfl, h⟩
 ·
  simp at hi
 ·
  exact ⟨b, off, rfl, fun j hj => h i j l[i] (List.getElem?_eq_getElem hi) hj⟩
end

/-- Value v is a slice of the call's own (from block base on) with the elements l. -/
def Own {α : Type} [Cel α] (base : Nat) (E : TypeId) (w : World) (v : Value) (l : List α) : Prop := w.ownsRow base E (Cel.k α) v l.length (l.flatMap Cel.cells)

section
variable {α : Type} [Cel α] {w w' : World} {base : Nat} {E : TypeId} {v : Value} {l : List α}
theorem Own.nil (base : Nat) (E : TypeId) (w : World) : Own base E w (.slice none 0 0) ([] : List α) := World.ownsRow_nil w base E _
theorem Own.lt (h : Own base E w v l) : ∀ k, v.ownBlock = some k → base ≤ k ∧ k < w.heap.size := World.ownsRow.lt h
theorem Own.alloc (h : Own base E w v l) (o : Obj) : Own base E (w.alloc o) v l := World.ownsRow.alloc h o
theorem Own.drew (h : Own base E w v l) : Own base E w.drew v l := World.ownsRow.drew h
theorem Own.same (h : Own base E w v l) (k : ∀ b, v.ownBlock = some b → w'.heap[b]? = w.heap[b]?) : Own base E w' v l := by
 obtain ⟨h1, h2⟩ := h
 refine ⟨h1, ?_⟩
 rcases h2 with h2 | ⟨g, cap, cur, rfl, r1, r2, r3⟩
 ·
  exact .inl h2
 ·
  exact .inr ⟨g, cap, cur, rfl, r1, (k g rfl).trans r2, r3⟩
theorem Own.below (h : Own base E w v l) (k : Below w.heap.size w w') : Own base E w' v l := h.same fun b hb => k.block b (h.lt b hb).2
theorem Own.drewN (h : Own base E w v l) (n : Nat) : Own base E (w.drewN n) v l := h.same fun _ _ => rfl
theorem Own.mono {base' : Nat} (h : Own base E w v l) (hb : base' ≤ base) : Own base' E w v l := by
 obtain ⟨h1, h2⟩ := h
 refine ⟨h1, ?_⟩
 rcases h2 with h2 | ⟨g, cap, cur, rfl, r1, r2, r3⟩
 ·
  exact .inl h2
 ·
  exact .inr ⟨g, cap, cur, rfl, by omega, r2, r3⟩

theorem flat_get (l : List α) (i j : Nat) (x : α) (hx : l[i]? = some x) (hj : j < Cel.k α) : (l.flatMap Cel.cells)[i * Cel.k α + j]? = (Cel.cells x)[j]? := by
 induction l generalizing i with
 | nil => simp at hx
 | cons y r ih =>
  rw [List.flatMap_cons]
  cases i with
  | zero =>
   simp at hx
   subst hx
   rw [List.getElem?_append_left (by rw [Cel.len]; omega)]
   simp
  | succ i =>
   simp at hx
   have e : (i + 1) * Cel.k α + j = Cel.k α + (i * Cel.k α + j) := by rw [Nat.add_mul]; omega
   rw [List.getElem?_append_right (by rw [Cel.len]; omega), Cel.len, e, Nat.add_sub_cancel_left]
   exact ih i hx

/-- A slice of the call's own is read as any other. -/
theorem Own.sa (h : Own base E w v l) : ∃ a cap, v = .slice a l.length cap ∧ SA w a l ∧ (∀ x, a = some x → base ≤ x.block ∧ x.block < w.heap.size) ∧ l.length ≤ cap := by
 have hlt := h.lt
 obtain ⟨h1, h2⟩ := h
 rcases h2 with ⟨rfl, h2⟩ | ⟨g, cap, cur, rfl, r1, r2, r3, r4, r5, r6⟩
 ·
  refine ⟨none, 0, by rw [h2], .inl (List.eq_nil_of_length_eq_zero h2), by simp, by omega⟩
 ·
  refine ⟨some ⟨g, 0, none⟩, cap, rfl, .inr ⟨g, 0, rfl, ?_⟩, ?_, r3⟩
  ·
   intro i j x hx hj
   have hi : i < l.length := (List.getElem?_eq_some_iff.1 hx).1
   have hf := flat_get l i j x hx hj
   have hij : i * Cel.k α + j < l.length * Cel.k α := by
    have : (i + 1) * Cel.k α ≤ l.length * Cel.k α := Nat.mul_le_mul_right _ (by omega)
    rw [Nat.add_mul] at this
    omega
   rw [← hf, ← r6, List.getElem?_take_of_lt hij]
   simp [World.cell?, r2]
  ·
   intro x hx
   cases hx
   exact hlt g rfl

theorem Box.newAt (w : World) (n : Nat) (T : TypeId) (vs : Array Value) (h : n = w.heap.size) : Box (w.alloc (.cells vs T)) n T vs := by subst h; exact Box.new w T vs

/-- append(s, y): one element more. -/
theorem wpList_append_one {P : Program} {ops : Array Oper} {rest : List Oper} {o : Oper} {a : Act} {Q : Exit → Act → World → Prop} (hgd : o.guard = none) (s x : Operand) (t : TypeId)
  (ho : o.op = .call { callee := .builtin .append, args := #[s, x], argTypes := #[t, t] }) (base : Nat) (E bytes : Nat) (z : Value) (ht : P.underlying t = some (.slice E))
  (hE : (P.info? E).map (fun i => (i.zero, i.size, i.bytes)) = some (some z, Cel.k α, bytes)) (hzs : z.cells.size = Cel.k α)
  (v : Value) (l : List α) (hs : a.eval s = v) (hown : Own base E w v l) (y : α) (nb : Nat) (hx : a.eval x = .slice (some ⟨nb, 0, none⟩) 1 1)
  (hbox : Box w nb E (Cel.cells y).toArray) (hlen : (l.length + 1) * bytes ≤ 140737488355328) (hmax : l.length + 1 ≤ 1000000000000) (hbase : base ≤ w.heap.size)
  (h : ∀ v' w', Own base E w' v' (l ++ [y]) → w.grownBy w' v.ownBlock → wpList P ops Q rest (a.put o.dst v') w') : wpList P ops Q (o :: rest) a w := by
 obtain ⟨i0, hi, hz0, hz1, hz2⟩ := info_parts hE
 refine wpList_append_own w hgd s x t ho base E i0 z (Cel.k α) bytes ht hi hz0 hz1 hz2 hzs Cel.pos v l.length (l.flatMap Cel.cells) hs hown ⟨nb, 0, none⟩ 1 1 (Cel.cells y) hx (by rw [Cel.len]; omega) ?_ (Cel.one y) (by unfold maxLen; omega) hlen hbase ?_
 ·
  intro j u hu
  have hb := hbox.cell j
  rw [show (Addr.add ⟨nb, 0, none⟩ j : Addr) = ⟨nb, j, none⟩ from by unfold Addr.add; split <;> simp_all]
  rw [hb]
  simpa using hu
 ·
  intro v' w' h1 h2 _
  refine h v' w' ?_ h2
  unfold Own
  rw [List.length_append, List.flatMap_append]
  simpa using h1
end

/-- append(s, y) in a region that draws its order. -/
theorem step_append_one {α : Type} [Cel α] {w : World} {base : Nat} {P : Program} {ops : Array Oper} {o : Oper} {a : Act} {K : Act → World → Prop} {Q : Exit → Act → World → Prop} {E' : Prop} (hgd : o.guard = none) (s x : Operand) (t : TypeId)
  (ho : o.op = .call { callee := .builtin .append, args := #[s, x], argTypes := #[t, t] }) (E bytes : Nat) (z : Value) (ht : P.underlying t = some (.slice E))
  (hE : (P.info? E).map (fun i => (i.zero, i.size, i.bytes)) = some (some z, Cel.k α, bytes)) (hzs : z.cells.size = Cel.k α)
  (v : Value) (l : List α) (hs : a.eval s = v) (hown : Own base E w v l) (y : α) (nb : Nat) (hx : a.eval x = .slice (some ⟨nb, 0, none⟩) 1 1)
  (hbox : Box w nb E (Cel.cells y).toArray) (hlen : (l.length + 1) * bytes ≤ 140737488355328) (hmax : l.length + 1 ≤ 1000000000000) (hbase : base ≤ w.heap.size)
  (h : ∀ g cap w', Own base E w' (.slice (some ⟨g, 0, none⟩) (l.length + 1) cap) (l ++ [y]) → w.grownBy w' v.ownBlock → K (a.put o.dst (.slice (some ⟨g, 0, none⟩) (l.length + 1) cap)) w') :
  if Region.wanted o (yielded ops a.tmps) = true then Oper.wp P o a w K Q else E' := by
 obtain ⟨i0, hi, hz0, hz1, hz2⟩ := info_parts hE
 refine step_append_lies w hgd s x t ho base E i0 z (Cel.k α) bytes ht hi hz0 hz1 hz2 hzs Cel.pos v l.length (l.flatMap Cel.cells) hs hown ⟨nb, 0, none⟩ 1 1 (Cel.cells y) hx (by rw [Cel.len]; omega) ?_ (Cel.one y) (by omega) (by unfold maxLen; omega) hlen hbase w.heap.size rfl ?_
 ·
  intro j u hu
  have hb := hbox.cell j
  rw [show (Addr.add ⟨nb, 0, none⟩ j : Addr) = ⟨nb, j, none⟩ from by unfold Addr.add; split <;> simp_all]
  rw [hb]
  simpa using hu
 ·
  intro g cap w' h1 h2 _ _
  refine h g cap w' ?_ h2
  unfold Own
  rw [List.length_append, List.flatMap_append]
  simpa using h1

theorem ArrAt.tail {α : Type} [Cel α] {w : World} {b off : Nat} {x : α} {r : List α} (h : ArrAt w b off (x :: r)) : ArrAt w b (off + Cel.k α) r := fun i j y hy hj => by
 have := h (i + 1) j y (by simpa using hy) hj
 rw [← this]
 congr 2
 rw [Nat.add_mul]; omega

/-- s[1:] -/
theorem slice_tail {α : Type} [Cel α] {P : Program} (t E : TypeId) (ht : P.underlying t = some (.slice E)) (hel : P.elem t = E) (hsz : ∀ w, (sizeOf E).run P w = .ok (Cel.k α) w) {w : World} {a : Option Addr} {x : α} {r : List α} (h : SA w a (x :: r)) (cap : Nat) (hc : r.length + 1 ≤ cap) :
  ∃ a2, (∀ W, (Instr.slice t (.slice a (r.length + 1) cap) (some (.int .i64 1)) none none).run P W = .ok (.slice a2 r.length (cap - 1)) W) ∧ (∀ W, (Instr.sliceAt t (.slice a (r.length + 1) cap) (some (.int .i64 1)) none none).run P W = .ok (.slice a2 r.length (cap - 1)) W) ∧ SA w a2 r := by
 have ht' : P.underlying t = some (.slice (P.elem t)) := by rw [hel]; exact ht
 rcases h with h | ⟨b, off, rfl, h⟩
 ·
  cases h
 ·
  have hsl : ∀ W, (Instr.slice t (.slice (some ⟨b, off, none⟩) (r.length + 1) cap) (some (.int .i64 1)) none none).run P W = .ok (.slice (if cap = 1 then some ⟨b, off, none⟩ else some (Addr.add ⟨b, off, none⟩ (1 * Cel.k α))) r.length (cap - 1)) W := fun W => by
   rw [run_slice_l _ _ _ _ _ ht' .i64 1 (by omega) (by omega)]
   simp only [hel, hsz, Result.andThen_ok, sliced]
   congr 2
  refine ⟨_, hsl, fun W => by rw [run_sliceAt_slice _ _ _ _ _ _ ht']; exact hsl W, ?_⟩
  by_cases hr : r = []
  ·
   exact .inl hr
  ·
   have : cap ≠ 1 := by have := List.length_pos_iff.2 hr; omega
   rw [if_neg this]
   have hp := Cel.pos (α := α)
   refine .inr ⟨b, off + Cel.k α, ?_, h.tail⟩
   unfold Addr.add
   rw [if_neg (by omega)]
   simp

/-- A slice of its own is returned. -/
def GivesOwn {α : Type} [Cel α] (E : TypeId) (l : List α) (w : World) (e : Ending) (w' : World) : Prop := ∃ v, e = .returned v ∧ Own w.heap.size E w' v l ∧ Below w.heap.size w w'
end Go.Proofs.YtnocceilpnmbpaaGreatDoor
