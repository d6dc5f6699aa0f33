/- Lists of structs that hold lists: where the inner lists lie, and that they stay. -/
import Derived.Test.YtnocceilpnmbpaaGreatDoorKeep
namespace Go.Proofs.YtnocceilpnmbpaaGreatDoor
open Go.RowKit
set_option linter.unusedVariables false
set_option linter.unusedSimpArgs false

theorem SA.blk {α : Type} [Cel α] {w w' : World} {a : Option Addr} {l : List α} (h : SA w a l) (k : ∀ x : Addr, a = some x → w'.heap[x.block]? = w.heap[x.block]?) : SA w' a l := by
 rcases h with h | ⟨b, off, rfl, h⟩
 ·
  exact .inl h
 ·
  exact .inr ⟨b, off, rfl, h.same (k _ rfl)⟩
/-- A struct that holds lists: their addresses, and what they hold. -/
class Nst (α : Type) [Cel α] where
 ads : α → List Addr
 rd : World → α → Prop
 same : ∀ {w w' : World} {x : α}, rd w x → (∀ y ∈ ads x, w'.heap[y.block]? = w.heap[y.block]?) → rd w' x
/-- The inner lists of one element are there, in blocks of the call's own and apart from that of v. -/
def NIn {α : Type} [Cel α] [Nst α] (base : Nat) (v : Value) (w : World) (x : α) : Prop :=
 Nst.rd w x ∧ ∀ y ∈ Nst.ads x, base ≤ y.block ∧ y.block < w.heap.size ∧ v.ownBlock ≠ some y.block
/-- A slice of the call's own whose elements hold lists. -/
def NL {α : Type} [Cel α] [Nst α] (base : Nat) (E : TypeId) (w : World) (v : Value) (l : List α) : Prop := Own base E w v l ∧ ∀ x ∈ l, NIn base v w x
section
variable {α : Type} [Cel α] [Nst α] {w w' : World} {base : Nat} {E : TypeId} {v : Value} {l : List α} {x : α}
theorem NL.nil (base : Nat) (E : TypeId) (w : World) : NL base E w (.slice none 0 0) ([] : List α) := ⟨Own.nil _ _ _, fun x hx => by cases hx⟩
theorem NIn.kp {X : Nat → Prop} (h : NIn base v w x) (k : Kp X w w') (hX : ∀ j, base ≤ j → X j → v.ownBlock = some j ∨ w.heap.size ≤ j) : NIn base v w' x :=
 ⟨Nst.same h.1 (fun y hy => by
  obtain ⟨h1, h2, h3⟩ := h.2 y hy
  exact k.block _ h2 (fun hx => (hX _ h1 hx).elim h3 (fun e => by omega))), fun y hy => by
  obtain ⟨h1, h2, h3⟩ := h.2 y hy
  exact ⟨h1, Nat.lt_of_lt_of_le h2 k.size, h3⟩⟩
theorem NL.kp {X : Nat → Prop} (h : NL base E w v l) (k : Kp X w w') (hX : ∀ j, base ≤ j → ¬ X j) : NL base E w' v l :=
 ⟨h.1.kp k (fun j hj => hX j (h.1.lt j hj).1), fun x hx => (h.2 x hx).kp k (fun j hj hx => absurd hx (hX j hj))⟩
theorem NL.stp {S : Nat} (h : NL base E w v l) (k : Stp S w w') (hS : S < base) : NL base E w' v l := h.kp (Kp.of_stp (X := fun j => j = S) k rfl) (fun j hj e => by omega)
theorem NL.below (h : NL base E w v l) (k : Below w.heap.size w w') : NL base E w' v l := h.kp (X := fun _ => False) (Kp.of_below k) (fun _ _ h => h)
theorem NL.alloc (h : NL base E w v l) (o : Obj) : NL base E (w.alloc o) v l := h.below ((Below.refl _ _).alloc (Nat.le_refl _) o)
/-- What another slice of the call's own, that lies apart, turns. -/
theorem NL.grownOther {row : Option Nat} (h : NL base E w v l) (k : w.grownBy w' row) (hv : ∀ j, row = some j → v.ownBlock ≠ some j ∧ ∀ x ∈ l, ∀ y ∈ Nst.ads x, y.block ≠ j) : NL base E w' v l := by
 have hk : Kp (fun j => row = some j) w w' := (Kp.refl _ w).grown k (fun j hj => .inl hj)
 refine ⟨h.1.kp hk (fun j hj hr => (hv j hr).1 hj), fun x hx => ⟨Nst.same (h.2 x hx).1 (fun y hy => ?_), fun y hy => ?_⟩⟩
 ·
  exact hk.block _ ((h.2 x hx).2 y hy).2.1 (fun hr => (hv _ hr).2 x hx y hy rfl)
 ·
  obtain ⟨h1, h2, h3⟩ := (h.2 x hx).2 y hy
  exact ⟨h1, Nat.lt_of_lt_of_le h2 hk.size, h3⟩
/-- An element more. -/
theorem NL.snoc {g n cap : Nat} (h : NL base E w v l) (hx : NIn base v w x) (hg : w.grownBy w' v.ownBlock) (hown : Own base E w' (.slice (some ⟨g, 0, none⟩) n cap) (l ++ [x])) (hat : v.ownBlock = some g ∨ g = w.heap.size) : NL base E w' (.slice (some ⟨g, 0, none⟩) n cap) (l ++ [x]) := by
 have hk : Kp (fun j => v.ownBlock = some j) w w' := (Kp.refl _ w).grown hg (fun j hj => .inl hj)
 refine ⟨hown, fun z hz => ?_⟩
 have hz' : NIn base v w z := by
  rcases List.mem_append.1 hz with h1 | h1
  ·
   exact h.2 z h1
  ·
   rw [List.mem_singleton] at h1; subst h1; exact hx
 refine ⟨Nst.same hz'.1 (fun y hy => hk.block _ (hz'.2 y hy).2.1 (fun hr => (hz'.2 y hy).2.2 hr)), fun y hy => ?_⟩
 obtain ⟨h1, h2, h3⟩ := hz'.2 y hy
 refine ⟨h1, Nat.lt_of_lt_of_le h2 hk.size, fun e => ?_⟩
 obtain rfl : g = y.block := Option.some.inj e
 rcases hat with h4 | h4
 ·
  exact h3 h4
 ·
  omega
theorem NL.rd (h : NL base E w v l) : ∀ x ∈ l, Nst.rd w x := fun x hx => (h.2 x hx).1
end
end Go.Proofs.YtnocceilpnmbpaaGreatDoor
