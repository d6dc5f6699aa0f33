/- Rows that grow under one block of headers. -/
import Derived.Test.YtcjcdbhobehlpaaGreatDoorMat
namespace Go.Proofs.YtcjcdbhobehlpaaGreatDoor
open Go.RowKit
set_option linter.unusedVariables false
set_option linter.unusedSimpArgs false

def Apt (v v' : Value) : Prop := ∀ j, v.ownBlock = some j → v'.ownBlock ≠ some j
theorem Apt.symm {v v' : Value} (h : Apt v v') : Apt v' v := fun j hj hk => h j hk hj
theorem atNew {v : Value} {g n cap m : Nat} (h : v.ownBlock = some g ∨ g = m) : ∀ j, (Value.slice (some ⟨g, 0, none⟩) n cap).ownBlock = some j → v.ownBlock = some j ∨ m ≤ j := fun j hj => by
 obtain rfl : g = j := Option.some.inj hj
 exact h.imp id (fun e => Nat.le_of_eq e.symm)
/-- The block b holds n headers; each is of a row of the call's own, no two in one block. -/
structure Rws {α : Type} [Cel α] (base : Nat) (E T : TypeId) (b n : Nat) (hv : Nat → Value) (rows : Nat → List α) (w : World) : Prop where
 box : Box w b T (cellsF id hv n)
 own : ∀ i, i < n → Own base E w (hv i) (rows i)
 dis : ∀ i j, i < n → j < n → i ≠ j → Apt (hv i) (hv j)
 low : b < base
section
variable {α : Type} [Cel α] {base : Nat} {E T : TypeId} {b n : Nat} {hv : Nat → Value} {rows : Nat → List α} {w w' : World}
theorem Rws.kp {X : Nat → Prop} (h : Rws base E T b n hv rows w) (k : Kp X w w') (hX : ¬ X b) (hX2 : ∀ i, i < n → ∀ j, (hv i).ownBlock = some j → ¬ X j) : Rws base E T b n hv rows w' :=
 ⟨h.box.kp k hX, fun i hi => (h.own i hi).kp k (hX2 i hi), h.dis, h.low⟩
theorem Rws.below (h : Rws base E T b n hv rows w) (k : Below w.heap.size w w') : Rws base E T b n hv rows w' :=
 h.kp (X := fun _ => False) (Kp.of_below k) (fun e => e) (fun _ _ _ _ e => e)
theorem Rws.push (h : Rws base E T b n hv rows w) {i : Nat} (hi : i < n) {y : α} {v' : Value} (hown : Own base E w' v' (rows i ++ [y])) (hg : w.grownBy w' (hv i).ownBlock) (hat : ∀ j, v'.ownBlock = some j → (hv i).ownBlock = some j ∨ w.heap.size ≤ j) :
  Rws base E T b n (upd hv i v') (upd rows i (rows i ++ [y])) (w'.setCell ⟨b, i, none⟩ v') := by
 have k1 : Kp (fun j => (hv i).ownBlock = some j) w w' := (Kp.refl _ w).grown hg (fun j hj => .inl hj)
 have hlow := h.low
 have hb1 := h.box.kp k1 (fun e => by have := ((h.own i hi).lt _ e).1; omega)
 have hb2 := hb1.set i v'
 have e := cellsF_set id hv n i v'
 have e2 : (cellsF id hv n).setIfInBounds i v' = cellsF id (upd hv i v') n := e
 rw [e2] at hb2
 have far : ∀ j, j < n → j ≠ i → Own base E w' (hv j) (rows j) := fun j hj hne => (h.own j hj).kp k1 (fun x hx hx2 => h.dis j i hj hi hne x hx hx2)
 refine ⟨hb2, fun j hj => ?_, fun j k hj hk hne => ?_, hlow⟩
 ·
  by_cases e : j = i
  ·
   subst e
   rw [upd_at, upd_at]
   exact hown.setOther (p := ⟨b, j, none⟩) (fun x hx => by have := (hown.lt x hx).1; show x ≠ b; omega) _
  ·
   rw [upd_ne _ _ e, upd_ne _ _ e]
   exact (far j hj e).setOther (p := ⟨b, i, none⟩) (fun x hx => by have := ((h.own j hj).lt x hx).1; show x ≠ b; omega) _
 ·
  have new : ∀ j, j < n → j ≠ i → Apt v' (hv j) := fun j hj hne x hx hx2 => by
   rcases hat x hx with h1 | h1
   ·
    exact h.dis i j hi hj (fun e => hne e.symm) x h1 hx2
   ·
    have := ((h.own j hj).lt x hx2).2; omega
  by_cases e1 : j = i
  ·
   subst e1
   have e2 : k ≠ j := fun e => hne e.symm
   rw [upd_at, upd_ne _ _ e2]
   exact new k hk e2
  ·
   rw [upd_ne _ _ e1]
   by_cases e2 : k = i
   ·
    subst e2
    rw [upd_at]
    exact (new j hj e1).symm
   ·
    rw [upd_ne _ _ e2]
    exact h.dis j k hj hk hne
/-- What else is kept by a push. -/
theorem Rws.pushed (h : Rws base E T b n hv rows w) {i : Nat} (hi : i < n) {v' : Value} (hg : w.grownBy w' (hv i).ownBlock) : Kp (fun j => (hv i).ownBlock = some j ∨ j = b) w (w'.setCell ⟨b, i, none⟩ v') :=
 ((Kp.refl _ w).grown hg (fun j hj => .inl (.inl hj))).setCell (p := ⟨b, i, none⟩) (.inl (.inr rfl)) _
end
end Go.Proofs.YtcjcdbhobehlpaaGreatDoor
