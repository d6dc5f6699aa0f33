/- A grid while it is made: its five lists grow one at a time. -/
import Derived.Test.YtldgphhiajhfhaaGreatDoorGridP
namespace Go.Proofs.YtldgphhiajhfhaaGreatDoor
open Go.RowKit
set_option linter.unusedVariables false
set_option linter.unusedSimpArgs false

def Apt (v v' : Value) : Prop := ∀ j, v.ownBlock = some j → v'.ownBlock ≠ some j
theorem Apt.symm {v v' : Value} (h : Apt v v') : Apt v' v := fun j hj hk => h j hk hj
/-- The addresses of all inner lists. -/
def adsG (lt : List Tlk) (lw : List Wsh) : List Addr := lt.flatMap Nst.ads ++ lw.flatMap Nst.ads
/-- The grid at block gb with its five lists. -/
structure GW (base gb : Nat) (vr vs vt vw vb : Value) (lr : List Rom) (ls : List Slt) (lt : List Tlk) (lw : List Wsh) (lb : List Ban2) (w : World) : Prop where
 box : Box w gb 32 #[vr, vs, vt, vw, vb]
 fr : Own base 54 w vr lr
 fs : Own base 56 w vs ls
 ft : Own base 60 w vt lt
 fw : Own base 62 w vw lw
 fb : Own base 64 w vb lb
 rdt : ∀ x ∈ lt, Nst.rd w x
 rdw : ∀ x ∈ lw, Nst.rd w x
 ars : Apt vr vs
 art : Apt vr vt
 arw : Apt vr vw
 arb : Apt vr vb
 ast : Apt vs vt
 asw : Apt vs vw
 asb : Apt vs vb
 atw : Apt vt vw
 atb : Apt vt vb
 awb : Apt vw vb
 or : ∀ y ∈ adsG lt lw, vr.ownBlock ≠ some y.block
 os : ∀ y ∈ adsG lt lw, vs.ownBlock ≠ some y.block
 ot : ∀ y ∈ adsG lt lw, vt.ownBlock ≠ some y.block
 ow : ∀ y ∈ adsG lt lw, vw.ownBlock ≠ some y.block
 ob : ∀ y ∈ adsG lt lw, vb.ownBlock ≠ some y.block
 nb : ∀ y ∈ adsG lt lw, base ≤ y.block ∧ y.block < w.heap.size
 gn : ∀ y ∈ adsG lt lw, y.block ≠ gb
 xr : vr.ownBlock ≠ some gb
 xs : vs.ownBlock ≠ some gb
 xt : vt.ownBlock ≠ some gb
 xw : vw.ownBlock ≠ some gb
 xb : vb.ownBlock ≠ some gb
section
variable {base gb : Nat} {vr vs vt vw vb : Value} {lr : List Rom} {ls : List Slt} {lt : List Tlk} {lw : List Wsh} {lb : List Ban2} {w w' : World}
theorem GW.kp {X : Nat → Prop} (h : GW base gb vr vs vt vw vb lr ls lt lw lb w) (k : Kp X w w') (hX : ∀ j, (j = gb ∨ base ≤ j) → ¬ X j) : GW base gb vr vs vt vw vb lr ls lt lw lb w' :=
 ⟨h.box.kp k (hX _ (.inl rfl)), h.fr.kp k (fun j hj => hX j (.inr (h.fr.lt j hj).1)), h.fs.kp k (fun j hj => hX j (.inr (h.fs.lt j hj).1)), h.ft.kp k (fun j hj => hX j (.inr (h.ft.lt j hj).1)), h.fw.kp k (fun j hj => hX j (.inr (h.fw.lt j hj).1)), h.fb.kp k (fun j hj => hX j (.inr (h.fb.lt j hj).1)), fun x hx => Nst.same (h.rdt x hx) (fun y hy => k.block _ (h.nb y (List.mem_append_left _ (List.mem_flatMap.2 ⟨x, hx, hy⟩))).2 (hX _ (.inr (h.nb y (List.mem_append_left _ (List.mem_flatMap.2 ⟨x, hx, hy⟩))).1))), fun x hx => Nst.same (h.rdw x hx) (fun y hy => k.block _ (h.nb y (List.mem_append_right _ (List.mem_flatMap.2 ⟨x, hx, hy⟩))).2 (hX _ (.inr (h.nb y (List.mem_append_right _ (List.mem_flatMap.2 ⟨x, hx, hy⟩))).1))), h.ars, h.art, h.arw, h.arb, h.ast, h.asw, h.asb, h.atw, h.atb, h.awb, h.or, h.os, h.ot, h.ow, h.ob, fun y hy => ⟨(h.nb y hy).1, Nat.lt_of_lt_of_le (h.nb y hy).2 k.size⟩, h.gn, h.xr, h.xs, h.xt, h.xw, h.xb⟩
theorem GW.stp {S : Nat} (h : GW base gb vr vs vt vw vb lr ls lt lw lb w) (k : Stp S w w') (hS : S < base) (hS2 : S ≠ gb) : GW base gb vr vs vt vw vb lr ls lt lw lb w' := h.kp (Kp.of_stp (X := fun j => j = S) k rfl) (fun j hj e => by rcases hj with hj | hj <;> omega)
theorem GW.below (h : GW base gb vr vs vt vw vb lr ls lt lw lb w) (k : Below w.heap.size w w') : GW base gb vr vs vt vw vb lr ls lt lw lb w' := h.kp (X := fun _ => False) (Kp.of_below k) (fun _ _ h => h)
theorem GW.alloc (h : GW base gb vr vs vt vw vb lr ls lt lw lb w) (o : Obj) : GW base gb vr vs vt vw vb lr ls lt lw lb (w.alloc o) := h.below ((Below.refl _ _).alloc (Nat.le_refl _) o)
/-- The list r has grown, and is stored. -/
theorem GW.putr (h : GW base gb vr vs vt vw vb lr ls lt lw lb w) {v9 : Value} {l9 : List Rom} (hg : w.grownBy w' vr.ownBlock) (hown : Own base 54 w' v9 l9) (hat : ∀ j, v9.ownBlock = some j → vr.ownBlock = some j ∨ w.heap.size ≤ j) :
  GW base gb v9 vs vt vw vb l9 ls lt lw lb (w'.setCell ⟨gb, 0, none⟩ v9) := by
 have hk : Kp (fun j => vr.ownBlock = some j) w w' := (Kp.refl _ w).grown hg (fun j hj => .inl hj)
 have hk2 : Kp (fun j => j = gb) w' (w'.setCell ⟨gb, 0, none⟩ v9) := (Kp.refl (fun j => j = gb) w').setCell (p := ⟨gb, 0, none⟩) (.inl rfl) v9
 have hsz := hk.size
 have hgb := h.box.lt
 have hbx := (h.box.kp hk h.xr).set 0 v9
 have hadd : ∀ y ∈ adsG lt lw, base ≤ y.block ∧ y.block < w.heap.size ∧ vr.ownBlock ≠ some y.block ∧ vs.ownBlock ≠ some y.block ∧ vt.ownBlock ≠ some y.block ∧ vw.ownBlock ≠ some y.block ∧ vb.ownBlock ≠ some y.block ∧ y.block ≠ gb := fun y hy => by
  exact ⟨(h.nb y hy).1, (h.nb y hy).2, h.or y hy, h.os y hy, h.ot y hy, h.ow y hy, h.ob y hy, h.gn y hy⟩
 have hkeep : ∀ y ∈ adsG lt lw, (w'.setCell ⟨gb, 0, none⟩ v9).heap[y.block]? = w.heap[y.block]? := fun y hy => by
  have h1 := hadd y hy
  rw [hk2.block _ (by omega) h1.2.2.2.2.2.2.2, hk.block _ h1.2.1 h1.2.2.1]
 have hx9 : v9.ownBlock ≠ some gb := fun e => (hat _ e).elim h.xr (fun e2 => by omega)
 exact ⟨by simpa using hbx, hown.kp hk2 (fun j hj e => hx9 (e ▸ hj)), (h.fs.kp hk (fun j hj e => (h.ars).symm j hj e)).kp hk2 (fun j hj e => h.xs (e ▸ hj)), (h.ft.kp hk (fun j hj e => (h.art).symm j hj e)).kp hk2 (fun j hj e => h.xt (e ▸ hj)), (h.fw.kp hk (fun j hj e => (h.arw).symm j hj e)).kp hk2 (fun j hj e => h.xw (e ▸ hj)), (h.fb.kp hk (fun j hj e => (h.arb).symm j hj e)).kp hk2 (fun j hj e => h.xb (e ▸ hj)), fun x hx => Nst.same (h.rdt x hx) (fun y hy => hkeep y (List.mem_append_left _ (List.mem_flatMap.2 ⟨x, hx, hy⟩))), fun x hx => Nst.same (h.rdw x hx) (fun y hy => hkeep y (List.mem_append_right _ (List.mem_flatMap.2 ⟨x, hx, hy⟩))), fun j hj hq => (hat j hj).elim (fun e => h.ars j e hq) (fun e => by have := (h.fs.lt j hq).2; omega), fun j hj hq => (hat j hj).elim (fun e => h.art j e hq) (fun e => by have := (h.ft.lt j hq).2; omega), fun j hj hq => (hat j hj).elim (fun e => h.arw j e hq) (fun e => by have := (h.fw.lt j hq).2; omega), fun j hj hq => (hat j hj).elim (fun e => h.arb j e hq) (fun e => by have := (h.fb.lt j hq).2; omega), h.ast, h.asw, h.asb, h.atw, h.atb, h.awb, fun y hy hq => (hat _ hq).elim (hadd y hy).2.2.1 (fun e => by have := (hadd y hy).2.1; omega), fun y hy => (hadd y hy).2.2.2.1, fun y hy => (hadd y hy).2.2.2.2.1, fun y hy => (hadd y hy).2.2.2.2.2.1, fun y hy => (hadd y hy).2.2.2.2.2.2.1, fun y hy => ⟨(hadd y hy).1, Nat.lt_of_lt_of_le (hadd y hy).2.1 (Nat.le_trans hsz hk2.size)⟩, fun y hy => (hadd y hy).2.2.2.2.2.2.2, hx9, h.xs, h.xt, h.xw, h.xb⟩
/-- The list s has grown, and is stored. -/
theorem GW.puts (h : GW base gb vr vs vt vw vb lr ls lt lw lb w) {v9 : Value} {l9 : List Slt} (hg : w.grownBy w' vs.ownBlock) (hown : Own base 56 w' v9 l9) (hat : ∀ j, v9.ownBlock = some j → vs.ownBlock = some j ∨ w.heap.size ≤ j) :
  GW base gb vr v9 vt vw vb lr l9 lt lw lb (w'.setCell ⟨gb, 1, none⟩ v9) := by
 have hk : Kp (fun j => vs.ownBlock = some j) w w' := (Kp.refl _ w).grown hg (fun j hj => .inl hj)
 have hk2 : Kp (fun j => j = gb) w' (w'.setCell ⟨gb, 1, none⟩ v9) := (Kp.refl (fun j => j = gb) w').setCell (p := ⟨gb, 1, none⟩) (.inl rfl) v9
 have hsz := hk.size
 have hgb := h.box.lt
 have hbx := (h.box.kp hk h.xs).set 1 v9
 have hadd : ∀ y ∈ adsG lt lw, base ≤ y.block ∧ y.block < w.heap.size ∧ vr.ownBlock ≠ some y.block ∧ vs.ownBlock ≠ some y.block ∧ vt.ownBlock ≠ some y.block ∧ vw.ownBlock ≠ some y.block ∧ vb.ownBlock ≠ some y.block ∧ y.block ≠ gb := fun y hy => by
  exact ⟨(h.nb y hy).1, (h.nb y hy).2, h.or y hy, h.os y hy, h.ot y hy, h.ow y hy, h.ob y hy, h.gn y hy⟩
 have hkeep : ∀ y ∈ adsG lt lw, (w'.setCell ⟨gb, 1, none⟩ v9).heap[y.block]? = w.heap[y.block]? := fun y hy => by
  have h1 := hadd y hy
  rw [hk2.block _ (by omega) h1.2.2.2.2.2.2.2, hk.block _ h1.2.1 h1.2.2.2.1]
 have hx9 : v9.ownBlock ≠ some gb := fun e => (hat _ e).elim h.xs (fun e2 => by omega)
 exact ⟨by simpa using hbx, (h.fr.kp hk (fun j hj e => h.ars j hj e)).kp hk2 (fun j hj e => h.xr (e ▸ hj)), hown.kp hk2 (fun j hj e => hx9 (e ▸ hj)), (h.ft.kp hk (fun j hj e => (h.ast).symm j hj e)).kp hk2 (fun j hj e => h.xt (e ▸ hj)), (h.fw.kp hk (fun j hj e => (h.asw).symm j hj e)).kp hk2 (fun j hj e => h.xw (e ▸ hj)), (h.fb.kp hk (fun j hj e => (h.asb).symm j hj e)).kp hk2 (fun j hj e => h.xb (e ▸ hj)), fun x hx => Nst.same (h.rdt x hx) (fun y hy => hkeep y (List.mem_append_left _ (List.mem_flatMap.2 ⟨x, hx, hy⟩))), fun x hx => Nst.same (h.rdw x hx) (fun y hy => hkeep y (List.mem_append_right _ (List.mem_flatMap.2 ⟨x, hx, hy⟩))), Apt.symm (fun j hj hq => (hat j hj).elim (fun e => (h.ars).symm j e hq) (fun e => by have := (h.fr.lt j hq).2; omega)), h.art, h.arw, h.arb, fun j hj hq => (hat j hj).elim (fun e => h.ast j e hq) (fun e => by have := (h.ft.lt j hq).2; omega), fun j hj hq => (hat j hj).elim (fun e => h.asw j e hq) (fun e => by have := (h.fw.lt j hq).2; omega), fun j hj hq => (hat j hj).elim (fun e => h.asb j e hq) (fun e => by have := (h.fb.lt j hq).2; omega), h.atw, h.atb, h.awb, fun y hy => (hadd y hy).2.2.1, fun y hy hq => (hat _ hq).elim (hadd y hy).2.2.2.1 (fun e => by have := (hadd y hy).2.1; omega), fun y hy => (hadd y hy).2.2.2.2.1, fun y hy => (hadd y hy).2.2.2.2.2.1, fun y hy => (hadd y hy).2.2.2.2.2.2.1, fun y hy => ⟨(hadd y hy).1, Nat.lt_of_lt_of_le (hadd y hy).2.1 (Nat.le_trans hsz hk2.size)⟩, fun y hy => (hadd y hy).2.2.2.2.2.2.2, h.xr, hx9, h.xt, h.xw, h.xb⟩
/-- The list t has grown, and is stored. -/
theorem GW.putt (h : GW base gb vr vs vt vw vb lr ls lt lw lb w) {v9 : Value} {l9 : List Tlk} (hg : w.grownBy w' vt.ownBlock) (hown : Own base 60 w' v9 l9) (hat : ∀ j, v9.ownBlock = some j → vt.ownBlock = some j ∨ w.heap.size ≤ j) (hn : ∀ z ∈ l9, z ∈ lt ∨ (Nst.rd w z ∧ ∀ y ∈ Nst.ads z, base ≤ y.block ∧ y.block < w.heap.size ∧ vr.ownBlock ≠ some y.block ∧ vs.ownBlock ≠ some y.block ∧ vt.ownBlock ≠ some y.block ∧ vw.ownBlock ≠ some y.block ∧ vb.ownBlock ≠ some y.block ∧ y.block ≠ gb)) :
  GW base gb vr vs v9 vw vb lr ls l9 lw lb (w'.setCell ⟨gb, 2, none⟩ v9) := by
 have hk : Kp (fun j => vt.ownBlock = some j) w w' := (Kp.refl _ w).grown hg (fun j hj => .inl hj)
 have hk2 : Kp (fun j => j = gb) w' (w'.setCell ⟨gb, 2, none⟩ v9) := (Kp.refl (fun j => j = gb) w').setCell (p := ⟨gb, 2, none⟩) (.inl rfl) v9
 have hsz := hk.size
 have hgb := h.box.lt
 have hbx := (h.box.kp hk h.xt).set 2 v9
 have hadd : ∀ y ∈ adsG l9 lw, base ≤ y.block ∧ y.block < w.heap.size ∧ vr.ownBlock ≠ some y.block ∧ vs.ownBlock ≠ some y.block ∧ vt.ownBlock ≠ some y.block ∧ vw.ownBlock ≠ some y.block ∧ vb.ownBlock ≠ some y.block ∧ y.block ≠ gb := fun y hy => by
  rcases List.mem_append.1 hy with hy | hy
  ·
   obtain ⟨z, hz, hyz⟩ := List.mem_flatMap.1 hy
   rcases hn z hz with h1 | h1
   ·
    have hm : y ∈ adsG lt lw := List.mem_append_left _ (List.mem_flatMap.2 ⟨z, h1, hyz⟩)
    exact ⟨(h.nb y hm).1, (h.nb y hm).2, h.or y hm, h.os y hm, h.ot y hm, h.ow y hm, h.ob y hm, h.gn y hm⟩
   ·
    exact h1.2 y hyz
  ·
   have hm : y ∈ adsG lt lw := List.mem_append_right _ hy
   exact ⟨(h.nb y hm).1, (h.nb y hm).2, h.or y hm, h.os y hm, h.ot y hm, h.ow y hm, h.ob y hm, h.gn y hm⟩
 have hkeep : ∀ y ∈ adsG l9 lw, (w'.setCell ⟨gb, 2, none⟩ v9).heap[y.block]? = w.heap[y.block]? := fun y hy => by
  have h1 := hadd y hy
  rw [hk2.block _ (by omega) h1.2.2.2.2.2.2.2, hk.block _ h1.2.1 h1.2.2.2.2.1]
 have hx9 : v9.ownBlock ≠ some gb := fun e => (hat _ e).elim h.xt (fun e2 => by omega)
 exact ⟨by simpa using hbx, (h.fr.kp hk (fun j hj e => h.art j hj e)).kp hk2 (fun j hj e => h.xr (e ▸ hj)), (h.fs.kp hk (fun j hj e => h.ast j hj e)).kp hk2 (fun j hj e => h.xs (e ▸ hj)), hown.kp hk2 (fun j hj e => hx9 (e ▸ hj)), (h.fw.kp hk (fun j hj e => (h.atw).symm j hj e)).kp hk2 (fun j hj e => h.xw (e ▸ hj)), (h.fb.kp hk (fun j hj e => (h.atb).symm j hj e)).kp hk2 (fun j hj e => h.xb (e ▸ hj)), fun x hx => Nst.same ((hn x hx).elim (h.rdt x) (fun e => e.1)) (fun y hy => hkeep y (List.mem_append_left _ (List.mem_flatMap.2 ⟨x, hx, hy⟩))), fun x hx => Nst.same (h.rdw x hx) (fun y hy => hkeep y (List.mem_append_right _ (List.mem_flatMap.2 ⟨x, hx, hy⟩))), h.ars, Apt.symm (fun j hj hq => (hat j hj).elim (fun e => (h.art).symm j e hq) (fun e => by have := (h.fr.lt j hq).2; omega)), h.arw, h.arb, Apt.symm (fun j hj hq => (hat j hj).elim (fun e => (h.ast).symm j e hq) (fun e => by have := (h.fs.lt j hq).2; omega)), h.asw, h.asb, fun j hj hq => (hat j hj).elim (fun e => h.atw j e hq) (fun e => by have := (h.fw.lt j hq).2; omega), fun j hj hq => (hat j hj).elim (fun e => h.atb j e hq) (fun e => by have := (h.fb.lt j hq).2; omega), h.awb, fun y hy => (hadd y hy).2.2.1, fun y hy => (hadd y hy).2.2.2.1, fun y hy hq => (hat _ hq).elim (hadd y hy).2.2.2.2.1 (fun e => by have := (hadd y hy).2.1; omega), fun y hy => (hadd y hy).2.2.2.2.2.1, fun y hy => (hadd y hy).2.2.2.2.2.2.1, fun y hy => ⟨(hadd y hy).1, Nat.lt_of_lt_of_le (hadd y hy).2.1 (Nat.le_trans hsz hk2.size)⟩, fun y hy => (hadd y hy).2.2.2.2.2.2.2, h.xr, h.xs, hx9, h.xw, h.xb⟩
/-- The list w has grown, and is stored. -/
theorem GW.putw (h : GW base gb vr vs vt vw vb lr ls lt lw lb w) {v9 : Value} {l9 : List Wsh} (hg : w.grownBy w' vw.ownBlock) (hown : Own base 62 w' v9 l9) (hat : ∀ j, v9.ownBlock = some j → vw.ownBlock = some j ∨ w.heap.size ≤ j) (hn : ∀ z ∈ l9, z ∈ lw ∨ (Nst.rd w z ∧ ∀ y ∈ Nst.ads z, base ≤ y.block ∧ y.block < w.heap.size ∧ vr.ownBlock ≠ some y.block ∧ vs.ownBlock ≠ some y.block ∧ vt.ownBlock ≠ some y.block ∧ vw.ownBlock ≠ some y.block ∧ vb.ownBlock ≠ some y.block ∧ y.block ≠ gb)) :
  GW base gb vr vs vt v9 vb lr ls lt l9 lb (w'.setCell ⟨gb, 3, none⟩ v9) := by
 have hk : Kp (fun j => vw.ownBlock = some j) w w' := (Kp.refl _ w).grown hg (fun j hj => .inl hj)
 have hk2 : Kp (fun j => j = gb) w' (w'.setCell ⟨gb, 3, none⟩ v9) := (Kp.refl (fun j => j = gb) w').setCell (p := ⟨gb, 3, none⟩) (.inl rfl) v9
 have hsz := hk.size
 have hgb := h.box.lt
 have hbx := (h.box.kp hk h.xw).set 3 v9
 have hadd : ∀ y ∈ adsG lt l9, base ≤ y.block ∧ y.block < w.heap.size ∧ vr.ownBlock ≠ some y.block ∧ vs.ownBlock ≠ some y.block ∧ vt.ownBlock ≠ some y.block ∧ vw.ownBlock ≠ some y.block ∧ vb.ownBlock ≠ some y.block ∧ y.block ≠ gb := fun y hy => by
  rcases List.mem_append.1 hy with hy | hy
  ·
   have hm : y ∈ adsG lt lw := List.mem_append_left _ hy
   exact ⟨(h.nb y hm).1, (h.nb y hm).2, h.or y hm, h.os y hm, h.ot y hm, h.ow y hm, h.ob y hm, h.gn y hm⟩
  ·
   obtain ⟨z, hz, hyz⟩ := List.mem_flatMap.1 hy
   rcases hn z hz with h1 | h1
   ·
    have hm : y ∈ adsG lt lw := List.mem_append_right _ (List.mem_flatMap.2 ⟨z, h1, hyz⟩)
    exact ⟨(h.nb y hm).1, (h.nb y hm).2, h.or y hm, h.os y hm, h.ot y hm, h.ow y hm, h.ob y hm, h.gn y hm⟩
   ·
    exact h1.2 y hyz
 have hkeep : ∀ y ∈ adsG lt l9, (w'.setCell ⟨gb, 3, none⟩ v9).heap[y.block]? = w.heap[y.block]? := fun y hy => by
  have h1 := hadd y hy
  rw [hk2.block _ (by omega) h1.2.2.2.2.2.2.2, hk.block _ h1.2.1 h1.2.2.2.2.2.1]
 have hx9 : v9.ownBlock ≠ some gb := fun e => (hat _ e).elim h.xw (fun e2 => by omega)
 exact ⟨by simpa using hbx, (h.fr.kp hk (fun j hj e => h.arw j hj e)).kp hk2 (fun j hj e => h.xr (e ▸ hj)), (h.fs.kp hk (fun j hj e => h.asw j hj e)).kp hk2 (fun j hj e => h.xs (e ▸ hj)), (h.ft.kp hk (fun j hj e => h.atw j hj e)).kp hk2 (fun j hj e => h.xt (e ▸ hj)), hown.kp hk2 (fun j hj e => hx9 (e ▸ hj)), (h.fb.kp hk (fun j hj e => (h.awb).symm j hj e)).kp hk2 (fun j hj e => h.xb (e ▸ hj)), fun x hx => Nst.same (h.rdt x hx) (fun y hy => hkeep y (List.mem_append_left _ (List.mem_flatMap.2 ⟨x, hx, hy⟩))), fun x hx => Nst.same ((hn x hx).elim (h.rdw x) (fun e => e.1)) (fun y hy => hkeep y (List.mem_append_right _ (List.mem_flatMap.2 ⟨x, hx, hy⟩))), h.ars, h.art, Apt.symm (fun j hj hq => (hat j hj).elim (fun e => (h.arw).symm j e hq) (fun e => by have := (h.fr.lt j hq).2; omega)), h.arb, h.ast, Apt.symm (fun j hj hq => (hat j hj).elim (fun e => (h.asw).symm j e hq) (fun e => by have := (h.fs.lt j hq).2; omega)), h.asb, Apt.symm (fun j hj hq => (hat j hj).elim (fun e => (h.atw).symm j e hq) (fun e => by have := (h.ft.lt j hq).2; omega)), h.atb, fun j hj hq => (hat j hj).elim (fun e => h.awb j e hq) (fun e => by have := (h.fb.lt j hq).2; omega), fun y hy => (hadd y hy).2.2.1, fun y hy => (hadd y hy).2.2.2.1, fun y hy => (hadd y hy).2.2.2.2.1, fun y hy hq => (hat _ hq).elim (hadd y hy).2.2.2.2.2.1 (fun e => by have := (hadd y hy).2.1; omega), fun y hy => (hadd y hy).2.2.2.2.2.2.1, fun y hy => ⟨(hadd y hy).1, Nat.lt_of_lt_of_le (hadd y hy).2.1 (Nat.le_trans hsz hk2.size)⟩, fun y hy => (hadd y hy).2.2.2.2.2.2.2, h.xr, h.xs, h.xt, hx9, h.xb⟩
/-- The list b has grown, and is stored. -/
theorem GW.putb (h : GW base gb vr vs vt vw vb lr ls lt lw lb w) {v9 : Value} {l9 : List Ban2} (hg : w.grownBy w' vb.ownBlock) (hown : Own base 64 w' v9 l9) (hat : ∀ j, v9.ownBlock = some j → vb.ownBlock = some j ∨ w.heap.size ≤ j) :
  GW base gb vr vs vt vw v9 lr ls lt lw l9 (w'.setCell ⟨gb, 4, none⟩ v9) := by
 have hk : Kp (fun j => vb.ownBlock = some j) w w' := (Kp.refl _ w).grown hg (fun j hj => .inl hj)
 have hk2 : Kp (fun j => j = gb) w' (w'.setCell ⟨gb, 4, none⟩ v9) := (Kp.refl (fun j => j = gb) w').setCell (p := ⟨gb, 4, none⟩) (.inl rfl) v9
 have hsz := hk.size
 have hgb := h.box.lt
 have hbx := (h.box.kp hk h.xb).set 4 v9
 have hadd : ∀ y ∈ adsG lt lw, base ≤ y.block ∧ y.block < w.heap.size ∧ vr.ownBlock ≠ some y.block ∧ vs.ownBlock ≠ some y.block ∧ vt.ownBlock ≠ some y.block ∧ vw.ownBlock ≠ some y.block ∧ vb.ownBlock ≠ some y.block ∧ y.block ≠ gb := fun y hy => by
  exact ⟨(h.nb y hy).1, (h.nb y hy).2, h.or y hy, h.os y hy, h.ot y hy, h.ow y hy, h.ob y hy, h.gn y hy⟩
 have hkeep : ∀ y ∈ adsG lt lw, (w'.setCell ⟨gb, 4, none⟩ v9).heap[y.block]? = w.heap[y.block]? := fun y hy => by
  have h1 := hadd y hy
  rw [hk2.block _ (by omega) h1.2.2.2.2.2.2.2, hk.block _ h1.2.1 h1.2.2.2.2.2.2.1]
 have hx9 : v9.ownBlock ≠ some gb := fun e => (hat _ e).elim h.xb (fun e2 => by omega)
 exact ⟨by simpa using hbx, (h.fr.kp hk (fun j hj e => h.arb j hj e)).kp hk2 (fun j hj e => h.xr (e ▸ hj)), (h.fs.kp hk (fun j hj e => h.asb j hj e)).kp hk2 (fun j hj e => h.xs (e ▸ hj)), (h.ft.kp hk (fun j hj e => h.atb j hj e)).kp hk2 (fun j hj e => h.xt (e ▸ hj)), (h.fw.kp hk (fun j hj e => h.awb j hj e)).kp hk2 (fun j hj e => h.xw (e ▸ hj)), hown.kp hk2 (fun j hj e => hx9 (e ▸ hj)), fun x hx => Nst.same (h.rdt x hx) (fun y hy => hkeep y (List.mem_append_left _ (List.mem_flatMap.2 ⟨x, hx, hy⟩))), fun x hx => Nst.same (h.rdw x hx) (fun y hy => hkeep y (List.mem_append_right _ (List.mem_flatMap.2 ⟨x, hx, hy⟩))), h.ars, h.art, h.arw, Apt.symm (fun j hj hq => (hat j hj).elim (fun e => (h.arb).symm j e hq) (fun e => by have := (h.fr.lt j hq).2; omega)), h.ast, h.asw, Apt.symm (fun j hj hq => (hat j hj).elim (fun e => (h.asb).symm j e hq) (fun e => by have := (h.fs.lt j hq).2; omega)), h.atw, Apt.symm (fun j hj hq => (hat j hj).elim (fun e => (h.atb).symm j e hq) (fun e => by have := (h.ft.lt j hq).2; omega)), Apt.symm (fun j hj hq => (hat j hj).elim (fun e => (h.awb).symm j e hq) (fun e => by have := (h.fw.lt j hq).2; omega)), fun y hy => (hadd y hy).2.2.1, fun y hy => (hadd y hy).2.2.2.1, fun y hy => (hadd y hy).2.2.2.2.1, fun y hy => (hadd y hy).2.2.2.2.2.1, fun y hy hq => (hat _ hq).elim (hadd y hy).2.2.2.2.2.2.1 (fun e => by have := (hadd y hy).2.1; omega), fun y hy => ⟨(hadd y hy).1, Nat.lt_of_lt_of_le (hadd y hy).2.1 (Nat.le_trans hsz hk2.size)⟩, fun y hy => (hadd y hy).2.2.2.2.2.2.2, h.xr, h.xs, h.xt, h.xw, hx9⟩
/-- Another variable holds the grid. -/
theorem GW.move (h : GW base gb vr vs vt vw vb lr ls lt lw lb w) (T : TypeId) (hT : T = 32) : GW base w.heap.size vr vs vt vw vb lr ls lt lw lb (w.alloc (.cells #[vr, vs, vt, vw, vb] T)) := by
 subst hT
 have a := h.alloc (.cells #[vr, vs, vt, vw, vb] 32)
 exact ⟨Box.new _ _ _, a.fr, a.fs, a.ft, a.fw, a.fb, a.rdt, a.rdw, a.ars, a.art, a.arw, a.arb, a.ast, a.asw, a.asb, a.atw, a.atb, a.awb, a.or, a.os, a.ot, a.ow, a.ob, a.nb, fun y hy => Nat.ne_of_lt (h.nb y hy).2, fun e => by have := (h.fr.lt _ e).2; omega, fun e => by have := (h.fs.lt _ e).2; omega, fun e => by have := (h.ft.lt _ e).2; omega, fun e => by have := (h.fw.lt _ e).2; omega, fun e => by have := (h.fb.lt _ e).2; omega⟩
theorem GW.mono (h : GW base gb vr vs vt vw vb lr ls lt lw lb w) {base2 : Nat} (hb : base2 ≤ base) : GW base2 gb vr vs vt vw vb lr ls lt lw lb w :=
 ⟨h.box, h.fr.mono hb, h.fs.mono hb, h.ft.mono hb, h.fw.mono hb, h.fb.mono hb, h.rdt, h.rdw, h.ars, h.art, h.arw, h.arb, h.ast, h.asw, h.asb, h.atw, h.atb, h.awb, h.or, h.os, h.ot, h.ow, h.ob, fun y hy => ⟨Nat.le_trans hb (h.nb y hy).1, (h.nb y hy).2⟩, h.gn, h.xr, h.xs, h.xt, h.xw, h.xb⟩
end
theorem run_make_len {P : Program} (t e : TypeId) (z : Value) (bts : Nat) (h1 : P.underlying t = some (.slice e)) (h2 : (P.info? e).map (fun i => (i.zero, i.size, i.bytes)) = some (some z, 1, bts)) (hz : z.cells = #[z])
  (n : Nat) (hn : bts * n ≤ 281474976710656) (hn2 : n ≤ 9223372036854775807) (w : World) :
  (Instr.makeSlice t (.int .i64 (n : Int)) (.int .i64 (n : Int))).run P w = .ok (.slice (some ⟨w.heap.size, 0, none⟩) n n) (w.alloc (.cells (Array.replicate n z) e)) := by
 obtain ⟨i, hi, he⟩ := Option.map_eq_some_iff.1 h2
 obtain ⟨e1, e2, e3⟩ : i.zero = some z ∧ i.size = 1 ∧ i.bytes = bts := by simpa using he
 have hb : (i.bytes : Int) * (n : Int) ≤ 281474976710656 := by
  have h : ((i.bytes * n : Nat) : Int) ≤ 281474976710656 := by rw [e3]; omega
  rwa [Int.natCast_mul] at h
 have hr := run_make (P := P) w t e i z h1 hi e1 .i64 .i64 n n (by omega) (by omega) hb (by omega)
 simp only [Int.toNat_natCast] at hr
 rw [hr, e2, Nat.mul_one, hz]
 have hm : madeCells #[z] n = Array.replicate n z := by rw [← Array.toList_inj, toList_madeCells_one, Array.toList_replicate]
 rw [hm]
end Go.Proofs.YtldgphhiajhfhaaGreatDoor
