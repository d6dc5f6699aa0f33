/- Steps through a region that draws its order: an operation is taken first, or passed over because its guard is shut. -/
import Derived.Test.YtnocceilpnmbpaaGreatDoorBase
import Derived.Deep.RegionHeld3
namespace Go.Proofs.YtnocceilpnmbpaaGreatDoor
open Go.RowKit
section
variable {P : Program} {ops : Array Oper} {Q : Exit → Act → World → Prop} {md : Region.Mode} {S : World → Prop}
theorem rtake {i : Nat} {oi : Oper} {d : Option Tmp} {v : Value} {fuel : Nat} {listed : Array Bool} {a : Act} {w : World} (hi : ops[i]? = some oi) (hd : oi.dst = d)
  (hs : Region.noSelect ops = true) (hf : Region.free md ops listed i = true) (hr : (Region.ready md ops listed).contains i = true)
  (hQ : ∀ c a w, Q (.panic c) (a.put d v) w → Q (.panic c) a w) (hw : Region.wanted oi (yielded ops a.tmps) = true) (hS : S w) (hy : ∀ w, S w → (execOp a.eval oi).run P w = .ok (.value v) w)
  (h : wpAnyH P md ops Q S fuel (listed.setIfInBounds i true) (a.put d v) w) : wpAnyH P md ops Q S (fuel + 1) listed a w := by
 subst hd; exact wpAnyH_take hi hs hf hr hQ (.inl ⟨hw, hy⟩) hS h
theorem rskip {i : Nat} {oi : Oper} {d : Option Tmp} {fuel : Nat} {listed : Array Bool} {a : Act} {w : World} (hi : ops[i]? = some oi) (hd : oi.dst = d)
  (hs : Region.noSelect ops = true) (hf : Region.free md ops listed i = true) (hr : (Region.ready md ops listed).contains i = true)
  (hQ : ∀ c a w, Q (.panic c) (a.put d undef) w → Q (.panic c) a w) (hw : Region.wanted oi (yielded ops a.tmps) = false) (hS : S w)
  (h : wpAnyH P md ops Q S fuel (listed.setIfInBounds i true) (a.put d undef) w) : wpAnyH P md ops Q S (fuel + 1) listed a w := by
 subst hd; exact wpAnyH_take hi hs hf hr hQ (.inr ⟨hw, rfl⟩) hS h
theorem rt (i : Nat) (d : Option Tmp) {oi : Oper} {v : Value} {fuel : Nat} {listed : Array Bool} {a a' : Act} {w : World} (h : wpAnyH P md ops Q S fuel (listed.setIfInBounds i true) a' w)
  (hi : ops[i]? = some oi := by rfl) (hd : oi.dst = d := by kernel_rfl) (hs : Region.noSelect ops = true := by kernel_rfl) (hf : Region.free md ops listed i = true := by kernel_rfl) (hr : (Region.ready md ops listed).contains i = true := by kernel_rfl)
  (hw : Region.wanted oi (yielded ops a.tmps) = true := by kernel_rfl) (hS : S w := by assumption) (hy : ∀ w, S w → (execOp a.eval oi).run P w = .ok (.value v) w := by (intro wI hSI; (try dsimp only at hSI); go_simp; (try with_reducible rfl)))
  (ha : a.put d v = a' := by (simp only [Act.put, lsetA, lsetZ, lsetS] <;> with_reducible rfl)) (hQ : ∀ c a w, Q (.panic c) (a.put d v) w → Q (.panic c) a w := by exact fun _ _ _ h => h) : wpAnyH P md ops Q S (fuel + 1) listed a w := by
 subst ha; subst hd; exact wpAnyH_take hi hs hf hr hQ (.inl ⟨hw, hy⟩) hS h
theorem rs (i : Nat) (d : Option Tmp) {oi : Oper} {fuel : Nat} {listed : Array Bool} {a a' : Act} {w : World} (h : wpAnyH P md ops Q S fuel (listed.setIfInBounds i true) a' w)
  (hi : ops[i]? = some oi := by rfl) (hd : oi.dst = d := by kernel_rfl) (hs : Region.noSelect ops = true := by kernel_rfl) (hf : Region.free md ops listed i = true := by kernel_rfl) (hr : (Region.ready md ops listed).contains i = true := by kernel_rfl)
  (hw : Region.wanted oi (yielded ops a.tmps) = false := by kernel_rfl) (hS : S w := by assumption)
  (ha : a.put d undef = a' := by (simp only [Act.put, lsetA, lsetZ, lsetS] <;> with_reducible rfl)) (hQ : ∀ c a w, Q (.panic c) (a.put d undef) w → Q (.panic c) a w := by exact fun _ _ _ h => h) : wpAnyH P md ops Q S (fuel + 1) listed a w := by
 subst ha; subst hd; exact wpAnyH_take hi hs hf hr hQ (.inr ⟨hw, rfl⟩) hS h
theorem rcall {i : Nat} {oi : Oper} {d : Option Tmp} {fuel : Nat} {listed : Array Bool} {a : Act} {w : World} (hr : Region.ready md ops listed = [i]) (hi : ops[i]? = some oi) (hd : oi.dst = d)
  (h : ∀ K' : Act → World → Prop, Shut (∀ v w, S w → (S w → wpAnyH P md ops Q S fuel (listed.setIfInBounds i true) (a.put d v) w) → K' (a.put d v) w) → if Region.wanted oi (yielded ops a.tmps) = true then Oper.wp P oi a w K' Q else K' (a.put d undef) w) :
  wpAnyH P md ops Q S (fuel + 1) listed a w := by
 subst hd
 exact wpAnyH_ready hr (by simp) (AllReadyH.cons hi (fun K' hK => h K' (fun v w hS hh => hK.out _ _ hS hh)) AllReadyH.nil)
/-- Two operations may come up: one only reads and gives the same behind the other. -/
theorem rpair {i j : Nat} {oi oj : Oper} {di dj : Option Tmp} {vi vj : Value} {fuel : Nat} {listed : Array Bool} {a : Act} {w w' : World}
  (hr : Region.ready md ops listed = [i, j]) (hri : Region.ready md ops (listed.setIfInBounds i true) = [j]) (hrj : Region.ready md ops (listed.setIfInBounds j true) = [i])
  (hi : ops[i]? = some oi) (hj : ops[j]? = some oj) (hdi : oi.dst = di) (hdj : oj.dst = dj) (gi : oi.guard = none) (gj : oj.guard = none)
  (ri : (execOp a.eval oi).run P w = .ok (.value vi) w) (ri' : (execOp (a.put dj vj).eval oi).run P w' = .ok (.value vi) w')
  (rj : (execOp a.eval oj).run P w = .ok (.value vj) w') (rj' : (execOp (a.put di vi).eval oj).run P w = .ok (.value vj) w')
  (hS : S w) (hS' : S w') (hab : (a.put dj vj).put di vi = (a.put di vi).put dj vj) (hl : (listed.setIfInBounds j true).setIfInBounds i true = (listed.setIfInBounds i true).setIfInBounds j true)
  (h : wpAnyH P md ops Q S fuel ((listed.setIfInBounds i true).setIfInBounds j true) ((a.put di vi).put dj vj) w') : wpAnyH P md ops Q S (fuel + 1 + 1) listed a w := by
 subst hdi hdj
 have wi : ∀ x, Region.wanted oi x = true := fun x => by simp [Region.wanted, gi]
 have wj : ∀ x, Region.wanted oj x = true := fun x => by simp [Region.wanted, gj]
 refine wpAnyH_ready hr (by simp) (AllReadyH.cons hi (fun K hK => ?_) (AllReadyH.cons hj (fun K hK => ?_) AllReadyH.nil))
 ·
  rw [if_pos (wi _), Oper.wp, ri]
  refine hK.out _ _ hS fun _ => ?_
  refine wpAnyH_ready hri (by simp) (AllReadyH.cons hj (fun K hK => ?_) AllReadyH.nil)
  rw [if_pos (wj _), Oper.wp, rj']
  exact hK.out _ _ hS' fun _ => h
 ·
  rw [if_pos (wj _), Oper.wp, rj]
  refine hK.out _ _ hS' fun _ => ?_
  refine wpAnyH_ready hrj (by simp) (AllReadyH.cons hi (fun K hK => ?_) AllReadyH.nil)
  rw [if_pos (wi _), Oper.wp, ri']
  refine hK.out _ _ hS' fun _ => ?_
  rw [hl, hab]
  exact h
end
end Go.Proofs.YtnocceilpnmbpaaGreatDoor
