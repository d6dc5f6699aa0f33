/- append(s, ys...): several elements at once; a block known whole is a slice of the call's own. -/
import Derived.Test.YtnocceilpnmbpaaGreatDoorKeep
namespace Go.Proofs.YtnocceilpnmbpaaGreatDoor
open Go.RowKit
set_option linter.unusedVariables false
set_option linter.unusedSimpArgs false

theorem flatLen {α : Type} [Cel α] : ∀ l : List α, (l.flatMap Cel.cells).length = l.length * Cel.k α
 | [] => by simp
 | x :: r => by rw [List.flatMap_cons, List.length_append, flatLen r, Cel.len, List.length_cons, Nat.add_mul]; omega
theorem flatOne {α : Type} [Cel α] (l : List α) : ∀ u ∈ l.flatMap Cel.cells, u.oneCell' = true := by
 intro u hu
 obtain ⟨x, _, hx⟩ := List.mem_flatMap.1 hu
 exact Cel.one x u hx
theorem ArrAt.news {α : Type} [Cel α] {w : World} {b off : Nat} {l : List α} (h : ArrAt w b off l) : ∀ j u, (l.flatMap Cel.cells)[j]? = some u → w.cell? (Addr.add ⟨b, off, none⟩ j) = some u := by
 intro j u hu
 have hp := Cel.pos (α := α)
 have hj : j < l.length * Cel.k α := by rw [← flatLen]; exact (List.getElem?_eq_some_iff.1 hu).1
 have hi : j / Cel.k α < l.length := Nat.div_lt_of_lt_mul (by rw [Nat.mul_comm]; exact hj)
 have e : j / Cel.k α * Cel.k α + j % Cel.k α = j := by rw [Nat.mul_comm]; exact Nat.div_add_mod j _
 have h1 := h _ _ _ (List.getElem?_eq_getElem hi) (Nat.mod_lt j hp)
 have h2 := flat_get l _ _ _ (List.getElem?_eq_getElem hi) (Nat.mod_lt j hp)
 rw [e] at h1 h2
 rw [show (Addr.add ⟨b, off, none⟩ j : Addr) = ⟨b, off + j, none⟩ from by unfold Addr.add; split <;> simp_all, h1, ← h2, hu]
/-- A block that is known whole is a slice of the call's own. -/
theorem Own.ofBox {α : Type} [Cel α] {w : World} {base b : Nat} {E : TypeId} {vs : Array Value} {l : List α} (h : Box w b E vs) (hv : vs.toList = l.flatMap Cel.cells) (hb : base ≤ b) (hl : l.length ≤ 1000000000) :
  Own base E w (.slice (some ⟨b, 0, none⟩) l.length l.length) l := by
 have hs : vs.size = l.length * Cel.k α := by rw [← flatLen, ← hv]; simp
 refine ⟨flatLen l, .inr ⟨b, l.length, vs, rfl, hb, h, Nat.le_refl _, by unfold maxLen; omega, hs, ?_⟩⟩
 rw [hv, List.take_of_length_le (by rw [flatLen]; exact Nat.le_refl _)]

/-- append(s, ys...): some elements more; the slice lies where it lay, or in a new block. -/
theorem wpList_append_more {α : Type} [Cel α] {w : World} {base : Nat} {P : Program} {ops : Array Oper} {rest : List Oper} {o : Oper} {a : Act} {Q : Exit → Act → World → Prop} (hgd : o.guard = none) (s x : Operand) (t : TypeId)
  (ho : o.op = .call { callee := .builtin .append, args := #[s, x], argTypes := #[t, t] }) (E bytes : Nat) (z : Value) (ht : P.underlying t = some (.slice E))
  (hE : (P.info? E).map (fun i => (i.zero, i.size, i.bytes)) = some (some z, Cel.k α, bytes)) (hzs : z.cells.size = Cel.k α)
  (v : Value) (l : List α) (hs : a.eval s = v) (hown : Own base E w v l) (ys : List α) (ad : Option Addr) (c : Nat) (hx : a.eval x = .slice ad ys.length c)
  (hsa : SA w ad ys) (hne : ys ≠ []) (hlen : (l.length + ys.length) * bytes ≤ 140737488355328) (hmax : l.length + ys.length ≤ 1000000000000) (hbase : base ≤ w.heap.size)
  (h : ∀ g cap w', Own base E w' (.slice (some ⟨g, 0, none⟩) (l.length + ys.length) cap) (l ++ ys) → w.grownBy w' v.ownBlock → (v.ownBlock = some g ∨ g = w.heap.size) → wpList P ops Q rest (a.put o.dst (.slice (some ⟨g, 0, none⟩) (l.length + ys.length) cap)) w') : wpList P ops Q (o :: rest) a w := by
 obtain ⟨i0, hi, hz0, hz1, hz2⟩ := info_parts hE
 rcases hsa with rfl | ⟨b, off, rfl, hsa⟩
 ·
  exact absurd rfl hne
 refine wpList_append_lies w hgd s x t ho base E i0 z (Cel.k α) bytes ht hi hz0 hz1 hz2 hzs Cel.pos v l.length (l.flatMap Cel.cells) hs hown ⟨b, off, none⟩ ys.length c (ys.flatMap Cel.cells) hx (flatLen ys) hsa.news (flatOne ys) (List.length_pos_iff.2 hne) (by unfold maxLen; omega) hlen hbase w.heap.size rfl ?_
 intro g cap w' h1 h2 h3 _
 refine h g cap w' ?_ h2 h3
 unfold Own
 rw [List.length_append, List.flatMap_append]
 exact h1
/-- append(s, nothing...): the slice as it was. -/
theorem run_append_zero {P : Program} {w : World} (base : Nat) (t ty e : TypeId) (i : TypeInfo) (size : Nat) (ht : P.underlying t = some (.slice e)) (hi : P.info? e = some i)
  (v : Value) (n : Nat) (xs : List Value) (hown : w.ownsRow base e size v n xs) (ad : Option Addr) (c : Nat) : (Builtin.append_ #[t, t] ty #[v, .slice ad 0 c]).run P w = .ok v w := by
 rcases hown.2 with ⟨rfl, rfl⟩ | ⟨g, cap, cur, rfl, _, _, hnc, _⟩ <;> cases ad
 ·
  simp [Builtin.append_, run_underlying ht, sizeOf, typeInfo, hi, Builtin.lenOf, Builtin.firstCells, storeCells]
 ·
  simp [Builtin.append_, run_underlying ht, sizeOf, typeInfo, hi, Builtin.lenOf, Builtin.firstCells, storeCells, loadCells, loadCellsFrom]
 ·
  simp [Builtin.append_, run_underlying ht, sizeOf, typeInfo, hi, Builtin.lenOf, Builtin.firstCells, storeCells, hnc]
 ·
  simp [Builtin.append_, run_underlying ht, sizeOf, typeInfo, hi, Builtin.lenOf, Builtin.firstCells, storeCells, loadCells, loadCellsFrom, hnc]
theorem wpList_append_zero {P : Program} {w : World} {ops : Array Oper} {rest : List Oper} {o : Oper} {a : Act} {Q : Exit → Act → World → Prop} (hgd : o.guard = none) (s x : Operand) (t : TypeId)
  (ho : o.op = .call { callee := .builtin .append, args := #[s, x], argTypes := #[t, t] })
  (base : Nat) (e : TypeId) (i : TypeInfo) (size : Nat) (ht : P.underlying t = some (.slice e)) (hi : P.info? e = some i)
  (v : Value) (n : Nat) (xs : List Value) (hs : a.eval s = v) (hown : w.ownsRow base e size v n xs) (ad : Option Addr) (c : Nat) (hx : a.eval x = .slice ad 0 c)
  (h : wpList P ops Q rest (a.put o.dst v) w) : wpList P ops Q (o :: rest) a w := by
 refine wpList_plain hgd fun K hK => ?_
 have hrun := run_append_zero (P := P) (w := w) base t o.type e i size ht hi v n xs hown ad c
 unfold Oper.wp
 simp [execOp, ho, resolve, invoke, builtin, hs, hx, hrun, Result.andThen]
 exact hK _ _ h
/-- append(s, ys...): any number of elements more. -/
theorem wpList_append_all {α : Type} [Cel α] {w : World} {base : Nat} {P : Program} {ops : Array Oper} {rest : List Oper} {o : Oper} {a : Act} {Q : Exit → Act → World → Prop} (hgd : o.guard = none) (s x : Operand) (t : TypeId)
  (ho : o.op = .call { callee := .builtin .append, args := #[s, x], argTypes := #[t, t] }) (E bytes : Nat) (z : Value) (ht : P.underlying t = some (.slice E))
  (hE : (P.info? E).map (fun i => (i.zero, i.size, i.bytes)) = some (some z, Cel.k α, bytes)) (hzs : z.cells.size = Cel.k α)
  (v : Value) (l : List α) (hs : a.eval s = v) (hown : Own base E w v l) (ys : List α) (ad : Option Addr) (c : Nat) (hx : a.eval x = .slice ad ys.length c)
  (hsa : SA w ad ys) (hlen : (l.length + ys.length) * bytes ≤ 140737488355328) (hmax : l.length + ys.length ≤ 1000000000000) (hbase : base ≤ w.heap.size)
  (h : ∀ v' w', Own base E w' v' (l ++ ys) → w.grownBy w' v.ownBlock → wpList P ops Q rest (a.put o.dst v') w') : wpList P ops Q (o :: rest) a w := by
 by_cases hne : ys = []
 ·
  subst hne
  obtain ⟨i0, hi, _, _, _⟩ := info_parts hE
  refine wpList_append_zero hgd s x t ho base E i0 (Cel.k α) ht hi v _ _ hs hown ad c hx ?_
  exact h v w (by rw [List.append_nil]; exact hown) ⟨rfl, rfl, rfl, Nat.le_refl _, fun _ _ _ => rfl⟩
 ·
  exact wpList_append_more hgd s x t ho E bytes z ht hE hzs v l hs hown ys ad c hx hsa hne hlen hmax hbase fun g cap w' h1 h2 _ => h _ w' h1 h2
end Go.Proofs.YtnocceilpnmbpaaGreatDoor
