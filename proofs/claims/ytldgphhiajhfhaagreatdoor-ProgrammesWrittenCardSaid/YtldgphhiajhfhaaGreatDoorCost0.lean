/- range over maps with keys of any kind that are known exactly. -/
import Derived.Test.YtldgphhiajhfhaaGreatDoorMapBan
import Derived.Test.YtldgphhiajhfhaaGreatDoorMap
import Derived.Test.YtldgphhiajhfhaaGreatDoorGridQ
import Derived.Test.YtldgphhiajhfhaaGreatDoorCost
import Derived.Test.YtldgphhiajhfhaaGreatDoorClh
/-! range over maps with keys of any kind that are known exactly. -/
namespace Go.Proofs.YtldgphhiajhfhaaGreatDoor
open Go.RowKit
set_option linter.unusedVariables false
set_option linter.unusedSimpArgs false

/-- The iterator in block r over the map in block b (entries l): these are left. -/
def JBox {κ : Type} (enc : κ → Value) (ok : κ → Prop) (w : World) (r b : Nat) (l left : List (κ × Value)) : Prop :=
 ∃ es clock seen, w.heap[r]? = some (.mapIter (some b) clock seen clock) ∧ w.heap[b]? = some (.map es clock) ∧ es.toList.map (fun e => (e.key, e.val)) = l.map (fun p => (enc p.1, p.2)) ∧ (∀ e ∈ es.toList, e.born < clock) ∧ (es.toList.map (·.born)).Nodup ∧ (l.map (·.1)).Nodup ∧ (∀ p ∈ l, ok p.1) ∧
  (leftOf es seen).toList.map (fun e => (e.key, e.val)) = left.map (fun p => (enc p.1, p.2))
section
variable {κ : Type} {enc : κ → Value} {ok : κ → Prop} {P : Program} {w w' : World} {r b : Nat} {l left : List (κ × Value)}
theorem JBox.same (h : JBox enc ok w r b l left) (k1 : w'.heap[r]? = w.heap[r]?) (k2 : w'.heap[b]? = w.heap[b]?) : JBox enc ok w' r b l left := by
 obtain ⟨es, c, seen, h1, h2, h3⟩ := h
 exact ⟨es, c, seen, k1.trans h1, k2.trans h2, h3⟩
theorem JBox.lt (h : JBox enc ok w r b l left) : r < w.heap.size ∧ b < w.heap.size := by
 obtain ⟨es, c, seen, h1, h2, h3⟩ := h
 exact ⟨(Array.getElem?_eq_some_iff.1 h1).1, (Array.getElem?_eq_some_iff.1 h2).1⟩
theorem JBox.below (h : JBox enc ok w r b l left) (k : Below w.heap.size w w') : JBox enc ok w' r b l left := h.same (k.block _ h.lt.1) (k.block _ h.lt.2)
theorem JBox.alloc (h : JBox enc ok w r b l left) (o : Obj) : JBox enc ok (w.alloc o) r b l left := h.below ((Below.refl _ _).alloc (Nat.le_refl _) o)
theorem JBox.gbox (h : JBox enc ok w r b l left) : GBox enc ok w b l := by
 obtain ⟨es, c, seen, h1, h2, h3, h4, h5, h6, h7, _⟩ := h
 exact ⟨es, c, h2, h3, h4, h5, h6, h7⟩
theorem GBox.range {t kt et : TypeId} (h : GBox enc ok w b l) (ht : P.underlying t = some (.map kt et)) :
  ∃ o, (Instr.range t (.map (some b))).run P w = .ok (.pointer (some ⟨w.heap.size, 0, none⟩)) (w.alloc o) ∧ JBox enc ok (w.alloc o) w.heap.size b l l := by
 obtain ⟨es, clock, h1, h2, h3, h4, h5, h6⟩ := h
 refine ⟨.mapIter (some b) clock #[] clock, ?_, es, clock, #[], ?_, ?_, h2, h3, h4, h5, h6, ?_⟩
 ·
  simp [Instr.range, run_underlying ht, MapKept.run_getObj_map h1, Result.andThen]
 ·
  show (w.heap.push _)[w.heap.size]? = _; simp
 ·
  rw [Below.heap_alloc _ _ _ (Array.getElem?_eq_some_iff.1 h1).1]; exact h1
 ·
  unfold leftOf; simpa [List.filter_eq_self.2] using h2
theorem wpList_range_gbox {ops : Array Oper} {rest : List Oper} {o : Oper} {a : Act} {Q : Exit → Act → World → Prop}
  (hg : o.guard = none) (m : Operand) (t : TypeId) (hop : o.op = Op.range t m) (kt et : TypeId) (ht : P.underlying t = some (.map kt et)) (b : Nat) (l : List (κ × Value)) (hm : a.eval m = .map (some b)) (hbox : GBox enc ok w b l)
  (hK : ∀ o', JBox enc ok (w.alloc o') w.heap.size b l l → wpList P ops Q rest (a.put o.dst (.pointer (some ⟨w.heap.size, 0, none⟩))) (w.alloc o')) : wpList P ops Q (o :: rest) a w := by
 refine wpList_plain hg fun K' hK' => ?_
 obtain ⟨o', hrun, h1⟩ := hbox.range ht
 unfold Oper.wp
 simp [execOp, hop, hm, hrun, Result.andThen]
 exact hK' _ _ (hK o' h1)
theorem split_gmap {L : List MapEntry} {left : List (κ × Value)} (h : L.map (fun e => (e.key, e.val)) = left.map (fun p => (enc p.1, p.2))) {p q : List MapEntry} {e : MapEntry} (hL : L = p ++ e :: q) :
  ∃ p' k v q', left = p' ++ (k, v) :: q' ∧ e.key = enc k ∧ e.val = v ∧ (p ++ q).map (fun e => (e.key, e.val)) = (p' ++ q').map (fun p => (enc p.1, p.2)) := by
 subst hL
 rw [List.map_append, List.map_cons] at h
 obtain ⟨p', r', hl, hp, hr⟩ := List.append_eq_map_iff.1 h
 obtain ⟨x, q', hr', hx, hq⟩ := List.map_eq_cons_iff.1 hr
 subst hl
 subst hr'
 simp only [Prod.mk.injEq] at hx
 exact ⟨p', x.1, x.2, q', rfl, hx.1.symm, hx.2.symm, by rw [List.map_append, List.map_append, hp, hq]⟩
/-- One step of the range. -/
theorem JBox.next (h : JBox enc ok w r b l left) (ty : TypeId) :
  (left = [] ∧ (Instr.next (.pointer (some ⟨r, 0, none⟩)) false ty).run P w = .ok (.tuple #[.bool false]) w) ∨
  ∃ p k v q w', left = p ++ (k, v) :: q ∧ (Instr.next (.pointer (some ⟨r, 0, none⟩)) false ty).run P w = .ok (.tuple #[.bool true, enc k, v]) w' ∧ JBox enc ok w' r b l (p ++ q) ∧
   (Instr.entry (.pointer (some ⟨r, 0, none⟩))).run P w' = .ok (.tuple #[enc k, v]) w' ∧ w.grownBy w' (some r) ∧ w'.heap.size = w.heap.size := by
 have hlt := h.lt
 obtain ⟨es, clock, seen, h1, h2, h3, h4, h5, hn, hk, h6⟩ := h
 rcases run_next_at (P := P) w ty r b clock clock seen es clock h1 h2 h4 (Nat.le_refl _) with ⟨g1, g2⟩ | ⟨e, he, w1, hw1, g2⟩
 ·
  refine .inl ⟨?_, g2⟩
  have : (leftOf es seen).toList = [] := by
   have : (leftOf es seen).toList.length = 0 := by simpa using g1
   exact List.eq_nil_of_length_eq_zero this
  rw [this] at h6
  simpa using h6.symm
 ·
  right
  obtain ⟨p, q, s1, s2⟩ := left_step h5 he
  obtain ⟨p', k, v, q', e1, e2, e3, e4⟩ := split_gmap h6 s1
  have hne : r ≠ b := by rintro rfl; rw [h1] at h2; cases h2
  have hheap : w1.heap = w.heap := by rcases hw1 with rfl | rfl <;> rfl
  have hr' : (ChangeMaps.setBlock w1 r (.mapIter (some b) clock (seen.push e.born) clock)).heap[r]? = some (.mapIter (some b) clock (seen.push e.born) clock) := by
   show (w1.heap.setIfInBounds r _)[r]? = _
   rw [hheap]; simp [hlt.1]
  have hb' : (ChangeMaps.setBlock w1 r (.mapIter (some b) clock (seen.push e.born) clock)).heap[b]? = some (.map es clock) := by
   show (w1.heap.setIfInBounds r _)[b]? = _
   rw [hheap, Array.getElem?_setIfInBounds_ne hne]; exact h2
  have hmem : e ∈ es.toList := by
   unfold leftOf at he; simp at he ⊢; exact he.1
  refine ⟨p', k, v, q', _, e1, by rw [g2, e2, e3], ⟨es, clock, seen.push e.born, hr', hb', h3, h4, h5, hn, hk, by rw [s2]; exact e4⟩, ?_, ?_, ?_⟩
  ·
   rw [run_entry_at _ r b clock seen es clock e hr' hb' hmem h5, e2, e3]
  ·
   refine ⟨?_, ?_, ?_, ?_, ?_⟩
   ·
    rcases hw1 with rfl | rfl <;> rfl
   ·
    rcases hw1 with rfl | rfl <;> rfl
   ·
    rcases hw1 with rfl | rfl <;> rfl
   ·
    show _ ≤ (w1.heap.setIfInBounds r _).size; rw [hheap]; simp
   ·
    intro j hj hjr
    show (w1.heap.setIfInBounds r _)[j]? = _
    rw [hheap, Array.getElem?_setIfInBounds_ne (fun h => hjr (by rw [h]))]
  ·
   show (w1.heap.setIfInBounds r _).size = _; rw [hheap]; simp
theorem wpList_next_gbox {ops : Array Oper} {rest : List Oper} {o : Oper} {a : Act} {Q : Exit → Act → World → Prop}
  (hg : o.guard = none) (it : Operand) (hop : o.op = Op.next it false) (r b : Nat) (l left : List (κ × Value)) (hi : a.eval it = .pointer (some ⟨r, 0, none⟩)) (hbox : JBox enc ok w r b l left)
  (h0 : left = [] → wpList P ops Q rest (a.put o.dst (.tuple #[.bool false])) w)
  (h1 : ∀ p k v q w', left = p ++ (k, v) :: q → JBox enc ok w' r b l (p ++ q) → (Instr.entry (.pointer (some ⟨r, 0, none⟩))).run P w' = .ok (.tuple #[enc k, v]) w' → w.grownBy w' (some r) → w'.heap.size = w.heap.size → wpList P ops Q rest (a.put o.dst (.tuple #[.bool true, enc k, v])) w') :
  wpList P ops Q (o :: rest) a w := by
 refine wpList_plain hg fun K' hK' => ?_
 unfold Oper.wp
 rcases hbox.next (P := P) o.type with ⟨g1, g2⟩ | ⟨p, k, v, q, w', g1, g2, g3, g4, g5, g6⟩
 ·
  simp [execOp, hop, hi, g2, Result.andThen]
  exact hK' _ _ (h0 g1)
 ·
  simp [execOp, hop, hi, g2, Result.andThen]
  exact hK' _ _ (h1 p k v q w' g1 g3 g4 g5 g6)
end
end Go.Proofs.YtldgphhiajhfhaaGreatDoor

/-! The grid of a maker's variable, as a whole, in every later world. -/
namespace Go.Proofs.YtldgphhiajhfhaaGreatDoor
open Go.RowKit
set_option linter.unusedVariables false
set_option linter.unusedSimpArgs false

theorem Own.saS {α : Type} [Cel α] {w : World} {base : Nat} {E : TypeId} {a : Option Addr} {l : List α} {n c : Nat} (h : Own base E w (.slice a n c) l) (hs : SA w a l) {W : World} (hW : ∀ k, base ≤ k → k < w.heap.size → W.heap[k]? = w.heap[k]?) : SA W a l := by
 refine hs.blk fun x hx => ?_
 subst hx
 have h1 := h.lt x.block rfl
 exact hW _ h1.1 h1.2
theorem GW.grdS {base gb : Nat} {vr vs vt vw vb : Value} {lr : List Rom} {ls : List Slt} {lt : List Tlk} {lw : List Wsh} {lb : List Ban2} {w : World} (h : GW base gb vr vs vt vw vb lr ls lt lw lb w)
  (hn : lr.length ≤ 21 ∧ ls.length ≤ 21 ∧ lt.length ≤ 21 ∧ lw.length ≤ 21 ∧ lb.length ≤ 21) (hr : ∀ x ∈ lr, RomOk x) (hs : ∀ x ∈ ls, SltOk x) (ht : ∀ x ∈ lt, TlkOk x) (hw : ∀ x ∈ lw, WshOk x) (hb : ∀ x ∈ lb, BanOk x) :
  ∃ g : Grd, vr = .slice g.ra g.rooms.length g.rc ∧ vs = .slice g.sa g.slots.length g.sc ∧ vt = .slice g.ta g.talks.length g.tc ∧ vw = .slice g.wa g.wishes.length g.wc ∧ vb = .slice g.ba g.bans.length g.bc ∧ GSm g ∧ g.talks.length ≤ 21 ∧ g.slots.length ≤ 21 ∧ g.rooms.length ≤ 21 ∧ g.wishes.length ≤ 21 ∧ ((∀ x ∈ g.rooms, RomOk x) ∧ ∀ x ∈ g.wishes, x.papers.length ≤ x.c1) ∧ ∀ W : World, (∀ k, base ≤ k → k < w.heap.size → W.heap[k]? = w.heap[k]?) → GRd W g := by
 have f1 := h.fr
 have f2 := h.fs
 have f3 := h.ft
 have f4 := h.fw
 have f5 := h.fb
 obtain ⟨a1, c1, rfl, s1, -, -⟩ := f1.form
 obtain ⟨a2, c2, rfl, s2, -, -⟩ := f2.form
 obtain ⟨a3, c3, rfl, s3, -, -⟩ := f3.form
 obtain ⟨a4, c4, rfl, s4, -, -⟩ := f4.form
 obtain ⟨a5, c5, rfl, s5, -, -⟩ := f5.form
 obtain ⟨hn1, hn2, hn3, hn4, hn5⟩ := hn
 refine ⟨⟨lr, ls, lt, lw, lb, a1, c1, a2, c2, a3, c3, a4, c4, a5, c5⟩, rfl, rfl, rfl, rfl, rfl, ⟨?_, ?_, ?_, ?_, ?_, ?_, ?_, ht, fun x hx => ⟨(hw x hx).1, (hw x hx).2.1, (hw x hx).2.2.1⟩, hb⟩, hn3, hn2, hn1, hn4, ⟨hr, fun x hx => (hw x hx).2.2.2⟩, fun W hW => ⟨f1.saS s1 hW, f2.saS s2 hW, f3.saS s3 hW, f4.saS s4 hW, f5.saS s5 hW, fun t hx => (Nst.same (h.rdt t hx) (fun y hy => ?_)).1, fun t hx => (Nst.same (h.rdt t hx) (fun y hy => ?_)).2, fun t hx => Nst.same (h.rdw t hx) (fun y hy => ?_)⟩⟩
 ·
  show lr.length ≤ _; omega
 ·
  show ls.length ≤ _; omega
 ·
  show lt.length ≤ _; omega
 ·
  show lw.length ≤ _; omega
 ·
  show lb.length ≤ _; omega
 ·
  exact fun x hx => (hr x hx).1
 ·
  intro x hx
  obtain ⟨h1, h2, h3, h4, h5⟩ := hs x hx
  exact ⟨h1, h2, h3, by omega, by omega⟩
 ·
  have h1 := h.nb y (List.mem_append_left _ (List.mem_flatMap.2 ⟨t, hx, hy⟩)); exact hW _ h1.1 h1.2
 ·
  have h1 := h.nb y (List.mem_append_left _ (List.mem_flatMap.2 ⟨t, hx, hy⟩)); exact hW _ h1.1 h1.2
 ·
  have h1 := h.nb y (List.mem_append_right _ (List.mem_flatMap.2 ⟨t, hx, hy⟩)); exact hW _ h1.1 h1.2
end Go.Proofs.YtldgphhiajhfhaaGreatDoor

/-! The cost of an empty programme without wishes; programs, on which the laws of grids lean. -/
namespace Go.Proofs.YtldgphhiajhfhaaGreatDoor
open Go.RowKit Go.Sort
set_option linter.unusedVariables false
set_option linter.unusedSimpArgs false

set_option maxRecDepth 100000 in
theorem mixedNil_any (fb : Nat) (w : World) : Calls Tryz.prog 99 #[.pointer (some ⟨fb, 0, none⟩), .slice none 0 0] w (Gives (.int .i64 0) w) := by
 go_enter Tryz.func99, Tryz.ntmps99
 go_wp2_with fail
 refine wp_loop_rounds 1 ?_
 rw [rounds_succ]
 go_wp2_with fail
 go_ret
 exact ⟨rfl, Below.refl _ _⟩
theorem field_wishes {g : Grd} {fb br bs bt bb : Nat} {w : World} (hF : FieldAt g fb br bs bt bb w) (hw : g.wishes.length = 0) : w.cell? ⟨fb, 3, none⟩ = some (.slice g.wa 0 g.wc) := by
 have h := hF.box.cell 3
 rw [hw] at h
 simpa using h
set_option maxRecDepth 100000 in
set_option maxHeartbeats 2000000 in
theorem clashesNil_any (g : Grd) (fb br bs bt bb : Nat) (w : World) (hF : FieldAt g fb br bs bt bb w) (hw : g.wishes.length = 0) : Calls Tryz.prog 100 #[.pointer (some ⟨fb, 0, none⟩), .slice none 0 0] w (Gives (.slice none 0 0) w) := by
 have HSO := Lib.hid (sessionOf_any [] none 0 w ⟨.inl rfl, fun s hs => by cases hs⟩ (by simp) (fun s hs => by cases hs))
 have HF := Lib.hid (fun W (h : Below w.heap.size w W) => field_wishes (hF.below h) hw)
 have HSRT := Lib.hid (fun base W => sortClhs_any base [] (.slice none 0 0) W 144 (enters_of Tryz.func144 (by kernel_rfl) rfl) (fun x y W => clashesClo_any x y W) (Own.nil _ _ _) (by simp))
 clear hF hw
 go_enter Tryz.func100, Tryz.ntmps100
 go_wp2_with fail
 refine HSO.out.mono ?_
 rintro e w1 ⟨bm, rfl, hbm, hM, hb1⟩
 clear HSO hM hbm
 have hmm := @run_makeMap Tryz.prog
 go_upto_region 3 with (fail)
 have hG := GBox.newAt enc2 ok2 w1 w1.heap.size rfl
 have hb2 := hb1.alloc hb1.size (.map #[] 0)
 clear hmm hb1
 generalize w1.alloc (.map #[] 0) = w2 at *
 generalize w1.heap.size = n1 at *
 have hf3 := HF.out _ hb2
 go_wp2_with fail
 clear hf3
 go_loopg [29] 0 (fun gk iv wr => iv = .int .i64 0 ∧ GBox enc2 ok2 wr n1 [] ∧ Below w.heap.size w wr)
 case atStart => exact ⟨rfl, hG, hb2⟩
 case round =>
  clear hG hb2
  obtain ⟨rfl, hG, hb2⟩ := hrel
  go_wp2_with ((refine wpList_range_gbox rfl _ 192 rfl 193 3 Tryz.underlying192 n1 _ rfl hG ?_; intro o' hI))
  go_frame
  have hb3 := hb2.alloc hb2.size o'
  clear hb2 hG
  generalize wr.alloc o' = w3 at *
  generalize wr.heap.size = n2 at *
  go_loopg [17] 0 (fun gk ov wr => ∃ left : List (Two × Value), ov = .slice none 0 0 ∧ Hid (left = []) ∧ JBox enc2 ok2 wr n2 n1 [] left ∧ Below w.heap.size w wr)
  case atStart => exact ⟨[], rfl, rfl, hI, hb3⟩
  case round =>
   clear hI hb3
   obtain ⟨left, rfl, Hl, hI, hb3⟩ := hrel
   go_wp2_with ((refine wpList_next_gbox rfl _ rfl n2 n1 _ _ rfl hI ?_ (fun p k v q w' h => by rw [Hl.out] at h; exact absurd h (by simp))))
   intro _
   go_wp2_with fail
   refine (HSRT.out 0 _).mono ?_
   rintro e w4 ⟨rfl, -, hk⟩
   have hb4 := belowKp hb3 hk (fun j hj => by cases hj) hb3.size
   go_wp2_with fail
   go_ret
   exact ⟨rfl, hb4⟩
theorem infoInt : (Tryz.prog.info? 3).map (fun i => (i.zero, i.size, i.bytes)) = some (some (.int .i64 0), 1, 8) := by kernel_rfl
set_option maxRecDepth 100000 in
set_option maxHeartbeats 2000000 in
theorem crowdNil_any (g : Grd) (fb br bs bt bb : Nat) (w : World) (hF : FieldAt g fb br bs bt bb w) (hw : g.wishes.length = 0) : Calls Tryz.prog 101 #[.pointer (some ⟨fb, 0, none⟩), .slice none 0 0] w (Gives (.slice none 0 0) w) := by
 have HSO := Lib.hid (sessionOf_any [] none 0 w ⟨.inl rfl, fun s hs => by cases hs⟩ (by simp) (fun s hs => by cases hs))
 have HF := Lib.hid (fun W (h : Below w.heap.size w W) => field_wishes (hF.below h) hw)
 clear hF hw
 go_enter Tryz.func101, Tryz.ntmps101
 go_wp2_with fail
 refine HSO.out.mono ?_
 rintro e w1 ⟨bm, rfl, hbm, hM, hb1⟩
 clear HSO hM hbm
 have hmk := run_make_len (P := Tryz.prog) 22 3 (.int .i64 0) 8 (by kernel_rfl) infoInt rfl 0 (by omega) (by omega)
 have hz0 : ((0 : Nat) : Int) = 0 := rfl
 rw [hz0] at hmk
 go_upto_region 3 with (fail)
 have hb2 := hb1.alloc hb1.size (.cells (Array.replicate 0 (.int .i64 0)) 3)
 clear hmk hb1
 rw [show (Array.replicate 0 (Value.int .i64 0)) = #[] from rfl] at hb2
 generalize w1.alloc (.cells #[] 3) = w2 at *
 have hf3 := HF.out _ hb2
 go_wp2_with fail
 refine wp_loop_rounds 1 ?_
 rw [rounds_succ]
 go_wp2_with fail
 refine wp_loop_rounds 1 ?_
 rw [rounds_succ]
 go_wp2_with fail
 go_ret
 exact ⟨rfl, hb2⟩
set_option maxRecDepth 100000 in
set_option maxHeartbeats 2000000 in
theorem costNilF_any (g : Grd) (fb br bs bt bb : Nat) (w : World) (hF : FieldAt g fb br bs bt bb w) (hg : GRd w g) (hz : GSm g) (hw : g.wishes.length = 0) : Calls Tryz.prog 53 #[.pointer (some ⟨fb, 0, none⟩), .slice none 0 0] w (Gives (.int .i64 (1000 * (missL g []).length : Nat)) w) := by
 have HMI := Lib.hid (fun W (h : Below w.heap.size w W) => missing_any g fb br bs bt bb [] none 0 W (hF.below h) (hg.below h) hz ⟨.inl rfl, fun s hs => by cases hs⟩ (by simp) (fun s hs => by cases hs))
 have HMX := Lib.hid (fun W => mixedNil_any fb W)
 have HCL := Lib.hid (fun W (h : Below w.heap.size w W) => clashesNil_any g fb br bs bt bb W (hF.below h) hw)
 have HCR := Lib.hid (fun W (h : Below w.heap.size w W) => crowdNil_any g fb br bs bt bb W (hF.below h) hw)
 have hml : (missL g []).length ≤ 1000 := by
  have h1 := missTo_len g [] g.talks.length
  have h2 := hz.talks
  unfold missTo at h1
  rw [List.take_length] at h1
  unfold missL
  omega
 generalize missL g [] = ml at *
 clear hF hg hz hw
 have hw1 : IntKind.i64.wrap (1000 * (ml.length : Int)) = 1000 * (ml.length : Int) := IntWalk.i64_in _ (by omega)
 have hw2 : IntKind.i64.wrap (1000 * (ml.length : Int) + 0) = 1000 * (ml.length : Int) := IntWalk.i64_in _ (by omega)
 go_enter Tryz.func53, Tryz.ntmps53
 go_wp2_with fail
 refine (HMI.out _ (Below.refl _ _)).mono ?_
 rintro e w1 ⟨v1, rfl, hown, hb1⟩
 obtain ⟨va, vc, rfl, -, -, -⟩ := hown.form
 clear hown HMI
 go_wp2_with fail
 refine (HMX.out _).mono ?_
 rintro e w2 ⟨rfl, hb2⟩
 replace hb2 := below_next hb1 hb2
 clear HMX hb1
 go_wp2_with fail
 refine (HCL.out _ hb2).mono ?_
 rintro e w3 ⟨rfl, hb3⟩
 replace hb3 := below_next hb2 hb3
 clear HCL hb2
 go_wp2_with fail
 go_loopg [5, 24] 0 (fun gk nv iv wr => nv = .int .i64 (1000 * (ml.length : Int)) ∧ iv = .int .i64 0 ∧ Below w.heap.size w wr)
 case atStart => exact ⟨rfl, rfl, hb3⟩
 case round =>
  clear hb3
  obtain ⟨rfl, rfl, hb3⟩ := hrel
  go_wp2_with fail
  refine (HCR.out _ hb3).mono ?_
  rintro e w4 ⟨rfl, hb4⟩
  replace hb4 := below_next hb3 hb4
  clear HCR hb3
  go_wp2_with fail
  go_loopg [5, 38] 0 (fun gk nv iv wr => nv = .int .i64 (1000 * (ml.length : Int)) ∧ iv = .int .i64 0 ∧ Below w.heap.size w wr)
  case atStart => exact ⟨rfl, rfl, hb4⟩
  case round =>
   clear hb4
   obtain ⟨rfl, rfl, hb4⟩ := hrel
   go_wp2_with fail
   go_ret
   exact ⟨by simp, hb4⟩
set_option maxRecDepth 100000 in
set_option maxHeartbeats 2000000 in
theorem costNil_any (g : Grd) (w : World) (hg : GRd w g) (hz : GSm g) (hw : g.wishes.length = 0) (h0 : bothF g [] = 0) : Calls Tryz.prog 44 #[g.agg, .slice none 0 0] w (fun e w' => e = .returned (.tuple #[.int .i64 (1000 * (missL g []).length : Nat), .int .i64 0]) ∧ Below w.heap.size w w') := by
 have HC := Lib.hid (fun W (h : Below w.heap.size w W) => checkedP_any g [] none 0 W (hg.below h) hz ⟨.inl rfl, fun s hs => by cases hs⟩ (by simp) (fun s hs => by cases hs) (Nat.le_refl _))
 have HK := Lib.hid (fun fb br bs bt bb W (hF : FieldAt g fb br bs bt bb W) (h : Below w.heap.size w W) => costNilF_any g fb br bs bt bb W hF (hg.below h) hz hw)
 unfold CheckedRes at HC
 generalize bothF g [] = R at *
 subst h0
 generalize missL g [] = ml at *
 clear hg hz hw
 rw [Grd.agg_eq] at HC ⊢
 have hX := Box.new w 32 #[.slice g.ra g.rooms.length g.rc, .slice g.sa g.slots.length g.sc, .slice g.ta g.talks.length g.tc, .slice g.wa g.wishes.length g.wc, .slice g.ba g.bans.length g.bc]
 have hb0 : Below w.heap.size w (w.alloc (.cells #[.slice g.ra g.rooms.length g.rc, .slice g.sa g.slots.length g.sc, .slice g.ta g.talks.length g.tc, .slice g.wa g.wishes.length g.wc, .slice g.ba g.bans.length g.bc] 32)) := (Below.refl _ _).alloc (Nat.le_refl _) _
 go_enter Tryz.func44, Tryz.ntmps44
 go_upto_region 1 with (fail)
 generalize w.alloc (.cells #[.slice g.ra g.rooms.length g.rc, .slice g.sa g.slots.length g.sc, .slice g.ta g.talks.length g.tc, .slice g.wa g.wishes.length g.wc, .slice g.ba g.bans.length g.bc] 32) = w1 at *
 have hX_l := hX.lt; have hX_0 := hX.cell 0; have hX_1 := hX.cell 1; have hX_2 := hX.cell 2; have hX_3 := hX.cell 3; have hX_4 := hX.cell 4; simp at hX_0 hX_1 hX_2 hX_3 hX_4
 go_wp2_with fail
 clear hX_l hX_0 hX_1 hX_2 hX_3 hX_4
 refine (HC.out _ hb0).mono ?_
 rintro e w2 ⟨hb1, h⟩
 replace hb1 := below_next hb0 hb1
 clear HC hb0 hX
 rcases h with ⟨h0, rfl⟩ | ⟨-, fb, br, bs, bt, bb, rfl, hF, -⟩
 ·
  exact absurd rfl h0
 ·
  go_wp2_with fail
  refine (HK.out _ _ _ _ _ _ hF hb1).mono ?_
  rintro e w3 ⟨rfl, hb3⟩
  have hb4 := below_next hb1 hb3
  clear hF hb1 hb3
  go_wp2_with fail
  refine bodyPost_ret (v := .tuple #[.int .i64 (1000 * ml.length : Nat), .int .i64 0]) (by simp only [results, Tryz.results44]; go_simp) rfl ?_
  exact ⟨rfl, hb4⟩
/-- The grid that programs lays. -/
def litG (n m : Nat) : Grd := ⟨[], [], [⟨⟨#[112]⟩, [⟨#[97]⟩], [], 5, some ⟨n, 0, none⟩, 1, none, 0⟩], [], [], none, 0, none, 0, some ⟨m, 0, none⟩, 1, none, 0, none, 0⟩
def litT (n : Nat) : Tlk := ⟨⟨#[112]⟩, [⟨#[97]⟩], [], 5, some ⟨n, 0, none⟩, 1, none, 0⟩
theorem litT_ok (n : Nat) : TlkOk (litT n) := ⟨by show (1 : Nat) ≤ 1000; decide, by show (1 : Nat) ≤ 1000; decide, by show (0 : Nat) ≤ 1000; decide, (fun x hx => by rw [show x = ⟨#[97]⟩ from List.mem_singleton.1 hx]; show (1 : Nat) ≤ 1000; decide), (fun x hx => by cases hx), by show (-100000 : Int) ≤ 5; decide, by show (5 : Int) ≤ 100000; decide⟩
set_option maxRecDepth 100000 in
set_option maxHeartbeats 2000000 in
theorem programs_any (w : World) : Calls Tryz.prog 13 #[] w (Gives (.bool true) w) := by
 have hz : ∀ n m, GSm (litG n m) := fun n m => ⟨by show 0 ≤ 1000; omega, by show 0 ≤ 1000; omega, by show 1 ≤ 1000; omega, by show 0 ≤ 1000; omega, by show 0 ≤ 1000; omega, (fun x hx => by cases hx), (fun x hx => by cases hx), (fun t ht => by rw [show t = _ from List.mem_singleton.1 ht]; exact litT_ok n), (fun x hx => by cases hx), (fun x hx => by cases hx)⟩
 have hf : ∀ n m, bothF (litG n m) [] = 0 := fun n m => by rfl
 have HK : Hid (∀ n m W, Box W n 9 #[.string ⟨#[97]⟩] → Box W m 60 #[.string ⟨#[112]⟩, .slice (some ⟨n, 0, none⟩) 1 1, .slice none 0 0, .int .i64 5] → Calls Tryz.prog 44 #[.agg #[.slice none 0 0, .slice none 0 0, .slice (some ⟨m, 0, none⟩) 1 1, .slice none 0 0, .slice none 0 0], .slice none 0 0] W (fun e w' => e = .returned (.tuple #[.int .i64 1000, .int .i64 0]) ∧ Below W.heap.size W w')) := fun n m W h1 h2 => by
  have hT : SA W (some ⟨m, 0, none⟩) [litT n] := h2.sa [litT n] rfl
  have hS : SA W (some ⟨n, 0, none⟩) ([⟨#[97]⟩] : List ByteArray) := h1.sa ([⟨#[97]⟩] : List ByteArray) rfl
  exact costNil_any (litG n m) W (show GRd W (litG n m) from ⟨.inl rfl, .inl rfl, hT, .inl rfl, .inl rfl, (fun t ht => by rw [show t = litT n from List.mem_singleton.1 ht]; exact hS), (fun t ht => by rw [show t = litT n from List.mem_singleton.1 ht]; exact .inl rfl), (fun t ht => by cases ht)⟩) (hz n m) rfl (hf n m)
 have hA := Box.new w 9 #[.string ⟨#[97]⟩]
 have hb0 : Below w.heap.size w (w.alloc (.cells #[.string ⟨#[97]⟩] 9)) := (Below.refl _ _).alloc (Nat.le_refl _) _
 go_enter Tryz.func13, Tryz.ntmps13
 have hT := Box.new (w.alloc (.cells #[.string ⟨#[97]⟩] 9)) 60 #[.string ⟨#[112]⟩, .slice (some ⟨w.heap.size, 0, none⟩) 1 1, .slice none 0 0, .int .i64 5]
 have hA1 := hA.alloc (.cells #[.string ⟨#[112]⟩, .slice (some ⟨w.heap.size, 0, none⟩) 1 1, .slice none 0 0, .int .i64 5] 60)
 have hb1 := hb0.alloc hb0.size (.cells #[.string ⟨#[112]⟩, .slice (some ⟨w.heap.size, 0, none⟩) 1 1, .slice none 0 0, .int .i64 5] 60)
 have hsz : (w.alloc (.cells #[.string ⟨#[97]⟩] 9)).heap.size = w.heap.size + 1 := by simp
 rw [hsz] at hT
 clear hA hb0 hz hf hsz
 go_wp2_with fail
 refine (HK.out _ _ _ hA1 hT).mono ?_
 rintro e w2 ⟨rfl, hb2⟩
 have hb3 := below_next hb1 hb2
 go_wp2_with fail
 go_ret
 exact ⟨rfl, hb3⟩
end Go.Proofs.YtldgphhiajhfhaaGreatDoor
