/- Maps with int keys and m[k]++; pairs of one session without a topic in common; how many want to be in sessions: by program and reference. -/
import Derived.Test.YthnbcdgbpofnjaaGreatDoorMap
import Derived.Maps.OwnSet
import Derived.Maps.RangeRun
import Derived.Deep.RegionHeld3
import Derived.Deep.AppendLies
import Derived.Test.YthnbcdgbpofnjaaGreatDoorMapBan
import Derived.WideKeyEntry
import Derived.Test.YthnbcdgbpofnjaaGreatDoorBesd
import Derived.Test.YthnbcdgbpofnjaaGreatDoorCost0
namespace Go.Proofs.YthnbcdgbpofnjaaGreatDoor
open Go.RowKit
set_option linter.unusedVariables false
set_option linter.unusedSimpArgs false

/-- What a list of entries gives for a key. -/
def iget (l : List (Int × Value)) (k : Int) : Option Value :=
 match l with
 | [] => none
 | p :: r => if p.1 = k then some p.2 else iget r k
/-- A store into a list of entries. -/
def iput (l : List (Int × Value)) (k : Int) (v : Value) : List (Int × Value) :=
 match l with
 | [] => [(k, v)]
 | p :: r => if p.1 = k then (k, v) :: r else p :: iput r k v

theorem iget_iput (l : List (Int × Value)) (k k' : Int) (v : Value) : iget (iput l k v) k' = if k = k' then some v else iget l k' := by
 induction l with
 | nil => simp [iput, iget]
 | cons p r ih =>
  unfold iput
  by_cases h : p.1 = k
  ·
   simp only [h, if_true, iget]
   by_cases h2 : k = k' <;> simp [h2]
  ·
   simp only [h, if_false, iget, ih]
   by_cases h2 : k = k'
   ·
    subst h2; simp [h]
   ·
    simp [h2]

theorem iput_length (l : List (Int × Value)) (k : Int) (v : Value) : (iput l k v).length ≤ l.length + 1 := by
 induction l with
 | nil => simp [iput]
 | cons p r ih => unfold iput; split <;> simp <;> omega

/-- An array of entries is a list of keys and values. -/
def EntI (es : Array MapEntry) (l : List (Int × Value)) : Prop := es.toList.map (fun e => (e.key, e.val)) = l.map (fun p => (Value.int .i64 p.1, p.2))

/-- Block b is a map of int keys with these entries, in their order. -/
def IMp (w : World) (b : Nat) (l : List (Int × Value)) : Prop :=
 ∃ es clock, w.heap[b]? = some (.map es clock) ∧ EntI es l ∧ (∀ e ∈ es.toList, e.born < clock) ∧ (es.toList.map (·.born)).Nodup

section
variable {w w' : World} {b : Nat} {l : List (Int × Value)}
theorem IMp.lt (h : IMp w b l) : b < w.heap.size := by
 obtain ⟨es, c, h1, _⟩ := h; exact (Array.getElem?_eq_some_iff.1 h1).1
theorem IMp.same (h : IMp w b l) (k : w'.heap[b]? = w.heap[b]?) : IMp w' b l := by
 obtain ⟨es, c, h1, h2⟩ := h; exact ⟨es, c, k.trans h1, h2⟩
theorem IMp.new (w : World) : IMp (w.alloc (.map #[] 0)) w.heap.size [] :=
 ⟨#[], 0, by show (w.heap.push _)[w.heap.size]? = _; simp, rfl, by simp, by simp⟩
theorem IMp.alloc (h : IMp w b l) (o : Obj) : IMp (w.alloc o) b l := h.same (Below.heap_alloc _ _ _ h.lt)
theorem IMp.drewN (h : IMp w b l) (n : Nat) : IMp (w.drewN n) b l := h
theorem IMp.drew (h : IMp w b l) : IMp w.drew b l := h
theorem IMp.below (h : IMp w b l) (k : Below w.heap.size w w') : IMp w' b l := h.same (k.block _ h.lt)
theorem IMp.setOther (h : IMp w b l) {p : Addr} (hp : p.block ≠ b) (v : Value) : IMp (w.setCell p v) b l := h.same (Below.heap_setCell _ _ _ _ (Ne.symm hp))
theorem IMp.grown {row : Option Nat} (h : IMp w b l) (k : w.grownBy w' row) (hne : some b ≠ row) : IMp w' b l := h.same (k.block _ h.lt hne)
end

theorem findNowI_get (k : Int) : ∀ (es : List MapEntry) (l : List (Int × Value)) (i : Nat), es.map (fun e => (e.key, e.val)) = l.map (fun p => (Value.int .i64 p.1, p.2)) →
  ∃ r, Instr.findNow (.int .i64) (.int .i64 k) es i = some r ∧ r.map (·.2) = iget l k ∧ (∀ j v, r = some (j, v) → i ≤ j ∧ ∃ e, es[j - i]? = some e ∧ e.key = .int .i64 k)
   ∧ (r = none → iput l k = fun v => l ++ [(k, v)])
   ∧ (∀ j v, r = some (j, v) → ∀ u, (es.modify (j - i) (fun e => { e with key := .int .i64 k, val := u })).map (fun e => (e.key, e.val)) = (iput l k u).map (fun p => (Value.int .i64 p.1, p.2)) ∧ (es.modify (j - i) (fun e => { e with key := .int .i64 k, val := u })).map (·.born) = es.map (·.born))
 | [], [], i, _ => ⟨none, rfl, rfl, by simp, by intro _; funext v; rfl, by simp⟩
 | [], p :: l, i, h => by simp at h
 | e :: es, [], i, h => by simp at h
 | e :: es, p :: l, i, h => by
  simp only [List.map_cons, List.cons.injEq, Prod.mk.injEq] at h
  obtain ⟨⟨h1, h2⟩, h3⟩ := h
  by_cases hk : p.1 = k
  ·
   refine ⟨some (i, e.val), ?_, ?_, ?_, by simp, ?_⟩
   ·
    simp [Instr.findNow, Instr.sameNow, h1, hk]
   ·
    simp [iget, hk, h2]
   ·
    rintro j v hj
    cases hj
    exact ⟨Nat.le_refl _, e, by simp, by rw [h1, hk]⟩
   ·
    rintro j v hj u
    cases hj
    simp [iput, hk, h3]
  ·
   obtain ⟨r, q1, q2, q3, q4, q5⟩ := findNowI_get k es l (i + 1) h3
   have hk' : (k == p.1) = false := by rw [beq_eq_false_iff_ne]; exact fun h => hk h.symm
   refine ⟨r, ?_, ?_, ?_, ?_, ?_⟩
   ·
    simp [Instr.findNow, Instr.sameNow, h1, hk', q1]
   ·
    simp [iget, hk, q2]
   ·
    intro j v hj
    obtain ⟨a1, e', a2, a3⟩ := q3 j v hj
    exact ⟨by omega, e', by rw [show j - i = (j - (i + 1)) + 1 from by omega]; simpa using a2, a3⟩
   ·
    intro hr
    funext v
    simp [iput, hk, q4 hr]
   ·
    intro j v hj u
    obtain ⟨a1, _⟩ := q3 j v hj
    obtain ⟨b1, b2⟩ := q5 j v hj u
    rw [show j - i = (j - (i + 1)) + 1 from by omega]
    simp [iput, hk, h1, h2, b1, b2]

section
variable {P : Program} {w : World} {b : Nat} {l : List (Int × Value)} {t kt et : TypeId}

/-- What a look-up gives. -/
def ilooked (l : List (Int × Value)) (k : Int) (z : Value) (c : Bool) : Value :=
 if c then .tuple #[(iget l k).getD z, .bool (iget l k).isSome] else (iget l k).getD z

theorem IMp.look (h : IMp w b l) (ht : P.underlying t = some (.map kt et)) (hk : P.underlying kt = some (.int .i64)) (z : Value) (hz : ∀ w, (zeroValue et).run P w = .ok z w) (k : Int) (c : Bool) :
  (Instr.lookup t (.map (some b)) (.int .i64 k) c).run P w = .ok (ilooked l k z c) w := by
 obtain ⟨es, clock, h1, h2, _⟩ := h
 obtain ⟨r, q1, q2, _⟩ := findNowI_get k es.toList l 0 h2
 have hkey : MapKept.IsKey (.int .i64) (.int .i64 k) := rfl
 unfold ilooked
 cases r with
 | none =>
  simp at q2
  cases c <;> simp [Instr.lookup, run_underlying ht, MapKept.run_getObj_map h1, MapKept.run_checkKey hk hkey, MapKept.run_findKey hk q1, hz, Result.andThen, ← q2]
 | some x =>
  simp at q2
  cases c <;> simp [Instr.lookup, run_underlying ht, MapKept.run_getObj_map h1, MapKept.run_checkKey hk hkey, MapKept.run_findKey hk q1, Result.andThen, ← q2]

theorem nil_lookI (ht : P.underlying t = some (.map kt et)) (hk : P.underlying kt = some (.int .i64)) (z : Value) (hz : ∀ w, (zeroValue et).run P w = .ok z w) (k : Int) (c : Bool) (w : World) :
  (Instr.lookup t (.map none) (.int .i64 k) c).run P w = .ok (ilooked [] k z c) w := by
 have hkey : MapKept.IsKey (.int .i64) (.int .i64 k) := rfl
 have q1 : Instr.findNow (.int .i64) (.int .i64 k) (#[] : Array MapEntry).toList 0 = some none := rfl
 unfold ilooked
 cases c <;> simp [Instr.lookup, run_underlying ht, MapKept.run_checkKey hk hkey, MapKept.run_findKey hk q1, hz, Result.andThen, iget]

/-- A store: the map holds it; nothing else has turned. -/
theorem IMp.store (h : IMp w b l) (ht : P.underlying t = some (.map kt et)) (hk : P.underlying kt = some (.int .i64)) (k : Int) (v : Value) :
  ∃ w', (Instr.mapUpdate t (.map (some b)) (.int .i64 k) v).run P w = .ok () w' ∧ IMp w' b (iput l k v) ∧ w.grownBy w' (some b) ∧ w'.heap.size = w.heap.size := by
 obtain ⟨es, clock, h1, h2, h3, h4⟩ := h
 have hlt : b < w.heap.size := (Array.getElem?_eq_some_iff.1 h1).1
 obtain ⟨r, q1, q2, q3, q4, q5⟩ := findNowI_get k es.toList l 0 h2
 have hkey : MapKept.IsKey (.int .i64) (.int .i64 k) := rfl
 cases r with
 | none =>
  refine ⟨{ w with heap := w.heap.setIfInBounds b (.map (es.push { key := .int .i64 k, val := v, born := clock }) (clock + 1)) }, ?_, ?_, grown_setBlock _, by simp⟩
  ·
   simp [Instr.mapUpdate, run_underlying ht, MapKept.run_getObj_map h1, MapKept.run_checkKey hk hkey, MapKept.run_findKey hk q1, MapKept.run_setObj_map _ h1, Result.andThen]
  ·
   refine ⟨es.push { key := .int .i64 k, val := v, born := clock }, clock + 1, by simp [hlt], ?_, ?_, ?_⟩
   ·
    have := congrFun (q4 rfl) v
    unfold EntI at *
    simp [this, h2]
   ·
    intro e he
    simp at he
    rcases he with he | rfl
    ·
     have := h3 e (by simpa using he); omega
    ·
     simp
   ·
    simp only [Array.toList_push, List.map_append, List.map_cons, List.map_nil]
    rw [List.nodup_append]
    refine ⟨h4, by simp, ?_⟩
    intro a ha c hc
    simp at hc
    obtain ⟨e, he, rfl⟩ := List.mem_map.1 ha
    have := h3 e he
    omega
 | some x =>
  obtain ⟨j, u⟩ := x
  obtain ⟨_, e0, hj, hek⟩ := q3 j u rfl
  obtain ⟨q5a, q5b⟩ := q5 j u rfl v
  simp only [Nat.sub_zero] at hj q5a q5b
  have hj' : es[j]? = some e0 := by simpa using hj
  refine ⟨{ w with heap := w.heap.setIfInBounds b (.map (es.modify j (fun e => { e with key := .int .i64 k, val := v })) clock) }, ?_, ?_, grown_setBlock _, by simp⟩
  ·
   simp [Instr.mapUpdate, run_underlying ht, MapKept.run_getObj_map h1, MapKept.run_checkKey hk hkey, MapKept.run_findKey hk q1, hj', hek, MapKept.run_keyThatStays hkey, MapKept.run_setObj_map _ h1, Result.andThen]
  ·
   refine ⟨_, clock, by simp only [Array.getElem?_setIfInBounds_self, hlt, if_true]; rfl, ?_, ?_, ?_⟩
   ·
    unfold EntI; rw [Array.toList_modify]; exact q5a
   ·
    intro e he
    have hm : e.born ∈ (es.modify j (fun e => { e with key := .int .i64 k, val := v })).toList.map (·.born) := List.mem_map_of_mem he
    rw [Array.toList_modify, q5b] at hm
    obtain ⟨e', he', hb'⟩ := List.mem_map.1 hm
    rw [← hb']
    exact h3 e' he'
   ·
    rw [Array.toList_modify, q5b]; exact h4

/-- A store, for the walk. -/
theorem wpList_mapUpdate_imp {ops : Array Oper} {rest : List Oper} {o : Oper} {a : Act} {Q : Exit → Act → World → Prop}
  (hg : o.guard = none) (m x y : Operand) (t : TypeId) (hop : o.op = Op.mapUpdate t m x y) (kt et : TypeId) (ht : P.underlying t = some (.map kt et)) (hk : P.underlying kt = some (.int .i64))
  (b : Nat) (l : List (Int × Value)) (hm : a.eval m = .map (some b)) (hbox : IMp w b l) (k : Int) (hx : a.eval x = .int .i64 k) (v : Value) (hv : a.eval y = v)
  (hK : ∀ w', IMp w' b (iput l k v) → w.grownBy w' (some b) → w'.heap.size = w.heap.size → wpList P ops Q rest (a.put o.dst undef) w') :
  wpList P ops Q (o :: rest) a w := by
 refine wpList_plain hg fun K' hK' => ?_
 obtain ⟨w', hrun, r1, r2, r3⟩ := hbox.store ht hk k v
 unfold Oper.wp
 simp [execOp, hop, hm, hx, hv, hrun, Result.andThen]
 exact hK' _ _ (hK w' r1 r2 r3)

/-- A store in a region that draws its order. -/
theorem step_mapUpdate_imp {ops : Array Oper} {o : Oper} {a : Act} {K : Act → World → Prop} {Q : Exit → Act → World → Prop} {E : Prop} (hgd : o.guard = none)
  (m x y : Operand) (t : TypeId) (hop : o.op = Op.mapUpdate t m x y) (kt et : TypeId) (ht : P.underlying t = some (.map kt et)) (hk : P.underlying kt = some (.int .i64))
  (b : Nat) (l : List (Int × Value)) (hm : a.eval m = .map (some b)) (hbox : IMp w b l) (k : Int) (hx : a.eval x = .int .i64 k) (v : Value) (hv : a.eval y = v)
  (hK : ∀ w', IMp w' b (iput l k v) → w.grownBy w' (some b) → w'.heap.size = w.heap.size → K (a.put o.dst undef) w') :
  if Region.wanted o (yielded ops a.tmps) = true then Oper.wp P o a w K Q else E := by
 have hw : Region.wanted o (yielded ops a.tmps) = true := by simp [Region.wanted, hgd]
 rw [if_pos hw]
 obtain ⟨w', hrun, r1, r2, r3⟩ := hbox.store ht hk k v
 unfold Oper.wp
 simp [execOp, hop, hm, hx, hv, hrun, Result.andThen]
 exact hK w' r1 r2 r3
end

/-- The iterator in block r over the map in block b (entries l): these are left. -/
def IIt (w : World) (r b : Nat) (l left : List (Int × Value)) : Prop :=
 ∃ es clock seen, w.heap[r]? = some (.mapIter (some b) clock seen clock) ∧ w.heap[b]? = some (.map es clock) ∧ EntI es l ∧ (∀ e ∈ es.toList, e.born < clock) ∧ (es.toList.map (·.born)).Nodup ∧
  (leftOf es seen).toList.map (fun e => (e.key, e.val)) = left.map (fun p => (Value.int .i64 p.1, p.2))

section
variable {P : Program} {w w' : World} {r b : Nat} {l left : List (Int × Value)}
theorem IIt.same (h : IIt w r b l left) (k1 : w'.heap[r]? = w.heap[r]?) (k2 : w'.heap[b]? = w.heap[b]?) : IIt w' r b l left := by
 obtain ⟨es, c, seen, h1, h2, h3⟩ := h
 exact ⟨es, c, seen, k1.trans h1, k2.trans h2, h3⟩
theorem IIt.lt (h : IIt w r b l left) : r < w.heap.size ∧ b < w.heap.size := by
 obtain ⟨es, c, seen, h1, h2, h3⟩ := h
 exact ⟨(Array.getElem?_eq_some_iff.1 h1).1, (Array.getElem?_eq_some_iff.1 h2).1⟩
theorem IIt.below (h : IIt w r b l left) (k : Below w.heap.size w w') : IIt w' r b l left := h.same (k.block _ h.lt.1) (k.block _ h.lt.2)
theorem IIt.alloc (h : IIt w r b l left) (o : Obj) : IIt (w.alloc o) r b l left := h.below ((Below.refl _ _).alloc (Nat.le_refl _) o)
theorem IIt.imp (h : IIt w r b l left) : IMp w b l := by
 obtain ⟨es, c, seen, h1, h2, h3, h4, h5, _⟩ := h
 exact ⟨es, c, h2, h3, h4, h5⟩

/-- 'range m' begins. -/
theorem IMp.range {t kt et : TypeId} (h : IMp w b l) (ht : P.underlying t = some (.map kt et)) :
  ∃ o, (Instr.range t (.map (some b))).run P w = .ok (.pointer (some ⟨w.heap.size, 0, none⟩)) (w.alloc o) ∧ IIt (w.alloc o) w.heap.size b l l := by
 obtain ⟨es, clock, h1, h2, h3, h4⟩ := h
 refine ⟨.mapIter (some b) clock #[] clock, ?_, es, clock, #[], ?_, ?_, h2, h3, h4, ?_⟩
 ·
  simp [Instr.range, run_underlying ht, MapKept.run_getObj_map h1, Result.andThen]
 ·
  show (w.heap.push _)[w.heap.size]? = _; simp
 ·
  rw [Below.heap_alloc _ _ _ (Array.getElem?_eq_some_iff.1 h1).1]; exact h1
 ·
  unfold leftOf; unfold EntI at h2; simpa [List.filter_eq_self.2] using h2

theorem wpList_range_imp {ops : Array Oper} {rest : List Oper} {o : Oper} {a : Act} {Q : Exit → Act → World → Prop}
  (hg : o.guard = none) (m : Operand) (t : TypeId) (hop : o.op = Op.range t m) (kt et : TypeId) (ht : P.underlying t = some (.map kt et)) (b : Nat) (l : List (Int × Value)) (hm : a.eval m = .map (some b)) (hbox : IMp w b l)
  (hK : ∀ o', IIt (w.alloc o') w.heap.size b l l → wpList P ops Q rest (a.put o.dst (.pointer (some ⟨w.heap.size, 0, none⟩))) (w.alloc o')) : wpList P ops Q (o :: rest) a w := by
 refine wpList_plain hg fun K' hK' => ?_
 obtain ⟨o', hrun, h1⟩ := hbox.range ht
 unfold Oper.wp
 simp [execOp, hop, hm, hrun, Result.andThen]
 exact hK' _ _ (hK o' h1)

theorem split_mapI {L : List MapEntry} {left : List (Int × Value)} (h : L.map (fun e => (e.key, e.val)) = left.map (fun p => (Value.int .i64 p.1, p.2))) {p q : List MapEntry} {e : MapEntry} (hL : L = p ++ e :: q) :
  ∃ p' k v q', left = p' ++ (k, v) :: q' ∧ e.key = .int .i64 k ∧ e.val = v ∧ (p ++ q).map (fun e => (e.key, e.val)) = (p' ++ q').map (fun p => (Value.int .i64 p.1, p.2)) := by
 subst hL
 rw [List.map_append, List.map_cons] at h
 obtain ⟨p', r', hl, hp, hr⟩ := List.append_eq_map_iff.1 h
 obtain ⟨x, q', hr', hx, hq⟩ := List.map_eq_cons_iff.1 hr
 subst hl
 subst hr'
 simp only [Prod.mk.injEq] at hx
 exact ⟨p', x.1, x.2, q', rfl, hx.1.symm, hx.2.symm, by rw [List.map_append, List.map_append, hp, hq]⟩

/-- One step of the range. -/
theorem IIt.next (h : IIt w r b l left) (ty : TypeId) :
  (left = [] ∧ (Instr.next (.pointer (some ⟨r, 0, none⟩)) false ty).run P w = .ok (.tuple #[.bool false]) w) ∨
  ∃ p k v q w', left = p ++ (k, v) :: q ∧ (Instr.next (.pointer (some ⟨r, 0, none⟩)) false ty).run P w = .ok (.tuple #[.bool true, .int .i64 k, v]) w' ∧ IIt w' r b l (p ++ q) ∧
   (Instr.entry (.pointer (some ⟨r, 0, none⟩))).run P w' = .ok (.tuple #[.int .i64 k, v]) w' ∧ w.grownBy w' (some r) ∧ w'.heap.size = w.heap.size := by
 have hlt := h.lt
 obtain ⟨es, clock, seen, h1, h2, h3, h4, h5, h6⟩ := h
 rcases run_next_at (P := P) w ty r b clock clock seen es clock h1 h2 h4 (Nat.le_refl _) with ⟨g1, g2⟩ | ⟨e, he, w1, hw1, g2⟩
 ·
  refine .inl ⟨?_, g2⟩
  have : (leftOf es seen).toList = [] := by
   have : (leftOf es seen).toList.length = 0 := by simpa using g1
   exact List.eq_nil_of_length_eq_zero this
  rw [this] at h6
  simpa using h6.symm
 ·
  right
  obtain ⟨p, q, s1, s2⟩ := left_step h5 he
  obtain ⟨p', k, v, q', e1, e2, e3, e4⟩ := split_mapI h6 s1
  have hne : r ≠ b := by rintro rfl; rw [h1] at h2; cases h2
  have hheap : w1.heap = w.heap := by rcases hw1 with rfl | rfl <;> rfl
  have hr' : (ChangeMaps.setBlock w1 r (.mapIter (some b) clock (seen.push e.born) clock)).heap[r]? = some (.mapIter (some b) clock (seen.push e.born) clock) := by
   show (w1.heap.setIfInBounds r _)[r]? = _
   rw [hheap]; simp [hlt.1]
  have hb' : (ChangeMaps.setBlock w1 r (.mapIter (some b) clock (seen.push e.born) clock)).heap[b]? = some (.map es clock) := by
   show (w1.heap.setIfInBounds r _)[b]? = _
   rw [hheap, Array.getElem?_setIfInBounds_ne hne]; exact h2
  have hmem : e ∈ es.toList := by
   unfold leftOf at he; simp at he ⊢; exact he.1
  refine ⟨p', k, v, q', _, e1, by rw [g2, e2, e3], ⟨es, clock, seen.push e.born, hr', hb', h3, h4, h5, by rw [s2]; exact e4⟩, ?_, ?_, ?_⟩
  ·
   rw [run_entry_at _ r b clock seen es clock e hr' hb' hmem h5, e2, e3]
  ·
   refine ⟨?_, ?_, ?_, ?_, ?_⟩
   ·
    rcases hw1 with rfl | rfl <;> rfl
   ·
    rcases hw1 with rfl | rfl <;> rfl
   ·
    rcases hw1 with rfl | rfl <;> rfl
   ·
    show _ ≤ (w1.heap.setIfInBounds r _).size; rw [hheap]; simp
   ·
    intro j hj hjr
    show (w1.heap.setIfInBounds r _)[j]? = _
    rw [hheap, Array.getElem?_setIfInBounds_ne (fun h => hjr (by rw [h]))]
  ·
   show (w1.heap.setIfInBounds r _).size = _; rw [hheap]; simp

theorem wpList_next_imp {ops : Array Oper} {rest : List Oper} {o : Oper} {a : Act} {Q : Exit → Act → World → Prop}
  (hg : o.guard = none) (it : Operand) (hop : o.op = Op.next it false) (r b : Nat) (l left : List (Int × Value)) (hi : a.eval it = .pointer (some ⟨r, 0, none⟩)) (hbox : IIt w r b l left)
  (h0 : left = [] → wpList P ops Q rest (a.put o.dst (.tuple #[.bool false])) w)
  (h1 : ∀ p k v q w', left = p ++ (k, v) :: q → IIt w' r b l (p ++ q) → (Instr.entry (.pointer (some ⟨r, 0, none⟩))).run P w' = .ok (.tuple #[.int .i64 k, v]) w' → w.grownBy w' (some r) → w'.heap.size = w.heap.size → wpList P ops Q rest (a.put o.dst (.tuple #[.bool true, .int .i64 k, v])) w') :
  wpList P ops Q (o :: rest) a w := by
 refine wpList_plain hg fun K' hK' => ?_
 unfold Oper.wp
 rcases hbox.next (P := P) o.type with ⟨g1, g2⟩ | ⟨p, k, v, q, w', g1, g2, g3, g4, g5, g6⟩
 ·
  simp [execOp, hop, hi, g2, Result.andThen]
  exact hK' _ _ (h0 g1)
 ·
  simp [execOp, hop, hi, g2, Result.andThen]
  exact hK' _ _ (h1 p k v q w' g1 g3 g4 g5 g6)
end
section
variable {κ : Type} [DecidableEq κ] {enc : κ → Value} {ok : κ → Prop} {P : Program} {w : World} {b : Nat} {l : List (κ × Value)} {t kt et : TypeId}
theorem g_push {es : Array MapEntry} {clock : Nat} (h2 : es.toList.map (fun e => (e.key, e.val)) = l.map (fun p => (enc p.1, p.2))) (h3 : ∀ e ∈ es.toList, e.born < clock) (h4 : (es.toList.map (·.born)).Nodup) (h5 : (l.map (·.1)).Nodup) (h6 : ∀ p ∈ l, ok p.1) {k : κ} (q2 : k ∉ l.map (·.1)) (hk : ok k) (v : Value) :
  (es.push ⟨enc k, v, clock⟩).toList.map (fun e => (e.key, e.val)) = (gput l k v).map (fun p => (enc p.1, p.2)) ∧ (∀ e ∈ (es.push ⟨enc k, v, clock⟩).toList, e.born < clock + 1) ∧ ((es.push ⟨enc k, v, clock⟩).toList.map (·.born)).Nodup ∧ ((gput l k v).map (·.1)).Nodup ∧ ∀ p ∈ gput l k v, ok p.1 := by
 refine ⟨?_, ?_, ?_, gput_nodup h5 k v, gput_all h6 hk v⟩
 ·
  rw [gput_new q2]; simp [h2]
 ·
  intro e he
  rw [Array.toList_push, List.mem_append, List.mem_singleton] at he
  rcases he with he | rfl
  ·
   have := h3 e he; omega
  ·
   exact Nat.lt_succ_self _
 ·
  simp only [Array.toList_push, List.map_append, List.map_cons, List.map_nil]
  rw [List.nodup_append]
  refine ⟨h4, by simp, fun a ha c hc e => ?_⟩
  rw [List.mem_singleton] at hc
  obtain ⟨x, hx, rfl⟩ := List.mem_map.1 ha
  have := h3 x hx
  omega
/-- An entry is looked for, or made; then its value is stored. -/
theorem GBox.ment (h : GBox enc ok w b l) (hK : Keys P kt enc ok) (ht : P.underlying t = some (.map kt et)) (z : Value) (hz : ∀ w, (zeroValue et).run P w = .ok z w) (k : κ) (hk : ok k) :
  ∃ (v0 : Value) (st : Nat) (w1 : World) (l1 : List (κ × Value)), (Instr.mapEntry t (.map (some b)) (enc k)).run P w = .ok (.tuple #[v0, .int .i64 st]) w1 ∧ GBox enc ok w1 b l1 ∧ (∀ c, glooked l1 k z c = glooked l k z c ∨ c = true) ∧ w.grownBy w1 (some b) ∧ w1.heap.size = w.heap.size ∧
   ∀ (w2 : World) (val : Value), w2.heap[b]? = w1.heap[b]? → ∃ w3, (Instr.entryStore t (.map (some b)) (.int .i64 st) val).run P w2 = .ok () w3 ∧ GBox enc ok w3 b (gput l k val) ∧ w2.grownBy w3 (some b) ∧ w3.heap.size = w2.heap.size := by
 obtain ⟨es, clock, h1, h2, h3, h4, h5, h6⟩ := h
 have hlt : b < w.heap.size := (Array.getElem?_eq_some_iff.1 h1).1
 obtain ⟨lx, hx⟩ := hK.of k hk
 have hck := hK.law.check w false hx
 have hst := hK.law.stays w hx
 rcases g_find hK h2 h6 k hk w with ⟨q1, q2⟩ | ⟨j, u, e, q1, q2, q3, q4⟩
 ·
  refine ⟨z, clock, { w with heap := w.heap.setIfInBounds b (.map (es.push { key := enc k, val := z, born := clock }) (clock + 1)) }, gput l k z, ?_, ⟨_, _, by simp [hlt], g_push h2 h3 h4 h5 h6 q2 hk z⟩, fun c => ?_, grown_setBlock _, by simp, fun w2 val hw2 => ?_⟩
  ·
   simp [Instr.mapEntry, run_underlying ht, MapKept.run_getObj_map h1, hck, q1, hz, MapKept.run_setObj_map _ h1, Result.andThen, goInt]
  ·
   cases c
   ·
    left
    unfold glooked
    rw [if_neg (by decide), if_neg (by decide), gget_gput, if_pos rfl, gget_none q2]; rfl
   ·
    exact .inr rfl
  ·
   have hb2 : w2.heap[b]? = some (.map (es.push { key := enc k, val := z, born := clock }) (clock + 1)) := by rw [hw2]; simp [hlt]
   have hlt2 : b < w2.heap.size := (Array.getElem?_eq_some_iff.1 hb2).1
   have hidx : (es.push ⟨enc k, z, clock⟩).findIdx? (fun e => ((e.born : Nat) : Int) == ((clock : Nat) : Int)) = some es.size := by
    rw [WideElems.findIdx_arr]
    exact WideElems.findIdx_born (e0 := ⟨enc k, z, clock⟩) (g_push h2 h3 h4 h5 h6 q2 hk z).2.2.1 (by simp)
   have hmod : (es.push ⟨enc k, z, clock⟩).modify es.size (fun e => { e with val := val }) = es.push ⟨enc k, val, clock⟩ := by
    apply Array.ext'
    rw [Array.toList_modify, Array.toList_push, Array.toList_push, ← Array.length_toList, WideElems.modify_last]
   refine ⟨{ w2 with heap := w2.heap.setIfInBounds b (.map (es.push { key := enc k, val := val, born := clock }) (clock + 1)) }, ?_, ⟨_, _, by simp [hlt2], g_push h2 h3 h4 h5 h6 q2 hk val⟩, grown_setBlock _, by simp⟩
   simp [Instr.entryStore, MapKept.run_getObj_map hb2, asInt, asIntOf, hidx, hmod, MapKept.run_setObj_map _ hb2, Result.andThen]
 ·
  have hj : es[j]? = some e := by simpa using q3
  have hset : ∀ (L : List MapEntry) (j : Nat) (a : MapEntry) (f : MapEntry → MapEntry), L[j]? = some a → f a = a → L.modify j f = L := by
   intro L
   induction L with
   | nil => intro j a f h _; simp at h
   | cons x r ih =>
    intro j a f h hf
    cases j with
    | zero => simp at h; subst h; simp [hf]
    | succ j => simp at h; simp [ih j a f h hf]
  have hsame : es.modify j (fun e => { e with key := enc k }) = es := by
   apply Array.ext'
   rw [Array.toList_modify]
   refine hset _ _ e _ q3 ?_
   rw [← q4]
  have hw1 : { w with heap := w.heap.setIfInBounds b (.map es clock) } = w := by
   have : w.heap.setIfInBounds b (.map es clock) = w.heap := by
    apply Array.ext'
    rw [Array.toList_setIfInBounds]
    apply List.ext_getElem?
    intro i
    rw [List.getElem?_set]
    split
    ·
     next hi =>
     subst hi
     rw [if_pos (by simpa using hlt)]
     have := h1
     rw [← Array.getElem?_toList] at this
     exact this.symm
    ·
     rfl
   rw [this]
  refine ⟨u, e.born, w, l, ?_, ⟨es, clock, h1, h2, h3, h4, h5, h6⟩, fun c => .inl rfl, ⟨rfl, rfl, rfl, Nat.le_refl _, fun _ _ _ => rfl⟩, rfl, fun w2 val hw2 => ?_⟩
  ·
   have hcons : (((es[j]?).map (·.key)).getD (enc k)) = enc k := by rw [hj]; exact q4
   have hborn : (((es[j]?).map (·.born)).getD 0) = e.born := by rw [hj]; rfl
   have hborn2 : (Option.map (fun x : MapEntry => (x.born : Int)) es[j]?).getD 0 = (e.born : Int) := by rw [hj]; rfl
   have hr : ∀ x, x = { w with heap := w.heap.setIfInBounds b (.map es clock) } → (Instr.mapEntry t (.map (some b)) (enc k)).run P w = .ok (.tuple #[u, .int .i64 e.born]) x := by
    rintro x rfl
    simp [Instr.mapEntry, run_underlying ht, MapKept.run_getObj_map h1, hck, q1, hcons, hst, hsame, hborn, hborn2, MapKept.run_setObj_map _ h1, Result.andThen, goInt]
   exact hr w hw1.symm
  ·
   have hb2 : w2.heap[b]? = some (.map es clock) := hw2.trans h1
   have hlt2 : b < w2.heap.size := (Array.getElem?_eq_some_iff.1 hb2).1
   have hidx : es.findIdx? (fun x => ((x.born : Nat) : Int) == ((e.born : Nat) : Int)) = some j := by
    rw [WideElems.findIdx_arr]
    exact WideElems.findIdx_born h4 q3
   have hmod1 : (es.modify j (fun e => { e with val := val })).toList.map (fun e => (e.key, e.val)) = (gput l k val).map (fun p => (enc p.1, p.2)) := by
    rw [gput_at h5 q2, Array.toList_modify]
    have h9 := modify_pairs (k := enc k) (v := val) q3
    have h10 : es.toList.modify j (fun e => { e with val := val }) = es.toList.modify j (fun e => { e with key := enc k, val := val }) := by
     have : ∀ (L : List MapEntry) (j : Nat), L[j]? = some e → L.modify j (fun e => { e with val := val }) = L.modify j (fun e => { e with key := enc k, val := val }) := by
      intro L
      induction L with
      | nil => intro j h; simp at h
      | cons x r ih =>
       intro j h
       cases j with
       | zero => simp at h; subst h; simp [← q4]
       | succ j => simp at h; simp [ih j h]
     exact this _ _ q3
    rw [h10, h9, h2, List.map_set]
   have hmod2 : (es.modify j (fun e => { e with val := val })).toList.map (·.born) = es.toList.map (·.born) := by
    rw [Array.toList_modify]
    have : ∀ (L : List MapEntry) (j : Nat), (L.modify j (fun e => { e with val := val })).map (·.born) = L.map (·.born) := by
     intro L
     induction L with
     | nil => intro j; simp
     | cons x r ih =>
      intro j
      cases j with
      | zero => simp
      | succ j => simp [ih j]
    exact this _ _
   refine ⟨{ w2 with heap := w2.heap.setIfInBounds b (.map (es.modify j (fun e => { e with val := val })) clock) }, ?_, ⟨es.modify j (fun e => { e with val := val }), clock, by simp [hlt2], hmod1, ?_, by rw [hmod2]; exact h4, gput_nodup h5 k val, gput_all h6 hk val⟩, grown_setBlock _, by simp⟩
   ·
    simp [Instr.entryStore, MapKept.run_getObj_map hb2, asInt, asIntOf, hidx, MapKept.run_setObj_map _ hb2, Result.andThen]
   ·
    intro x hx9
    have hm : x.born ∈ (es.modify j (fun e => { e with val := val })).toList.map (·.born) := List.mem_map.2 ⟨x, hx9, rfl⟩
    rw [hmod2] at hm
    obtain ⟨y, hy, e9⟩ := List.mem_map.1 hm
    rw [← e9]; exact h3 y hy
end
/-- Pairs of strings as keys. -/
theorem keysA_law : WideMaps.KeyLaw Tryz.prog 187 := deep_law_laid keys2_laid (m := 2) (by decide) (of_decide_eq_true (by kernel_rfl)) (by kernel_rfl) (by kernel_rfl)
set_option maxRecDepth 100000 in
theorem keysA_of (k : Two) (h : ok2 k) : ∃ l, keyOf Tryz.prog 187 (enc2 k) = some l := by
 have h1 : k.1.size ≤ maxLen := by have := h.1; unfold maxLen; omega
 have h2 : k.2.size ≤ maxLen := by have := h.2; unfold maxLen; omega
 have e1 : Tryz.prog.keyType 187 = true := by kernel_rfl
 have e2 : (enc2 k).formed Tryz.prog 187 = true := by kernel_rfl
 have ek : ∀ d (s : ByteArray), s.size ≤ maxLen → Tryz.prog.keyLits (d + 1) 9 [.string s] = some [.string s.data.toList] := fun d s hs => by
  unfold Program.keyLits
  rw [Tryz.underlying9]
  simp [hs]
 have e3 : Tryz.prog.keyLits (Tryz.prog.types.size + 1) 187 (enc2 k).cells.toList = some [.string k.1.data.toList, .string k.2.data.toList] := by
  obtain ⟨d, hd⟩ : ∃ d, Tryz.prog.types.size = d + 1 := ⟨Tryz.prog.types.size - 1, (Nat.succ_pred_eq_of_pos (of_decide_eq_true (by kernel_rfl))).symm⟩
  rw [hd]
  have k1 := ek d k.1 h1
  have k2 := ek d k.2 h2
  unfold Program.keyLits
  rw [Tryz.underlying187]
  have c1 : Tryz.prog.cellsOf 9 = 1 := by kernel_rfl
  have c2 : Tryz.prog.cellsOf 187 = 2 := by kernel_rfl
  simp [enc2, Value.cells, c1, c2]
  refine ⟨[[.string k.1.data.toList], [.string k.2.data.toList]], ?_, rfl⟩
  rw [show List.range 2 = [0, 1] from rfl]
  simp [k1, k2]
 refine ⟨.string (keyBytes [.string k.1.data.toList, .string k.2.data.toList]), ?_⟩
 unfold keyOf
 rw [Tryz.underlying187]
 simp only [e1, e2, Bool.and_self, if_true, e3]
 rfl
theorem keysA : Keys Tryz.prog 187 enc2 ok2 := ⟨keysA_law, keysA_of, enc2_inj⟩
def talkTop (g : Grd) (x : ByteArray) : List ByteArray := (talkOr g x).topics
/-- Two talks have no topic in common. -/
def strB (g : Grd) (a b : ByteArray) : Bool := !sharesB (talkTop g a) (talkTop g b)
theorem shares_comm (a b : List ByteArray) : sharesB a b = sharesB b a := by
 rw [Bool.eq_iff_iff]
 unfold sharesB
 rw [List.any_eq_true, List.any_eq_true]
 exact ⟨fun ⟨x, h1, h2⟩ => ⟨x, inB_iff.1 h2, inB_iff.2 h1⟩, fun ⟨x, h1, h2⟩ => ⟨x, inB_iff.1 h2, inB_iff.2 h1⟩⟩
theorem strB_comm (g : Grd) (a b : ByteArray) : strB g a b = strB g b a := by unfold strB; rw [shares_comm]
def mixAt (g : Grd) (ps : List ByteArray) : Nat → Nat
 | 0 => 0
 | i + 1 => mixAt g ps i + (match ps[i]? with
  | none => 0
  | some a => (ps.drop (i + 1)).countP (strB g a))
def mixRt (g : Grd) (ps : List ByteArray) : Nat → Nat
 | 0 => 0
 | i + 1 => mixRt g ps i + (match ps[i]? with
  | none => 0
  | some a => (ps.take i).countP (strB g a))
theorem mixAt_succ {g : Grd} {ps : List ByteArray} {i : Nat} (h : i < ps.length) : mixAt g ps (i + 1) = mixAt g ps i + (ps.drop (i + 1)).countP (strB g ps[i]) := by
 show mixAt g ps i + (match ps[i]? with | none => 0 | some a => (ps.drop (i + 1)).countP (strB g a)) = _
 rw [List.getElem?_eq_getElem h]
theorem mixRt_succ {g : Grd} {ps : List ByteArray} {i : Nat} (h : i < ps.length) : mixRt g ps (i + 1) = mixRt g ps i + (ps.take i).countP (strB g ps[i]) := by
 show mixRt g ps i + (match ps[i]? with | none => 0 | some a => (ps.take i).countP (strB g a)) = _
 rw [List.getElem?_eq_getElem h]
def prs (g : Grd) : List ByteArray → Nat
 | [] => 0
 | a :: r => r.countP (strB g a) + prs g r
theorem prs_snoc (g : Grd) (x : ByteArray) : ∀ l : List ByteArray, prs g (l ++ [x]) = prs g l + l.countP (strB g x)
 | [] => rfl
 | a :: r => by
  show (r ++ [x]).countP (strB g a) + prs g (r ++ [x]) = r.countP (strB g a) + prs g r + (a :: r).countP (strB g x)
  rw [prs_snoc g x r, List.countP_append, List.countP_cons, List.countP_cons, List.countP_nil, strB_comm g a x]
  omega
theorem mixRt_prs (g : Grd) (ps : List ByteArray) : ∀ i, i ≤ ps.length → mixRt g ps i = prs g (ps.take i)
 | 0, _ => by rw [List.take_zero]; rfl
 | i + 1, h => by
  rw [mixRt_succ (by omega : i < ps.length), List.take_succ_eq_append_getElem (by omega : i < ps.length), prs_snoc, mixRt_prs g ps i (by omega)]
theorem mixAt_prs (g : Grd) (ps : List ByteArray) : ∀ i, i ≤ ps.length → mixAt g ps i + prs g (ps.drop i) = prs g ps
 | 0, _ => by rw [List.drop_zero]; show 0 + _ = _; omega
 | i + 1, h => by
  have h1 := mixAt_prs g ps i (by omega)
  rw [List.drop_eq_getElem_cons (by omega : i < ps.length)] at h1
  rw [mixAt_succ (by omega : i < ps.length)]
  have h2 : prs g (ps[i] :: ps.drop (i + 1)) = (ps.drop (i + 1)).countP (strB g ps[i]) + prs g (ps.drop (i + 1)) := rfl
  omega
theorem mix_same (g : Grd) (ps : List ByteArray) : mixAt g ps ps.length = mixRt g ps ps.length := by
 have h1 := mixAt_prs g ps ps.length (Nat.le_refl _)
 rw [mixRt_prs g ps _ (Nat.le_refl _), List.take_length]
 rw [List.drop_length] at h1
 exact h1
theorem mixRt_bd (g : Grd) (ps : List ByteArray) : ∀ i, i ≤ ps.length → mixRt g ps i ≤ 1000 * i ∨ 1000 < ps.length
 | 0, _ => .inl (Nat.le_refl _)
 | i + 1, h => by
  rcases mixRt_bd g ps i (by omega) with h1 | h1
  ·
   by_cases h2 : 1000 < ps.length
   ·
    exact .inr h2
   ·
    left
    rw [mixRt_succ (by omega : i < ps.length)]
    have h3 := List.countP_le_length (p := strB g (ps[i]'(by omega))) (l := ps.take i)
    rw [List.length_take] at h3
    omega
  ·
   exact .inr h1
theorem mixAt_bd (g : Grd) (ps : List ByteArray) (hl : ps.length ≤ 1000) : ∀ i, i ≤ ps.length → mixAt g ps i ≤ 1000 * i
 | 0, _ => Nat.le_refl _
 | i + 1, h => by
  have h1 := mixAt_bd g ps hl i (by omega)
  rw [mixAt_succ (by omega : i < ps.length)]
  have h3 := List.countP_le_length (p := strB g (ps[i]'(by omega))) (l := ps.drop (i + 1))
  rw [List.length_drop] at h3
  omega
def mixTo (g : Grd) (p : List Ses) : Nat → Nat
 | 0 => 0
 | k + 1 => mixTo g p k + (match p[k]? with
  | none => 0
  | some s => mixAt g s.papers s.papers.length)
def mixN (g : Grd) (p : List Ses) : Nat := mixTo g p p.length
theorem mixTo_succ {g : Grd} {p : List Ses} {k : Nat} (h : k < p.length) : mixTo g p (k + 1) = mixTo g p k + mixAt g p[k].papers p[k].papers.length := by
 show mixTo g p k + (match p[k]? with | none => 0 | some s => mixAt g s.papers s.papers.length) = _
 rw [List.getElem?_eq_getElem h]
theorem mixTo_bd {g : Grd} {p : List Ses} (hp : ∀ s ∈ p, s.papers.length ≤ 1000) : ∀ k, k ≤ p.length → mixTo g p k ≤ 1000000 * k
 | 0, _ => Nat.le_refl _
 | k + 1, h => by
  have h1 := mixTo_bd (g := g) hp k (by omega)
  have hl := hp (p[k]'(by omega)) (List.getElem_mem _)
  have h2 := mixAt_bd g (p[k]'(by omega)).papers hl _ (Nat.le_refl _)
  rw [mixTo_succ (by omega : k < p.length)]
  omega
/-- The end of a slice. -/
theorem dropS (a : Option Addr) (l : List ByteArray) (c k : Nat) (hk : k ≤ l.length) (hc : l.length ≤ c) : ∃ da dc, (∀ W, (Instr.sliceAt 74 (.slice a l.length c) (some (.int .i64 (k : Nat))) none none).run Tryz.prog W = .ok (.slice da (l.drop k).length dc) W) ∧ ∀ W, SA W a l → SA W da (l.drop k) := by
 refine ⟨if c = k then a else a.map (·.add (k * 1)), c - k, fun W => ?_, fun W h => ?_⟩
 ·
  rw [List.length_drop]
  simp [Instr.sliceAt, Instr.slice, Instr.sliceBounds, Instr.sliceBound, run_underlying Tryz.underlying74, asIntOf, go_sem, Tryz.sizeOf9, hk]
 ·
  by_cases hkl : k = l.length
  ·
   rw [hkl, List.drop_length]; exact .inl rfl
  ·
   rw [if_neg (by omega)]
   rcases h with h | ⟨b, off, rfl, h⟩
   ·
    subst h; simp at hk hkl; exact absurd hk hkl
   ·
    refine .inr ⟨b, off + k, by simp [Addr.add], fun i j x hx hj => ?_⟩
    rw [List.getElem?_drop] at hx
    have h1 := h (k + i) j x hx hj
    rw [show off + ((k + i) * Cel.k ByteArray + j) = off + k + (i * Cel.k ByteArray + j) from by show off + ((k + i) * 1 + j) = off + k + (i * 1 + j); omega] at h1
    exact h1
theorem tlk_field2 (a d e f : Value) (w : World) : (Instr.field 101 (.agg #[a, d, e, f]) 2).run Tryz.prog w = .ok e w := by kernel_rfl
set_option maxRecDepth 100000 in
theorem strangeClo_any (l : List ByteArray) (al : Option Addr) (capl bq : Nat) (x : ByteArray) (w : World) (hc : w.cell? ⟨bq, 0, none⟩ = some (.slice al l.length capl)) (hl : SA w al l) (hlen : l.length ≤ 1000000) :
  Calls Tryz.prog 153 #[.string x, .pointer (some ⟨bq, 0, none⟩)] w (Gives (.bool (inB l x)) w) := by
 have HT := Lib.hid (contains_any l al capl x w hl (by omega))
 have hlt := cell_lt hc
 have HB : Hid (l.any (fun y => decide (y = x)) = inB l x) := rfl
 clear hl
 go_enter Tryz.func153, Tryz.ntmps153
 go_wp2_with fail
 refine HT.out.mono ?_
 rintro e w2 ⟨rfl, rfl⟩
 go_wp2_with fail
 go_ret
 exact ⟨by rw [← HB.out] <;> rfl, Below.refl _ _⟩
set_option maxRecDepth 100000 in
set_option maxHeartbeats 2000000 in
theorem strange_any (g : Grd) (fb br bs bt bb : Nat) (x y : ByteArray) (w : World) (hF : FieldAt g fb br bs bt bb w) (hg : GRd w g) (hz : GSm g) (hn : GNd g) (hx : (talkOf g x).isSome = true) (hy : (talkOf g y).isSome = true) :
  Calls Tryz.prog 130 #[.pointer (some ⟨fb, 0, none⟩), .string x, .string y] w (Gives (.bool (strB g x y)) w) := by
 have HX := Lib.hid (fun W (h : Below w.heap.size w W) => talkP_any g fb br bs bt bb x W (hF.below h) (hg.below h) hz hn.talks hx)
 have HY := Lib.hid (fun W (h : Below w.heap.size w W) => talkP_any g fb br bs bt bb y W (hF.below h) (hg.below h) hz hn.talks hy)
 have HRX := Lib.hid (fun W (h : Below w.heap.size w W) => (talkOr_rd (hg.below h) x).2)
 have HRY := Lib.hid (fun W (h : Below w.heap.size w W) => (talkOr_rd (hg.below h) y).2)
 have hkx := (talkOr_ok hz x).2.2.1
 have hky := (talkOr_ok hz y).2.2.1
 have HS : Hid (strB g x y = !(talkOr g x).topics.any (fun t => inB (talkOr g y).topics t)) := rfl
 generalize strB g x y = R at *
 generalize talkOr g x = t at *
 generalize talkOr g y = u at *
 clear hF hg hz hn hx hy
 obtain ⟨t1, t2, t3, t4, t5, t6, t7, t8⟩ := t
 obtain ⟨u1, u2, u3, u4, u5, u6, u7, u8⟩ := u
 unfold Tlk.agg at HX HY
 simp only at HX HY HRX HRY HS hkx hky
 go_enter Tryz.func130, Tryz.ntmps130
 go_wp2_with fail
 refine (HY.out _ (Below.refl _ _)).mono ?_
 rintro e w1 ⟨rfl, hb1⟩
 have hfd := tlk_field2 (.string u1) (.slice u5 u2.length u6) (.slice u7 u3.length u8) (.int .i64 u4) w1
 go_upto_region 2 with (fail)
 have hL := Box.new w1 74 #[.slice u7 u3.length u8]
 have hb2 := hb1.alloc hb1.size (.cells #[.slice u7 u3.length u8] 74)
 clear hb1 hfd
 generalize w1.alloc (.cells #[.slice u7 u3.length u8] 74) = w2 at *
 generalize w1.heap.size = n1 at *
 go_wp2_with fail
 refine (HX.out _ hb2).mono ?_
 rintro e w3 ⟨rfl, hb3⟩
 have hfd := tlk_field2 (.string t1) (.slice t5 t2.length t6) (.slice t7 t3.length t8) (.int .i64 t4) w3
 have hL3 := hL.below hb3
 have hb3' := below_next hb2 hb3
 have HC := Lib.hid (findGStr_any t3 t7 t8 153 #[.pointer (some ⟨n1, 0, none⟩)] (inB u3) w3 (enters_of Tryz.func153 (by kernel_rfl) rfl) (HRX.out _ hb3') (by omega) (fun z hz W hW => strangeClo_any u3 u7 u8 n1 z W (by have h0 := (hL3.below hW).cell 0; simpa using h0) (HRY.out _ (below_next hb3' hW)) (by omega)))
 clear hL hb2 hb3 hL3
 go_wp2_with fail
 refine HC.out.mono ?_
 rintro e w4 ⟨rfl, hb4⟩
 have hbZ := below_next hb3' hb4
 clear HC hfd
 go_wp2_with fail
 go_ret
 exact ⟨by rw [HS.out] <;> rfl, hbZ⟩
set_option maxRecDepth 100000 in
set_option maxHeartbeats 8000000 in
theorem mixedP_any (g : Grd) (fb br bs bt bb : Nat) (p : List Ses) (pa : Option Addr) (pc : Nat) (w : World) (hF : FieldAt g fb br bs bt bb w) (hg : GRd w g) (hz : GSm g) (hn : GNd g) (hp : PRg w pa p) (hpl : p.length ≤ 1000) (hpo : ∀ s ∈ p, SesOk s) (hok : ∀ s ∈ p, ∀ x ∈ s.papers, (talkOf g x).isSome = true) (hcp : ∀ s ∈ p, s.papers.length ≤ s.c1) :
  Calls Tryz.prog 81 #[.pointer (some ⟨fb, 0, none⟩), .slice pa p.length pc] w (Gives (.int .i64 (mixN g p : Nat)) w) := by
 have HST := Lib.hid (fun x y W (h : Below w.heap.size w W) hx hy => strange_any g fb br bs bt bb x y W (hF.below h) (hg.below h) hz hn hx hy)
 have HP := Lib.hid (fun W (h : Below w.heap.size w W) => hp.below h)
 have HPO := Lib.hid (fun s hs => (hpo s hs).2.2.1)
 have HOK := Lib.hid hok
 have HCP := Lib.hid hcp
 have HR : Hid (mixN g p = mixTo g p p.length) := rfl
 have HBD := Lib.hid (mixTo_bd (g := g) (fun s hs => (hpo s hs).2.2.1))
 generalize mixN g p = R at *
 clear hF hg hz hn hp hpo hok hcp
 go_enter Tryz.func81, Tryz.ntmps81
 go_wp2_with fail
 go_loopg [5, 14] p.length (fun gk nv iv wr => ∃ k : Nat, nv = .int .i64 (mixTo g p k : Nat) ∧ iv = .int .i64 k ∧ k ≤ p.length ∧ Hid (gk = p.length - k) ∧ Below w.heap.size w wr)
 case atStart => exact ⟨0, rfl, rfl, by omega, rfl, Below.refl _ _⟩
 case round =>
  obtain ⟨k, rfl, rfl, hk, hgk, hb⟩ := hrel
  by_cases hlt : k < p.length
  ·
   obtain ⟨b, off, ha, c0, c1, c2⟩ := (HP.out _ hb).list.sesC hlt
   have hxm : p[k] ∈ p := List.getElem_mem hlt
   have HXP := Lib.hid (fun W (h : Below w.heap.size w W) => (HP.out W h).papers _ hxm)
   have hxl := HPO.out _ hxm
   have HXT := Lib.hid (HOK.out _ hxm)
   have hcap := HCP.out _ hxm
   have Hsu := Lib.hid (mixTo_succ (g := g) hlt)
   have hbd := HBD.out k hk
   have Ha := Lib.hid ha
   generalize mixTo g p k = N0 at *
   generalize p[k] = x at *
   obtain ⟨s1, s2, s3, s4, s5⟩ := x
   simp only at c0 c1 c2 HXP hxl Hsu HXT hcap
   rw [ha]
   clear ha hxm
   go_upto_region 5 with (fail)
   have hE1 := Box.new wr 91 #[.string s1, .string s2, .slice s4 s3.length s5]
   have hb1 := hb.alloc hb.size (.cells #[.string s1, .string s2, .slice s4 s3.length s5] 91)
   clear hb c0 c1 c2
   generalize wr.alloc (.cells #[.string s1, .string s2, .slice s4 s3.length s5] 91) = w2 at *
   generalize wr.heap.size = n2 at *
   have hE1_l := hE1.lt; have hE1_0 := hE1.cell 0; have hE1_1 := hE1.cell 1; have hE1_2 := hE1.cell 2; simp at hE1_0 hE1_1 hE1_2
   go_wp2_with fail
   clear hE1_l hE1_0 hE1_1 hE1_2
   go_loopg [5, 21] s3.length (fun gj nv jv wq => ∃ i : Nat, nv = .int .i64 (N0 + mixAt g s3 i : Nat) ∧ jv = .int .i64 i ∧ i ≤ s3.length ∧ Hid (gj = s3.length - i) ∧ Box wq n2 91 #[.string s1, .string s2, .slice s4 s3.length s5] ∧ Below w.heap.size w wq)
   case atStart => exact ⟨0, rfl, rfl, by omega, rfl, hE1, hb1⟩
   case round =>
    clear hE1 hb1
    obtain ⟨i, rfl, rfl, hi, hgi, hE, hb⟩ := hrel
    by_cases hil : i < s3.length
    ·
     obtain ⟨tb, toff, ha4, u0⟩ := (HXP.out _ hb).str hil
     have HXa := Lib.hid (HXT.out _ (List.getElem_mem hil))
     have Hms := Lib.hid (mixAt_succ (g := g) hil)
     have hmb := mixAt_bd g s3 hxl i (by omega)
     obtain ⟨da, dc, hsl, hdr⟩ := dropS s4 s3 s5 (i + 1) (by omega) hcap
     have HDR := Lib.hid hdr
     have HDX : Hid (∀ y ∈ s3.drop (i + 1), (talkOf g y).isSome = true) := fun y hy => HXT.out y (List.mem_of_mem_drop hy)
     have hdl : (s3.drop (i + 1)).length ≤ 1000 := by rw [List.length_drop]; omega
     have Ha4 := Lib.hid ha4
     rw [show ((i + 1 : Nat) : Int) = (i : Int) + 1 from rfl] at hsl
     rw [ha4]
     clear ha4 hdr
     generalize s3[i] = a at *
     generalize s3.drop (i + 1) = ds at *
     generalize mixAt g s3 i = M at *
     go_upto_region 8 with (fail)
     rw [← Ha4.out]
     have hE_l := hE.lt; have hE_0 := hE.cell 0; have hE_1 := hE.cell 1; have hE_2 := hE.cell 2; simp at hE_0 hE_1 hE_2
     go_wp2_with fail
     clear hE_l hE_0 hE_1 hE_2
     clear hsl u0
     go_loopg [5, 32] ds.length (fun gm nv mv wz => ∃ j : Nat, nv = .int .i64 (N0 + (M + (ds.take j).countP (strB g a)) : Nat) ∧ mv = .int .i64 j ∧ j ≤ ds.length ∧ Hid (gm = ds.length - j) ∧ Box wz n2 91 #[.string s1, .string s2, .slice s4 s3.length s5] ∧ Below w.heap.size w wz)
     case atStart => exact ⟨0, rfl, rfl, by omega, rfl, hE, hb⟩
     case round =>
      clear hE hb
      obtain ⟨j, rfl, rfl, hj, hgj, hE, hb⟩ := hrel
      by_cases hjl : j < ds.length
      ·
       obtain ⟨tc, tcoff, ha5, u0⟩ := ((HDR.out _ (HXP.out _ hb))).str hjl
       have HSx := Lib.hid (fun W (h : Below w.heap.size w W) => HST.out a ds[j] W h HXa.out (HDX.out _ (List.getElem_mem hjl)))
       have Htk : Hid ((ds.take (j + 1)).countP (strB g a) = (ds.take j).countP (strB g a) + if strB g a ds[j] = true then 1 else 0) := by show _ = _; rw [List.take_succ_eq_append_getElem hjl, List.countP_append, List.countP_cons, List.countP_nil, Nat.zero_add]
       have hcb := List.countP_le_length (p := strB g a) (l := ds.take j)
       rw [List.length_take] at hcb
       have Ha5 := Lib.hid ha5
       rw [ha5]
       clear ha5
       generalize (ds.take j).countP (strB g a) = C at *
       generalize strB g a ds[j] = sb at *
       generalize ds[j] = y at *
       have hTb : N0 + (M + C) ≤ 2000000000 := by omega
       obtain ⟨T, hT⟩ : ∃ T, N0 + (M + C) = T := ⟨_, rfl⟩
       rw [hT] at hTb ⊢
       have HT := Lib.hid hT
       clear hT hcb
       have hw : IntKind.i64.wrap ((T : Int) + 1) = (T : Int) + 1 := IntWalk.i64_in _ (by omega)
       go_wp2_with fail
       refine (HSx.out _ hb).mono ?_
       rintro e w6 ⟨rfl, hb6⟩
       have hE6 := hE.below hb6
       have hb7 := below_next hb hb6
       clear hE hb hb6 HSx u0
       cases sb
       ·
        have HN : Hid (N0 + (M + (ds.take (j + 1)).countP (strB g a)) = T) := by
         show _ = _
         have h1 := Htk.out
         have h2 := HT.out
         rw [if_neg (by decide)] at h1
         omega
        clear HT Htk
        go_wp2_with fail
        rw [← Ha5.out]
        go_roundg (ds.length - (j + 1))
        case measure => have := hgj.out; omega
        case rel => exact ⟨j + 1, by rw [HN.out], by go_num, by omega, rfl, hE6, hb7⟩
       ·
        have HN : Hid (N0 + (M + (ds.take (j + 1)).countP (strB g a)) = T + 1) := by
         show _ = _
         have h1 := Htk.out
         have h2 := HT.out
         rw [if_pos rfl] at h1
         omega
        clear HT Htk
        go_wp2_with fail
        rw [← Ha5.out]
        go_roundg (ds.length - (j + 1))
        case measure => have := hgj.out; omega
        case rel => exact ⟨j + 1, by rw [HN.out]; go_num, by go_num, by omega, rfl, hE6, hb7⟩
      ·
       obtain rfl : j = ds.length := by omega
       rw [List.take_length, ← Hms.out]
       go_wp2_with fail
       go_roundg (s3.length - (i + 1))
       case measure => have := hgi.out; omega
       case rel => exact ⟨i + 1, rfl, by go_num, by omega, rfl, hE, hb⟩
    ·
     obtain rfl : i = s3.length := by omega
     go_wp2_with fail
     rw [← Ha.out]
     go_roundg (p.length - (k + 1))
     case measure => have := hgk.out; omega
     case rel => exact ⟨k + 1, by rw [Hsu.out], by go_num, by omega, rfl, hb⟩
  ·
   obtain rfl : k = p.length := by omega
   rw [← HR.out]
   go_wp2_with fail
   go_ret
   exact ⟨rfl, hb⟩
set_option maxRecDepth 100000 in
set_option maxHeartbeats 8000000 in
theorem mixedOf_any (g : Grd) (p : List Ses) (pa : Option Addr) (pc : Nat) (w : World) (hg : GRd w g) (hz : GSm g) (hp : PRg w pa p) (hpl : p.length ≤ 1000) (hpo : ∀ s ∈ p, SesOk s) (hcp : ∀ s ∈ p, s.papers.length ≤ s.c1) :
  Calls Tryz.prog 29 #[g.agg, .slice pa p.length pc] w (Gives (.int .i64 (mixN g p : Nat)) w) := by
 have HTK := Lib.hid (fun x W (h : Below w.heap.size w W) => talkOf_any g x W (hg.below h) (by have := hz.talks; omega))
 have HRD := Lib.hid (fun x W (h : Below w.heap.size w W) => (talkOr_rd (hg.below h) x).2)
 have HTO := Lib.hid (fun x => (talkOr_ok hz x).2.2.1)
 have HP := Lib.hid (fun W (h : Below w.heap.size w W) => hp.below h)
 have HPO := Lib.hid (fun s hs => (hpo s hs).2.2.1)
 have HCP := Lib.hid hcp
 have HR : Hid (mixN g p = mixTo g p p.length) := rfl
 have HBD := Lib.hid (mixTo_bd (g := g) (fun s hs => (hpo s hs).2.2.1))
 generalize mixN g p = R at *
 clear hg hz hp hpo hcp
 rw [Grd.agg_eq] at HTK ⊢
 have hX := Box.new w 32 #[.slice g.ra g.rooms.length g.rc, .slice g.sa g.slots.length g.sc, .slice g.ta g.talks.length g.tc, .slice g.wa g.wishes.length g.wc, .slice g.ba g.bans.length g.bc]
 have hb0 : Below w.heap.size w (w.alloc (.cells #[.slice g.ra g.rooms.length g.rc, .slice g.sa g.slots.length g.sc, .slice g.ta g.talks.length g.tc, .slice g.wa g.wishes.length g.wc, .slice g.ba g.bans.length g.bc] 32)) := (Below.refl _ _).alloc (Nat.le_refl _) _
 go_enter Tryz.func29, Tryz.ntmps29
 go_upto_region 1 with (fail)
 generalize w.alloc (.cells #[.slice g.ra g.rooms.length g.rc, .slice g.sa g.slots.length g.sc, .slice g.ta g.talks.length g.tc, .slice g.wa g.wishes.length g.wc, .slice g.ba g.bans.length g.bc] 32) = w1 at *
 go_wp2_with fail
 go_loopg [5, 18] p.length (fun gk nv iv wr => ∃ k : Nat, nv = .int .i64 (mixTo g p k : Nat) ∧ iv = .int .i64 k ∧ k ≤ p.length ∧ Hid (gk = p.length - k) ∧ Box wr w.heap.size 32 #[.slice g.ra g.rooms.length g.rc, .slice g.sa g.slots.length g.sc, .slice g.ta g.talks.length g.tc, .slice g.wa g.wishes.length g.wc, .slice g.ba g.bans.length g.bc] ∧ Below w.heap.size w wr)
 case atStart => exact ⟨0, rfl, rfl, by omega, rfl, hX, hb0⟩
 case round =>
  clear hX hb0
  obtain ⟨k, rfl, rfl, hk, hgk, hX, hb⟩ := hrel
  by_cases hlt : k < p.length
  ·
   obtain ⟨b, off, ha, c0, c1, c2⟩ := (HP.out _ hb).list.sesC hlt
   have hxm : p[k] ∈ p := List.getElem_mem hlt
   have HXP := Lib.hid (fun W (h : Below w.heap.size w W) => (HP.out W h).papers _ hxm)
   have hxl := HPO.out _ hxm
   have hcap := HCP.out _ hxm
   have Hsu : Hid (mixTo g p (k + 1) = mixTo g p k + mixRt g p[k].papers p[k].papers.length) := by show _ = _; rw [mixTo_succ hlt, mix_same]
   have hbd := HBD.out k hk
   have Ha := Lib.hid ha
   generalize mixTo g p k = N0 at *
   generalize p[k] = x at *
   obtain ⟨s1, s2, s3, s4, s5⟩ := x
   simp only at c0 c1 c2 HXP hxl Hsu hcap
   rw [ha]
   clear ha hxm
   go_upto_region 5 with (fail)
   have hE1 := Box.new wr 91 #[.string s1, .string s2, .slice s4 s3.length s5]
   have hb1 := hb.alloc hb.size (.cells #[.string s1, .string s2, .slice s4 s3.length s5] 91)
   have hX1 := hX.alloc (.cells #[.string s1, .string s2, .slice s4 s3.length s5] 91)
   clear hb hX c0 c1 c2
   generalize wr.alloc (.cells #[.string s1, .string s2, .slice s4 s3.length s5] 91) = w2 at *
   generalize wr.heap.size = n2 at *
   have hE1_l := hE1.lt; have hE1_0 := hE1.cell 0; have hE1_1 := hE1.cell 1; have hE1_2 := hE1.cell 2; simp at hE1_0 hE1_1 hE1_2
   go_wp2_with fail
   clear hE1_l hE1_0 hE1_1 hE1_2
   go_loopg [5, 25] s3.length (fun gj nv jv wq => ∃ i : Nat, nv = .int .i64 (N0 + mixRt g s3 i : Nat) ∧ jv = .int .i64 i ∧ i ≤ s3.length ∧ Hid (gj = s3.length - i) ∧ Box wq n2 91 #[.string s1, .string s2, .slice s4 s3.length s5] ∧ Box wq w.heap.size 32 #[.slice g.ra g.rooms.length g.rc, .slice g.sa g.slots.length g.sc, .slice g.ta g.talks.length g.tc, .slice g.wa g.wishes.length g.wc, .slice g.ba g.bans.length g.bc] ∧ Below w.heap.size w wq)
   case atStart => exact ⟨0, rfl, rfl, by omega, rfl, hE1, hX1, hb1⟩
   case round =>
    clear hE1 hX1 hb1
    obtain ⟨i, rfl, rfl, hi, hgi, hE, hX, hb⟩ := hrel
    by_cases hil : i < s3.length
    ·
     obtain ⟨tb, toff, ha4, u0⟩ := (HXP.out _ hb).str hil
     have Hms := Lib.hid (mixRt_succ (g := g) hil)
     have hmb := (mixRt_bd g s3 i hi).resolve_right (by omega)
     have hdl : (s3.take i).length = i := by rw [List.length_take]; omega
     have HDR := Lib.hid (fun W (h : Below w.heap.size w W) => (HXP.out W h).takeG i)
     have hi1 : (0 : Int) ≤ (i : Int) := by omega
     have hi2 : (i : Int) ≤ (s5 : Int) := by omega
     have Ha4 := Lib.hid ha4
     have HTa := Lib.hid (fun W (h : Below w.heap.size w W) => HTK.out s3[i] W h)
     have HRa := Lib.hid (fun W (h : Below w.heap.size w W) => HRD.out s3[i] W h)
     have hka := HTO.out s3[i]
     rw [ha4]
     clear ha4
     generalize s3[i] = a at *
     generalize hds : s3.take i = ds at *
     generalize mixRt g s3 i = M at *
     have HSB : Hid (∀ y, strB g a y = !sharesB (talkOr g a).topics (talkOr g y).topics) := fun y => rfl
     unfold talkV at HTa
     generalize talkOr g a = t at *
     obtain ⟨t1, t2, t3, t4, t5, t6, t7, t8⟩ := t
     unfold Tlk.agg at HTa
     simp only at HTa HRa hka HSB
     go_upto_region 8 with (fail)
     rw [← Ha4.out]
     have hE_l := hE.lt; have hE_0 := hE.cell 0; have hE_1 := hE.cell 1; have hE_2 := hE.cell 2; simp at hE_0 hE_1 hE_2
     go_wp2_with fail
     clear hE_l hE_0 hE_1 hE_2
     clear u0
     have Hdl := Lib.hid hdl
     have Hds := Lib.hid hds
     clear hdl hds
     go_loopg [5, 35] i (fun gm nv mv wz => ∃ j : Nat, nv = .int .i64 (N0 + (M + (ds.take j).countP (strB g a)) : Nat) ∧ mv = .int .i64 j ∧ j ≤ i ∧ Hid (gm = i - j) ∧ Box wz n2 91 #[.string s1, .string s2, .slice s4 s3.length s5] ∧ Box wz w.heap.size 32 #[.slice g.ra g.rooms.length g.rc, .slice g.sa g.slots.length g.sc, .slice g.ta g.talks.length g.tc, .slice g.wa g.wishes.length g.wc, .slice g.ba g.bans.length g.bc] ∧ Below w.heap.size w wz)
     case atStart => exact ⟨0, rfl, rfl, by omega, rfl, hE, hX, hb⟩
     case round =>
      clear hE hX hb
      obtain ⟨j, rfl, rfl, hj, hgj, hE, hX, hb⟩ := hrel
      by_cases hji : j < i
      ·
       have hjl : j < ds.length := by have := Hdl.out; omega
       obtain ⟨tc, tcoff, ha5, u0⟩ := (HDR.out _ hb).str hjl
       have Htk : Hid ((ds.take (j + 1)).countP (strB g a) = (ds.take j).countP (strB g a) + if strB g a ds[j] = true then 1 else 0) := by show _ = _; rw [List.take_succ_eq_append_getElem hjl, List.countP_append, List.countP_cons, List.countP_nil, Nat.zero_add]
       have hcb := List.countP_le_length (p := strB g a) (l := ds.take j)
       rw [List.length_take] at hcb
       have hdb : ds.length ≤ 1000 := by have := Hdl.out; omega
       rw [HSB.out ds[j]] at Htk
       have HTb := Lib.hid (fun W (h : Below w.heap.size w W) => HTK.out ds[j] W h)
       have HRb := Lib.hid (fun W (h : Below w.heap.size w W) => HRD.out ds[j] W h)
       have hkb := HTO.out ds[j]
       have Ha5 := Lib.hid ha5
       rw [ha5]
       clear ha5
       generalize (ds.take j).countP (strB g a) = C at *
       unfold talkV at HTb
       generalize ds[j] = y at *
       generalize talkOr g y = u at *
       obtain ⟨v1, v2, v3, v4, v5, v6, v7, v8⟩ := u
       unfold Tlk.agg at HTb
       simp only at HTb HRb hkb Htk
       have hTb : N0 + (M + C) ≤ 2000000000 := by omega
       obtain ⟨T, hT⟩ : ∃ T, N0 + (M + C) = T := ⟨_, rfl⟩
       rw [hT] at hTb ⊢
       have HT := Lib.hid hT
       clear hT hcb hdb
       have hw : IntKind.i64.wrap ((T : Int) + 1) = (T : Int) + 1 := IntWalk.i64_in _ (by omega)
       have hX_l := hX.lt; have hX_0 := hX.cell 0; have hX_1 := hX.cell 1; have hX_2 := hX.cell 2; have hX_3 := hX.cell 3; have hX_4 := hX.cell 4; simp at hX_0 hX_1 hX_2 hX_3 hX_4
       go_wp2_with fail
       clear hX_l hX_0 hX_1 hX_2 hX_3 hX_4
       refine (HTa.out _ hb).mono ?_
       rintro e w6 ⟨rfl, hb6⟩
       go_upto_region 12 with (fail)
       have hE6 := (hE.below hb6).alloc (.cells #[.string t1, .slice t5 t2.length t6, .slice t7 t3.length t8, .int .i64 t4] 101)
       have hX6 := (hX.below hb6).alloc (.cells #[.string t1, .slice t5 t2.length t6, .slice t7 t3.length t8, .int .i64 t4] 101)
       have hA6 := Box.new w6 101 #[.string t1, .slice t5 t2.length t6, .slice t7 t3.length t8, .int .i64 t4]
       have hb7 := (below_next hb hb6).alloc (below_next hb hb6).size (.cells #[.string t1, .slice t5 t2.length t6, .slice t7 t3.length t8, .int .i64 t4] 101)
       clear hE hX hb hb6 HTa u0
       generalize w6.alloc (.cells #[.string t1, .slice t5 t2.length t6, .slice t7 t3.length t8, .int .i64 t4] 101) = w7 at *
       generalize w6.heap.size = n6 at *
       have hX6_l := hX6.lt; have hX6_0 := hX6.cell 0; have hX6_1 := hX6.cell 1; have hX6_2 := hX6.cell 2; have hX6_3 := hX6.cell 3; have hX6_4 := hX6.cell 4; simp at hX6_0 hX6_1 hX6_2 hX6_3 hX6_4
       go_wp2_with fail
       clear hX6_l hX6_0 hX6_1 hX6_2 hX6_3 hX6_4
       refine (HTb.out _ hb7).mono ?_
       rintro e w8 ⟨rfl, hb8⟩
       go_upto_region 13 with (fail)
       have hE8 := (hE6.below hb8).alloc (.cells #[.string v1, .slice v5 v2.length v6, .slice v7 v3.length v8, .int .i64 v4] 101)
       have hX8 := (hX6.below hb8).alloc (.cells #[.string v1, .slice v5 v2.length v6, .slice v7 v3.length v8, .int .i64 v4] 101)
       have hA8 := (hA6.below hb8).alloc (.cells #[.string v1, .slice v5 v2.length v6, .slice v7 v3.length v8, .int .i64 v4] 101)
       have hB8 := Box.new w8 101 #[.string v1, .slice v5 v2.length v6, .slice v7 v3.length v8, .int .i64 v4]
       have hb9 := (below_next hb7 hb8).alloc (below_next hb7 hb8).size (.cells #[.string v1, .slice v5 v2.length v6, .slice v7 v3.length v8, .int .i64 v4] 101)
       clear hE6 hX6 hA6 hb7 hb8 HTb
       generalize w8.alloc (.cells #[.string v1, .slice v5 v2.length v6, .slice v7 v3.length v8, .int .i64 v4] 101) = w9 at *
       generalize w8.heap.size = n8 at *
       have HSH := Lib.hid (shares_any t3 v3 t7 v7 t8 v8 w9 (HRa.out _ hb9) (HRb.out _ hb9) (by omega) (by omega))
       generalize sharesB t3 v3 = sb at *
       have hA8_l := hA8.lt; have hA8_0 := hA8.cell 0; have hA8_1 := hA8.cell 1; have hA8_2 := hA8.cell 2; have hA8_3 := hA8.cell 3; simp at hA8_0 hA8_1 hA8_2 hA8_3
       have hB8_l := hB8.lt; have hB8_0 := hB8.cell 0; have hB8_1 := hB8.cell 1; have hB8_2 := hB8.cell 2; have hB8_3 := hB8.cell 3; simp at hB8_0 hB8_1 hB8_2 hB8_3
       go_wp2_with fail
       clear hA8_l hA8_0 hA8_1 hA8_2 hA8_3
       clear hB8_l hB8_0 hB8_1 hB8_2 hB8_3
       refine HSH.out.mono ?_
       rintro e w10 ⟨rfl, hb10⟩
       have hE10 := hE8.below hb10
       have hX10 := hX8.below hb10
       have hb11 := below_next hb9 hb10
       clear hE8 hX8 hA8 hB8 hb9 hb10 HSH HRb
       cases sb
       ·
        have HN : Hid (N0 + (M + (ds.take (j + 1)).countP (strB g a)) = T + 1) := by
         show _ = _
         have h1 := Htk.out
         have h2 := HT.out
         rw [if_pos (by decide)] at h1
         omega
        clear HT Htk
        go_wp2_with fail
        rw [← Ha5.out]
        go_roundg (i - (j + 1))
        case measure => have := hgj.out; omega
        case rel => exact ⟨j + 1, by rw [HN.out]; go_num, by go_num, by omega, rfl, hE10, hX10, hb11⟩
       ·
        have HN : Hid (N0 + (M + (ds.take (j + 1)).countP (strB g a)) = T) := by
         show _ = _
         have h1 := Htk.out
         have h2 := HT.out
         rw [if_neg (by decide)] at h1
         omega
        clear HT Htk
        go_wp2_with fail
        rw [← Ha5.out]
        go_roundg (i - (j + 1))
        case measure => have := hgj.out; omega
        case rel => exact ⟨j + 1, by rw [HN.out], by go_num, by omega, rfl, hE10, hX10, hb11⟩
      ·
       obtain rfl : j = i := by omega
       rw [List.take_of_length_le (show ds.length ≤ j by have := Hdl.out; omega), ← Hms.out]
       go_wp2_with fail
       go_roundg (s3.length - (j + 1))
       case measure => have := hgi.out; omega
       case rel => exact ⟨j + 1, rfl, by go_num, by omega, rfl, hE, hX, hb⟩
    ·
     obtain rfl : i = s3.length := by omega
     go_wp2_with fail
     rw [← Ha.out]
     go_roundg (p.length - (k + 1))
     case measure => have := hgk.out; omega
     case rel => exact ⟨k + 1, by rw [Hsu.out], by go_num, by omega, rfl, hX, hb⟩
  ·
   obtain rfl : k = p.length := by omega
   rw [← HR.out]
   go_wp2_with fail
   go_ret
   exact ⟨rfl, hb⟩
/-- A session's slot and room, how many want to be there, how many too many. -/
abbrev Crd := ByteArray × ByteArray × Int × Int
instance instCelCrd : Cel Crd := ⟨4, fun t => [.string t.1, .string t.2.1, .int .i64 t.2.2.1, .int .i64 t.2.2.2], fun _ => rfl, by decide, by simp [Value.oneCell']⟩
theorem SA.crdC {w : World} {a : Option Addr} {l : List Crd} (h : SA w a l) {i : Nat} (hi : i < l.length) :
  ∃ b off, a = some ⟨b, off, none⟩ ∧ w.cell? ⟨b, off + i * 4, none⟩ = some (.string l[i].1) ∧ w.cell? ⟨b, off + i * 4 + 1, none⟩ = some (.string l[i].2.1) ∧ w.cell? ⟨b, off + i * 4 + 2, none⟩ = some (.int .i64 l[i].2.2.1) ∧ w.cell? ⟨b, off + i * 4 + 3, none⟩ = some (.int .i64 l[i].2.2.2) := by
 obtain ⟨b, off, ha, hc⟩ := h.at hi
 exact ⟨b, off, ha, hc 0 (by decide), hc 1 (by decide), hc 2 (by decide), hc 3 (by decide)⟩
theorem infoCrd : (Tryz.prog.info? 71).map (fun i => (i.zero, i.size, i.bytes)) = some (some (.agg #[.string ⟨#[]⟩, .string ⟨#[]⟩, .int .i64 0, .int .i64 0]), 4, 48) := by kernel_rfl
/-- How many of the first n wishes have a paper of a session. -/
def cntW (g : Grd) (n : Nat) (s : Ses) : Nat := (g.wishes.take n).countP (fun x => sharesB x.papers s.papers)
theorem cntW_succ {g : Grd} {n : Nat} (s : Ses) (h : n < g.wishes.length) : cntW g (n + 1) s = cntW g n s + if sharesB g.wishes[n].papers s.papers = true then 1 else 0 := by
 unfold cntW
 rw [List.take_succ_eq_append_getElem h, List.countP_append, List.countP_cons, List.countP_nil, Nat.zero_add]
theorem cntW_bd (g : Grd) (n : Nat) (s : Ses) : cntW g n s ≤ g.wishes.length := by
 unfold cntW
 have h := List.countP_le_length (p := fun x : Wsh => sharesB x.papers s.papers) (l := g.wishes.take n)
 rw [List.length_take] at h
 omega
def roomOr (g : Grd) (k : ByteArray) : Rom := (roomOf g k).getD (⟨#[]⟩, 0)
def crdOf (g : Grd) (s : Ses) : Crd := (s.slot, s.room, (cntW g g.wishes.length s : Nat), max ((cntW g g.wishes.length s : Nat) - (roomOr g s.room).2) 0)
def crowdTo (g : Grd) (p : List Ses) (k : Nat) : List Crd := (p.take k).map (crdOf g)
def crowdL (g : Grd) (p : List Ses) : List Crd := crowdTo g p p.length
theorem crowdTo_succ {g : Grd} {p : List Ses} {k : Nat} (h : k < p.length) : crowdTo g p (k + 1) = crowdTo g p k ++ [crdOf g p[k]] := by
 unfold crowdTo
 rw [List.take_succ_eq_append_getElem h, List.map_append]; rfl
theorem crowdTo_len (g : Grd) (p : List Ses) (k : Nat) : (crowdTo g p k).length ≤ p.length := by
 unfold crowdTo
 rw [List.length_map, List.length_take]; omega
theorem roomOr_ok {g : Grd} (h : ∀ x ∈ g.rooms, RomOk x) (k : ByteArray) : -100000 ≤ (roomOr g k).2 ∧ (roomOr g k).2 ≤ 100000 := by
 unfold roomOr
 cases e : roomOf g k with
 | none => decide
 | some t => exact (h t (List.mem_of_find?_eq_some e)).2
set_option maxRecDepth 100000 in
set_option maxHeartbeats 8000000 in
theorem crowdsOf_any (g : Grd) (p : List Ses) (pa : Option Addr) (pc : Nat) (w : World) (hg : GRd w g) (hz : GSm g) (hr : ∀ x ∈ g.rooms, RomOk x) (hp : PRg w pa p) (hpl : p.length ≤ 1000) (hpo : ∀ s ∈ p, SesOk s) :
  Calls Tryz.prog 31 #[g.agg, .slice pa p.length pc] w (GivesOwn 71 (crowdL g p) w) := by
 have HRM := Lib.hid (fun key W (h : Below w.heap.size w W) => roomOf_any g key W (hg.below h) (by have := hz.rooms; omega))
 have HG := Lib.hid (fun W (h : Below w.heap.size w W) => hg.below h)
 have HP := Lib.hid (fun W (h : Below w.heap.size w W) => hp.below h)
 have HPO := Lib.hid (fun s hs => (hpo s hs).2.2.1)
 have HRO := Lib.hid (fun k => roomOr_ok hr k)
 have HWO := Lib.hid (fun x hx => (hz.wish x hx).2.1)
 have HR : Hid (crowdL g p = crowdTo g p p.length) := rfl
 have HL := Lib.hid (crowdTo_len g p)
 have HCB := Lib.hid (cntW_bd g)
 have hwn := hz.wishes
 generalize crowdL g p = R at *
 clear hg hz hr hp hpo
 rw [Grd.agg_eq] at HRM ⊢
 have hX := Box.new w 32 #[.slice g.ra g.rooms.length g.rc, .slice g.sa g.slots.length g.sc, .slice g.ta g.talks.length g.tc, .slice g.wa g.wishes.length g.wc, .slice g.ba g.bans.length g.bc]
 have hb0 : Below w.heap.size w (w.alloc (.cells #[.slice g.ra g.rooms.length g.rc, .slice g.sa g.slots.length g.sc, .slice g.ta g.talks.length g.tc, .slice g.wa g.wishes.length g.wc, .slice g.ba g.bans.length g.bc] 32)) := (Below.refl _ _).alloc (Nat.le_refl _) _
 have hz0 : (w.alloc (.cells #[.slice g.ra g.rooms.length g.rc, .slice g.sa g.slots.length g.sc, .slice g.ta g.talks.length g.tc, .slice g.wa g.wishes.length g.wc, .slice g.ba g.bans.length g.bc] 32)).heap.size = w.heap.size + 1 := by simp
 go_enter Tryz.func31, Tryz.ntmps31
 go_upto_region 1 with (fail)
 have hz1 : w.heap.size + 1 ≤ (w.alloc (.cells #[.slice g.ra g.rooms.length g.rc, .slice g.sa g.slots.length g.sc, .slice g.ta g.talks.length g.tc, .slice g.wa g.wishes.length g.wc, .slice g.ba g.bans.length g.bc] 32)).heap.size := by omega
 generalize w.alloc (.cells #[.slice g.ra g.rooms.length g.rc, .slice g.sa g.slots.length g.sc, .slice g.ta g.talks.length g.tc, .slice g.wa g.wishes.length g.wc, .slice g.ba g.bans.length g.bc] 32) = w1 at *
 go_wp2_with fail
 go_loopg [5, 15] p.length (fun gk v' iv wr => ∃ (k : Nat) (v : Value), v = v' ∧ iv = .int .i64 k ∧ k ≤ p.length ∧ Hid (gk = p.length - k) ∧ Own (w.heap.size + 1) 71 wr v (crowdTo g p k) ∧ Box wr w.heap.size 32 #[.slice g.ra g.rooms.length g.rc, .slice g.sa g.slots.length g.sc, .slice g.ta g.talks.length g.tc, .slice g.wa g.wishes.length g.wc, .slice g.ba g.bans.length g.bc] ∧ w.heap.size + 1 ≤ wr.heap.size ∧ Below w.heap.size w wr)
 case atStart => exact ⟨0, _, rfl, rfl, by omega, rfl, Own.nil _ _ _, hX, hz1, hb0⟩
 case round =>
  clear hX hb0 hz0 hz1
  obtain ⟨k, v, rfl, rfl, hk, hgk, hown, hX, hzr, hb⟩ := hrel
  by_cases hlt : k < p.length
  ·
   obtain ⟨b, off, ha, c0, c1, c2⟩ := (HP.out _ hb).list.sesC hlt
   have hxm : p[k] ∈ p := List.getElem_mem hlt
   have HXP := Lib.hid (fun W (h : Below w.heap.size w W) => (HP.out W h).papers _ hxm)
   have hxl := HPO.out _ hxm
   have Hsu := Lib.hid (crowdTo_succ (g := g) hlt)
   have hll := HL.out k
   have HCS := Lib.hid (fun n (h : n < g.wishes.length) => cntW_succ p[k] h)
   have HCX := Lib.hid (fun n => HCB.out n p[k])
   have HC0 : Hid (cntW g 0 p[k] = 0) := rfl
   have HRX := Lib.hid (fun W (h : Below w.heap.size w W) => HRM.out p[k].room W h)
   have hro := HRO.out p[k].room
   unfold crdOf at Hsu
   have Ha := Lib.hid ha
   generalize crowdTo g p k = acc at *
   generalize cntW g = cw at *
   generalize p[k] = x at *
   obtain ⟨s1, s2, s3, s4, s5⟩ := x
   simp only at c0 c1 c2 HXP hxl Hsu HCS HRX hro
   unfold roomV at HRX
   have HRQ : Hid ((roomOf g s2).getD (⟨#[]⟩, 0) = roomOr g s2) := rfl
   rw [HRQ.out] at HRX
   generalize roomOr g s2 = rr at *
   obtain ⟨r1, r2⟩ := rr
   unfold romV at HRX
   simp only at HRX hro Hsu
   rw [ha]
   clear ha hxm HRQ
   go_upto_region 6 with (fail)
   have hE1 := (Box.new wr 91 #[.string s1, .string s2, .slice s4 s3.length s5]).alloc (.cells #[.string s1, .string s2, .int .i64 0, .int .i64 0] 71)
   have hC1 := Box.newAt (wr.alloc (.cells #[.string s1, .string s2, .slice s4 s3.length s5] 91)) (wr.heap.size + 1) 71 #[.string s1, .string s2, .int .i64 0, .int .i64 0] (by simp)
   have hb1 := (hb.alloc hb.size (.cells #[.string s1, .string s2, .slice s4 s3.length s5] 91)).alloc (by simp; have := hb.size; omega) (.cells #[.string s1, .string s2, .int .i64 0, .int .i64 0] 71)
   have hX1 := (hX.alloc (.cells #[.string s1, .string s2, .slice s4 s3.length s5] 91)).alloc (.cells #[.string s1, .string s2, .int .i64 0, .int .i64 0] 71)
   have hown1 := (hown.alloc (.cells #[.string s1, .string s2, .slice s4 s3.length s5] 91)).alloc (.cells #[.string s1, .string s2, .int .i64 0, .int .i64 0] 71)
   have hvE : v.ownBlock ≠ some wr.heap.size := fun e => by have := (hown.lt _ e).2; omega
   have hvC : v.ownBlock ≠ some (wr.heap.size + 1) := fun e => by have := (hown.lt _ e).2; omega
   have hz2 : w.heap.size + 1 ≤ wr.heap.size := hzr
   clear hb hown hX c0 c1 c2 hzr
   generalize (wr.alloc (.cells #[.string s1, .string s2, .slice s4 s3.length s5] 91)).alloc (.cells #[.string s1, .string s2, .int .i64 0, .int .i64 0] 71) = w2 at *
   generalize wr.heap.size = n2 at *
   have hX1_l := hX1.lt; have hX1_0 := hX1.cell 0; have hX1_1 := hX1.cell 1; have hX1_2 := hX1.cell 2; have hX1_3 := hX1.cell 3; have hX1_4 := hX1.cell 4; simp at hX1_0 hX1_1 hX1_2 hX1_3 hX1_4
   go_wp2_with fail
   clear hX1_l hX1_0 hX1_1 hX1_2 hX1_3 hX1_4
   go_loopg [27] g.wishes.length (fun gj jv wq => ∃ n : Nat, jv = .int .i64 n ∧ n ≤ g.wishes.length ∧ Hid (gj = g.wishes.length - n) ∧ Box wq (n2 + 1) 71 #[.string s1, .string s2, .int .i64 (cw n ⟨s1, s2, s3, s4, s5⟩ : Nat), .int .i64 0] ∧ Box wq n2 91 #[.string s1, .string s2, .slice s4 s3.length s5] ∧ Own (w.heap.size + 1) 71 wq v acc ∧ Box wq w.heap.size 32 #[.slice g.ra g.rooms.length g.rc, .slice g.sa g.slots.length g.sc, .slice g.ta g.talks.length g.tc, .slice g.wa g.wishes.length g.wc, .slice g.ba g.bans.length g.bc] ∧ Below w.heap.size w wq)
   case atStart => exact ⟨0, rfl, by omega, rfl, by rw [HC0.out]; exact hC1, hE1, hown1, hX1, hb1⟩
   case round =>
    clear hC1 hE1 hown1 hX1 hb1
    obtain ⟨n, rfl, hn, hgn, hC, hE, hown, hX, hb⟩ := hrel
    by_cases hnl : n < g.wishes.length
    ·
     obtain ⟨ub, uoff, hu, u0, u1⟩ := (HG.out _ hb).wishes.wshC hnl
     have hum : g.wishes[n] ∈ g.wishes := List.getElem_mem hnl
     have HWP := Lib.hid (fun W (h : Below w.heap.size w W) => (HG.out W h).papers _ hum)
     have huw := HWO.out _ hum
     have Hcs := Lib.hid (HCS.out n hnl)
     have hcb := HCX.out n
     have Hu := Lib.hid hu
     generalize cw n ⟨s1, s2, s3, s4, s5⟩ = C at *
     generalize g.wishes[n] = u at *
     obtain ⟨v1, v2, v3, v4⟩ := u
     simp only at u0 u1 HWP huw Hcs
     rw [hu]
     clear hu hum
     go_upto_region 9 with (fail)
     have hU := Box.new wr 103 #[.string v1, .slice v3 v2.length v4]
     have hC2 := hC.alloc (.cells #[.string v1, .slice v3 v2.length v4] 103)
     have hE2 := hE.alloc (.cells #[.string v1, .slice v3 v2.length v4] 103)
     have hX2 := hX.alloc (.cells #[.string v1, .slice v3 v2.length v4] 103)
     have hown2 := hown.alloc (.cells #[.string v1, .slice v3 v2.length v4] 103)
     have hb2 := hb.alloc hb.size (.cells #[.string v1, .slice v3 v2.length v4] 103)
     clear hC hE hX hown hb u0 u1
     generalize wr.alloc (.cells #[.string v1, .slice v3 v2.length v4] 103) = w4 at *
     generalize wr.heap.size = n4 at *
     have HSH := Lib.hid (shares_any v2 s3 v3 s4 v4 s5 w4 (HWP.out _ hb2) (HXP.out _ hb2) (by omega) (by omega))
     generalize sharesB v2 s3 = sb at *
     have hU_l := hU.lt; have hU_0 := hU.cell 0; have hU_1 := hU.cell 1; simp at hU_0 hU_1
     have hE2_l := hE2.lt; have hE2_0 := hE2.cell 0; have hE2_1 := hE2.cell 1; have hE2_2 := hE2.cell 2; simp at hE2_0 hE2_1 hE2_2
     go_wp2_with fail
     clear hU_l hU_0 hU_1
     clear hE2_l hE2_0 hE2_1 hE2_2
     refine HSH.out.mono ?_
     rintro e w5 ⟨rfl, hb5⟩
     have hC5 := hC2.below hb5
     have hE5 := hE2.below hb5
     have hX5 := hX2.below hb5
     have hown5 := hown2.below hb5
     have hb6 := below_next hb2 hb5
     clear hU hC2 hE2 hX2 hown2 hb2 hb5 HSH
     cases sb
     ·
      go_wp2_with fail
      rw [← Hu.out]
      go_roundg (g.wishes.length - (n + 1))
      case measure => have := hgn.out; omega
      case rel => exact ⟨n + 1, by go_num, by omega, rfl, by rw [Hcs.out]; exact hC5, hE5, hown5, hX5, hb6⟩
     ·
      have hw : IntKind.i64.wrap ((C : Int) + 1) = (C : Int) + 1 := IntWalk.i64_in _ (by omega)
      have hC6 := hC5.set 2 (.int .i64 ((C : Int) + 1))
      have hE6 := hE5.setOther (p := ⟨n2 + 1, 2, none⟩) (by show n2 + 1 ≠ n2; omega) (.int .i64 ((C : Int) + 1))
      have hX6 := hX5.setOther (p := ⟨n2 + 1, 2, none⟩) (by show n2 + 1 ≠ w.heap.size; omega) (.int .i64 ((C : Int) + 1))
      have hown6 := hown5.setOther (p := ⟨n2 + 1, 2, none⟩) (fun b hb9 e => hvC (by rw [hb9, e])) (.int .i64 ((C : Int) + 1))
      have hb7 := hb6.setCell (p := ⟨n2 + 1, 2, none⟩) (by show w.heap.size ≤ n2 + 1; omega) (.int .i64 ((C : Int) + 1))
      have hfr := hC5.frozen 2
      have HC6 : Hid (Box (w5.setCell ⟨n2 + 1, 2, none⟩ (.int .i64 ((C : Int) + 1))) (n2 + 1) 71 #[.string s1, .string s2, .int .i64 (cw (n + 1) ⟨s1, s2, s3, s4, s5⟩ : Nat), .int .i64 0]) := by
       show Box _ _ _ _
       rw [Hcs.out, if_pos rfl]
       simpa using hC6
      clear hE5 hX5 hown5 hb6 hC6
      have hC5_l := hC5.lt; have hC5_0 := hC5.cell 0; have hC5_1 := hC5.cell 1; have hC5_2 := hC5.cell 2; have hC5_3 := hC5.cell 3; simp at hC5_0 hC5_1 hC5_2 hC5_3
      go_wp2_with fail
      rw [← Hu.out]
      go_roundg (g.wishes.length - (n + 1))
      case measure => have := hgn.out; omega
      case rel => exact ⟨n + 1, by go_num, by omega, rfl, HC6.out, hE6, hown6, hX6, hb7⟩
    ·
     obtain rfl : n = g.wishes.length := by omega
     have hcb := HCX.out g.wishes.length
     generalize cw g.wishes.length ⟨s1, s2, s3, s4, s5⟩ = C at *
     have hX_l := hX.lt; have hX_0 := hX.cell 0; have hX_1 := hX.cell 1; have hX_2 := hX.cell 2; have hX_3 := hX.cell 3; have hX_4 := hX.cell 4; simp at hX_0 hX_1 hX_2 hX_3 hX_4
     have hE_l := hE.lt; have hE_0 := hE.cell 0; have hE_1 := hE.cell 1; have hE_2 := hE.cell 2; simp at hE_0 hE_1 hE_2
     go_wp2_with fail
     clear hX_l hX_0 hX_1 hX_2 hX_3 hX_4
     clear hE_l hE_0 hE_1 hE_2
     refine (HRX.out _ hb).mono ?_
     rintro e w5 ⟨rfl, hb5⟩
     go_upto_region 13 with (fail)
     have hC5 := (hC.below hb5).alloc (.cells #[.string r1, .int .i64 r2] 98)
     have hX5 := (hX.below hb5).alloc (.cells #[.string r1, .int .i64 r2] 98)
     have hown5 := (hown.below hb5).alloc (.cells #[.string r1, .int .i64 r2] 98)
     have hb6 := (below_next hb hb5).alloc (below_next hb hb5).size (.cells #[.string r1, .int .i64 r2] 98)
     have hRo := Box.new w5 98 #[.string r1, .int .i64 r2]
     clear hC hE hX hown hb hb5
     generalize w5.alloc (.cells #[.string r1, .int .i64 r2] 98) = w6 at *
     generalize w5.heap.size = n6 at *
     have hw : IntKind.i64.wrap ((C : Int) - r2) = (C : Int) - r2 := IntWalk.i64_in _ (by omega)
     obtain ⟨ov, hov⟩ : ∃ ov, max ((C : Int) - r2) 0 = ov := ⟨_, rfl⟩
     rw [hov] at Hsu
     have hC7 := hC5.set 3 (.int .i64 ov)
     have hX7 := hX5.setOther (p := ⟨n2 + 1, 3, none⟩) (by show n2 + 1 ≠ w.heap.size; omega) (.int .i64 ov)
     have hown7 := hown5.setOther (p := ⟨n2 + 1, 3, none⟩) (fun b hb9 e => hvC (by rw [hb9, e])) (.int .i64 ov)
     have hb7 := hb6.setCell (p := ⟨n2 + 1, 3, none⟩) (by show w.heap.size ≤ n2 + 1; omega) (.int .i64 ov)
     have hfr := hC5.frozen 3
     have hC8 : Box (w6.setCell ⟨n2 + 1, 3, none⟩ (.int .i64 ov)) (n2 + 1) 71 #[.string s1, .string s2, .int .i64 C, .int .i64 ov] := by simpa using hC7
     clear hX5 hown5 hb6 hC7
     have hC5_l := hC5.lt; have hC5_0 := hC5.cell 0; have hC5_1 := hC5.cell 1; have hC5_2 := hC5.cell 2; have hC5_3 := hC5.cell 3; simp at hC5_0 hC5_1 hC5_2 hC5_3
     have hRo_l := hRo.lt; have hRo_0 := hRo.cell 0; have hRo_1 := hRo.cell 1; simp at hRo_0 hRo_1
     go_upto_region 14 with (fail)
     clear hC5_l hC5_0 hC5_1 hC5_2 hC5_3
     clear hRo_l hRo_0 hRo_1
     clear hC5 hRo hfr hw hov
     generalize w6.setCell ⟨n2 + 1, 3, none⟩ (.int .i64 ov) = w8 at *
     have hown9 := hown7.alloc (.cells #[.string s1, .string s2, .int .i64 C, .int .i64 ov] 71)
     have hbo := Box.new w8 71 #[.string s1, .string s2, .int .i64 C, .int .i64 ov]
     have hb9 := hb7.alloc hb7.size (.cells #[.string s1, .string s2, .int .i64 C, .int .i64 ov] 71)
     have hX9 := hX7.alloc (.cells #[.string s1, .string s2, .int .i64 C, .int .i64 ov] 71)
     have hol := hown9.lt
     have hbz := hb7.size
     have hXl := hX7.lt
     have hC8_l := hC8.lt; have hC8_0 := hC8.cell 0; have hC8_1 := hC8.cell 1; have hC8_2 := hC8.cell 2; have hC8_3 := hC8.cell 3; simp at hC8_0 hC8_1 hC8_2 hC8_3
     go_wp2_with (at_builtin; refine wpList_append_lie (α := Crd) rfl _ _ 61 rfl 71 48 (.agg #[.string ⟨#[]⟩, .string ⟨#[]⟩, .int .i64 0, .int .i64 0]) Tryz.underlying61 infoCrd rfl _ acc rfl hown9 (s1, s2, (C : Int), ov) _ rfl hbo (by omega) (by omega) (by simp; omega) ?_; intro g9 cap9 wA hownA hgA hatA)
     have hzA := ((Kp.refl (fun j => v.ownBlock = some j) _).grown hgA (fun j hj => .inl hj)).size
     have hbA := hb9.grown hgA (by have := hb9.size; omega) (fun j hj => by have := (hol j hj).1; omega)
     have hXA := hX9.grown hgA (fun e => by have := (hol _ e.symm).1; omega)
     have hzB : w.heap.size + 1 ≤ wA.heap.size := by simp at hzA; omega
     rw [← Hsu.out] at hownA
     rw [← Ha.out]
     (try go_wp2_with fail)
     go_roundg (p.length - (k + 1))
     case measure => have := hgk.out; omega
     case rel => exact ⟨k + 1, _, rfl, by go_num, by omega, rfl, hownA, hXA, hzB, hbA⟩
  ·
   obtain rfl : k = p.length := by omega
   rw [← HR.out] at hown
   go_wp2_with fail
   go_ret
   exact ⟨_, rfl, hown.mono (by omega), hb⟩
theorem iput_g (l : List (Int × Value)) (k : Int) (v : Value) : iput l k v = gput l k v := by
 induction l with
 | nil => rfl
 | cons q r ih => unfold iput gput; rw [ih]
/-- The sessions that have a paper of a list. -/
def ownTo (p : List Ses) (l : List ByteArray) : Nat → List (Int × Value)
 | 0 => []
 | n + 1 => match l[n]? with
  | none => ownTo p l n
  | some x => if inP p x = true then iput (ownTo p l n) (placeI p x) (.bool true) else ownTo p l n
theorem ownTo_succ {p : List Ses} {l : List ByteArray} {n : Nat} (h : n < l.length) : ownTo p l (n + 1) = if inP p l[n] = true then iput (ownTo p l n) (placeI p l[n]) (.bool true) else ownTo p l n := by
 show (match l[n]? with | none => ownTo p l n | some x => if inP p x = true then iput (ownTo p l n) (placeI p x) (.bool true) else ownTo p l n) = _
 rw [List.getElem?_eq_getElem h]
theorem ownTo_nd (p : List Ses) (l : List ByteArray) : ∀ n, n ≤ l.length → ((ownTo p l n).map (·.1)).Nodup
 | 0, _ => by show ([] : List Int).Nodup; simp
 | n + 1, h => by
  rw [ownTo_succ (by omega : n < l.length)]
  split
  ·
   rw [iput_g]; exact gput_nodup (ownTo_nd p l n (by omega)) _ _
  ·
   exact ownTo_nd p l n (by omega)
theorem ownTo_mem (p : List Ses) (l : List ByteArray) (k : Int) : ∀ n, n ≤ l.length → (k ∈ (ownTo p l n).map (·.1) ↔ ∃ x ∈ l.take n, inP p x = true ∧ placeI p x = k)
 | 0, _ => by rw [List.take_zero]; show k ∈ ([] : List Int) ↔ _; simp
 | n + 1, h => by
  have ih := ownTo_mem p l k n (by omega)
  rw [ownTo_succ (by omega : n < l.length), List.take_succ_eq_append_getElem (by omega : n < l.length)]
  by_cases hx : inP p (l[n]'(by omega)) = true
  ·
   rw [if_pos hx, iput_g, gput_keys]
   have key : k ∈ (ownTo p l n).map (·.1) ++ [placeI p (l[n]'(by omega))] ↔ ∃ x ∈ l.take n ++ [l[n]'(by omega)], inP p x = true ∧ placeI p x = k := by
    rw [List.mem_append, List.mem_singleton, ih]
    constructor
    ·
     rintro (⟨x, h1, h2⟩ | rfl)
     ·
      exact ⟨x, List.mem_append_left _ h1, h2⟩
     ·
      exact ⟨_, List.mem_append_right _ (List.mem_singleton.2 rfl), hx, rfl⟩
    ·
     rintro ⟨x, h1, h2⟩
     rcases List.mem_append.1 h1 with h1 | h1
     ·
      exact .inl ⟨x, h1, h2⟩
     ·
      rw [List.mem_singleton.1 h1] at h2; exact .inr h2.2.symm
   split
   ·
    next hin =>
    rw [← key, List.mem_append, List.mem_singleton]
    exact ⟨.inl, fun h => h.elim id (fun e => by rw [e]; exact hin)⟩
   ·
    exact key
  ·
   rw [if_neg hx, ih]
   constructor
   ·
    rintro ⟨x, h1, h2⟩; exact ⟨x, List.mem_append_left _ h1, h2⟩
   ·
    rintro ⟨x, h1, h2⟩
    rcases List.mem_append.1 h1 with h1 | h1
    ·
     exact ⟨x, h1, h2⟩
    ·
     rw [List.mem_singleton.1 h1] at h2; exact absurd h2.1 hx
theorem inP_at {p : List Ses} {x : ByteArray} (h : inP p x = true) : ∃ i, ∃ hi : i < p.length, inB p[i].papers x = true := by
 obtain ⟨s, hs, h1⟩ := List.any_eq_true.1 h
 obtain ⟨i, hi, rfl⟩ := List.mem_iff_getElem.1 hs
 exact ⟨i, hi, h1⟩
theorem at_inP {p : List Ses} {x : ByteArray} {i : Nat} (hi : i < p.length) (h : inB p[i].papers x = true) : inP p x = true := List.any_eq_true.2 ⟨p[i], List.getElem_mem hi, h⟩
theorem sesAt_place {g : Grd} {p : List Ses} (h : firstErr (sesE g p) p.length = 0) {x : ByteArray} (hx : inP p x = true) : sesAtV p x = .int .i64 (placeI p x) := by
 obtain ⟨v, hv⟩ := Option.isSome_iff_exists.1 ((sesM_has p x).trans hx)
 obtain ⟨i, hi, rfl, h1⟩ := sesM_some hv
 unfold sesAtV
 rw [hv, placeI_at h hi h1]; rfl
theorem own_in {g : Grd} {p : List Ses} (h : firstErr (sesE g p) p.length = 0) {l : List ByteArray} {k : Int} (hk : k ∈ (ownTo p l l.length).map (·.1)) : ∃ i, ∃ hi : i < p.length, k = (i : Nat) ∧ sharesB l p[i].papers = true := by
 rw [ownTo_mem p l k l.length (Nat.le_refl _), List.take_length] at hk
 obtain ⟨x, hx, h1, rfl⟩ := hk
 obtain ⟨i, hi, h2⟩ := inP_at h1
 exact ⟨i, hi, placeI_at h hi h2, List.any_eq_true.2 ⟨x, hx, h2⟩⟩
theorem own_has {g : Grd} {p : List Ses} (h : firstErr (sesE g p) p.length = 0) {l : List ByteArray} {i : Nat} (hi : i < p.length) : ((i : Nat) : Int) ∈ (ownTo p l l.length).map (·.1) ↔ sharesB l p[i].papers = true := by
 constructor
 ·
  intro hk
  obtain ⟨j, hj, h1, h2⟩ := own_in h hk
  obtain rfl : i = j := by omega
  exact h2
 ·
  intro hs
  obtain ⟨x, hx, h2⟩ := List.any_eq_true.1 hs
  rw [ownTo_mem p l _ l.length (Nat.le_refl _), List.take_length]
  exact ⟨x, hx, at_inP hi h2, placeI_at h hi h2⟩
/-- How many of the first n wishes want the i-th session. -/
def pcnt (g : Grd) (p : List Ses) (n i : Nat) : Nat := ((p[i]?).map (cntW g n)).getD 0
theorem pcnt_at {g : Grd} {p : List Ses} {n i : Nat} (hi : i < p.length) : pcnt g p n i = cntW g n p[i] := by unfold pcnt; rw [List.getElem?_eq_getElem hi]; rfl
theorem pcnt_succ {g : Grd} {p : List Ses} (h : firstErr (sesE g p) p.length = 0) {n i : Nat} (hn : n < g.wishes.length) (hi : i < p.length) : pcnt g p (n + 1) i = pcnt g p n i + if ((i : Nat) : Int) ∈ (ownTo p g.wishes[n].papers g.wishes[n].papers.length).map (·.1) then 1 else 0 := by
 rw [pcnt_at hi, pcnt_at hi, cntW_succ _ hn]
 congr 1
 by_cases hs : sharesB g.wishes[n].papers p[i].papers = true
 ·
  rw [if_pos hs, if_pos ((own_has h hi).2 hs)]
 ·
  rw [if_neg hs, if_neg (fun e => hs ((own_has h hi).1 e))]
theorem rooms_nd {l : List Rom} (h : roomsFault l = 0) : (l.map (·.1)).Nodup := by
 refine rise_nd fun k hk => ?_
 rw [List.length_map] at hk
 unfold roomsFault at h
 split at h
 ·
  exact absurd h (by decide)
 have h2 := firstErr_all h k hk
 unfold roomE at h2
 rw [List.getElem?_eq_getElem hk] at h2
 simp only at h2
 split at h2
 ·
  exact absurd h2 (by decide)
 split at h2
 ·
  exact absurd h2 (by decide)
 ·
  next h3 => simpa using h3
theorem form_room {g : Grd} {p : List Ses} (h : firstErr (sesE g p) p.length = 0) : ∀ s ∈ p, (roomOf g s.room).isSome = true := by
 intro s hs
 obtain ⟨k, hk, rfl⟩ := List.mem_iff_getElem.1 hs
 have h1 := firstErr_all h k hk
 rw [sesE_at hk] at h1
 by_cases c1 : (!(slotOf g p[k].slot).isSome || !(roomOf g p[k].room).isSome) = true
 ·
  rw [if_pos c1] at h1; exact absurd h1 (by decide)
 ·
  cases e : (roomOf g p[k].room).isSome
  ·
   rw [e] at c1; simp at c1
  ·
   rfl
theorem lookRi {g : Grd} (hn : (g.rooms.map (·.1)).Nodup) {x : ByteArray} (hx : (roomOf g x).isSome = true) : ∃ i, ∃ hi : i < g.rooms.length, g.rooms[i] = roomOr g x ∧ ∀ b w, MBox w b (idxL (g.rooms.map (·.1))) → (Instr.lookup 158 (.map (some b)) (.string x) false).run Tryz.prog w = .ok (.int .i64 (i : Nat)) w := by
 obtain ⟨v, hv⟩ : ∃ v, mget (idxL (g.rooms.map (·.1))) x = some v := by
  apply Option.isSome_iff_exists.1
  unfold roomOf at hx
  rw [find_any] at hx
  rw [idxL_has]; exact hx
 obtain ⟨i, hi, rfl, hki⟩ := idxL_some hv
 have hi' : i < g.rooms.length := by simpa using hi
 refine ⟨i, hi', ?_, fun b w h => ?_⟩
 ·
  have h := idx_find hn hi' (by simpa using hki)
  unfold roomOr roomOf
  rw [h]; rfl
 ·
  rw [MBox.look h Tryz.underlying158 Tryz.underlying9 _ Tryz.zeroValue3 x false]
  unfold looked
  rw [if_neg (by decide), hv]; rfl
/-- People in a slice of their own. -/
def Peo (nP n : Nat) (w : World) (PL : List Int) : Prop := Own nP 3 w (.slice (some ⟨nP, 0, none⟩) n n) PL ∧ PL.length = n
theorem Peo.cell {nP n : Nat} {w : World} {PL : List Int} (h : Peo nP n w PL) {i : Nat} (hi : i < n) : w.cell? ⟨nP, i, none⟩ = some (.int .i64 (PL.getD i 0)) := by
 obtain ⟨a, c, he, hs, -⟩ := h.1.sa
 simp only [Value.slice.injEq] at he
 obtain ⟨b, off, h1, h2⟩ := hs.intT (i := i) (by rw [h.2]; exact hi)
 rw [← he.1] at h1
 cases h1
 rw [Nat.zero_add] at h2
 rw [h2, List.getD_eq_getElem?_getD, List.getElem?_eq_getElem (by rw [h.2]; exact hi)]; rfl
theorem Peo.put {nP n : Nat} {w : World} {PL : List Int} (h : Peo nP n w PL) {i : Nat} (hi : i < n) (z : Int) : Peo nP n (w.setCell ⟨nP, i, none⟩ (.int .i64 z)) (PL.set i z) := by
 have h1 := h.1.put i 0 z (.int .i64 z) (by rw [h.2]; exact hi) (by decide) rfl
 rw [show i * Cel.k Int + 0 = i from by show i * 1 + 0 = i; omega] at h1
 exact ⟨h1, by rw [List.length_set]; exact h.2⟩
theorem Peo.alloc {nP n : Nat} {w : World} {PL : List Int} (h : Peo nP n w PL) (o : Obj) : Peo nP n (w.alloc o) PL := ⟨h.1.alloc o, h.2⟩
theorem Peo.below {nP n : Nat} {w w' : World} {PL : List Int} (h : Peo nP n w PL) (hb : Below w.heap.size w w') : Peo nP n w' PL := ⟨h.1.below hb, h.2⟩
theorem Peo.drew {nP n : Nat} {w : World} {PL : List Int} (h : Peo nP n w PL) : Peo nP n w.drew PL := ⟨h.1.drew, h.2⟩
theorem Peo.lt {nP n : Nat} {w : World} {PL : List Int} (h : Peo nP n w PL) : nP < w.heap.size := (h.1.lt nP rfl).2
theorem Peo.grown {nP n : Nat} {w w' : World} {PL : List Int} {row : Option Nat} (h : Peo nP n w PL) (hg : w.grownBy w' row) (hne : some nP ≠ row) : Peo nP n w' PL := ⟨h.1.same (fun b hb => by obtain rfl := Option.some.inj hb; exact hg.block _ h.lt hne), h.2⟩
theorem Peo.frozen {nP n : Nat} {w : World} {PL : List Int} (h : Peo nP n w PL) (i : Nat) : w.frozen? ⟨nP, i, none⟩ = false := by
 obtain ⟨cr, hb⟩ := h.1.box
 exact hb.frozen i
theorem room_cell {w : World} {a : Option Addr} {l : List Rom} {ri rb roff : Nat} {x : ByteArray} {z : Int} (h : SA w a l) (hri : ri < l.length) (ha : a = some ⟨rb, roff, none⟩) (hx : l[ri] = (x, z)) : w.cell? ⟨rb, roff + ri * 2 + 1, none⟩ = some (.int .i64 z) := by
 obtain ⟨b, o, h9, -, h1⟩ := h.romC hri
 rw [ha] at h9
 cases h9
 rw [h1, hx]
set_option maxRecDepth 100000 in
set_option maxHeartbeats 16000000 in
theorem crowdP_any (g : Grd) (fb br bs bt bb : Nat) (p : List Ses) (pa : Option Addr) (pc : Nat) (w : World) (hF : FieldAt g fb br bs bt bb w) (hg : GRd w g) (hz : GSm g) (hr : ∀ x ∈ g.rooms, RomOk x) (hp : PRg w pa p) (hpl : p.length ≤ 1000) (hpo : ∀ s ∈ p, SesOk s) (hrn : (g.rooms.map (·.1)).Nodup) (hfm : firstErr (sesE g p) p.length = 0) :
  Calls Tryz.prog 82 #[.pointer (some ⟨fb, 0, none⟩), .slice pa p.length pc] w (GivesOwn 71 (crowdL g p) w) := by
 have HSO := Lib.hid (sessionOf_any p pa pc w hp (by omega) (fun s hs => (hpo s hs).2.2.1))
 have HF := Lib.hid (fun W (h : Below w.heap.size w W) => hF.below h)
 have HG := Lib.hid (fun W (h : Below w.heap.size w W) => hg.below h)
 have HP := Lib.hid (fun W (h : Below w.heap.size w W) => hp.below h)
 have HWO := Lib.hid (fun x hx => (hz.wish x hx).2.1)
 have HRI := Lib.hid (fun s (hs : s ∈ p) => lookRi hrn (form_room hfm s hs))
 have HRO := Lib.hid (fun k => roomOr_ok hr k)
 have HPS := Lib.hid (fun n i hn hi => pcnt_succ (n := n) (i := i) hfm hn hi)
 have HPB : Hid (∀ n i, pcnt g p n i ≤ 1000) := fun n i => by
  unfold pcnt
  cases p[i]? with
  | none => simp
  | some s => have h1 := cntW_bd g n s; have h2 := hz.wishes; simp; omega
 have HP0 : Hid (∀ i, pcnt g p 0 i = 0) := fun i => by unfold pcnt; cases p[i]? <;> rfl
 have HPA : Hid (∀ i (hi : i < p.length), pcnt g p g.wishes.length i = cntW g g.wishes.length p[i]) := fun i hi => pcnt_at hi
 have HSA := Lib.hid (fun x hx => sesAt_place (x := x) hfm hx)
 have HIN := Lib.hid (fun l k hk => own_in (l := l) (k := k) hfm hk)
 have HND := Lib.hid (fun l => ownTo_nd p l l.length (Nat.le_refl _))
 have HR : Hid (crowdL g p = crowdTo g p p.length) := rfl
 have HL := Lib.hid (crowdTo_len g p)
 have hwn := hz.wishes
 generalize crowdL g p = R at *
 generalize pcnt g p = pf at *
 clear hF hg hz hr hp hpo hrn hfm
 go_enter Tryz.func82, Tryz.ntmps82
 go_wp2_with fail
 refine HSO.out.mono ?_
 rintro e w1 ⟨bm, rfl, hbm, hM, hb1⟩
 have hmk := run_make_len (P := Tryz.prog) 22 3 (.int .i64 0) 8 (by kernel_rfl) infoInt rfl p.length (by omega) (by omega)
 clear HSO
 go_upto_region 3 with (fail)
 have hbx := Box.new w1 3 (Array.replicate p.length (.int .i64 0))
 have hM2 := hM.alloc (.cells (Array.replicate p.length (.int .i64 0)) 3)
 have hb2 := hb1.alloc hb1.size (.cells (Array.replicate p.length (.int .i64 0)) 3)
 have hPe : Peo w1.heap.size p.length (w1.alloc (.cells (Array.replicate p.length (.int .i64 0)) 3)) (List.replicate p.length 0) := by
  have h1 : (Array.replicate p.length (Value.int .i64 0)).toList = (List.replicate p.length (0 : Int)).flatMap Cel.cells := by
   rw [Array.toList_replicate]
   generalize p.length = n
   induction n with
   | zero => rfl
   | succ n ih => rw [List.replicate_succ, List.replicate_succ, List.flatMap_cons, ← ih]; rfl
  have h2 : Own w1.heap.size 3 (w1.alloc (.cells (Array.replicate p.length (.int .i64 0)) 3)) (.slice (some ⟨w1.heap.size, 0, none⟩) (List.replicate p.length (0 : Int)).length p.length) (List.replicate p.length (0 : Int)) :=
   Own.laid (cap := p.length) (l := List.replicate p.length (0 : Int)) hbx (Nat.le_refl _) (by rw [Array.size_replicate]; show p.length = p.length * 1; omega) (by unfold maxLen; omega) (by rw [List.length_replicate]; exact Nat.le_refl _) (hbx.arr _ h1)
  rw [List.length_replicate] at h2
  exact ⟨h2, List.length_replicate⟩
 have hz2 : w1.heap.size < (w1.alloc (.cells (Array.replicate p.length (.int .i64 0)) 3)).heap.size := by simp
 have hbP := hb1.size
 have hbml := hM.lt
 clear hmk hbx hM hb1
 generalize w1.alloc (.cells (Array.replicate p.length (.int .i64 0)) 3) = w2 at *
 generalize w1.heap.size = nP at *
 have hf3 := (HF.out _ hb2).box.cell 3
 simp at hf3
 go_wp2_with fail
 clear hf3
 go_loopg [29] g.wishes.length (fun gk iv wr => ∃ (n : Nat) (PL : List Int), iv = .int .i64 n ∧ n ≤ g.wishes.length ∧ Hid (gk = g.wishes.length - n) ∧ Peo nP p.length wr PL ∧ Hid (∀ i, i < p.length → PL.getD i 0 = (pf n i : Nat)) ∧ MBox wr bm (sesM p) ∧ Below w.heap.size w wr)
 case atStart => exact ⟨0, _, rfl, by omega, rfl, hPe, (fun i hi => by rw [HP0.out, List.getD_eq_getElem?_getD, List.getElem?_replicate, if_pos hi]; rfl), hM2, hb2⟩
 case round =>
  clear hPe hM2 hb2 hz2
  obtain ⟨n, PL, rfl, hn, hgn, hPe, hPv, hM, hb⟩ := hrel
  by_cases hnl : n < g.wishes.length
  ·
   obtain ⟨ub, uoff, hu, u0, u1⟩ := (HG.out _ hb).wishes.wshC hnl
   have hum : g.wishes[n] ∈ g.wishes := List.getElem_mem hnl
   have HWP := Lib.hid (fun W (h : Below w.heap.size w W) => (HG.out W h).papers _ hum)
   have huw := HWO.out _ hum
   have Hps := Lib.hid (fun i hi => HPS.out n i hnl hi)
   have Hu := Lib.hid hu
   generalize g.wishes[n] = u at *
   obtain ⟨v1, v2, v3, v4⟩ := u
   simp only at u0 u1 HWP huw Hps
   have HNo := Lib.hid (HND.out v2)
   have HIo := Lib.hid (fun k hk => HIN.out v2 k hk)
   have HOS : Hid (∀ j (h : j < v2.length), ownTo p v2 (j + 1) = if inP p v2[j] = true then iput (ownTo p v2 j) (placeI p v2[j]) (.bool true) else ownTo p v2 j) := fun j h => ownTo_succ h
   have HO0 : Hid (ownTo p v2 0 = []) := rfl
   generalize ownTo p v2 = ow at *
   rw [hu]
   clear hu hum
   have hmm := @run_makeMap Tryz.prog
   go_upto_region 7 with (fail)
   have hU := (Box.new wr 103 #[.string v1, .slice v3 v2.length v4]).alloc (.map #[] 0)
   have hI0 := IMp.new (wr.alloc (.cells #[.string v1, .slice v3 v2.length v4] 103))
   have hPe2 := (hPe.alloc (.cells #[.string v1, .slice v3 v2.length v4] 103)).alloc (.map #[] 0)
   have hM2 := (hM.alloc (.cells #[.string v1, .slice v3 v2.length v4] 103)).alloc (.map #[] 0)
   have hb2 := (hb.alloc hb.size (.cells #[.string v1, .slice v3 v2.length v4] 103)).alloc (by simp; have := hb.size; omega) (.map #[] 0)
   have hPl := hPe.lt
   have hsz : (wr.alloc (.cells #[.string v1, .slice v3 v2.length v4] 103)).heap.size = wr.heap.size + 1 := by simp
   rw [hsz] at hI0
   have hml := hM.lt
   clear hmm hPe hM hb u0 u1 hsz
   generalize (wr.alloc (.cells #[.string v1, .slice v3 v2.length v4] 103)).alloc (.map #[] 0) = w3 at *
   generalize wr.heap.size = n3 at *
   have hU_l := hU.lt; have hU_0 := hU.cell 0; have hU_1 := hU.cell 1; simp at hU_0 hU_1
   go_wp2_with fail
   clear hU_l hU_0 hU_1
   clear hU
   go_loopg [37] v2.length (fun gj jv wq => ∃ j : Nat, jv = .int .i64 j ∧ j ≤ v2.length ∧ Hid (gj = v2.length - j) ∧ IMp wq (n3 + 1) (ow j) ∧ Peo nP p.length wq PL ∧ MBox wq bm (sesM p) ∧ Below w.heap.size w wq)
   case atStart => exact ⟨0, rfl, by omega, rfl, by rw [HO0.out]; exact hI0, hPe2, hM2, hb2⟩
   case round =>
    clear hI0 hPe2 hM2 hb2
    obtain ⟨j, rfl, hj, hgj, hI, hPe, hM, hb⟩ := hrel
    by_cases hjl : j < v2.length
    ·
     obtain ⟨tb, toff, ht, t0⟩ := (HWP.out _ hb).str hjl
     have Hos := Lib.hid (HOS.out j hjl)
     have Ht := Lib.hid ht
     rw [ht]
     clear ht
     generalize v2[j] = x at *
     have hlk := lookSes hM x
     have HSx := Lib.hid (fun h => HSA.out x h)
     cases hin : inP p x
     ·
      rw [hin] at hlk Hos
      generalize sesAtV p x = sv at *
      go_wp2_with fail
      rw [← Ht.out]
      go_roundg (v2.length - (j + 1))
      case measure => have := hgj.out; omega
      case rel => exact ⟨j + 1, by go_num, by omega, rfl, by rw [Hos.out, if_neg (by decide)]; exact hI, hPe, hM, hb⟩
     ·
      rw [hin] at Hos
      rw [hin, HSx.out hin] at hlk
      generalize placeI p x = pi at *
      go_upto_region 13 with (at_mapUpdate; refine wpList_mapUpdate_imp rfl _ _ _ 189 rfl 3 4 Tryz.underlying189 Tryz.underlying3 (n3 + 1) _ rfl hI pi rfl (.bool true) rfl ?_; intro w5 hI5 hg5 hs5)
      have hPe5 := hPe.grown hg5 (fun e => by have := Option.some.inj e; omega)
      have hM5 := hM.grown hg5 (fun e => by have := Option.some.inj e; omega)
      have hb5 := hb.grown hg5 hb.size (fun j hj => by have := Option.some.inj hj; omega)
      clear hI hPe hM hb hg5 hs5 t0 hlk
      go_wp2_with fail
      rw [← Ht.out]
      go_roundg (v2.length - (j + 1))
      case measure => have := hgj.out; omega
      case rel => exact ⟨j + 1, by go_num, by omega, rfl, by rw [Hos.out]; exact hI5, hPe5, hM5, hb5⟩
    ·
     obtain rfl : j = v2.length := by omega
     generalize ow v2.length = OW at *
     clear HOS HO0
     go_wp2_with ((refine wpList_range_imp rfl _ 189 rfl 3 4 Tryz.underlying189 (n3 + 1) OW rfl hI ?_; intro o' hI2))
     go_frame
     have hPe2 := hPe.alloc o'
     have hM2 := hM.alloc o'
     have hb2 := hb.alloc hb.size o'
     have hz6 : wr.heap.size < (wr.alloc o').heap.size := by simp
     have hIl := hI.lt
     have hz7 : w.heap.size ≤ wr.heap.size := hb.size
     clear hI hPe hM hb
     generalize wr.alloc o' = w6 at *
     generalize wr.heap.size = ri at *
     go_loopg [] OW.length (fun gl wq => ∃ (left : List (Int × Value)) (QL : List Int), Hid (gl = left.length) ∧ IIt wq ri (n3 + 1) OW left ∧ Hid (∀ q ∈ left, q ∈ OW) ∧ Hid ((left.map (·.1)).Nodup) ∧ Peo nP p.length wq QL ∧ Hid (∀ i, i < p.length → QL.getD i 0 = (pf n i : Nat) + if ((i : Nat) : Int) ∈ OW.map (·.1) ∧ ¬ ((i : Nat) : Int) ∈ left.map (·.1) then 1 else 0) ∧ MBox wq bm (sesM p) ∧ Below w.heap.size w wq ∧ ri < wq.heap.size)
     case atStart => exact ⟨_, _, rfl, hI2, (fun q hq => hq), HNo.out, hPe2, (fun i hi => by rw [if_neg (fun h => h.2 h.1), Int.add_zero]; exact hPv.out i hi), hM2, hb2, hz6⟩
     case round =>
      clear hI2 hPe2 hM2 hb2 hz6
      obtain ⟨left, QL, hgl, hI, hsub, hnd, hPe, hQv, hM, hb, hz⟩ := hrel
      go_wp2_with ((refine wpList_next_imp rfl _ rfl ri (n3 + 1) OW left rfl hI ?_ ?_))
      ·
       intro hnil
       have hQ2 : Hid (∀ i, i < p.length → QL.getD i 0 = (pf (n + 1) i : Nat)) := fun i hi => by
        have h1 := hQv.out i hi
        rw [hnil] at h1
        rw [h1, Hps.out i hi]
        by_cases hm : ((i : Nat) : Int) ∈ OW.map (·.1)
        ·
         rw [if_pos ⟨hm, by simp⟩, if_pos hm]; simp
        ·
         rw [if_neg (fun h => hm h.1), if_neg hm]; simp
       clear hQv hsub hnd hgl hnil hI Hps
       go_wp2_with fail
       rw [← Hu.out]
       go_roundg (g.wishes.length - (n + 1))
       case measure => have := hgn.out; omega
       case rel => exact ⟨n + 1, QL, by go_num, by omega, rfl, hPe, hQ2.out, hM, hb⟩
      ·
       intro p0 kk v q w' hleft hI2 hent hg hsz
       have hin : (kk, v) ∈ OW := hsub.out (kk, v) (by rw [hleft]; simp)
       obtain ⟨i, hi, rfl, -⟩ := HIo.out kk (List.mem_map.2 ⟨_, hin, rfl⟩)
       have hnd2 : ¬ ((i : Nat) : Int) ∈ (p0 ++ q).map (·.1) ∧ ((p0 ++ q).map (·.1)).Nodup := by
        have h1 := hnd.out
        rw [hleft, List.map_append, List.map_cons] at h1
        rw [List.nodup_append, List.nodup_cons] at h1
        obtain ⟨ha9, ⟨hb9, hc9⟩, hd9⟩ := h1
        rw [List.map_append]
        refine ⟨fun h9 => ?_, List.nodup_append.2 ⟨ha9, hc9, fun x hx y hy => hd9 x hx y (List.mem_cons_of_mem _ hy)⟩⟩
        rcases List.mem_append.1 h9 with h9 | h9
        ·
         exact hd9 _ h9 _ List.mem_cons_self rfl
        ·
         exact hb9 h9
       have Hnd2 := Lib.hid hnd2
       have Hsub2 : Hid (∀ q' ∈ p0 ++ q, q' ∈ OW) := fun q' hq' => hsub.out q' (by rw [hleft]; simp only [List.mem_append, List.mem_cons] at hq' ⊢; exact hq'.elim .inl (fun h => .inr (.inr h)))
       have hlen2 : (p0 ++ q).length < left.length := by rw [hleft]; simp
       have hPe2 := hPe.grown hg (fun e => by have := Option.some.inj e; have := hI.lt; omega)
       have hM2 := hM.grown hg (fun e => by have := Option.some.inj e; have := hI.lt; omega)
       have hb2 : Below w.heap.size w w' := hb.grown hg hb.size (by rintro j hj; cases hj; omega)
       have hc := hPe2.cell hi
       have hfr := hPe2.frozen i
       have hQi := hQv.out i hi
       have hbd := HPB.out n i
       rw [if_neg (fun h => h.2 (by rw [hleft]; simp)), Int.add_zero] at hQi
       rw [hQi] at hc
       have hQn : Hid (∀ i', i' < p.length → (QL.set i ((pf n i : Nat) + 1)).getD i' 0 = (pf n i' : Nat) + if ((i' : Nat) : Int) ∈ OW.map (·.1) ∧ ¬ ((i' : Nat) : Int) ∈ (p0 ++ q).map (·.1) then 1 else 0) := fun i' hi' => by
        by_cases hii : i' = i
        ·
         subst hii
         rw [List.getD_eq_getElem?_getD, List.getElem?_set_self (by rw [hPe.2]; exact hi), if_pos ⟨List.mem_map.2 ⟨_, hin, rfl⟩, Hnd2.out.1⟩]; rfl
        ·
         have h1 := hQv.out i' hi'
         rw [List.getD_eq_getElem?_getD, List.getElem?_set_ne (fun e => hii e.symm), ← List.getD_eq_getElem?_getD, h1]
         congr 1
         have hiff : (((i' : Nat) : Int) ∈ left.map (·.1) ↔ ((i' : Nat) : Int) ∈ (p0 ++ q).map (·.1)) := by
          rw [hleft]
          simp only [List.map_append, List.map_cons, List.mem_append, List.mem_cons]
          constructor
          ·
           rintro (h | h | h)
           ·
            exact .inl h
           ·
            exact absurd (Int.ofNat.inj h) hii
           ·
            exact .inr h
          ·
           rintro (h | h)
           ·
            exact .inl h
           ·
            exact .inr (.inr h)
         simp only [hiff]
       have hPp := hPe2.put hi ((pf n i : Nat) + 1)
       have hPl2 := hPe2.lt
       have hIl2 := hI2.lt
       have hI3 : IIt (w'.setCell ⟨nP, i, none⟩ (.int .i64 ((pf n i : Nat) + 1))) ri (n3 + 1) OW (p0 ++ q) := hI2.same (Below.heap_setCell _ _ _ _ (by show ri ≠ nP; omega)) (Below.heap_setCell _ _ _ _ (by show n3 + 1 ≠ nP; omega))
       have hM3 := hM2.setOther (p := ⟨nP, i, none⟩) (by show nP ≠ bm; omega) (.int .i64 ((pf n i : Nat) + 1))
       have hb3 := hb2.setCell (p := ⟨nP, i, none⟩) (by show w.heap.size ≤ nP; omega) (.int .i64 ((pf n i : Nat) + 1))
       have hw : IntKind.i64.wrap (((pf n i : Nat) : Int) + 1) = ((pf n i : Nat) : Int) + 1 := IntWalk.i64_in _ (by omega)
       have hi1 : (0 : Int) ≤ (i : Int) := by omega
       have hi2 : (i : Int) < (p.length : Int) := by omega
       have hz3 : ri < (w'.setCell ⟨nP, i, none⟩ (.int .i64 ((pf n i : Nat) + 1))).heap.size := by simp; omega
       generalize QL.set i ((pf n i : Nat) + 1) = QN at *
       clear hQv hQi hnd hsub hin hI hPe hM hb hg hleft hsz hI2 hM2 hb2 hPe2 hnd2
       go_wp2_with fail
       go_roundg (p0 ++ q).length
       case measure => have := hgl.out; omega
       case rel => exact ⟨p0 ++ q, QN, rfl, hI3, Hsub2.out, Hnd2.out.2, hPp, hQn.out, hM3, hb3, hz3⟩
  ·
   obtain rfl : n = g.wishes.length := by omega
   go_wp2_with fail
   clear hM
   go_loopg [15, 66] p.length (fun gk v' iv wq => ∃ (k : Nat) (v : Value), v = v' ∧ iv = .int .i64 k ∧ k ≤ p.length ∧ Hid (gk = p.length - k) ∧ Own (nP + 1) 71 wq v (crowdTo g p k) ∧ Peo nP p.length wq PL ∧ Below w.heap.size w wq)
   case atStart => exact ⟨0, _, rfl, rfl, by omega, rfl, Own.nil _ _ _, hPe, hb⟩
   case round =>
    clear hPe hb
    obtain ⟨k, v, rfl, rfl, hk, hgk, hown, hPe, hb⟩ := hrel
    by_cases hlt : k < p.length
    ·
     obtain ⟨b, off, ha, c0, c1, c2⟩ := (HP.out _ hb).list.sesC hlt
     have hxm : p[k] ∈ p := List.getElem_mem hlt
     have Hsu := Lib.hid (crowdTo_succ (g := g) hlt)
     have hll := HL.out k
     have hPk := hPv.out k hlt
     rw [HPA.out k hlt] at hPk
     have hCB : cntW g g.wishes.length p[k] ≤ 1000 := by rw [← HPA.out k hlt]; exact HPB.out _ _
     obtain ⟨ri, hri, hrr, hlr⟩ := HRI.out _ hxm
     have hro := HRO.out p[k].room
     obtain ⟨rb, roff, hra, r0, r1⟩ := (HG.out _ hb).rooms.romC hri
     have Hra := Lib.hid hra
     have HLR := Lib.hid hlr
     rw [hrr] at r1
     have Hrr := Lib.hid hrr
     unfold crdOf at Hsu
     have Ha := Lib.hid ha
     generalize crowdTo g p k = acc at *
     generalize cntW g g.wishes.length p[k] = C at *
     generalize p[k] = x at *
     obtain ⟨s1, s2, s3, s4, s5⟩ := x
     simp only at c0 c1 c2 Hsu hro r1 HLR
     generalize roomOr g s2 = rr at *
     obtain ⟨r1', r2⟩ := rr
     simp only at hro Hsu r1
     rw [ha]
     clear ha hxm hrr hlr r0
     go_upto_region 23 with (fail)
     have hE1 := Box.new wr 91 #[.string s1, .string s2, .slice s4 s3.length s5]
     have hb1 := hb.alloc hb.size (.cells #[.string s1, .string s2, .slice s4 s3.length s5] 91)
     have hPe1 := hPe.alloc (.cells #[.string s1, .string s2, .slice s4 s3.length s5] 91)
     have hown1 := hown.alloc (.cells #[.string s1, .string s2, .slice s4 s3.length s5] 91)
     have hr1 := cell_later ((Below.refl wr.heap.size wr).alloc (Nat.le_refl _) (.cells #[.string s1, .string s2, .slice s4 s3.length s5] 91)) r1
     have hF1 := HF.out _ hb1
     have hPl := hPe.lt
     have hvE : v.ownBlock ≠ some wr.heap.size := fun e => by have := (hown.lt _ e).2; omega
     clear hb hPe hown c0 c1 c2 r1
     generalize wr.alloc (.cells #[.string s1, .string s2, .slice s4 s3.length s5] 91) = w5 at *
     generalize wr.heap.size = n5 at *
     have hcP := hPe1.cell hlt
     rw [hPk] at hcP
     have HPk := Lib.hid hPk
     have hf0 := hF1.box.cell 0
     have hf5 := hF1.box.cell 5
     simp at hf0 hf5
     rw [hra] at hf0
     have hMr := hF1.r
     have hFl := hF1.box.lt
     have hw : IntKind.i64.wrap ((C : Int) - r2) = (C : Int) - r2 := IntWalk.i64_in _ (by omega)
     obtain ⟨ov, hov⟩ : ∃ ov, max 0 ((C : Int) - r2) = ov := ⟨_, rfl⟩
     rw [Int.max_comm, hov] at Hsu
     have hi1 : (0 : Int) ≤ (k : Int) := by omega
     have hi2 : (k : Int) < (p.length : Int) := by omega
     have hi3 : (0 : Int) ≤ (ri : Int) := by omega
     have hi4 : (ri : Int) < (g.rooms.length : Int) := by omega
     have hol := hown1.lt
     have hbz := hb1.size
     clear hF1 hra
     have hE1_l := hE1.lt; have hE1_0 := hE1.cell 0; have hE1_1 := hE1.cell 1; have hE1_2 := hE1.cell 2; simp at hE1_0 hE1_1 hE1_2
     refine wp_region_held_drew (S := (fun wx => wx.cell? ⟨n5, 0, none⟩ = some (.string s1) ∧ wx.cell? ⟨n5, 1, none⟩ = some (.string s2) ∧ wx.cell? ⟨nP, k, none⟩ = some (.int .i64 C) ∧ wx.cell? ⟨fb, 0, none⟩ = some (.slice (some ⟨rb, roff, none⟩) g.rooms.length g.rc) ∧ wx.cell? ⟨fb, 5, none⟩ = some (.map (some br)) ∧ wx.cell? ⟨rb, roff + ri * 2 + 1, none⟩ = some (.int .i64 r2) ∧ MBox wx br (idxL (g.rooms.map (·.1))))) (by kernel_rfl) ?hS (fun hHeld => ?_)
     case hS => exact ⟨hE1_0, hE1_1, hcP, hf0, hf5, hr1, hMr.drew⟩
     refine rt 0 (some 71) ?_
     refine rt 1 (some 72) ?_
     refine rt 2 (some 73) ?_
     refine rt 3 (some 74) ?_
     refine rt 4 (some 75) ?_
     refine rt 5 (some 76) ?_
     refine rt 6 (some 77) ?_
     refine rt 7 (some 78) ?_
     refine rt 8 (some 79) ?_
     refine rt 9 (some 80) ?_
     refine rt 10 (some 81) ?_
     refine rt 11 (some 82) ?_
     refine rt 12 (some 83) ?_
     refine rt 13 (some 84) ?_
     refine rt 14 (some 85) ?_
     refine rt 15 (some 86) ?_
     refine rt 16 (some 87) ?_
     refine rt 17 (some 88) ?_
     refine rt 18 (some 89) ?_
     refine rt 19 (some 90) ?_
     refine rt 20 (some 91) ?_
     refine rt 21 (some 92) ?_
     refine rt 22 (some 93) ?_
     refine rt 23 (some 94) ?_
     refine rtake (i := 24) (d := (some 95)) (v := ?_) rfl (by kernel_rfl) (by kernel_rfl) (by kernel_rfl) (by kernel_rfl) (fun _ _ _ h => h) (by kernel_rfl) (by assumption) ?_ ?_
     rotate_left 1
     ·
      (intro wI hSI; have hlk := HLR.out _ _ hSI.2.2.2.2.2.2; go_simp; (try with_reducible rfl))
     simp only [Act.put, lsetA, lsetZ, lsetS]
     refine rt 25 (some 96) ?_
     refine rt 26 (some 97) ?_
     refine rt 27 (some 98) ?_
     refine rt 28 (some 99) ?_
     refine rt 29 (some 100) ?_
     (try rw [hov])
     refine rt 30 (some 101) ?_
     refine rcall (i := 31) (d := (some 102)) (by kernel_rfl) rfl (by kernel_rfl) (fun K hK => ?_)
     go_simp
     skip
     refine hK.out _ _ ?hS (fun hHeld => ?_)
     case hS => exact (have hA := (Below.refl w5.heap.size w5).drew.alloc (by show w5.heap.size ≤ _; exact Nat.le_refl _) (.cells #[.string s1, .string s2, .int .i64 C, .int .i64 ov] 71); ⟨cell_later hA hE1_0, cell_later hA hE1_1, cell_later hA hcP, cell_later hA hf0, cell_later hA hf5, cell_later hA hr1, hMr.below hA⟩)
     clear hK K
     simp only [Act.put, lsetA, lsetZ, lsetS]
     refine rcall (i := 32) (d := (some 103)) (by kernel_rfl) rfl (by kernel_rfl) (fun K hK => ?_)
     refine step_append_lie (by rfl) _ _ 61 (by rfl) 71 48 (.agg #[.string ⟨#[]⟩, .string ⟨#[]⟩, .int .i64 0, .int .i64 0]) Tryz.underlying61 infoCrd (by rfl) v acc (by rfl) (hown1.alloc (.cells #[.string s1, .string s2, .int .i64 C, .int .i64 ov] 71)).drew (s1, s2, (C : Int), ov) w5.heap.size (by rfl) (Box.drew (Box.new w5 71 #[.string s1, .string s2, .int .i64 C, .int .i64 ov])) (by omega) (by omega) (by simp; omega) ?_; intro g9 cap9 w9 hown9 hg9 hat9; have hb9 := ((hb1.alloc hb1.size (.cells #[.string s1, .string s2, .int .i64 C, .int .i64 ov] 71)).drew).grown hg9 (by simp; omega) (fun j hj => by have := (hol j hj).1; omega); have hE9 := ((hE1.alloc (.cells #[.string s1, .string s2, .int .i64 C, .int .i64 ov] 71)).drew).grown hg9 (fun e => hvE e.symm); have hP9 := ((hPe1.alloc (.cells #[.string s1, .string s2, .int .i64 C, .int .i64 ov] 71)).drew).grown hg9 (fun e => by have := (hol _ e.symm).1; omega); have hF9 := HF.out _ hb9; have hcP9 := hP9.cell hlt; rw [HPk.out] at hcP9; have hf09 := hF9.box.cell 0; have hf59 := hF9.box.cell 5; simp at hf09 hf59; rw [Hra.out] at hf09; have hr9 := room_cell (HG.out _ hb9).rooms hri Hra.out Hrr.out
     refine hK.out _ _ ?hS (fun hHeld => ?_)
     case hS => exact ⟨by have h0 := hE9.cell 0; simpa using h0, by have h0 := hE9.cell 1; simpa using h0, hcP9, hf09, hf59, hr9, hF9.r⟩
     clear hK K
     simp only [Act.put, lsetA, lsetZ, lsetS]
     refine rt 33 (some 15) ?_
     refine wpAnyH_done (by kernel_rfl) ?_ _
     rw [← Hsu.out] at hown9
     clear hHeld
     go_wp2_with fail
     rw [← Ha.out]
     go_roundg (p.length - (k + 1))
     case measure => have := hgk.out; omega
     case rel => exact ⟨k + 1, _, rfl, by go_num, by omega, rfl, hown9, hP9, hb9⟩
    ·
     obtain rfl : k = p.length := by omega
     rw [← HR.out] at hown
     go_wp2_with fail
     go_ret
     exact ⟨_, rfl, hown.mono (by omega), hb⟩
end Go.Proofs.YthnbcdgbpofnjaaGreatDoor
