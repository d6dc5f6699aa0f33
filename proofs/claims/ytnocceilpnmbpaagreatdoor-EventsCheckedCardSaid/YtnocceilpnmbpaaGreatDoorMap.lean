/- Maps with string keys that are known exactly: look-ups and stores. -/
import Derived.Test.YtnocceilpnmbpaaGreatDoorBase
import Derived.Maps.OwnSet
import Derived.Maps.RangeRun
import Derived.Deep.RegionHeld3
import Derived.Deep.AppendLies
namespace Go.Proofs.YtnocceilpnmbpaaGreatDoor
open Go.RowKit
set_option linter.unusedVariables false

/-- What a list of entries gives for a key. -/
def mget (l : List (ByteArray × Value)) (k : ByteArray) : Option Value :=
 match l with
 | [] => none
 | p :: r => if p.1 = k then some p.2 else mget r k
/-- A store into a list of entries. -/
def mput (l : List (ByteArray × Value)) (k : ByteArray) (v : Value) : List (ByteArray × Value) :=
 match l with
 | [] => [(k, v)]
 | p :: r => if p.1 = k then (k, v) :: r else p :: mput r k v

theorem mget_mput (l : List (ByteArray × Value)) (k k' : ByteArray) (v : Value) : mget (mput l k v) k' = if k = k' then some v else mget l k' := by
 induction l with
 | nil => simp [mput, mget]
 | cons p r ih =>
  unfold mput
  by_cases h : p.1 = k
  ·
   simp only [h, if_true, mget]
   by_cases h2 : k = k' <;> simp [h2]
  ·
   simp only [h, if_false, mget, ih]
   by_cases h2 : k = k'
   ·
    subst h2; simp [h]
   ·
    simp [h2]

theorem mput_length (l : List (ByteArray × Value)) (k : ByteArray) (v : Value) : (mput l k v).length ≤ l.length + 1 := by
 induction l with
 | nil => simp [mput]
 | cons p r ih => unfold mput; split <;> simp <;> omega

/-- An array of entries is a list of keys and values. -/
def Ent (es : Array MapEntry) (l : List (ByteArray × Value)) : Prop := es.toList.map (fun e => (e.key, e.val)) = l.map (fun p => (Value.string p.1, p.2))

/-- Block b is a map of string keys with these entries, in their order. -/
def MBox (w : World) (b : Nat) (l : List (ByteArray × Value)) : Prop :=
 ∃ es clock, w.heap[b]? = some (.map es clock) ∧ Ent es l ∧ (∀ e ∈ es.toList, e.born < clock) ∧ (es.toList.map (·.born)).Nodup

section
variable {w w' : World} {b : Nat} {l : List (ByteArray × Value)}
theorem MBox.lt (h : MBox w b l) : b < w.heap.size := by
 obtain ⟨es, c, h1, _⟩ := h; exact (Array.getElem?_eq_some_iff.1 h1).1
theorem MBox.same (h : MBox w b l) (k : w'.heap[b]? = w.heap[b]?) : MBox w' b l := by
 obtain ⟨es, c, h1, h2⟩ := h; exact ⟨es, c, k.trans h1, h2⟩
theorem MBox.new (w : World) : MBox (w.alloc (.map #[] 0)) w.heap.size [] :=
 ⟨#[], 0, by show (w.heap.push _)[w.heap.size]? = _; simp, rfl, by simp, by simp⟩
theorem MBox.alloc (h : MBox w b l) (o : Obj) : MBox (w.alloc o) b l := h.same (Below.heap_alloc _ _ _ h.lt)
theorem MBox.drewN (h : MBox w b l) (n : Nat) : MBox (w.drewN n) b l := h
theorem MBox.drew (h : MBox w b l) : MBox w.drew b l := h
theorem MBox.below (h : MBox w b l) (k : Below w.heap.size w w') : MBox w' b l := h.same (k.block _ h.lt)
theorem MBox.setOther (h : MBox w b l) {p : Addr} (hp : p.block ≠ b) (v : Value) : MBox (w.setCell p v) b l := h.same (Below.heap_setCell _ _ _ _ (Ne.symm hp))
theorem MBox.grown {row : Option Nat} (h : MBox w b l) (k : w.grownBy w' row) (hne : some b ≠ row) : MBox w' b l := h.same (k.block _ h.lt hne)
end

theorem toList_inj {a b : ByteArray} : a.toList = b.toList ↔ a = b := by
 constructor
 ·
  intro h
  rw [ByteArray.toList_eq, ByteArray.toList_eq] at h
  obtain ⟨⟨x⟩⟩ := a
  obtain ⟨⟨y⟩⟩ := b
  simp at h
  rw [h]
 ·
  rintro rfl; rfl
theorem ba_beq (a b : ByteArray) : (a == b) = decide (a = b) := by
 rw [beq_toListBytes, Bool.eq_iff_iff, beq_iff_eq, toList_inj, decide_eq_true_eq]

theorem findNow_get (k : ByteArray) : ∀ (es : List MapEntry) (l : List (ByteArray × Value)) (i : Nat), es.map (fun e => (e.key, e.val)) = l.map (fun p => (Value.string p.1, p.2)) →
  ∃ r, Instr.findNow .string (.string k) es i = some r ∧ r.map (·.2) = mget l k ∧ (∀ j v, r = some (j, v) → i ≤ j ∧ ∃ e, es[j - i]? = some e ∧ e.key = .string k)
   ∧ (r = none → mput l k = fun v => l ++ [(k, v)])
   ∧ (∀ j v, r = some (j, v) → ∀ u, (es.modify (j - i) (fun e => { e with key := .string k, val := u })).map (fun e => (e.key, e.val)) = (mput l k u).map (fun p => (Value.string p.1, p.2)) ∧ (es.modify (j - i) (fun e => { e with key := .string k, val := u })).map (·.born) = es.map (·.born))
 | [], [], i, _ => ⟨none, rfl, rfl, by simp, by intro _; funext v; rfl, by simp⟩
 | [], p :: l, i, h => by simp at h
 | e :: es, [], i, h => by simp at h
 | e :: es, p :: l, i, h => by
  simp only [List.map_cons, List.cons.injEq, Prod.mk.injEq] at h
  obtain ⟨⟨h1, h2⟩, h3⟩ := h
  by_cases hk : p.1 = k
  ·
   refine ⟨some (i, e.val), ?_, ?_, ?_, by simp, ?_⟩
   ·
    simp [Instr.findNow, Instr.sameNow, h1, hk, ba_beq]
   ·
    simp [mget, hk, h2]
   ·
    rintro j v hj
    cases hj
    exact ⟨Nat.le_refl _, e, by simp, by rw [h1, hk]⟩
   ·
    rintro j v hj u
    cases hj
    simp [mput, hk, h3]
  ·
   obtain ⟨r, q1, q2, q3, q4, q5⟩ := findNow_get k es l (i + 1) h3
   have hk' : (k == p.1) = false := by rw [ba_beq, decide_eq_false]; exact fun h => hk h.symm
   refine ⟨r, ?_, ?_, ?_, ?_, ?_⟩
   ·
    simp [Instr.findNow, Instr.sameNow, h1, hk', q1]
   ·
    simp [mget, hk, q2]
   ·
    intro j v hj
    obtain ⟨a1, e', a2, a3⟩ := q3 j v hj
    exact ⟨by omega, e', by rw [show j - i = (j - (i + 1)) + 1 from by omega]; simpa using a2, a3⟩
   ·
    intro hr
    funext v
    simp [mput, hk, q4 hr]
   ·
    intro j v hj u
    obtain ⟨a1, _⟩ := q3 j v hj
    obtain ⟨b1, b2⟩ := q5 j v hj u
    rw [show j - i = (j - (i + 1)) + 1 from by omega]
    simp [mput, hk, h1, h2, b1, b2]

section
variable {P : Program} {w : World} {b : Nat} {l : List (ByteArray × Value)} {t kt et : TypeId}

/-- What a look-up gives. -/
def looked (l : List (ByteArray × Value)) (k : ByteArray) (z : Value) (c : Bool) : Value :=
 if c then .tuple #[(mget l k).getD z, .bool (mget l k).isSome] else (mget l k).getD z

theorem MBox.look (h : MBox w b l) (ht : P.underlying t = some (.map kt et)) (hk : P.underlying kt = some .string) (z : Value) (hz : ∀ w, (zeroValue et).run P w = .ok z w) (k : ByteArray) (c : Bool) :
  (Instr.lookup t (.map (some b)) (.string k) c).run P w = .ok (looked l k z c) w := by
 obtain ⟨es, clock, h1, h2, _⟩ := h
 obtain ⟨r, q1, q2, _⟩ := findNow_get k es.toList l 0 h2
 have hkey : MapKept.IsKey .string (.string k) := trivial
 unfold looked
 cases r with
 | none =>
  simp at q2
  cases c <;> simp [Instr.lookup, run_underlying ht, MapKept.run_getObj_map h1, MapKept.run_checkKey hk hkey, MapKept.run_findKey hk q1, hz, Result.andThen, ← q2]
 | some x =>
  simp at q2
  cases c <;> simp [Instr.lookup, run_underlying ht, MapKept.run_getObj_map h1, MapKept.run_checkKey hk hkey, MapKept.run_findKey hk q1, Result.andThen, ← q2]

theorem nil_look (ht : P.underlying t = some (.map kt et)) (hk : P.underlying kt = some .string) (z : Value) (hz : ∀ w, (zeroValue et).run P w = .ok z w) (k : ByteArray) (c : Bool) (w : World) :
  (Instr.lookup t (.map none) (.string k) c).run P w = .ok (looked [] k z c) w := by
 have hkey : MapKept.IsKey .string (.string k) := trivial
 have q1 : Instr.findNow .string (.string k) (#[] : Array MapEntry).toList 0 = some none := rfl
 unfold looked
 cases c <;> simp [Instr.lookup, run_underlying ht, MapKept.run_checkKey hk hkey, MapKept.run_findKey hk q1, hz, Result.andThen, mget]

theorem grown_setBlock (o : Obj) : w.grownBy { w with heap := w.heap.setIfInBounds b o } (some b) :=
 ⟨rfl, rfl, rfl, by simp, fun k hk hne => by
  show (w.heap.setIfInBounds b o)[k]? = _
  rw [Array.getElem?_setIfInBounds_ne (fun h => hne (by rw [h]))]⟩

/-- A store: the map holds it; nothing else has turned. -/
theorem MBox.store (h : MBox w b l) (ht : P.underlying t = some (.map kt et)) (hk : P.underlying kt = some .string) (k : ByteArray) (v : Value) :
  ∃ w', (Instr.mapUpdate t (.map (some b)) (.string k) v).run P w = .ok () w' ∧ MBox w' b (mput l k v) ∧ w.grownBy w' (some b) ∧ w'.heap.size = w.heap.size := by
 obtain ⟨es, clock, h1, h2, h3, h4⟩ := h
 have hlt : b < w.heap.size := (Array.getElem?_eq_some_iff.1 h1).1
 obtain ⟨r, q1, q2, q3, q4, q5⟩ := findNow_get k es.toList l 0 h2
 have hkey : MapKept.IsKey .string (.string k) := trivial
 cases r with
 | none =>
  refine ⟨{ w with heap := w.heap.setIfInBounds b (.map (es.push { key := .string k, val := v, born := clock }) (clock + 1)) }, ?_, ?_, grown_setBlock _, by simp⟩
  ·
   simp [Instr.mapUpdate, run_underlying ht, MapKept.run_getObj_map h1, MapKept.run_checkKey hk hkey, MapKept.run_findKey hk q1, MapKept.run_setObj_map _ h1, Result.andThen]
  ·
   refine ⟨es.push { key := .string k, val := v, born := clock }, clock + 1, by simp [hlt], ?_, ?_, ?_⟩
   ·
    have := congrFun (q4 rfl) v
    unfold Ent at *
    simp [this, h2]
   ·
    intro e he
    simp at he
    rcases he with he | rfl
    ·
     have := h3 e (by simpa using he); omega
    ·
     simp
   ·
    simp only [Array.toList_push, List.map_append, List.map_cons, List.map_nil]
    rw [List.nodup_append]
    refine ⟨h4, by simp, ?_⟩
    intro a ha c hc
    simp at hc
    obtain ⟨e, he, rfl⟩ := List.mem_map.1 ha
    have := h3 e he
    omega
 | some x =>
  obtain ⟨j, u⟩ := x
  obtain ⟨_, e0, hj, hek⟩ := q3 j u rfl
  obtain ⟨q5a, q5b⟩ := q5 j u rfl v
  simp only [Nat.sub_zero] at hj q5a q5b
  have hj' : es[j]? = some e0 := by simpa using hj
  refine ⟨{ w with heap := w.heap.setIfInBounds b (.map (es.modify j (fun e => { e with key := .string k, val := v })) clock) }, ?_, ?_, grown_setBlock _, by simp⟩
  ·
   simp [Instr.mapUpdate, run_underlying ht, MapKept.run_getObj_map h1, MapKept.run_checkKey hk hkey, MapKept.run_findKey hk q1, hj', hek, MapKept.run_keyThatStays hkey, MapKept.run_setObj_map _ h1, Result.andThen]
  ·
   refine ⟨_, clock, by simp only [Array.getElem?_setIfInBounds_self, hlt, if_true]; rfl, ?_, ?_, ?_⟩
   ·
    unfold Ent; rw [Array.toList_modify]; exact q5a
   ·
    intro e he
    have hm : e.born ∈ (es.modify j (fun e => { e with key := .string k, val := v })).toList.map (·.born) := List.mem_map_of_mem he
    rw [Array.toList_modify, q5b] at hm
    obtain ⟨e', he', hb'⟩ := List.mem_map.1 hm
    rw [← hb']
    exact h3 e' he'
   ·
    rw [Array.toList_modify, q5b]; exact h4

/-- A store, for the walk. -/
theorem wpList_mapUpdate_box {ops : Array Oper} {rest : List Oper} {o : Oper} {a : Act} {Q : Exit → Act → World → Prop}
  (hg : o.guard = none) (m x y : Operand) (t : TypeId) (hop : o.op = Op.mapUpdate t m x y) (kt et : TypeId) (ht : P.underlying t = some (.map kt et)) (hk : P.underlying kt = some .string)
  (b : Nat) (l : List (ByteArray × Value)) (hm : a.eval m = .map (some b)) (hbox : MBox w b l) (k : ByteArray) (hx : a.eval x = .string k) (v : Value) (hv : a.eval y = v)
  (hK : ∀ w', MBox w' b (mput l k v) → w.grownBy w' (some b) → w'.heap.size = w.heap.size → wpList P ops Q rest (a.put o.dst undef) w') :
  wpList P ops Q (o :: rest) a w := by
 refine wpList_plain hg fun K' hK' => ?_
 obtain ⟨w', hrun, r1, r2, r3⟩ := hbox.store ht hk k v
 unfold Oper.wp
 simp [execOp, hop, hm, hx, hv, hrun, Result.andThen]
 exact hK' _ _ (hK w' r1 r2 r3)

/-- A store in a region that draws its order. -/
theorem step_mapUpdate_box {ops : Array Oper} {o : Oper} {a : Act} {K : Act → World → Prop} {Q : Exit → Act → World → Prop} {E : Prop} (hgd : o.guard = none)
  (m x y : Operand) (t : TypeId) (hop : o.op = Op.mapUpdate t m x y) (kt et : TypeId) (ht : P.underlying t = some (.map kt et)) (hk : P.underlying kt = some .string)
  (b : Nat) (l : List (ByteArray × Value)) (hm : a.eval m = .map (some b)) (hbox : MBox w b l) (k : ByteArray) (hx : a.eval x = .string k) (v : Value) (hv : a.eval y = v)
  (hK : ∀ w', MBox w' b (mput l k v) → w.grownBy w' (some b) → w'.heap.size = w.heap.size → K (a.put o.dst undef) w') :
  if Region.wanted o (yielded ops a.tmps) = true then Oper.wp P o a w K Q else E := by
 have hw : Region.wanted o (yielded ops a.tmps) = true := by simp [Region.wanted, hgd]
 rw [if_pos hw]
 obtain ⟨w', hrun, r1, r2, r3⟩ := hbox.store ht hk k v
 unfold Oper.wp
 simp [execOp, hop, hm, hx, hv, hrun, Result.andThen]
 exact hK w' r1 r2 r3
end

/-- The iterator in block r over the map in block b (entries l): these are left. -/
def IBox (w : World) (r b : Nat) (l left : List (ByteArray × Value)) : Prop :=
 ∃ es clock seen, w.heap[r]? = some (.mapIter (some b) clock seen clock) ∧ w.heap[b]? = some (.map es clock) ∧ Ent es l ∧ (∀ e ∈ es.toList, e.born < clock) ∧ (es.toList.map (·.born)).Nodup ∧
  (leftOf es seen).toList.map (fun e => (e.key, e.val)) = left.map (fun p => (Value.string p.1, p.2))

section
variable {P : Program} {w w' : World} {r b : Nat} {l left : List (ByteArray × Value)}
theorem IBox.same (h : IBox w r b l left) (k1 : w'.heap[r]? = w.heap[r]?) (k2 : w'.heap[b]? = w.heap[b]?) : IBox w' r b l left := by
 obtain ⟨es, c, seen, h1, h2, h3⟩ := h
 exact ⟨es, c, seen, k1.trans h1, k2.trans h2, h3⟩
theorem IBox.lt (h : IBox w r b l left) : r < w.heap.size ∧ b < w.heap.size := by
 obtain ⟨es, c, seen, h1, h2, h3⟩ := h
 exact ⟨(Array.getElem?_eq_some_iff.1 h1).1, (Array.getElem?_eq_some_iff.1 h2).1⟩
theorem IBox.below (h : IBox w r b l left) (k : Below w.heap.size w w') : IBox w' r b l left := h.same (k.block _ h.lt.1) (k.block _ h.lt.2)
theorem IBox.alloc (h : IBox w r b l left) (o : Obj) : IBox (w.alloc o) r b l left := h.below ((Below.refl _ _).alloc (Nat.le_refl _) o)
theorem IBox.mbox (h : IBox w r b l left) : MBox w b l := by
 obtain ⟨es, c, seen, h1, h2, h3, h4, h5, _⟩ := h
 exact ⟨es, c, h2, h3, h4, h5⟩

/-- 'range m' begins. -/
theorem MBox.range {t kt et : TypeId} (h : MBox w b l) (ht : P.underlying t = some (.map kt et)) :
  ∃ o, (Instr.range t (.map (some b))).run P w = .ok (.pointer (some ⟨w.heap.size, 0, none⟩)) (w.alloc o) ∧ IBox (w.alloc o) w.heap.size b l l := by
 obtain ⟨es, clock, h1, h2, h3, h4⟩ := h
 refine ⟨.mapIter (some b) clock #[] clock, ?_, es, clock, #[], ?_, ?_, h2, h3, h4, ?_⟩
 ·
  simp [Instr.range, run_underlying ht, MapKept.run_getObj_map h1, Result.andThen]
 ·
  show (w.heap.push _)[w.heap.size]? = _; simp
 ·
  rw [Below.heap_alloc _ _ _ (Array.getElem?_eq_some_iff.1 h1).1]; exact h1
 ·
  unfold leftOf; unfold Ent at h2; simpa [List.filter_eq_self.2] using h2

theorem wpList_range_box {ops : Array Oper} {rest : List Oper} {o : Oper} {a : Act} {Q : Exit → Act → World → Prop}
  (hg : o.guard = none) (m : Operand) (t : TypeId) (hop : o.op = Op.range t m) (kt et : TypeId) (ht : P.underlying t = some (.map kt et)) (b : Nat) (l : List (ByteArray × Value)) (hm : a.eval m = .map (some b)) (hbox : MBox w b l)
  (hK : ∀ o', IBox (w.alloc o') w.heap.size b l l → wpList P ops Q rest (a.put o.dst (.pointer (some ⟨w.heap.size, 0, none⟩))) (w.alloc o')) : wpList P ops Q (o :: rest) a w := by
 refine wpList_plain hg fun K' hK' => ?_
 obtain ⟨o', hrun, h1⟩ := hbox.range ht
 unfold Oper.wp
 simp [execOp, hop, hm, hrun, Result.andThen]
 exact hK' _ _ (hK o' h1)

theorem left_step {es : Array MapEntry} {seen : Array Nat} {e : MapEntry} (hn : (es.toList.map (·.born)).Nodup) (he : e ∈ (leftOf es seen).toList) :
  ∃ p q, (leftOf es seen).toList = p ++ e :: q ∧ (leftOf es (seen.push e.born)).toList = p ++ q := by
 unfold leftOf at *
 rw [Array.toList_filter] at *
 rw [Array.toList_filter]
 have hn' : ((es.toList.filter (fun x => !seen.contains x.born)).map (·.born)).Nodup := hn.sublist (List.Sublist.map _ List.filter_sublist)
 have hf : es.toList.filter (fun x => !(seen.push e.born).contains x.born) = (es.toList.filter (fun x => !seen.contains x.born)).filter (fun x => !(x.born == e.born)) := by
  rw [List.filter_filter]
  apply List.filter_congr
  intro x _
  rw [Array.contains_push]
  cases seen.contains x.born <;> cases (x.born == e.born) <;> simp
 rw [hf]
 generalize es.toList.filter (fun x => !seen.contains x.born) = L at *
 obtain ⟨p, q, rfl⟩ := List.append_of_mem he
 refine ⟨p, q, rfl, ?_⟩
 rw [List.map_append, List.map_cons, List.nodup_append] at hn'
 obtain ⟨_, h2, h3⟩ := hn'
 rw [List.nodup_cons] at h2
 rw [List.filter_append, List.filter_cons]
 simp only [beq_self_eq_true, Bool.not_true, Bool.false_eq_true, if_false]
 congr 1
 ·
  rw [List.filter_eq_self]
  intro x hx
  have := h3 x.born (List.mem_map_of_mem hx) e.born (by simp)
  simpa using this
 ·
  rw [List.filter_eq_self]
  intro x hx
  have : x.born ≠ e.born := fun h => h2.1 (h ▸ List.mem_map_of_mem hx)
  simpa using this

theorem split_map {L : List MapEntry} {left : List (ByteArray × Value)} (h : L.map (fun e => (e.key, e.val)) = left.map (fun p => (Value.string p.1, p.2))) {p q : List MapEntry} {e : MapEntry} (hL : L = p ++ e :: q) :
  ∃ p' k v q', left = p' ++ (k, v) :: q' ∧ e.key = .string k ∧ e.val = v ∧ (p ++ q).map (fun e => (e.key, e.val)) = (p' ++ q').map (fun p => (Value.string p.1, p.2)) := by
 subst hL
 rw [List.map_append, List.map_cons] at h
 obtain ⟨p', r', hl, hp, hr⟩ := List.append_eq_map_iff.1 h
 obtain ⟨x, q', hr', hx, hq⟩ := List.map_eq_cons_iff.1 hr
 subst hl
 subst hr'
 simp only [Prod.mk.injEq] at hx
 exact ⟨p', x.1, x.2, q', rfl, hx.1.symm, hx.2.symm, by rw [List.map_append, List.map_append, hp, hq]⟩

/-- One step of the range. -/
theorem IBox.next (h : IBox w r b l left) (ty : TypeId) :
  (left = [] ∧ (Instr.next (.pointer (some ⟨r, 0, none⟩)) false ty).run P w = .ok (.tuple #[.bool false]) w) ∨
  ∃ p k v q w', left = p ++ (k, v) :: q ∧ (Instr.next (.pointer (some ⟨r, 0, none⟩)) false ty).run P w = .ok (.tuple #[.bool true, .string k, v]) w' ∧ IBox w' r b l (p ++ q) ∧
   (Instr.entry (.pointer (some ⟨r, 0, none⟩))).run P w' = .ok (.tuple #[.string k, v]) w' ∧ w.grownBy w' (some r) ∧ w'.heap.size = w.heap.size := by
 have hlt := h.lt
 obtain ⟨es, clock, seen, h1, h2, h3, h4, h5, h6⟩ := h
 rcases run_next_at (P := P) w ty r b clock clock seen es clock h1 h2 h4 (Nat.le_refl _) with ⟨g1, g2⟩ | ⟨e, he, w1, hw1, g2⟩
 ·
  refine .inl ⟨?_, g2⟩
  have : (leftOf es seen).toList = [] := by
   have : (leftOf es seen).toList.length = 0 := by simpa using g1
   exact List.eq_nil_of_length_eq_zero this
  rw [this] at h6
  simpa using h6.symm
 ·
  right
  obtain ⟨p, q, s1, s2⟩ := left_step h5 he
  obtain ⟨p', k, v, q', e1, e2, e3, e4⟩ := split_map h6 s1
  have hne : r ≠ b := by rintro rfl; rw [h1] at h2; cases h2
  have hheap : w1.heap = w.heap := by rcases hw1 with rfl | rfl <;> rfl
  have hr' : (ChangeMaps.setBlock w1 r (.mapIter (some b) clock (seen.push e.born) clock)).heap[r]? = some (.mapIter (some b) clock (seen.push e.born) clock) := by
   show (w1.heap.setIfInBounds r _)[r]? = _
   rw [hheap]; simp [hlt.1]
  have hb' : (ChangeMaps.setBlock w1 r (.mapIter (some b) clock (seen.push e.born) clock)).heap[b]? = some (.map es clock) := by
   show (w1.heap.setIfInBounds r _)[b]? = _
   rw [hheap, Array.getElem?_setIfInBounds_ne hne]; exact h2
  have hmem : e ∈ es.toList := by
   unfold leftOf at he; simp at he ⊢; exact he.1
  refine ⟨p', k, v, q', _, e1, by rw [g2, e2, e3], ⟨es, clock, seen.push e.born, hr', hb', h3, h4, h5, by rw [s2]; exact e4⟩, ?_, ?_, ?_⟩
  ·
   rw [run_entry_at _ r b clock seen es clock e hr' hb' hmem h5, e2, e3]
  ·
   refine ⟨?_, ?_, ?_, ?_, ?_⟩
   ·
    rcases hw1 with rfl | rfl <;> rfl
   ·
    rcases hw1 with rfl | rfl <;> rfl
   ·
    rcases hw1 with rfl | rfl <;> rfl
   ·
    show _ ≤ (w1.heap.setIfInBounds r _).size; rw [hheap]; simp
   ·
    intro j hj hjr
    show (w1.heap.setIfInBounds r _)[j]? = _
    rw [hheap, Array.getElem?_setIfInBounds_ne (fun h => hjr (by rw [h]))]
  ·
   show (w1.heap.setIfInBounds r _).size = _; rw [hheap]; simp

theorem wpList_next_box {ops : Array Oper} {rest : List Oper} {o : Oper} {a : Act} {Q : Exit → Act → World → Prop}
  (hg : o.guard = none) (it : Operand) (hop : o.op = Op.next it false) (r b : Nat) (l left : List (ByteArray × Value)) (hi : a.eval it = .pointer (some ⟨r, 0, none⟩)) (hbox : IBox w r b l left)
  (h0 : left = [] → wpList P ops Q rest (a.put o.dst (.tuple #[.bool false])) w)
  (h1 : ∀ p k v q w', left = p ++ (k, v) :: q → IBox w' r b l (p ++ q) → (Instr.entry (.pointer (some ⟨r, 0, none⟩))).run P w' = .ok (.tuple #[.string k, v]) w' → w.grownBy w' (some r) → w'.heap.size = w.heap.size → wpList P ops Q rest (a.put o.dst (.tuple #[.bool true, .string k, v])) w') :
  wpList P ops Q (o :: rest) a w := by
 refine wpList_plain hg fun K' hK' => ?_
 unfold Oper.wp
 rcases hbox.next (P := P) o.type with ⟨g1, g2⟩ | ⟨p, k, v, q, w', g1, g2, g3, g4, g5, g6⟩
 ·
  simp [execOp, hop, hi, g2, Result.andThen]
  exact hK' _ _ (h0 g1)
 ·
  simp [execOp, hop, hi, g2, Result.andThen]
  exact hK' _ _ (h1 p k v q w' g1 g3 g4 g5 g6)
end
end Go.Proofs.YtnocceilpnmbpaaGreatDoor
