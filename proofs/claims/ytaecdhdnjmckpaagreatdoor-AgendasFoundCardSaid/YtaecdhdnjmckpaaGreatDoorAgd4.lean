/- What a person hears at best: the program. -/
import Derived.Test.YtaecdhdnjmckpaaGreatDoorMap
import Derived.Maps.OwnSet
import Derived.Maps.RangeRun
import Derived.Deep.RegionHeld3
import Derived.Deep.AppendLies
import Derived.Test.YtaecdhdnjmckpaaGreatDoorIterI
import Derived.Test.YtaecdhdnjmckpaaGreatDoorBesd
import Derived.Test.YtaecdhdnjmckpaaGreatDoorAgd2
import Derived.Test.YtaecdhdnjmckpaaGreatDoorKeep
import Derived.Test.YtaecdhdnjmckpaaGreatDoorRegF
import Derived.Test.YtaecdhdnjmckpaaGreatDoorCost
namespace Go.Proofs.YtaecdhdnjmckpaaGreatDoor
open Go.RowKit Go.Sort
set_option linter.unusedVariables false
set_option linter.unusedSimpArgs false
/-- What a list of entries gives for a key. -/
def iget (l : List (Int × Value)) (k : Int) : Option Value :=
  match l with
  | [] => none
  | p :: r => if p.1 = k then some p.2 else iget r k
/-- A store into a list of entries. -/
def iput (l : List (Int × Value)) (k : Int) (v : Value) : List (Int × Value) :=
  match l with
  | [] => [(k, v)]
  | p :: r => if p.1 = k then (k, v) :: r else p :: iput r k v

theorem iget_iput (l : List (Int × Value)) (k k' : Int) (v : Value) : iget (iput l k v) k' = if k = k' then some v else iget l k' := by
  induction l with
  | nil => simp [iput, iget]
  | cons p r ih =>
    unfold iput
    by_cases h : p.1 = k
    · simp only [h, if_true, iget]
      by_cases h2 : k = k' <;> simp [h2]
    · simp only [h, if_false, iget, ih]
      by_cases h2 : k = k'
      · subst h2; simp [h]
      · simp [h2]

theorem iput_length (l : List (Int × Value)) (k : Int) (v : Value) : (iput l k v).length ≤ l.length + 1 := by
  induction l with
  | nil => simp [iput]
  | cons p r ih => unfold iput; split <;> simp <;> omega

/-- An array of entries is a list of keys and values. -/
def EntI (es : Array MapEntry) (l : List (Int × Value)) : Prop := es.toList.map (fun e => (e.key, e.val)) = l.map (fun p => (Value.int .i64 p.1, p.2))

/-- Block b is a map of int keys with these entries, in their order. -/
def IMp (w : World) (b : Nat) (l : List (Int × Value)) : Prop :=
  ∃ es clock, w.heap[b]? = some (.map es clock) ∧ EntI es l ∧ (∀ e ∈ es.toList, e.born < clock) ∧ (es.toList.map (·.born)).Nodup

section
variable {w w' : World} {b : Nat} {l : List (Int × Value)}
theorem IMp.lt (h : IMp w b l) : b < w.heap.size := by
  obtain ⟨es, c, h1, _⟩ := h; exact (Array.getElem?_eq_some_iff.1 h1).1
theorem IMp.same (h : IMp w b l) (k : w'.heap[b]? = w.heap[b]?) : IMp w' b l := by
  obtain ⟨es, c, h1, h2⟩ := h; exact ⟨es, c, k.trans h1, h2⟩
theorem IMp.new (w : World) : IMp (w.alloc (.map #[] 0)) w.heap.size [] :=
  ⟨#[], 0, by show (w.heap.push _)[w.heap.size]? = _; simp, rfl, by simp, by simp⟩
theorem IMp.alloc (h : IMp w b l) (o : Obj) : IMp (w.alloc o) b l := h.same (Below.heap_alloc _ _ _ h.lt)
theorem IMp.drewN (h : IMp w b l) (n : Nat) : IMp (w.drewN n) b l := h
theorem IMp.drew (h : IMp w b l) : IMp w.drew b l := h
theorem IMp.below (h : IMp w b l) (k : Below w.heap.size w w') : IMp w' b l := h.same (k.block _ h.lt)
theorem IMp.setOther (h : IMp w b l) {p : Addr} (hp : p.block ≠ b) (v : Value) : IMp (w.setCell p v) b l := h.same (Below.heap_setCell _ _ _ _ (Ne.symm hp))
theorem IMp.grown {row : Option Nat} (h : IMp w b l) (k : w.grownBy w' row) (hne : some b ≠ row) : IMp w' b l := h.same (k.block _ h.lt hne)
end

theorem findNowI_get (k : Int) : ∀ (es : List MapEntry) (l : List (Int × Value)) (i : Nat), es.map (fun e => (e.key, e.val)) = l.map (fun p => (Value.int .i64 p.1, p.2)) →
    ∃ r, Instr.findNow (.int .i64) (.int .i64 k) es i = some r ∧ r.map (·.2) = iget l k ∧ (∀ j v, r = some (j, v) → i ≤ j ∧ ∃ e, es[j - i]? = some e ∧ e.key = .int .i64 k)
      ∧ (r = none → iput l k = fun v => l ++ [(k, v)])
      ∧ (∀ j v, r = some (j, v) → ∀ u, (es.modify (j - i) (fun e => { e with key := .int .i64 k, val := u })).map (fun e => (e.key, e.val)) = (iput l k u).map (fun p => (Value.int .i64 p.1, p.2)) ∧ (es.modify (j - i) (fun e => { e with key := .int .i64 k, val := u })).map (·.born) = es.map (·.born))
  | [], [], i, _ => ⟨none, rfl, rfl, by simp, by intro _; funext v; rfl, by simp⟩
  | [], p :: l, i, h => by simp at h
  | e :: es, [], i, h => by simp at h
  | e :: es, p :: l, i, h => by
    simp only [List.map_cons, List.cons.injEq, Prod.mk.injEq] at h
    obtain ⟨⟨h1, h2⟩, h3⟩ := h
    by_cases hk : p.1 = k
    · refine ⟨some (i, e.val), ?_, ?_, ?_, by simp, ?_⟩
      · simp [Instr.findNow, Instr.sameNow, h1, hk]
      · simp [iget, hk, h2]
      · rintro j v hj
        cases hj
        exact ⟨Nat.le_refl _, e, by simp, by rw [h1, hk]⟩
      · rintro j v hj u
        cases hj
        simp [iput, hk, h3]
    · obtain ⟨r, q1, q2, q3, q4, q5⟩ := findNowI_get k es l (i + 1) h3
      have hk' : (k == p.1) = false := by rw [beq_eq_false_iff_ne]; exact fun h => hk h.symm
      refine ⟨r, ?_, ?_, ?_, ?_, ?_⟩
      · simp [Instr.findNow, Instr.sameNow, h1, hk', q1]
      · simp [iget, hk, q2]
      · intro j v hj
        obtain ⟨a1, e', a2, a3⟩ := q3 j v hj
        exact ⟨by omega, e', by rw [show j - i = (j - (i + 1)) + 1 from by omega]; simpa using a2, a3⟩
      · intro hr
        funext v
        simp [iput, hk, q4 hr]
      · intro j v hj u
        obtain ⟨a1, _⟩ := q3 j v hj
        obtain ⟨b1, b2⟩ := q5 j v hj u
        rw [show j - i = (j - (i + 1)) + 1 from by omega]
        simp [iput, hk, h1, h2, b1, b2]

section
variable {P : Program} {w : World} {b : Nat} {l : List (Int × Value)} {t kt et : TypeId}

/-- What a look-up gives. -/
def ilooked (l : List (Int × Value)) (k : Int) (z : Value) (c : Bool) : Value :=
  if c then .tuple #[(iget l k).getD z, .bool (iget l k).isSome] else (iget l k).getD z

theorem IMp.look (h : IMp w b l) (ht : P.underlying t = some (.map kt et)) (hk : P.underlying kt = some (.int .i64)) (z : Value) (hz : ∀ w, (zeroValue et).run P w = .ok z w) (k : Int) (c : Bool) :
    (Instr.lookup t (.map (some b)) (.int .i64 k) c).run P w = .ok (ilooked l k z c) w := by
  obtain ⟨es, clock, h1, h2, _⟩ := h
  obtain ⟨r, q1, q2, _⟩ := findNowI_get k es.toList l 0 h2
  have hkey : MapKept.IsKey (.int .i64) (.int .i64 k) := rfl
  unfold ilooked
  cases r with
  | none =>
    simp at q2
    cases c <;> simp [Instr.lookup, run_underlying ht, MapKept.run_getObj_map h1, MapKept.run_checkKey hk hkey, MapKept.run_findKey hk q1, hz, Result.andThen, ← q2]
  | some x =>
    simp at q2
    cases c <;> simp [Instr.lookup, run_underlying ht, MapKept.run_getObj_map h1, MapKept.run_checkKey hk hkey, MapKept.run_findKey hk q1, Result.andThen, ← q2]

theorem nil_lookI (ht : P.underlying t = some (.map kt et)) (hk : P.underlying kt = some (.int .i64)) (z : Value) (hz : ∀ w, (zeroValue et).run P w = .ok z w) (k : Int) (c : Bool) (w : World) :
    (Instr.lookup t (.map none) (.int .i64 k) c).run P w = .ok (ilooked [] k z c) w := by
  have hkey : MapKept.IsKey (.int .i64) (.int .i64 k) := rfl
  have q1 : Instr.findNow (.int .i64) (.int .i64 k) (#[] : Array MapEntry).toList 0 = some none := rfl
  unfold ilooked
  cases c <;> simp [Instr.lookup, run_underlying ht, MapKept.run_checkKey hk hkey, MapKept.run_findKey hk q1, hz, Result.andThen, iget]

/-- A store: the map holds it; nothing else has turned. -/
theorem IMp.store (h : IMp w b l) (ht : P.underlying t = some (.map kt et)) (hk : P.underlying kt = some (.int .i64)) (k : Int) (v : Value) :
    ∃ w', (Instr.mapUpdate t (.map (some b)) (.int .i64 k) v).run P w = .ok () w' ∧ IMp w' b (iput l k v) ∧ w.grownBy w' (some b) ∧ w'.heap.size = w.heap.size := by
  obtain ⟨es, clock, h1, h2, h3, h4⟩ := h
  have hlt : b < w.heap.size := (Array.getElem?_eq_some_iff.1 h1).1
  obtain ⟨r, q1, q2, q3, q4, q5⟩ := findNowI_get k es.toList l 0 h2
  have hkey : MapKept.IsKey (.int .i64) (.int .i64 k) := rfl
  cases r with
  | none =>
    refine ⟨{ w with heap := w.heap.setIfInBounds b (.map (es.push { key := .int .i64 k, val := v, born := clock }) (clock + 1)) }, ?_, ?_, grown_setBlock _, by simp⟩
    · simp [Instr.mapUpdate, run_underlying ht, MapKept.run_getObj_map h1, MapKept.run_checkKey hk hkey, MapKept.run_findKey hk q1, MapKept.run_setObj_map _ h1, Result.andThen]
    · refine ⟨es.push { key := .int .i64 k, val := v, born := clock }, clock + 1, by simp [hlt], ?_, ?_, ?_⟩
      · have := congrFun (q4 rfl) v
        unfold EntI at *
        simp [this, h2]
      · intro e he
        simp at he
        rcases he with he | rfl
        · have := h3 e (by simpa using he); omega
        · simp
      · simp only [Array.toList_push, List.map_append, List.map_cons, List.map_nil]
        rw [List.nodup_append]
        refine ⟨h4, by simp, ?_⟩
        intro a ha c hc
        simp at hc
        obtain ⟨e, he, rfl⟩ := List.mem_map.1 ha
        have := h3 e he
        omega
  | some x =>
    obtain ⟨j, u⟩ := x
    obtain ⟨_, e0, hj, hek⟩ := q3 j u rfl
    obtain ⟨q5a, q5b⟩ := q5 j u rfl v
    simp only [Nat.sub_zero] at hj q5a q5b
    have hj' : es[j]? = some e0 := by simpa using hj
    refine ⟨{ w with heap := w.heap.setIfInBounds b (.map (es.modify j (fun e => { e with key := .int .i64 k, val := v })) clock) }, ?_, ?_, grown_setBlock _, by simp⟩
    · simp [Instr.mapUpdate, run_underlying ht, MapKept.run_getObj_map h1, MapKept.run_checkKey hk hkey, MapKept.run_findKey hk q1, hj', hek, MapKept.run_keyThatStays hkey, MapKept.run_setObj_map _ h1, Result.andThen]
    · refine ⟨_, clock, by simp only [Array.getElem?_setIfInBounds_self, hlt, if_true]; rfl, ?_, ?_, ?_⟩
      · unfold EntI; rw [Array.toList_modify]; exact q5a
      · intro e he
        have hm : e.born ∈ (es.modify j (fun e => { e with key := .int .i64 k, val := v })).toList.map (·.born) := List.mem_map_of_mem he
        rw [Array.toList_modify, q5b] at hm
        obtain ⟨e', he', hb'⟩ := List.mem_map.1 hm
        rw [← hb']
        exact h3 e' he'
      · rw [Array.toList_modify, q5b]; exact h4

/-- A store, for the walk. -/
theorem wpList_mapUpdate_imp {ops : Array Oper} {rest : List Oper} {o : Oper} {a : Act} {Q : Exit → Act → World → Prop}
    (hg : o.guard = none) (m x y : Operand) (t : TypeId) (hop : o.op = Op.mapUpdate t m x y) (kt et : TypeId) (ht : P.underlying t = some (.map kt et)) (hk : P.underlying kt = some (.int .i64))
    (b : Nat) (l : List (Int × Value)) (hm : a.eval m = .map (some b)) (hbox : IMp w b l) (k : Int) (hx : a.eval x = .int .i64 k) (v : Value) (hv : a.eval y = v)
    (hK : ∀ w', IMp w' b (iput l k v) → w.grownBy w' (some b) → w'.heap.size = w.heap.size → wpList P ops Q rest (a.put o.dst undef) w') :
    wpList P ops Q (o :: rest) a w := by
  refine wpList_plain hg fun K' hK' => ?_
  obtain ⟨w', hrun, r1, r2, r3⟩ := hbox.store ht hk k v
  unfold Oper.wp
  simp [execOp, hop, hm, hx, hv, hrun, Result.andThen]
  exact hK' _ _ (hK w' r1 r2 r3)

/-- A store in a region that draws its order. -/
theorem step_mapUpdate_imp {ops : Array Oper} {o : Oper} {a : Act} {K : Act → World → Prop} {Q : Exit → Act → World → Prop} {E : Prop} (hgd : o.guard = none)
    (m x y : Operand) (t : TypeId) (hop : o.op = Op.mapUpdate t m x y) (kt et : TypeId) (ht : P.underlying t = some (.map kt et)) (hk : P.underlying kt = some (.int .i64))
    (b : Nat) (l : List (Int × Value)) (hm : a.eval m = .map (some b)) (hbox : IMp w b l) (k : Int) (hx : a.eval x = .int .i64 k) (v : Value) (hv : a.eval y = v)
    (hK : ∀ w', IMp w' b (iput l k v) → w.grownBy w' (some b) → w'.heap.size = w.heap.size → K (a.put o.dst undef) w') :
    if Region.wanted o (yielded ops a.tmps) = true then Oper.wp P o a w K Q else E := by
  have hw : Region.wanted o (yielded ops a.tmps) = true := by simp [Region.wanted, hgd]
  rw [if_pos hw]
  obtain ⟨w', hrun, r1, r2, r3⟩ := hbox.store ht hk k v
  unfold Oper.wp
  simp [execOp, hop, hm, hx, hv, hrun, Result.andThen]
  exact hK w' r1 r2 r3
end
/-- How a map with int keys is read: its elements are not looked at. -/
theorem IMp.owns {w : World} {b : Nat} {es : List (Int × Value)} (h : IMp w b es) (hn : (es.map (·.1)).Nodup) (hs : ∀ x ∈ es, (Lit.int .i64 x.1).wf = true) (hl : es.length ≤ 1000000000) :
    ∃ D : DataW Unit, w.ownsMap Tryz.prog 3 (fun _ => some (.lit (.bool true), [])) b es.length D ∧ Maps.size D = es.length ∧ (intKeys D).Perm (es.map (·.1)) := by
  obtain ⟨ar, clock, h1, h2, h3, h4⟩ := h
  unfold EntI at h2
  have hlen : ar.size = es.length := by have := congrArg List.length h2; simpa using this
  have hkeys : ar.toList.map (·.key) = es.map (fun p => Value.int .i64 p.1) := by
    have := congrArg (List.map Prod.fst) h2
    simpa [List.map_map, Function.comp_def] using this
  have hrd : ∀ x ∈ ar.toList, ∃ s : Int, s ∈ es.map (·.1) ∧ x.key = .int .i64 s ∧ WideElems.rd (H := Unit) Tryz.prog 3 (fun _ => some (.lit (.bool true), [])) x = some (.int .i64 s, .lit (.bool true)) := by
    intro x hx
    have hk : x.key ∈ es.map (fun p => Value.int .i64 p.1) := by rw [← hkeys]; exact List.mem_map_of_mem hx
    obtain ⟨p, hp, hpk⟩ := List.mem_map.1 hk
    refine ⟨p.1, List.mem_map_of_mem hp, hpk.symm, ?_⟩
    unfold WideElems.rd
    rw [← hpk, Maps.keyOf_int_mk Tryz.underlying3 (hs p hp)]
    rfl
  have hF : WideElems.Fit (H := Unit) Tryz.prog 3 (fun _ => some (.lit (.bool true), [])) ar clock := by
    refine ⟨by unfold maxLen; omega, ⟨h3, h4, ?_⟩, fun x hx => ?_⟩
    · rw [hkeys]
      have : (es.map (fun p => Value.int .i64 p.1)) = (es.map (·.1)).map (Value.int .i64) := by rw [List.map_map]; rfl
      rw [this]
      refine List.pairwise_map.2 (hn.imp fun {a b} h e => h ?_)
      cases e; rfl
    · obtain ⟨s, _, _, h⟩ := hrd x hx; exact ⟨_, h⟩
  refine ⟨_, ⟨ar, clock, h1, hF, by omega, rfl⟩, ?_, ?_⟩
  · show (List.foldr DataW.insert [] _).length = _
    rw [length_sorted, List.length_map, Array.length_toList, hlen]
  · show (List.map (fun p => Go.intOf p.1) (List.foldr DataW.insert [] _)).Perm _
    refine ((WideShapes.sorted_perm _).map _).trans ?_
    rw [List.map_map]
    have e : ar.toList.map ((fun p : Lit × DataW Unit => Go.intOf p.1) ∘ WideElems.rg Tryz.prog 3 (fun _ => some (.lit (.bool true), []))) = es.map (·.1) := by
      have h5 : ar.toList.map ((fun p : Lit × DataW Unit => Go.intOf p.1) ∘ WideElems.rg Tryz.prog 3 (fun _ => some (.lit (.bool true), []))) = (ar.toList.map (·.key)).map (fun k => match k with | .int _ s => s | _ => 0) := by
        rw [List.map_map]
        apply List.map_congr_left
        intro x hx
        obtain ⟨s, _, hk, hr⟩ := hrd x hx
        simp only [Function.comp, WideElems.rg, hr, hk]
        rfl
      rw [h5, hkeys, List.map_map]
      rfl
    rw [e]
end Go.Proofs.YtaecdhdnjmckpaaGreatDoor
namespace Go.Proofs.YtaecdhdnjmckpaaGreatDoor
open Go.RowKit Go.Sort
set_option linter.unusedVariables false
set_option linter.unusedSimpArgs false
/-- The session that has a paper. -/
def sIx (p : List Ses) (x : ByteArray) : Nat := p.findIdx (fun s => inB s.papers x)
theorem sIx_of {p : List Ses} {x : ByteArray} (h : inP p x = true) : ∃ hi : sIx p x < p.length, inB p[sIx p x].papers x = true := by
  unfold inP at h
  obtain ⟨s, hs, hx⟩ := List.any_eq_true.1 h
  have hi : sIx p x < p.length := List.findIdx_lt_length_of_exists ⟨s, hs, hx⟩
  exact ⟨hi, List.findIdx_getElem (w := hi)⟩
theorem inP_of {p : List Ses} {x : ByteArray} {i : Nat} (hi : i < p.length) (h : inB p[i].papers x = true) : inP p x = true := List.any_eq_true.2 ⟨_, List.getElem_mem hi, h⟩
theorem sIx_eq {g : Grd} {p : List Ses} (h : firstErr (sesE g p) p.length = 0) {x : ByteArray} {i : Nat} (hi : i < p.length) (hx : inB p[i].papers x = true) : sIx p x = i := by
  obtain ⟨hj, hxj⟩ := sIx_of (inP_of hi hx)
  exact uniq_paper h hj hi hxj hx
theorem sesAt_ix {g : Grd} {p : List Ses} (h : firstErr (sesE g p) p.length = 0) {x : ByteArray} (hx : inP p x = true) : sesAtV p x = .int .i64 (sIx p x : Nat) := by
  obtain ⟨v, hv⟩ := Option.isSome_iff_exists.1 ((sesM_has p x).trans hx)
  obtain ⟨i, hi, rfl, hxi⟩ := sesM_some hv
  unfold sesAtV
  rw [hv, sIx_eq h hi hxi]
  rfl
/-- The sessions of the first wishes, as they come up. -/
def wkTo (p : List Ses) (wish : List ByteArray) : Nat → List Nat
  | 0 => []
  | j + 1 => match wish[j]? with
    | none => wkTo p wish j
    | some x => if inP p x = true then (if sIx p x ∈ wkTo p wish j then wkTo p wish j else wkTo p wish j ++ [sIx p x]) else wkTo p wish j
/-- The first wishes that session k has. -/
def wlTo (p : List Ses) (wish : List ByteArray) (j k : Nat) : List ByteArray := (wish.take j).filter (fun x => inP p x && decide (sIx p x = k))
theorem wkTo_succ {p : List Ses} {wish : List ByteArray} {j : Nat} (h : j < wish.length) : wkTo p wish (j + 1) = if inP p wish[j] = true then (if sIx p wish[j] ∈ wkTo p wish j then wkTo p wish j else wkTo p wish j ++ [sIx p wish[j]]) else wkTo p wish j := by
  show (match wish[j]? with | none => wkTo p wish j | some x => if inP p x = true then (if sIx p x ∈ wkTo p wish j then wkTo p wish j else wkTo p wish j ++ [sIx p x]) else wkTo p wish j) = _
  rw [List.getElem?_eq_getElem h]
theorem wlTo_succ {p : List Ses} {wish : List ByteArray} {j : Nat} (h : j < wish.length) (k : Nat) : wlTo p wish (j + 1) k = wlTo p wish j k ++ if (inP p wish[j] && decide (sIx p wish[j] = k)) = true then [wish[j]] else [] := by
  unfold wlTo
  rw [List.take_succ_eq_append_getElem h, List.filter_append, List.filter_cons, List.filter_nil]
theorem wkTo_nd (p : List Ses) (wish : List ByteArray) : ∀ j, (wkTo p wish j).Nodup
  | 0 => List.nodup_nil
  | j + 1 => by
    have ih := wkTo_nd p wish j
    show (match wish[j]? with | none => wkTo p wish j | some x => if inP p x = true then (if sIx p x ∈ wkTo p wish j then wkTo p wish j else wkTo p wish j ++ [sIx p x]) else wkTo p wish j).Nodup
    split
    · exact ih
    · split
      · split
        · exact ih
        · next hm =>
          rw [List.nodup_append]
          exact ⟨ih, by simp, fun a ha b hb => by rw [List.mem_singleton.1 hb]; exact fun e => hm (e ▸ ha)⟩
      · exact ih
theorem wkTo_mem {p : List Ses} {wish : List ByteArray} {k : Nat} : ∀ j, j ≤ wish.length → (k ∈ wkTo p wish j ↔ ∃ x ∈ wish.take j, inP p x = true ∧ sIx p x = k)
  | 0, _ => by simp [wkTo]
  | j + 1, h => by
    have ih := wkTo_mem (p := p) (wish := wish) (k := k) j (by omega)
    have hj : j < wish.length := by omega
    rw [wkTo_succ hj, List.take_succ_eq_append_getElem hj]
    have key : (∃ x ∈ wish.take j ++ [wish[j]], inP p x = true ∧ sIx p x = k) ↔ (∃ x ∈ wish.take j, inP p x = true ∧ sIx p x = k) ∨ (inP p wish[j] = true ∧ sIx p wish[j] = k) := by
      constructor
      · rintro ⟨x, hx, h1⟩
        rcases List.mem_append.1 hx with hx | hx
        · exact .inl ⟨x, hx, h1⟩
        · rw [List.mem_singleton.1 hx] at h1; exact .inr h1
      · rintro (⟨x, hx, h1⟩ | h1)
        · exact ⟨x, List.mem_append.2 (.inl hx), h1⟩
        · exact ⟨_, List.mem_append.2 (.inr (List.mem_singleton.2 rfl)), h1⟩
    rw [key, ← ih]
    split
    · next hp =>
      split
      · next hm =>
        constructor
        · exact .inl
        · rintro (h1 | ⟨_, rfl⟩)
          · exact h1
          · exact hm
      · rw [List.mem_append, List.mem_singleton]
        constructor
        · rintro (h1 | rfl)
          · exact .inl h1
          · exact .inr ⟨hp, rfl⟩
        · rintro (h1 | ⟨_, rfl⟩)
          · exact .inl h1
          · exact .inr rfl
    · next hp =>
      constructor
      · exact .inl
      · rintro (h1 | ⟨h1, _⟩)
        · exact h1
        · exact absurd h1 hp
theorem wkTo_lt {p : List Ses} {wish : List ByteArray} {k j : Nat} (hj : j ≤ wish.length) (h : k ∈ wkTo p wish j) : k < p.length := by
  obtain ⟨x, _, h1, rfl⟩ := (wkTo_mem j hj).1 h
  exact (sIx_of h1).1
theorem mem_inB {l : List ByteArray} {x : ByteArray} : inB l x = true ↔ x ∈ l := by
  unfold inB
  rw [List.any_eq_true]
  exact ⟨fun ⟨y, hy, e⟩ => by rw [← of_decide_eq_true e]; exact hy, fun h => ⟨x, h, decide_eq_true rfl⟩⟩
theorem wk_some {g : Grd} {p : List Ses} (h : firstErr (sesE g p) p.length = 0) (wish : List ByteArray) (k : Nat) : k ∈ wkTo p wish wish.length ↔ k ∈ someL wish p := by
  rw [wkTo_mem _ (Nat.le_refl _), List.take_length]
  unfold someL
  rw [List.mem_filter, List.mem_range]
  constructor
  · rintro ⟨x, hx, h1, rfl⟩
    obtain ⟨hi, h2⟩ := sIx_of h1
    refine ⟨hi, ?_⟩
    rw [List.getElem?_eq_getElem hi]
    exact List.any_eq_true.2 ⟨x, hx, h2⟩
  · rintro ⟨hk, h1⟩
    rw [List.getElem?_eq_getElem hk] at h1
    obtain ⟨x, hx, h2⟩ := List.any_eq_true.1 h1
    exact ⟨x, hx, inP_of hk h2, sIx_eq h hk h2⟩
theorem someL_sorted (wish : List ByteArray) (p : List Ses) : (someL wish p).Pairwise (· < ·) := List.pairwise_lt_range.filter _
theorem wk_perm {g : Grd} {p : List Ses} (h : firstErr (sesE g p) p.length = 0) (wish : List ByteArray) : (wkTo p wish wish.length).Perm (someL wish p) :=
  (List.perm_ext_iff_of_nodup (wkTo_nd _ _ _) ((someL_sorted wish p).imp (fun h => Nat.ne_of_lt h))).2 (fun k => wk_some h wish k)
theorem wl_all {g : Grd} {p : List Ses} (h : firstErr (sesE g p) p.length = 0) (wish : List ByteArray) {k : Nat} (hk : k < p.length) : wlTo p wish wish.length k = wishIn wish p[k] := by
  unfold wlTo wishIn
  rw [List.take_length]
  refine List.filter_congr (fun x _ => ?_)
  cases hin : inB p[k].papers x
  · rw [Bool.and_eq_false_iff]
    by_cases hp : inP p x = true
    · right
      obtain ⟨hi, h2⟩ := sIx_of hp
      refine decide_eq_false (fun e => ?_)
      subst e
      rw [hin] at h2
      cases h2
    · left; simpa using hp
  · rw [inP_of hk hin, sIx_eq h hk hin]
    simp
/-- Ints that are these numbers, sorted, are the numbers as they are sorted. -/
theorem sorted_ints {l : List Nat} {ss : List Int} (hl : l.Pairwise (· < ·)) (hp : ss.Perm (l.map (fun n : Nat => (n : Int)))) : ss.mergeSort (fun x y => decide (x ≤ y)) = l.map (fun n : Nat => (n : Int)) := by
  have h1 : (ss.mergeSort (fun x y => decide (x ≤ y))).Pairwise (fun a b => a ≤ b) := by
    have := List.pairwise_mergeSort (le := fun x y : Int => decide (x ≤ y)) (fun a b c h1 h2 => by simp at *; omega) (fun a b => by simp; omega) ss
    exact this.imp (fun h => by simpa using h)
  have h2 : (l.map (fun n : Nat => (n : Int))).Pairwise (fun a b => a ≤ b) := List.pairwise_map.2 (hl.imp (fun h => by omega))
  exact List.Perm.eq_of_pairwise (fun a b _ _ h3 h4 => by omega) h1 h2 ((List.mergeSort_perm _ _).trans hp)
/-- A map from sessions to their wishes: every list in a block of its own. -/
structure WMp (base : Nat) (w : World) (b : Nat) (K : List Nat) (V : Nat → Value) (L : Nat → List ByteArray) : Prop where
  map : IMp w b (K.map (fun k : Nat => ((k : Int), V k)))
  low : b < base
  own : ∀ k ∈ K, Own base 9 w (V k) (L k)
  far : ∀ k ∈ K, ∀ m ∈ K, k ≠ m → ∀ j, (V k).ownBlock = some j → (V m).ownBlock ≠ some j
theorem iget_none {K : List Nat} {V : Nat → Value} {k : Nat} (h : k ∉ K) : iget (K.map (fun k : Nat => ((k : Int), V k))) k = none := by
  induction K with
  | nil => rfl
  | cons a r ih =>
    rw [List.map_cons]
    unfold iget
    rw [if_neg (fun e => h (by have e2 : (a : Int) = (k : Int) := e
                               have : a = k := by omega
                               rw [this]; exact List.mem_cons_self))]
    exact ih (fun hm => h (List.mem_cons_of_mem _ hm))
theorem iget_some {K : List Nat} {V : Nat → Value} {k : Nat} (h : k ∈ K) : iget (K.map (fun k : Nat => ((k : Int), V k))) k = some (V k) := by
  induction K with
  | nil => cases h
  | cons a r ih =>
    rw [List.map_cons]
    unfold iget
    by_cases e : a = k
    · subst e; rw [if_pos rfl]
    · rw [if_neg (fun e2 => e (by have e3 : (a : Int) = (k : Int) := e2; omega))]
      exact ih ((List.mem_cons.1 h).resolve_left (fun h => e h.symm))
theorem iput_new {K : List Nat} {V : Nat → Value} {k : Nat} (h : k ∉ K) (v : Value) : iput (K.map (fun k : Nat => ((k : Int), V k))) k v = K.map (fun k : Nat => ((k : Int), V k)) ++ [((k : Int), v)] := by
  induction K with
  | nil => rfl
  | cons a r ih =>
    rw [List.map_cons]
    unfold iput
    rw [if_neg (fun e => h (by have e2 : (a : Int) = (k : Int) := e
                               have : a = k := by omega
                               rw [this]; exact List.mem_cons_self)), ih (fun hm => h (List.mem_cons_of_mem _ hm))]
    rfl
def upd1 {α : Type} (f : Nat → α) (k : Nat) (v : α) (m : Nat) : α := if m = k then v else f m
theorem iput_old {K : List Nat} (hn : K.Nodup) {V : Nat → Value} {k : Nat} (h : k ∈ K) (v : Value) : iput (K.map (fun k : Nat => ((k : Int), V k))) k v = K.map (fun m : Nat => ((m : Int), upd1 V k v m)) := by
  induction K with
  | nil => cases h
  | cons a r ih =>
    rw [List.map_cons, List.map_cons]
    unfold iput
    obtain ⟨hn1, hn2⟩ := List.nodup_cons.1 hn
    by_cases e : a = k
    · subst e
      rw [if_pos rfl]
      unfold upd1
      rw [if_pos rfl]
      congr 1
      refine List.map_congr_left (fun m hm => ?_)
      rw [if_neg (show ¬ m = a from fun e => hn1 (by rw [← e]; exact hm))]
    · rw [if_neg (fun e2 => e (by have e3 : (a : Int) = (k : Int) := e2; omega)), ih hn2 ((List.mem_cons.1 h).resolve_left (fun h => e h.symm))]
      unfold upd1
      rw [if_neg e]
theorem map_upd_new {K : List Nat} {V : Nat → Value} {k : Nat} (h : k ∉ K) (v : Value) : K.map (fun k : Nat => ((k : Int), V k)) ++ [((k : Int), v)] = (K ++ [k]).map (fun m : Nat => ((m : Int), upd1 V k v m)) := by
  rw [List.map_append]
  unfold upd1
  congr 1
  · refine List.map_congr_left (fun m hm => ?_)
    rw [if_neg (show ¬ m = k from fun e => h (by rw [← e]; exact hm))]
  · rw [List.map_cons, List.map_nil, if_pos rfl]
def keyAdd (K : List Nat) (k : Nat) : List Nat := if k ∈ K then K else K ++ [k]
theorem iput_add {K : List Nat} (hn : K.Nodup) (V : Nat → Value) (k : Nat) (v : Value) : iput (K.map (fun k : Nat => ((k : Int), V k))) k v = (keyAdd K k).map (fun m : Nat => ((m : Int), upd1 V k v m)) := by
  unfold keyAdd
  by_cases h : k ∈ K
  · rw [if_pos h, iput_old hn h]
  · rw [if_neg h, iput_new h, map_upd_new h]
theorem keyAdd_mem {K : List Nat} {k m : Nat} : m ∈ keyAdd K k ↔ m ∈ K ∨ m = k := by
  unfold keyAdd
  split
  · next h => exact ⟨.inl, fun h1 => h1.elim id (fun e => by rw [e]; exact h)⟩
  · rw [List.mem_append, List.mem_singleton]
/-- What is looked up: the list, or nothing. -/
def wmAt (K : List Nat) (V : Nat → Value) (k : Nat) : Value := if k ∈ K then V k else .slice none 0 0
theorem WMp.at {base : Nat} {w : World} {b : Nat} {K : List Nat} {V : Nat → Value} {L : Nat → List ByteArray} (h : WMp base w b K V L) (k : Nat) (hL : k ∉ K → L k = []) : Own base 9 w (wmAt K V k) (L k) := by
  unfold wmAt
  split
  · next hk => exact h.own k hk
  · next hk => rw [hL hk]; exact Own.nil _ _ _
theorem WMp.below {base : Nat} {w w' : World} {b : Nat} {K : List Nat} {V : Nat → Value} {L : Nat → List ByteArray} (h : WMp base w b K V L) (k : Below w.heap.size w w') : WMp base w' b K V L :=
  ⟨h.map.below k, h.low, fun k' hk => (h.own k' hk).below k, h.far⟩
theorem WMp.lookV {base : Nat} {w : World} {b : Nat} {K : List Nat} {V : Nat → Value} {L : Nat → List ByteArray} (h : WMp base w b K V L) (k : Nat) : (iget (K.map (fun k : Nat => ((k : Int), V k))) k).getD (.slice none 0 0) = wmAt K V k := by
  unfold wmAt
  by_cases hk : k ∈ K
  · rw [iget_some hk, if_pos hk]; rfl
  · rw [iget_none hk, if_neg hk]; rfl
/-- A list has grown, then the map was told. -/
theorem WMp.add {base : Nat} {w w1 w2 : World} {b : Nat} {K : List Nat} {V : Nat → Value} {L : Nat → List ByteArray} (h : WMp base w b K V L) (hn : K.Nodup) (hbase : base ≤ w.heap.size) {k g n cap : Nat} {l : List ByteArray}
    (h1 : Own base 9 w1 (.slice (some ⟨g, 0, none⟩) n cap) l) (hg : w.grownBy w1 (wmAt K V k).ownBlock) (hat : (wmAt K V k).ownBlock = some g ∨ w.heap.size ≤ g)
    (hM : IMp w2 b (iput (K.map (fun k : Nat => ((k : Int), V k))) k (.slice (some ⟨g, 0, none⟩) n cap))) (hg2 : w1.grownBy w2 (some b)) :
    WMp base w2 b (keyAdd K k) (upd1 V k (.slice (some ⟨g, 0, none⟩) n cap)) (upd1 L k l) := by
  have hfar : ∀ m ∈ K, m ≠ k → ∀ j, (V m).ownBlock = some j → j ≠ g ∧ (wmAt K V k).ownBlock ≠ some j := by
    intro m hm hmk j hj
    have hlt := (h.own m hm).lt j hj
    have h3 : (wmAt K V k).ownBlock ≠ some j := by
      unfold wmAt
      split
      · next hk => exact h.far m hm k hk hmk j hj
      · intro e; cases e
    refine ⟨?_, h3⟩
    rintro rfl
    rcases hat with e | e
    · exact h3 e
    · omega
  refine ⟨by rw [← iput_add hn]; exact hM, h.low, ?_, ?_⟩
  · intro m hm
    unfold upd1
    by_cases e : m = k
    · rw [if_pos e, if_pos e]
      exact h1.same (fun j hj => hg2.block j (h1.lt j hj).2 (fun e => by have := (h1.lt j hj).1; have := h.low; cases e; omega))
    · rw [if_neg e, if_neg e]
      have hmK := (keyAdd_mem.1 hm).resolve_right e
      have ho := h.own m hmK
      refine ho.same (fun j hj => ?_)
      have hlt := ho.lt j hj
      rw [hg2.block j (by have := hg.size; omega) (fun e => by have := h.low; cases e; omega), hg.block j hlt.2 (fun e => (hfar m hmK (by assumption) j hj).2 e.symm)]
  · intro m hm n' hn' hmn j hj
    unfold upd1 at hj ⊢
    by_cases e : m = k
    · rw [if_pos e] at hj
      cases hj
      rw [if_neg (fun e2 => hmn (e.trans e2.symm))]
      intro h9
      have e2 : n' ≠ k := fun e2 => hmn (e.trans e2.symm)
      exact (hfar n' ((keyAdd_mem.1 hn').resolve_right e2) e2 _ h9).1 rfl
    · rw [if_neg e] at hj
      have hmK := (keyAdd_mem.1 hm).resolve_right e
      by_cases e2 : n' = k
      · rw [if_pos e2]
        intro h9
        cases h9
        exact (hfar m hmK e _ hj).1 rfl
      · rw [if_neg e2]
        exact h.far m hmK n' ((keyAdd_mem.1 hn').resolve_right e2) hmn j hj
/-! That both ways of counting and listing are the same. -/
theorem wish_nd {g : Grd} (h : gridFault g = 0) {x : Wsh} (hx : x ∈ g.wishes) : x.papers.Nodup := by
  obtain ⟨i, hi, rfl⟩ := List.mem_iff_getElem.1 hx
  have h1 := (grid_parts h).2.2.2.1
  unfold wishesFault at h1
  split at h1
  · exact absurd h1 (by decide)
  have h2 := firstErr_all h1 i hi
  unfold wishE at h2
  rw [List.getElem?_eq_getElem hi] at h2
  simp only at h2
  split at h2
  · exact absurd h2 (by decide)
  split at h2
  · exact absurd h2 (by decide)
  refine rise_nd fun k hk => ?_
  have h3 := firstErr_all h2 k hk
  unfold wpE at h3
  rw [List.getElem?_eq_getElem hk] at h3
  simp only at h3
  split at h3
  · exact absurd h3 (by decide)
  split at h3
  · exact absurd h3 (by decide)
  · next h4 => simpa using h4
theorem ses_nd {g : Grd} {p : List Ses} (h : firstErr (sesE g p) p.length = 0) {i : Nat} (hi : i < p.length) : p[i].papers.Nodup := by
  have nd := seen_nd h (i + 1) (by omega)
  rw [seenTo_succ hi, List.nodup_append] at nd
  exact nd.2.1
theorem cn_same {g : Grd} {p : List Ses} (h : firstErr (sesE g p) p.length = 0) {wish : List ByteArray} (hw : wish.Nodup) {k : Nat} (hk : k < p.length) : (wlTo p wish wish.length k).length = cnN wish p k := by
  rw [wl_all h wish hk, cnN_at wish hk]
  exact (perm_in hw (ses_nd h hk)).length_eq
def papP (p : List Ses) (wish : List ByteArray) (bl : List Nat) : List ByteArray := bl.flatMap (wlTo p wish wish.length)
theorem papP_nd {p : List Ses} {wish : List ByteArray} (hw : wish.Nodup) : ∀ {bl : List Nat}, bl.Nodup → (papP p wish bl).Nodup
  | [], _ => by unfold papP; simp
  | a :: r, hb => by
    obtain ⟨h1, h2⟩ := List.nodup_cons.1 hb
    unfold papP
    rw [List.flatMap_cons, List.nodup_append]
    refine ⟨hw.sublist ((List.filter_sublist).trans (List.take_sublist _ _)), papP_nd hw h2, ?_⟩
    intro x hx y hy e
    subst e
    obtain ⟨m, hm, hx2⟩ := List.mem_flatMap.1 hy
    unfold wlTo at hx hx2
    rw [List.mem_filter, Bool.and_eq_true] at hx hx2
    have e1 := of_decide_eq_true hx.2.2
    have e2 := of_decide_eq_true hx2.2.2
    exact h1 (by rw [← e1, e2]; exact hm)
theorem pap_same {g : Grd} {p : List Ses} (h : firstErr (sesE g p) p.length = 0) {wish : List ByteArray} (hw : wish.Nodup) {bl : List Nat} (hb : bl.Nodup) (hl : ∀ i ∈ bl, i < p.length) :
    sortS (papP p wish bl) = keysS (bl.flatMap (hrdAt wish p)) := by
  refine keysS_is ?_ (fun q => ?_)
  · refine rise_sorted _ ?_
    unfold List.Nodup
    rw [List.pairwise_map]
    exact (papP_nd hw hb).imp (fun {a b} hab e => hab (ba_ext.1 e))
  · rw [sortS_mem]
    unfold papP
    rw [List.mem_flatMap, List.mem_flatMap]
    refine ⟨fun ⟨i, hi, hx⟩ => ⟨i, hi, ?_⟩, fun ⟨i, hi, hx⟩ => ⟨i, hi, ?_⟩⟩
    · have hk := hl i hi
      rw [wl_all h wish hk] at hx
      rw [hrdAt_at wish hk]
      exact (perm_in hw (ses_nd h hk)).mem_iff.1 hx
    · have hk := hl i hi
      rw [hrdAt_at wish hk] at hx
      rw [wl_all h wish hk]
      exact (perm_in hw (ses_nd h hk)).mem_iff.2 hx
theorem subTo_sub (all : List Nat) (s : Nat) : ∀ k, k ≤ all.length → (subTo all s k).Sublist (all.take k)
  | 0, _ => by rw [List.take_zero]; exact List.Sublist.refl _
  | k + 1, h => by
    have hk : k < all.length := by omega
    have ih := subTo_sub all s k (by omega)
    rw [List.take_succ_eq_append_getElem hk]
    show (subTo all s k ++ (if bitB s k = true then [all.getD k 0] else [])).Sublist _
    refine List.Sublist.append ih ?_
    split
    · rw [List.getD_eq_getElem?_getD, List.getElem?_eq_getElem hk]; exact List.Sublist.refl _
    · exact List.nil_sublist _
theorem bestSet_sub {mt : Nat → Nat → Bool} {cn : Nat → Nat} {all : List Nat} : ∀ s, (bestSet mt cn all s).2.Sublist all
  | 0 => List.nil_sublist _
  | s + 1 => by
    unfold bestSet
    split
    · have := subTo_sub all s all.length (Nat.le_refl _)
      rwa [List.take_length] at this
    · exact bestSet_sub s
/-- The best set looks at no other numbers. -/
theorem sumN_cong {c1 c2 : Nat → Nat} : ∀ {l : List Nat}, (∀ i ∈ l, c1 i = c2 i) → sumN c1 l = sumN c2 l := by
  intro l h
  unfold sumN
  rw [List.map_congr_left h]
theorem bestSet_cong {mt : Nat → Nat → Bool} {c1 c2 : Nat → Nat} {all : List Nat} (h : ∀ i ∈ all, c1 i = c2 i) : ∀ s, bestSet mt c1 all s = bestSet mt c2 all s
  | 0 => rfl
  | s + 1 => by
    have ih := bestSet_cong (mt := mt) h s
    have e : sumN c1 (subTo all s all.length) = sumN c2 (subTo all s all.length) := sumN_cong (fun i hi => h i (List.mem_of_mem_take (subTo_mem all.length (Nat.le_refl _) i hi)))
    unfold bestSet
    rw [ih, e]
end Go.Proofs.YtaecdhdnjmckpaaGreatDoor
namespace Go.Proofs.YtaecdhdnjmckpaaGreatDoor
open Go.RowKit
set_option linter.unusedVariables false
section
variable {P : Program} {ops : Array Oper} {Q : Exit → Act → World → Prop} {md : Region.Mode} {S : World → Prop} {f : Nat}
def wpAnyG (P : Program) (md : Region.Mode) (ops : Array Oper) (Q : Exit → Act → World → Prop) (S : World → Prop) (f : Nat) : Nat → Array Bool → Act → World → Prop
  | 0, listed, a, w => Region.ready md ops listed = [] ∧ Q .normal a w
  | fuel + 1, listed, a, w =>
    (Region.ready md ops listed = [] → Q .normal a w) ∧
    ∀ i ∈ Region.ready md ops listed, wpOp P ops Q i (fun a' w' => (f ≤ i ∨ S w') ∧ wpAnyG P md ops Q S f fuel (listed.setIfInBounds i true) a' w') a w
theorem wpAny_of_G : ∀ (fuel : Nat) (listed : Array Bool) (a : Act) (w : World), wpAnyG P md ops Q S f fuel listed a w → wpAny P md ops Q fuel listed a w
  | 0, _, _, _, h => h
  | fuel + 1, _, _, _, h => ⟨h.1, fun i hi => wpOp_mono (fun a' w' h' => wpAny_of_G fuel _ a' w' h'.2) (h.2 i hi)⟩
theorem wpAnyG_first {i : Nat} {oi : Oper} {v : Value} (hi : ops[i]? = some oi) (hsel : ∀ (j : Nat) (o : Oper) cs b, ops[j]? = some o → o.op ≠ .select cs b)
    (hQ : ∀ c a w, Q (.panic c) (a.put oi.dst v) w → Q (.panic c) a w) {n : Nat} (hanc : (List.range ops.size).all (fun j => decide (j < f) || ancB md ops n j i) = true) :
    ∀ (fuel : Nat) (listed : Array Bool) (a : Act) (w : World), Closed md ops listed →
      (∀ j oj, ops[j]? = some oj → j ≠ i → listed.getD j true = false → (∀ e ∈ oj.after, Region.binds md e = true → e.on ≠ i) → oi.apart ops oj = true) →
      i ∈ Region.ready md ops listed → YieldsIf P ops S oi v a → S w →
      wpAnyG P md ops Q S f fuel (listed.setIfInBounds i true) (a.put oi.dst v) w → wpAnyG P md ops Q S f (fuel + 1) listed a w := by
  intro fuel
  induction fuel with
  | zero =>
    intro listed a w hc _ hr hy hS H
    refine ⟨fun h => (by rw [h] at hr; cases hr), fun j hj => ?_⟩
    by_cases hji : j = i
    · subst hji; exact hy.wpOp hi hS ⟨.inr hS, H⟩
    · have := ready_mono hj hji
      rw [H.1] at this
      cases this
  | succ fuel ih =>
    intro listed a w hc hfree hr hy hS H
    refine ⟨fun h => (by rw [h] at hr; cases hr), fun j hj => ?_⟩
    by_cases hji : j = i
    · subst hji; exact hy.wpOp hi hS ⟨.inr hS, H⟩
    · have hjf : ¬ f ≤ j := by
        intro hfj
        obtain ⟨_, o, ho, hall⟩ := mem_ready.1 hj
        have hanj : ancB md ops n j i = true := by
          have h1 := List.all_eq_true.1 hanc j (List.mem_range.2 (Array.getElem?_eq_some_iff.1 ho).1)
          rw [decide_eq_false (by omega), Bool.false_or] at h1
          exact h1
        have h1 := anc_listed hc n j (fun o' ho' e he hb => by rw [ho] at ho'; cases ho'; exact hall e he hb) hanj
        have h0 := (mem_ready.1 hr).1
        rcases Nat.lt_or_ge i listed.size with h' | h'
        · simp [h'] at h0 h1; rw [h0] at h1; cases h1
        · simp [Array.getElem?_eq_none h'] at h1
      have h1 := H.2 j (ready_mono hj hji)
      obtain ⟨hjun, oj, hoj, hall⟩ := mem_ready.1 hj
      have hnot : ∀ e ∈ oj.after, Region.binds md e = true → e.on ≠ i := fun e he hb heq => by
        have h1 := hall e he hb
        have h0 := (mem_ready.1 hr).1
        rw [heq] at h1
        rcases Nat.lt_or_ge i listed.size with h' | h'
        · simp [h'] at h0 h1; rw [h0] at h1; cases h1
        · simp [Array.getElem?_eq_none h'] at h1
      have h2 := wpOp_putIf hoj (hfree j oj hoj hji hjun hnot) (fun cs b => hsel i oi cs b hi) (fun cs b => hsel j oj cs b hoj) hQ hy h1
      have hfree' : ∀ k ok, ops[k]? = some ok → k ≠ i → (listed.setIfInBounds j true).getD k true = false →
          (∀ e ∈ ok.after, Region.binds md e = true → e.on ≠ i) → oi.apart ops ok = true := fun k ok hk hki hun hno => by
        refine hfree k ok hk hki ?_ hno
        by_cases hjk : j = k
        · subst hjk; exact hjun
        · rw [getD_set_ne true hjk] at hun; exact hun
      refine wpOp_mono (fun a' w' h3 => ?_) h2
      have hS' : S w' := h3.2.1.resolve_left hjf
      refine ⟨.inr hS', ih (listed.setIfInBounds j true) a' w' (hc.set hj) hfree' (ready_mono hr (Ne.symm hji)) h3.1 hS' ?_⟩
      rw [Array.setIfInBounds_comm _ _ hji]
      exact h3.2.2
theorem rtakeG {i : Nat} {oi : Oper} {d : Option Tmp} {v : Value} {fuel n : Nat} {listed : Array Bool} {a : Act} {w : World} (hi : ops[i]? = some oi) (hd : oi.dst = d)
    (hs : Region.noSelect ops = true) (hf : Region.free md ops listed i = true) (hr : (Region.ready md ops listed).contains i = true) (hanc : (List.range ops.size).all (fun j => decide (j < f) || ancB md ops n j i) = true) (hcl : closedB md ops listed = true)
    (hQ : ∀ c a w, Q (.panic c) (a.put d v) w → Q (.panic c) a w) (hw : Region.wanted oi (yielded ops a.tmps) = true) (hS : S w) (hy : ∀ w, S w → (execOp a.eval oi).run P w = .ok (.value v) w)
    (h : wpAnyG P md ops Q S f fuel (listed.setIfInBounds i true) (a.put d v) w) : wpAnyG P md ops Q S f (fuel + 1) listed a w := by
  subst hd
  exact wpAnyG_first hi (Region.noSelect_spec hs) hQ hanc fuel listed a w (closed_of hcl) (Region.free_spec hi hf) (by simpa using hr) (.inl ⟨hw, hy⟩) hS h
theorem rcallG {i : Nat} {oi : Oper} {d : Option Tmp} {fuel : Nat} {listed : Array Bool} {a : Act} {w : World} (hr : Region.ready md ops listed = [i]) (hi : ops[i]? = some oi) (hd : oi.dst = d)
    (h : ∀ K' : Act → World → Prop, Shut (∀ v w, (f ≤ i ∨ S w) → ((f ≤ i ∨ S w) → wpAnyG P md ops Q S f fuel (listed.setIfInBounds i true) (a.put d v) w) → K' (a.put d v) w) → if Region.wanted oi (yielded ops a.tmps) = true then Oper.wp P oi a w K' Q else K' (a.put d undef) w) :
    wpAnyG P md ops Q S f (fuel + 1) listed a w := by
  subst hd
  refine ⟨fun h0 => absurd (hr.symm.trans h0) (by simp), fun j hj => ?_⟩
  rw [hr, List.mem_singleton] at hj
  subst hj
  exact wpOp_step hi (fun K' hK => h K' (fun v w hS hh => hK _ _ ⟨hS, hh hS⟩))
theorem wpAnyG_done {listed : Array Bool} {a : Act} {w : World} (hr : Region.ready md ops listed = []) (h : Q .normal a w) : ∀ fuel, wpAnyG P md ops Q S f fuel listed a w
  | 0 => ⟨hr, h⟩
  | _ + 1 => ⟨fun _ => h, by rw [hr]; simp⟩
theorem wp_regionG {id : Nat} {a : Act} {w : World} (f : Nat) (hm : P.follows .mixedOrders = true) (hS : S w.drew)
    (h : S w.drew → wpAnyG P .any ops Q S f ops.size (Array.replicate ops.size false) a w.drew) : (Code.region id ops true).wp P Q a w :=
  wp_region_any hm (wpAny_of_G _ _ _ _ (h hS))
end
end Go.Proofs.YtaecdhdnjmckpaaGreatDoor
namespace Go.Proofs.YtaecdhdnjmckpaaGreatDoor
open Go.RowKit Go.Sort
set_option linter.unusedVariables false
set_option linter.unusedSimpArgs false
set_option maxRecDepth 100000 in
theorem cloneP_any (s : Ses) (w : World) (h : SA w s.a1 s.papers) (hl : s.papers.length ≤ 1000000) :
    Calls Tryz.prog 94 #[s.agg] w (fun e w' => ∃ aC cC n4, e = .returned (.agg #[.string s.slot, .string s.room, .slice aC s.papers.length cC]) ∧ w.heap.size ≤ n4 ∧ Own n4 9 w' (.slice aC s.papers.length cC) s.papers ∧ Below w.heap.size w w') := by
  obtain ⟨s1, s2, s3, s4, s5⟩ := s
  simp only at h hl
  unfold Ses.agg
  simp only
  have hS := (Box.new w 114 #[.string s1, .string s2, .slice s4 s3.length s5]).alloc (.cells #[.string ⟨#[]⟩, .string ⟨#[]⟩, .slice none 0 0] 114)
  have hR := Box.newAt (w.alloc (.cells #[.string s1, .string s2, .slice s4 s3.length s5] 114)) (w.heap.size + 1) 114 #[.string ⟨#[]⟩, .string ⟨#[]⟩, .slice none 0 0] (by simp)
  have hbS : Below w.heap.size w ((w.alloc (.cells #[.string s1, .string s2, .slice s4 s3.length s5] 114)).alloc (.cells #[.string ⟨#[]⟩, .string ⟨#[]⟩, .slice none 0 0] 114)) := ((Below.refl _ _).alloc (Nat.le_refl _) _).alloc (by simp) _
  have hsp := h.below hbS
  have hSl := hS.lt
  have hRl := hR.lt
  clear h
  go_enter Tryz.func94, Tryz.ntmps94
  go_upto_region 1 with (fail)
  generalize (w.alloc (.cells #[.string s1, .string s2, .slice s4 s3.length s5] 114)).alloc (.cells #[.string ⟨#[]⟩, .string ⟨#[]⟩, .slice none 0 0] 114) = w4 at *
  obtain ⟨bR, hbR⟩ : ∃ bR, bR = w.heap.size + 1 := ⟨_, rfl⟩
  rw [← hbR] at hR hRl
  rw [← hbR]
  have HbR : Hid (w.heap.size < bR) := by show _ < _; omega
  clear hbR
  have HCL := Lib.hid (clone_any s3 s4 s5 w4 hsp (by omega))
  have hS2 := hS.cell 2
  simp at hS2
  go_wp2_with fail
  refine HCL.out.mono ?_
  rintro e w5 ⟨vC, rfl, hoC, hbC⟩
  obtain ⟨aC, cC, rfl, -, -, -⟩ := hoC.form
  have hSC := hS.below hbC
  have hS6 := hSC.set 2 (.slice aC s3.length cC)
  simp at hS6
  have hoC6 := hoC.setOther (p := ⟨w.heap.size, 2, none⟩) (fun b hb => by have := (hoC.lt b hb).1; show b ≠ w.heap.size; omega) (.slice aC s3.length cC)
  have hb6 : Below w.heap.size w (w5.setCell ⟨w.heap.size, 2, none⟩ (.slice aC s3.length cC)) := (below_next hbS hbC).setCell (p := ⟨w.heap.size, 2, none⟩) (Nat.le_refl _) _
  have hRC := (hR.below hbC).setOther (p := ⟨w.heap.size, 2, none⟩) (by show w.heap.size ≠ bR; have := HbR.out; omega) (.slice aC s3.length cC)
  clear hS hS2 HCL hoC hsp hR
  have hSC_l := hSC.lt; have hSC_0 := hSC.cell 0; have hSC_1 := hSC.cell 1; have hSC_2 := hSC.cell 2; simp at hSC_0 hSC_1 hSC_2
  have hSC_f0 := hSC.frozen 0; have hSC_f1 := hSC.frozen 1; have hSC_f2 := hSC.frozen 2
  go_upto_region 2 with (fail)
  clear hSC_l hSC_0 hSC_1 hSC_2
  clear hSC hSC_f0 hSC_f1 hSC_f2
  have hz6 := hb6.size
  have hl6 := hRC.lt
  generalize w5.setCell ⟨w.heap.size, 2, none⟩ (.slice aC s3.length cC) = w6 at *
  have hS6_l := hS6.lt; have hS6_0 := hS6.cell 0; have hS6_1 := hS6.cell 1; have hS6_2 := hS6.cell 2; simp at hS6_0 hS6_1 hS6_2
  have hRC_l := hRC.lt; have hRC_0 := hRC.cell 0; have hRC_1 := hRC.cell 1; have hRC_2 := hRC.cell 2; simp at hRC_0 hRC_1 hRC_2
  have hRC_f0 := hRC.frozen 0; have hRC_f1 := hRC.frozen 1; have hRC_f2 := hRC.frozen 2
  go_wp2_with fail
  have hRF := ((hRC.set 0 (.string s1)).set 1 (.string s2)).set 2 (.slice aC s3.length cC)
  simp at hRF
  have hbF : Below w.heap.size w (((w6.setCell ⟨bR, 0, none⟩ (.string s1)).setCell ⟨bR, 1, none⟩ (.string s2)).setCell ⟨bR, 2, none⟩ (.slice aC s3.length cC)) := ((hb6.setCell (p := ⟨bR, 0, none⟩) (by have := HbR.out; show w.heap.size ≤ bR; omega) _).setCell (p := ⟨bR, 1, none⟩) (by have := HbR.out; show w.heap.size ≤ bR; omega) _).setCell (p := ⟨bR, 2, none⟩) (by have := HbR.out; show w.heap.size ≤ bR; omega) _
  have hoF := ((hoC6.setOther (p := ⟨bR, 0, none⟩) (fun b hb => by have := (hoC6.lt b hb).1; show b ≠ bR; omega) (.string s1)).setOther (p := ⟨bR, 1, none⟩) (fun b hb => by have := (hoC6.lt b hb).1; show b ≠ bR; omega) (.string s2)).setOther (p := ⟨bR, 2, none⟩) (fun b hb => by have := (hoC6.lt b hb).1; show b ≠ bR; omega) (.slice aC s3.length cC)
  generalize ((w6.setCell ⟨bR, 0, none⟩ (.string s1)).setCell ⟨bR, 1, none⟩ (.string s2)).setCell ⟨bR, 2, none⟩ (.slice aC s3.length cC) = w7 at *
  clear hRC_l hRC_0 hRC_1 hRC_2 hRC_f0 hRC_f1 hRC_f2 hS6_l hS6_0 hS6_1 hS6_2 hRC hS6
  have hRF_l := hRF.lt; have hRF_0 := hRF.cell 0; have hRF_1 := hRF.cell 1; have hRF_2 := hRF.cell 2; simp at hRF_0 hRF_1 hRF_2
  refine bodyPost_ret (v := .agg #[.string s1, .string s2, .slice aC s3.length cC]) (by simp only [results, Tryz.results94]; go_simp) rfl ?_
  exact ⟨aC, cC, _, rfl, by have := hbS.size; omega, hoF, hbF⟩
theorem wk_yes {p : List Ses} {wish : List ByteArray} {j : Nat} (h : j < wish.length) (hp : inP p wish[j] = true) : wkTo p wish (j + 1) = keyAdd (wkTo p wish j) (sIx p wish[j]) := by
  rw [wkTo_succ h, if_pos hp]; rfl
theorem wk_no {p : List Ses} {wish : List ByteArray} {j : Nat} (h : j < wish.length) (hp : inP p wish[j] = false) : wkTo p wish (j + 1) = wkTo p wish j := by
  rw [wkTo_succ h, if_neg (by rw [hp]; decide)]
theorem wl_yes {p : List Ses} {wish : List ByteArray} {j : Nat} (h : j < wish.length) (hp : inP p wish[j] = true) : wlTo p wish (j + 1) = upd1 (wlTo p wish j) (sIx p wish[j]) (wlTo p wish j (sIx p wish[j]) ++ [wish[j]]) := by
  funext m
  rw [wlTo_succ h, hp, Bool.true_and]
  unfold upd1
  by_cases e : m = sIx p wish[j]
  · subst e
    rw [if_pos rfl, if_pos (decide_eq_true rfl)]
  · rw [if_neg e, if_neg (by simpa using fun h => e h.symm), List.append_nil]
theorem wl_no {p : List Ses} {wish : List ByteArray} {j : Nat} (h : j < wish.length) (hp : inP p wish[j] = false) : wlTo p wish (j + 1) = wlTo p wish j := by
  funext m
  rw [wlTo_succ h, hp, Bool.false_and, if_neg (by decide), List.append_nil]
theorem wl_none {p : List Ses} {wish : List ByteArray} {j k : Nat} (hj : j ≤ wish.length) (h : k ∉ wkTo p wish j) : wlTo p wish j k = [] := by
  unfold wlTo
  rw [List.filter_eq_nil_iff]
  intro x hx e
  rw [Bool.and_eq_true] at e
  exact h ((wkTo_mem j hj).2 ⟨x, hx, e.1, of_decide_eq_true e.2⟩)
theorem wl_some {p : List Ses} {wish : List ByteArray} {j k : Nat} (hj : j ≤ wish.length) (h : k ∈ wkTo p wish j) : wlTo p wish j k ≠ [] := by
  obtain ⟨x, hx, h1, h2⟩ := (wkTo_mem j hj).1 h
  intro e
  unfold wlTo at e
  rw [List.filter_eq_nil_iff] at e
  exact e x hx (by rw [h1, decide_eq_true h2]; rfl)
theorem wl_len (p : List Ses) (wish : List ByteArray) (j k : Nat) : (wlTo p wish j k).length ≤ wish.length := by
  unfold wlTo
  refine Nat.le_trans (List.length_filter_le _ _) ?_
  rw [List.length_take]
  exact Nat.min_le_right _ _
theorem wk_len (p : List Ses) (wish : List ByteArray) : ∀ j, (wkTo p wish j).length ≤ j
  | 0 => Nat.le_refl _
  | j + 1 => by
    have ih := wk_len p wish j
    show (match wish[j]? with | none => wkTo p wish j | some x => if inP p x = true then (if sIx p x ∈ wkTo p wish j then wkTo p wish j else wkTo p wish j ++ [sIx p x]) else wkTo p wish j).length ≤ _
    split
    · omega
    · split
      · split
        · omega
        · rw [List.length_append, List.length_singleton]; omega
      · omega
/-- What is looked up in the map of wishes. -/
theorem WMp.look {base : Nat} {w : World} {b : Nat} {K : List Nat} {V : Nat → Value} {L : Nat → List ByteArray} (h : WMp base w b K V L) (k : Nat) : (Instr.lookup 142 (.map (some b)) (.int .i64 (k : Nat)) false).run Tryz.prog w = .ok (wmAt K V k) w := by
  rw [h.map.look Tryz.underlying142 Tryz.underlying3 _ Tryz.zeroValue56 k false]
  unfold ilooked
  rw [if_neg (by decide), h.lookV k]
theorem WMp.lookS {base : Nat} {w : World} {b : Nat} {K : List Nat} {V : Nat → Value} {L : Nat → List ByteArray} (h : WMp base w b K V L) {k : Nat} (hk : k ∈ K) : ∃ a c, ∀ W, Below w.heap.size w W → (Instr.lookup 142 (.map (some b)) (.int .i64 (k : Nat)) false).run Tryz.prog W = .ok (.slice a (L k).length c) W ∧ SA W a (L k) := by
  obtain ⟨a, c, e, hs, -, -⟩ := (h.own k hk).form
  exact ⟨a, c, fun W hW => ⟨by rw [(h.below hW).look k]; unfold wmAt; rw [if_pos hk, e], hs.below hW⟩⟩
theorem wlf_len (p : List Ses) (wish : List ByteArray) : ∀ l : List Nat, (l.flatMap (wlTo p wish wish.length)).length ≤ wish.length * l.length
  | [] => Nat.le_refl _
  | i :: r => by
    have ih := wlf_len p wish r
    have h1 := wl_len p wish wish.length i
    rw [List.flatMap_cons, List.length_append, List.length_cons, Nat.mul_succ]
    omega
theorem wlf_take (p : List Ses) (wish : List ByteArray) {l : List Nat} {j : Nat} (hj : j < l.length) : (l.take (j + 1)).flatMap (wlTo p wish wish.length) = (l.take j).flatMap (wlTo p wish wish.length) ++ wlTo p wish wish.length l[j] := by
  rw [List.take_succ_eq_append_getElem hj, List.flatMap_append]
  congr 1
  rw [List.flatMap_cons, List.flatMap_nil, List.append_nil]
theorem free_succ (mt : Nat → Nat → Bool) {all : List Nat} {s j : Nat} (h : j < all.length) : freeTo mt all s (j + 1) = if bitB s j = true then freeTo mt all s j && (subTo all s j).all (fun o => !mt o all[j]) else freeTo mt all s j := by
  show (if bitB s j = true then freeTo mt all s j && (subTo all s j).all (fun o => !mt o (all.getD j 0)) else freeTo mt all s j) = _
  rw [List.getD_eq_getElem?_getD, List.getElem?_eq_getElem h]
  rfl
theorem int_wf (n : Nat) (h : n ≤ 1000000) : (Lit.int .i64 (n : Int)).wf = true := by
  have h1 : IntKind.i64.min = -9223372036854775808 := by decide
  have h2 : IntKind.i64.max = 9223372036854775807 := by decide
  unfold Lit.wf
  simp
  omega
theorem own_sorted {base : Nat} {w : World} {v : Value} {ss : List Int} {l : List Nat} (hl : l.Pairwise (· < ·)) (hp : ss.Perm (l.map (fun n : Nat => (n : Int)))) (h : w.ownsRow base 3 1 v ss.length ((ss.mergeSort (fun x y => decide (x ≤ y))).map encZ)) : Own base 3 w v l := by
  rw [sorted_ints hl hp] at h
  have e : ss.length = l.length := by rw [hp.length_eq, List.length_map]
  rw [e] at h
  have e2 : ∀ l : List Nat, l.flatMap Cel.cells = (l.map (fun n : Nat => (n : Int))).map encZ := by
    intro l
    induction l with
    | nil => rfl
    | cons a r ih => rw [List.flatMap_cons, List.map_cons, List.map_cons, ih]; rfl
  unfold Own
  rw [e2]
  exact h
theorem IMp.size {w : World} {b : Nat} {l : List (Int × Value)} (h : IMp w b l) (ty : TypeId) : (Builtin.len_ #[142] ty #[.map (some b)]).run Tryz.prog w = .ok (.int .i64 l.length) w := by
  obtain ⟨es, clock, h1, h2, _⟩ := h
  rw [run_len_map (r := b) (es := es) (clock := clock) (h := by kernel_rfl) (hb := h1)]
  have : es.size = l.length := by
    have := congrArg List.length h2
    simpa using this
  rw [this]
  rfl
/-- What Agenda of the program gives. -/
def AgdPRes (g : Grd) (p : List Ses) (who : ByteArray) (w : World) (e : Ending) (w' : World) : Prop :=
  Below w.heap.size w w' ∧ ((bothF g p ≠ 0 ∧ e = .returned (.tuple #[.slice none 0 0, .slice none 0 0, .int .i64 (bothF g p)])) ∨ (bothF g p = 0 ∧ AgdRes g p who (fun wish => sortS (papP p wish (agdBest g p wish))) w e w'))
set_option maxRecDepth 100000 in
set_option maxHeartbeats 16000000 in
theorem agendaP_any (g : Grd) (p : List Ses) (pa : Option Addr) (pc : Nat) (who : ByteArray) (w : World) (hg : GRd w g) (hz : GSm g) (hp : PRg w pa p) (hpl : p.length ≤ 1000) (hpo : ∀ s ∈ p, SesOk s) (hpc : p.length ≤ pc) :
    Calls Tryz.prog 31 #[g.agg, .slice pa p.length pc, .string who] w (AgdPRes g p who w) := by
  have HC := Lib.hid (fun W (h : Below w.heap.size w W) => checkedP_any g p pa pc W (hg.below h) hz (hp.below h) (by omega) hpo hpc)
  have HSO := Lib.hid (fun W (h : Below w.heap.size w W) => sessionOf_any p pa pc W (hp.below h) (by omega) (fun s hs => (hpo s hs).2.2.1))
  have HP := Lib.hid (fun W (h : Below w.heap.size w W) => hp.below h)
  have HBS := Lib.hid (fun fb br bs bt bb W (hF : FieldAt g fb br bs bt bb W) (h : Below w.heap.size w W) (hn : GNd g) (a b : Ses) ha hb => besideP_any g fb br bs bt bb a b W hF (hg.below h) hz hn ha hb)
  have HFM : Hid (bothF g p = 0 → firstErr (sesE g p) p.length = 0 ∧ (∀ s ∈ p, (slotOf g s.slot).isSome = true) ∧ GNd g ∧ ∀ x ∈ g.wishes, x.papers.Nodup) := fun h => ⟨form_of (both_ok h).2, fun s hs => (form_ok (form_of (both_ok h).2) s hs).1, gnd_of (both_ok h).1, fun x hx => wish_nd (both_ok h).1 hx⟩
  have HPO := Lib.hid (fun s hs => (hpo s hs).2.2.1)
  have HIX : Hid (∀ W bq, Below w.heap.size w W → W.cell? ⟨bq, 0, none⟩ = some (.string who) → Calls Tryz.prog 87 #[.slice g.wa g.wishes.length g.wc, .func (.func 88) #[] #[.pointer (some ⟨bq, 0, none⟩)]] W (fun e w' => ∃ r : Int, e = .returned (.int .i64 r) ∧ decide (0 ≤ r) = g.wishes.any (fun x => decide (x.person = who)) ∧ Below W.heap.size W w' ∧ r = wishOf g who)) := fun W bq h hc =>
    indexWsh_any g.wishes g.wa g.wc 88 #[.pointer (some ⟨bq, 0, none⟩)] (fun x => decide (x.person = who)) W (enters_of Tryz.func88 (by kernel_rfl) rfl) (hg.below h).wishes (by have := hz.wishes; omega) (fun x hx W' hW' => whoP_any x bq who W' (cell_later hW' hc))
  unfold CheckedRes at HC
  unfold AgdPRes
  generalize bothF g p = R at *
  rw [Grd.agg_eq] at HC ⊢
  have hX0 := (Box.new w 32 #[.slice g.ra g.rooms.length g.rc, .slice g.sa g.slots.length g.sc, .slice g.ta g.talks.length g.tc, .slice g.wa g.wishes.length g.wc, .slice g.ba g.bans.length g.bc]).alloc (.cells #[.string who] 9)
  have hQ0 := Box.newAt (w.alloc (.cells #[.slice g.ra g.rooms.length g.rc, .slice g.sa g.slots.length g.sc, .slice g.ta g.talks.length g.tc, .slice g.wa g.wishes.length g.wc, .slice g.ba g.bans.length g.bc] 32)) (w.heap.size + 1) 9 #[.string who] (by simp)
  have hb0 : Below w.heap.size w ((w.alloc (.cells #[.slice g.ra g.rooms.length g.rc, .slice g.sa g.slots.length g.sc, .slice g.ta g.talks.length g.tc, .slice g.wa g.wishes.length g.wc, .slice g.ba g.bans.length g.bc] 32)).alloc (.cells #[.string who] 9)) := by (repeat' (first | exact Below.refl _ _ | assumption | refine Below.setCell ?_ ?_ _ | refine below_drewN ?_ _ | refine Below.drew ?_ | refine Below.alloc ?_ ?_ _ | (with_reducible refine Below.trans ?_ (Below.mono hb ?_)) | (with_reducible refine Below.trans ?_ (Below.mono hb0 ?_)) | (with_reducible refine Below.trans ?_ (Below.mono hb1 ?_)) | (with_reducible refine Below.trans ?_ (Below.mono hb2 ?_)) | (with_reducible refine Below.trans ?_ (Below.mono hb3 ?_)) | (with_reducible refine Below.trans ?_ (Below.mono hb4 ?_)) | (with_reducible refine Below.trans ?_ (Below.mono hb5 ?_)) | (with_reducible refine Below.trans ?_ (Below.mono hb6 ?_)) | (with_reducible refine Below.trans ?_ (Below.mono hb7 ?_)) | (with_reducible refine Below.trans ?_ (Below.mono hb8 ?_)) | (with_reducible refine Below.trans ?_ (Below.mono hb9 ?_)) | (with_reducible refine Below.trans ?_ (Below.mono hb10 ?_)) | (with_reducible refine Below.trans ?_ (Below.mono hb11 ?_)) | (with_reducible refine Below.trans ?_ (Below.mono hb12 ?_)) | (with_reducible refine Below.trans ?_ (Below.mono hb13 ?_)) | (with_reducible refine Below.trans ?_ (Below.mono hb14 ?_)) | (with_reducible refine Below.trans ?_ (Below.mono hb15 ?_)) | omega | (simp; done) | (simp; omega)))
  go_enter Tryz.func31, Tryz.ntmps31
  go_upto_region 1 with (fail)
  generalize (w.alloc (.cells #[.slice g.ra g.rooms.length g.rc, .slice g.sa g.slots.length g.sc, .slice g.ta g.talks.length g.tc, .slice g.wa g.wishes.length g.wc, .slice g.ba g.bans.length g.bc] 32)).alloc (.cells #[.string who] 9) = w1 at *
  generalize w.heap.size + 1 = bQ at *
  have hX0_l := hX0.lt; have hX0_0 := hX0.cell 0; have hX0_1 := hX0.cell 1; have hX0_2 := hX0.cell 2; have hX0_3 := hX0.cell 3; have hX0_4 := hX0.cell 4; simp at hX0_0 hX0_1 hX0_2 hX0_3 hX0_4
  go_wp2_with fail
  clear hX0_l hX0_0 hX0_1 hX0_2 hX0_3 hX0_4
  refine (HC.out _ hb0).mono ?_
  rintro e w2 ⟨hb2, hcase⟩
  have hb02 := below_next hb0 hb2
  have hX2 := hX0.below hb2
  have hQ2 := hQ0.below hb2
  clear HC hb0 hX0 hQ0 hb2
  rcases hcase with ⟨h0, rfl⟩ | ⟨rfl, fb, br, bs, bt, bb, rfl, hF, -⟩
  · have hq : (R != 0) = true := by simpa using h0
    have H0 := Lib.hid h0
    clear h0
    go_wp2_with fail
    refine bodyPost_ret (v := .tuple #[.slice none 0 0, .slice none 0 0, .int .i64 R]) (by simp only [results, Tryz.results31]; go_simp) rfl ?_
    exact ⟨hb02, .inl ⟨H0.out, rfl⟩⟩
  · obtain ⟨hform, hok, hn, hwn⟩ := HFM.out rfl
    have Hform := Lib.hid hform
    have HBx := Lib.hid (fun W (h : Below w2.heap.size w2 W) (a b : Ses) ha hb => HBS.out fb br bs bt bb W (hF.below h) (below_next hb02 h) hn a b (hok a ha) (hok b hb))
    have HB2 := Lib.hid (fun W (h : Below w2.heap.size w2 W) => below_next hb02 h)
    have HWN := Lib.hid hwn
    clear hF HBS HFM hform hok hn hwn
    obtain ⟨wo, hwo⟩ : ∃ wo, wo = wishOf g who := ⟨_, rfl⟩
    have Hwo := Lib.hid hwo
    rw [← hwo] at HIX
    clear hwo
    have hX2_l := hX2.lt; have hX2_0 := hX2.cell 0; have hX2_1 := hX2.cell 1; have hX2_2 := hX2.cell 2; have hX2_3 := hX2.cell 3; have hX2_4 := hX2.cell 4; simp at hX2_0 hX2_1 hX2_2 hX2_3 hX2_4
    go_wp2_with fail
    clear hX2_l hX2_0 hX2_1 hX2_2 hX2_3 hX2_4
    refine (HIX.out w2 bQ hb02 (by have := hQ2.cell 0; simpa using this)).mono ?_
    rintro e w3 ⟨r, rfl, -, hb3, hri⟩
    obtain rfl : wo = r := hri.symm
    clear HIX
    by_cases h0 : wo < 0
    · have hd : decide (wo < 0) = true := decide_eq_true h0
      go_wp2_with fail
      refine bodyPost_ret (v := .tuple #[.slice none 0 0, .slice none 0 0, .int .i64 8]) (by simp only [results, Tryz.results31]; go_simp) rfl ?_
      refine ⟨HB2.out _ hb3, ?_⟩
      unfold AgdRes
      exact ⟨HB2.out _ hb3, Or.inl ⟨by rw [← Hwo.out]; exact h0, rfl⟩⟩
    · have hd : decide (wo < 0) = false := decide_eq_false h0
      obtain ⟨k, hk, hke⟩ : ∃ k, k < g.wishes.length ∧ wo = (k : Nat) := by
        obtain ⟨k, h2, h3⟩ := idxI_nat (c := fun x : Wsh => decide (x.person = who)) (l := g.wishes) (by show 0 ≤ wishOf g who; rw [← Hwo.out]; omega)
        exact ⟨k, h2, by rw [Hwo.out]; exact h3⟩
      subst hke
      clear h0
      obtain ⟨ub, uo, hu, u0, u1⟩ := (hg.below hb02).wishes.wshC hk
      have hum : g.wishes[k] ∈ g.wishes := List.getElem_mem hk
      have HPS : Hid (SA w g.wishes[k].a1 g.wishes[k].papers) := hg.papers _ hum
      have huw := (hz.wish _ hum).2.1
      have hwnd := HWN.out _ hum
      have Hu1 : Hid (∀ W, Below w2.heap.size w2 W → g.wa = some ⟨ub, uo, none⟩ ∧ W.cell? ⟨ub, uo + k * 2 + 1, none⟩ = some (.slice g.wishes[k].a1 g.wishes[k].papers.length g.wishes[k].c1)) := fun W h => ⟨hu, cell_later h u1⟩
      obtain ⟨u, hue⟩ : ∃ u, u = g.wishes[k] := ⟨_, rfl⟩
      rw [← hue] at HPS huw hwnd Hu1
      have Hue := Lib.hid hue
      clear hue hum hu u0 u1 HWN hz
      obtain ⟨u1', wish, wa, wc⟩ := u
      simp only at HPS huw hwnd Hu1
      have Hwnd := Lib.hid hwnd
      clear hwnd
      have hk0 : (0 : Int) ≤ (k : Int) := by omega
      have hk2 : (k : Int) < (g.wishes.length : Int) := by omega
      have hmm := @run_makeMap Tryz.prog
      go_upto_region 8 with (fail)
      clear hmm
      have hI0 := IMp.new w3
      have hb4 : Below w3.heap.size w3 (w3.alloc (.map #[] 0)) := (Below.refl _ _).alloc (Nat.le_refl _) _
      have hX3 := hX2.below hb3
      have hml : w3.heap.size < (w3.alloc (.map #[] 0)).heap.size := by simp
      have HB3 : Hid (∀ W, Below w3.heap.size w3 W → Below w2.heap.size w2 W) := fun W h => below_next hb3 h
      clear hX2 hb3 hQ2
      generalize w3.alloc (.map #[] 0) = w4 at *
      go_wp2_with fail
      refine (HSO.out w4 (HB2.out _ (HB3.out _ hb4))).mono ?_
      rintro e w5 ⟨bn, rfl, hbn, hMS, hb5⟩
      have hI5 := hI0.below hb5
      have hb35 := below_next hb4 hb5
      have hX5 := hX3.below hb35
      have hz5 := hb5.size
      have hbnl := hMS.lt
      have hu3 := Hu1.out w5 (HB3.out _ hb35)
      have Hu3 := Lib.hid hu3.1
      have hu4 := hu3.2
      rw [hu3.1] at hX5
      clear HSO hI0 hb4 hb5 hX3 hu3
      obtain ⟨bm, hbm⟩ : ∃ bm, bm = w3.heap.size := ⟨_, rfl⟩
      have Hbm := Lib.hid hbm
      rw [← hbm] at hI5 hml
      obtain ⟨n5, hn5⟩ : ∃ n5, n5 = w5.heap.size := ⟨_, rfl⟩
      have Hn5 := Lib.hid hn5
      have hm5 : bm < n5 := by omega
      have hbn5 : bn < n5 := by omega
      have hbm3 : bm ≤ w3.heap.size := by omega
      have hwm0 : WMp n5 w5 bm (wkTo p wish 0) (fun _ => .slice none 0 0) (wlTo p wish 0) := ⟨hI5, hm5, fun k hk => (List.not_mem_nil hk).elim, fun k hk => (List.not_mem_nil hk).elim⟩
      have hne0 : bn ≠ bm := by omega
      have hX5_l := hX5.lt; have hX5_0 := hX5.cell 0; have hX5_1 := hX5.cell 1; have hX5_2 := hX5.cell 2; have hX5_3 := hX5.cell 3; have hX5_4 := hX5.cell 4; simp at hX5_0 hX5_1 hX5_2 hX5_3 hX5_4
      go_wp2_with fail
      clear hX5_l hX5_0 hX5_1 hX5_2 hX5_3 hX5_4
      clear hX5 hu4 hn5 hI5 hml
      rw [← Hbm.out]
      clear hbm
      have HPT : Hid (∀ W, Below bm w3 W → SA W wa wish) := fun W h => HPS.out.below (HB2.out _ (HB3.out _ (by rw [← Hbm.out]; exact h)))
      rw [← Hbm.out] at hb35
      have hz35 : n5 ≤ w5.heap.size := by rw [Hn5.out]; exact Nat.le_refl _
      go_loopg [56] wish.length (fun gk iv wr => ∃ (j : Nat) (V : Nat → Value), iv = .int .i64 j ∧ j ≤ wish.length ∧ Hid (gk = wish.length - j) ∧ WMp n5 wr bm (wkTo p wish j) V (wlTo p wish j) ∧ MBox wr bn (sesM p) ∧ n5 ≤ wr.heap.size ∧ Below bm w3 wr)
      case atStart => exact ⟨0, _, rfl, by omega, rfl, hwm0, hMS, hz35, hb35⟩
      case round =>
        clear hwm0 hMS hz35 hb35 hz5 hbnl
        obtain ⟨j, V, rfl, hj, hgj, hwm, hms, hnz, hb⟩ := hrel
        by_cases hjl : j < wish.length
        · obtain ⟨tb, to_, hta, e0⟩ := (HPT.out _ hb).str hjl
          have Hta := Lib.hid hta
          rw [hta]
          clear hta
          have hlk := lookSes hms wish[j]
          cases hin : inP p wish[j]
          · have Hk := Lib.hid (wk_no hjl hin)
            have Hl := Lib.hid (wl_no hjl hin)
            rw [hin] at hlk
            clear hin
            generalize wish[j] = x at *
            generalize sesAtV p x = sv at *
            go_wp2_with fail
            rw [← Hta.out]
            go_roundg (wish.length - (j + 1))
            case measure => have := hgj.out; omega
            case rel => exact ⟨j + 1, V, by go_num, by omega, rfl, by rw [Hk.out, Hl.out]; exact hwm, hms, hnz, hb⟩
          · rw [sesAt_ix Hform.out hin, hin] at hlk
            have Hk := Lib.hid (wk_yes hjl hin)
            have Hl := Lib.hid (wl_yes hjl hin)
            have Hown := Lib.hid (hwm.at (sIx p wish[j]) (fun h => wl_none (by omega) h))
            have hlk2 := hwm.look (sIx p wish[j])
            have hll := wl_len p wish j (sIx p wish[j])
            have Hnd := Lib.hid (wkTo_nd p wish j)
            have Hol := Lib.hid (Hown.out.lt)
            clear hin
            generalize sIx p wish[j] = kx at *
            generalize wish[j] = x at *
            generalize wlTo p wish j kx = l1 at *
            have HWA := Lib.hid (hwm.below ((Below.refl _ _).alloc (Nat.le_refl _) (.cells #[.string x] 9)))
            have HMA := Lib.hid (hms.alloc (.cells #[.string x] 9))
            have HBA := Lib.hid (hb.alloc (by have := hb.size; omega) (.cells #[.string x] 9))
            have HOA := Lib.hid (Hown.out.alloc (.cells #[.string x] 9))
            have hnz1 : n5 ≤ (wr.alloc (.cells #[.string x] 9)).heap.size := by simp; omega
            have Hlow := Lib.hid hwm.low
            clear hwm hms hb Hown
            go_wp2_with (first | (at_builtin; refine wpList_append_lie (α := ByteArray) rfl _ _ 56 rfl 9 16 (.string ⟨#[]⟩) Tryz.underlying56 Tryz.infoString rfl _ l1 rfl HOA.out x _ rfl (Box.new _ _ _) (by omega) (by omega) (by simp; omega) ?_; intro g9 cap9 w9 hown9 hg9 hat9; have HI9 := Lib.hid (HWA.out.map.grown hg9 (fun e => by have := (Hol.out bm e.symm).1; have := Hlow.out; omega)); have HM9 := Lib.hid (HMA.out.grown hg9 (fun e => by have := (Hol.out bn e.symm).1; omega)); have HB9 := Lib.hid (HBA.out.grown hg9 (by simp; omega) (fun j hj => by have := (Hol.out j hj).1; omega)); have Hz9 := Lib.hid hg9.size; have Hown9 := Lib.hid hown9; have Hg9 := Lib.hid hg9; have Hat9 := Lib.hid hat9; clear hown9 hg9 hat9) | (at_mapUpdate; refine wpList_mapUpdate_imp rfl _ _ _ 142 rfl 3 56 Tryz.underlying142 Tryz.underlying3 bm _ rfl HI9.out (kx : Int) rfl (.slice (some ⟨g9, 0, none⟩) (l1.length + 1) cap9) rfl ?_; intro w10 hI10 hg10 hs10))
            have hwm' : WMp n5 w10 bm (wkTo p wish (j + 1)) (upd1 V kx (.slice (some ⟨g9, 0, none⟩) (l1.length + 1) cap9)) (wlTo p wish (j + 1)) := by
              rw [Hk.out, Hl.out]
              exact WMp.add HWA.out Hnd.out hnz1 Hown9.out Hg9.out (Hat9.out.imp id (fun e => Nat.le_of_eq e.symm)) hI10 hg10
            have hms' := HM9.out.grown hg10 (fun e => hne0 (Option.some.inj e))
            have hb' := HB9.out.grown hg10 (by have := HB9.out.size; omega) (fun j hj => by have := Option.some.inj hj; omega)
            have hz' : n5 ≤ w10.heap.size := by have := Hz9.out; omega
            rw [← Hta.out]
            go_roundg (wish.length - (j + 1))
            case measure => have := hgj.out; omega
            case rel => exact ⟨j + 1, _, by go_num, by omega, rfl, hwm', hms', hz', hb'⟩
        · obtain rfl : j = wish.length := by omega
          have HK := Lib.hid (wk_perm Hform.out wish)
          have hkl := HK.out.length_eq
          have HKN := Lib.hid (wkTo_nd p wish wish.length)
          have HKL : Hid (∀ i ∈ wkTo p wish wish.length, i < p.length) := fun i hi => wkTo_lt (Nat.le_refl _) hi
          have hlen : ∀ ty, (Builtin.len_ #[142] ty #[.map (some bm)]).run Tryz.prog wr = .ok (.int .i64 ((someL wish p).length : Nat)) wr := fun ty => by
            have := hwm.map.size ty
            rw [List.length_map, hkl] at this
            exact this
          have hkb := wk_len p wish wish.length
          rw [hkl] at hkb
          clear hms hkl hgj hjl hj
          by_cases h14 : 14 < (someL wish p).length
          · have hd : decide ((14 : Int) < ((someL wish p).length : Int)) = true := decide_eq_true (by omega)
            go_wp2_with fail
            refine bodyPost_ret (v := .tuple #[.slice none 0 0, .slice none 0 0, .int .i64 2]) (by simp only [results, Tryz.results31]; go_simp) rfl ?_
            have hbw := HB2.out _ (HB3.out _ (by rw [← Hbm.out]; exact hb))
            refine ⟨hbw, ?_⟩
            unfold AgdRes
            exact ⟨hbw, Or.inr ⟨k, hk, by rw [← Hwo.out], Or.inl ⟨by rw [← Hue.out]; exact h14, rfl⟩⟩⟩
          · have hd : decide ((14 : Int) < ((someL wish p).length : Int)) = false := decide_eq_false (by omega)
            have h14' : (someL wish p).length ≤ 14 := by omega
            have HSR := Lib.hid (someL_sorted wish p)
            obtain ⟨D, hownD, hsizeD, hpermD⟩ := hwm.map.owns (by
              rw [List.map_map]
              exact List.pairwise_map.2 (HKN.out.imp (fun {a b} h e => h (by have e2 : (a : Int) = (b : Int) := e; omega)))) (fun x hx => by
              obtain ⟨i, hi, rfl⟩ := List.mem_map.1 hx
              have := HKL.out i hi
              exact int_wf i (by omega)) (by rw [List.length_map]; have := HK.out.length_eq; omega)
            rw [List.length_map, HK.out.length_eq] at hsizeD
            have HPD : Hid ((intKeys D).Perm ((someL wish p).map (fun n : Nat => (n : Int)))) := by
              have h1 := hpermD
              rw [List.map_map] at h1
              exact h1.trans (HK.out.map _)
            have HOD := Lib.hid hownD
            have Hsz := Lib.hid hsizeD
            clear hpermD hownD hsizeD
            rw [List.length_map, HK.out.length_eq] at HOD
            generalize hall : someL wish p = all at *
            have Hall := Lib.hid hall
            clear hall
            go_wp2_with fail
            refine (Tryz.imaps_Keys_91 (some bm) _).mono ?_
            rintro e w7 ⟨rfl, rfl⟩
            go_wp2_with fail
            refine (Tryz.isorted_keys_91 bm all.length D _ wr HOD.out (by rw [Hsz.out]; unfold maxLen; omega) (by rw [Hsz.out]; omega)).mono ?_
            rintro e w7 ⟨v7, ss, rfl, hS, hrow, -, hb7⟩
            have hown7 := own_sorted HSR.out (hS.trans HPD.out) hrow
            obtain ⟨aa, ac, rfl, hsa, -, -⟩ := hown7.form
            rw [Hbm.out] at hb
            have hb37 := below_next hb (below_next ((Below.refl _ _).alloc (Nat.le_refl _) (.cells #[.map (some bm)] 142)) hb7)
            have hwm7 := (hwm.below ((Below.refl _ _).alloc (Nat.le_refl _) (.cells #[.map (some bm)] 142))).below hb7
            clear hS hrow hown7 hwm hb hb7 hlen hd HOD HPD Hsz
            have h14'' : all.length ≤ 14 := by omega
            obtain ⟨NN, hNN, hpb, hpw⟩ := pow_wrap h14''
            have HNN := Lib.hid hNN
            clear hNN
            have hz7 := hb37.size
            obtain ⟨cn, hcn⟩ : ∃ cn : Nat → Nat, cn = fun i => (wlTo p wish wish.length i).length := ⟨_, rfl⟩
            have Hcn := Lib.hid hcn
            obtain ⟨mt, hmt⟩ : ∃ mt : Nat → Nat → Bool, mt = mtN g p := ⟨_, rfl⟩
            have Hmt := Lib.hid hmt
            clear hcn hmt
            have HAK : Hid (∀ i ∈ all, i ∈ wkTo p wish wish.length) := fun i hi => HK.out.mem_iff.2 hi
            have HAL : Hid (∀ i ∈ all, i < p.length) := fun i hi => HKL.out i (HAK.out i hi)
            have HSA : Hid (∀ W, Below w7.heap.size w7 W → SA W aa all) := fun W h => hsa.below h
            have HLK : Hid (∀ i ∈ all, ∃ a c, ∀ W, Below w7.heap.size w7 W → (Instr.lookup 142 (.map (some bm)) (.int .i64 (i : Nat)) false).run Tryz.prog W = .ok (.slice a (cn i) c) W ∧ SA W a (wlTo p wish wish.length i)) := fun i hi => by
              rw [Hcn.out]
              exact hwm7.lookS (HAK.out i hi)
            have hcb : ∀ i, cn i ≤ 1000 := fun i => by rw [Hcn.out]; have := wl_len p wish wish.length i; show (wlTo p wish wish.length i).length ≤ _; omega
            have HBD := Lib.hid (fun l => sumN_bd hcb l)
            have HCB := Lib.hid hcb
            have HAB : Hid (agdBest g p wish = (bestSet mt cn all NN).2) := by
              show _ = _
              unfold agdBest
              rw [Hall.out, ← HNN.out, ← Hmt.out, bestSet_cong (c1 := cn) (c2 := cnN wish p) (fun i hi => by rw [Hcn.out]; exact cn_same Hform.out Hwnd.out (HAL.out i hi))]
            clear hcb
            have HB7 : Hid (∀ W, Below w7.heap.size w7 W → Below w2.heap.size w2 W) := fun W h => HB3.out _ (below_next hb37 h)
            clear hwm7 hsa hb37
            go_upto_region 20 with (fail)
            have hBB := Box.new w7 149 #[.int .i64 0, .slice none 0 0]
            have hb78 : Below w7.heap.size w7 (w7.alloc (.cells #[.int .i64 0, .slice none 0 0] 149)) := (Below.refl _ _).alloc (Nat.le_refl _) _
            generalize w7.alloc (.cells #[.int .i64 0, .slice none 0 0] 149) = w8 at *
            obtain ⟨bB, hbB⟩ : ∃ bB, bB = w7.heap.size := ⟨_, rfl⟩
            have HbB := Lib.hid hbB
            rw [← hbB] at hBB
            rw [← hbB]
            have hbB7 : w7.heap.size ≤ bB := by omega
            clear hbB
            go_wp2_with fail
            rw [hpw]
            clear hpw
            go_loopg [86] NN (fun gk sv wx => ∃ (s : Nat) (lv : Value), sv = .int .i64 s ∧ s ≤ NN ∧ Hid (gk = NN - s) ∧ Box wx bB 149 #[.int .i64 ((bestSet mt cn all s).1 : Nat), lv] ∧ Own (bB + 1) 3 wx lv (bestSet mt cn all s).2 ∧ Below w7.heap.size w7 wx)
            case atStart => exact ⟨0, _, rfl, by omega, rfl, hBB, Own.nil _ _ _, hb78⟩
            case round =>
              clear hBB hb78
              obtain ⟨s, lv, rfl, hs, hgs, hBx, hbo, hb⟩ := hrel
              by_cases hsN : s < NN
              · have hs2 : (s : Int) < (NN : Int) := by omega
                go_upto_region 24 with (fail)
                have hCC := Box.new wr 149 #[.int .i64 0, .slice none 0 0]
                have hbC : Below wr.heap.size wr (wr.alloc (.cells #[.int .i64 0, .slice none 0 0] 149)) := (Below.refl _ _).alloc (Nat.le_refl _) _
                generalize wr.alloc (.cells #[.int .i64 0, .slice none 0 0] 149) = w9 at *
                obtain ⟨bC, hbCe⟩ : ∃ bC, bC = wr.heap.size := ⟨_, rfl⟩
                rw [← hbCe] at hCC hbC
                rw [← hbCe]
                obtain ⟨wz, hwz⟩ : ∃ wz, wz = wr := ⟨_, rfl⟩
                have HbC : Hid (bC = wz.heap.size) := by rw [hwz]; exact hbCe
                have HBX : Hid (∀ W, Below wz.heap.size wz W → Box W bB 149 #[.int .i64 ((bestSet mt cn all s).1 : Nat), lv] ∧ Own (bB + 1) 3 W lv (bestSet mt cn all s).2 ∧ Below w7.heap.size w7 W) := fun W h => by rw [hwz] at h; exact ⟨hBx.below h, hbo.below h, below_next hb h⟩
                have hbBC : bB < bC := by rw [hbCe]; exact hBx.lt
                rw [← hwz] at hbC
                clear hBx hbo hb hwz hbCe
                go_wp2_with fail
                go_loopg [92, 22] all.length (fun gk kv ov wq => ∃ (j : Nat) (vl : Value), kv = .int .i64 j ∧ ov = .bool (freeTo mt all s j) ∧ j ≤ all.length ∧ Hid (gk = all.length - j) ∧ Box wq bC 149 #[.int .i64 (sumN cn (subTo all s j) : Nat), vl] ∧ Own (bC + 1) 3 wq vl (subTo all s j) ∧ Below bC wz wq)
                case atStart => exact ⟨0, _, rfl, rfl, by omega, rfl, hCC, Own.nil _ _ _, hbC⟩
                case round =>
                  clear hCC hbC
                  obtain ⟨j, vl, rfl, rfl, hj, hgj, hCx, hlo, hbq⟩ := hrel
                  have hbq' : Below wz.heap.size wz wr := by rw [← HbC.out]; exact hbq
                  by_cases hjl : j < all.length
                  · have hb7q := (HBX.out _ hbq').2.2
                    obtain ⟨xb, xo, hxa, x0⟩ := (HSA.out _ hb7q).natC hjl
                    have Hxa := Lib.hid hxa
                    rw [hxa]
                    clear hxa
                    have Hsu := Lib.hid (subTo_succ all s hjl)
                    have Hfr := Lib.hid (free_succ mt (s := s) hjl)
                    have hq := bit_at s j
                    have him : all[j] ∈ all := List.getElem_mem hjl
                    have hip := HAL.out _ him
                    generalize all[j] = i at *
                    have hj0 : (0 : Int) ≤ (j : Int) := by omega
                    have hj64 : decide ((64 : Int) ≤ (j : Int)) = false := decide_eq_false (by omega)
                    cases hbt : bitB s j
                    · rw [hbt, if_neg (by decide)] at hq Hfr
                      rw [hbt, if_neg (by decide), List.append_nil] at Hsu
                      go_wp2_with fail
                      rw [← Hxa.out]
                      go_roundg (all.length - (j + 1))
                      case measure => have := hgj.out; omega
                      case rel => exact ⟨j + 1, _, by go_num, by rw [Hfr.out], by omega, rfl, by rw [Hsu.out]; exact hCx, by rw [Hsu.out]; exact hlo, hbq⟩
                    · rw [hbt, if_pos rfl] at hq Hfr Hsu
                      obtain ⟨la, lc, rfl, hls, -, -⟩ := hlo.form
                      have hll := subTo_len all s j
                      have HLM : Hid (∀ x ∈ subTo all s j, x < p.length) := fun x hx => HAL.out x (List.mem_of_mem_take (subTo_mem j (by omega) x hx))
                      generalize subTo all s j = lj at *
                      generalize freeTo mt all s j = F0 at *
                      obtain ⟨wy, hwy⟩ : ∃ wy, wy = wr := ⟨_, rfl⟩
                      have HLS : Hid (∀ W, Below wy.heap.size wy W → SA W la lj) := fun W h => by rw [hwy] at h; exact hls.below h
                      have HCX : Hid (∀ W, Below wy.heap.size wy W → Box W bC 149 #[.int .i64 (sumN cn lj : Nat), .slice la lj.length lc] ∧ Own (bC + 1) 3 W (.slice la lj.length lc) lj ∧ Below wz.heap.size wz W) := fun W h => by rw [hwy] at h; exact ⟨hCx.below h, hlo.below h, below_next hbq' h⟩
                      have Hwy := Lib.hid hwy
                      have hCx_l := hCx.lt; have hCx_0 := hCx.cell 0; have hCx_1 := hCx.cell 1; simp at hCx_0 hCx_1
                      go_wp2_with fail
                      clear hCx_l hCx_0 hCx_1
                      clear hwy hls hlo hCx hbq hbq' hb7q
                      go_loopg [105, 22] lj.length (fun gk ov fv wx => ∃ o : Nat, ov = .int .i64 o ∧ fv = .bool (F0 && (lj.take o).all (fun x => !mt x i)) ∧ o ≤ lj.length ∧ Hid (gk = lj.length - o) ∧ Below wy.heap.size wy wx)
                      case atStart => exact ⟨0, rfl, by simp, by omega, rfl, by rw [Hwy.out]; exact Below.refl _ _⟩
                      case round =>
                        obtain ⟨o, rfl, rfl, ho, hgo, hbx⟩ := hrel
                        by_cases hol : o < lj.length
                        · obtain ⟨lb, lo_, hla, y0⟩ := (HLS.out _ hbx).natC hol
                          have Hla := Lib.hid hla
                          rw [hla]
                          clear hla
                          have hkp := HLM.out _ (List.getElem_mem hol)
                          have Hat := Lib.hid (all_take (fun x => !mt x i) hol)
                          have hbW := HB7.out _ (HBX.out _ (HCX.out _ hbx).2.2).2.2
                          have hPW := HP.out _ (HB2.out _ hbW)
                          have hM := Lib.hid (fun W (h : Below wr.heap.size wr W) => HBx.out W (below_next hbW h) p[lj[o]] p[i] (List.getElem_mem hkp) (List.getElem_mem hip))
                          rw [← mtN_at g hkp hip, ← Hmt.out] at hM
                          generalize lj[o] = x at *
                          generalize (lj.take o).all (fun x => !mt x i) = A0 at *
                          obtain ⟨pb, po, hpa, c0, c1, c2⟩ := hPW.list.sesC hkp
                          obtain ⟨pb2, po2, hpa2, d0, d1, d2⟩ := hPW.list.sesC hip
                          rw [hpa] at hpa2
                          cases hpa2
                          have Hpa := Lib.hid hpa
                          rw [hpa]
                          clear hpa hPW
                          generalize mt x i = M at *
                          generalize p[x] = sx at *
                          generalize p[i] = si at *
                          obtain ⟨s1, s2, s3, s4, s5⟩ := si
                          obtain ⟨o1, o2, o3, o4, o5⟩ := sx
                          simp only at c0 c1 c2 d0 d1 d2
                          unfold Ses.agg at hM
                          simp only at hM
                          have hi0 : (0 : Int) ≤ (i : Int) := by omega
                          have hi2 : (i : Int) < (p.length : Int) := by omega
                          have ho0 : (0 : Int) ≤ (x : Int) := by omega
                          have ho2 : (x : Int) < (p.length : Int) := by omega
                          generalize hF : (F0 && A0) = F at *
                          have HF := Lib.hid hF
                          clear hF
                          go_upto_region 31 with (fail)
                          refine wp_region_held_drew (S := (fun wx => wx.cell? ⟨pb, po + x * 3, none⟩ = some (.string o1) ∧ wx.cell? ⟨pb, po + x * 3 + 1, none⟩ = some (.string o2) ∧ wx.cell? ⟨pb, po + x * 3 + 2, none⟩ = some (.slice o4 o3.length o5) ∧ wx.cell? ⟨pb, po + i * 3, none⟩ = some (.string s1) ∧ wx.cell? ⟨pb, po + i * 3 + 1, none⟩ = some (.string s2) ∧ wx.cell? ⟨pb, po + i * 3 + 2, none⟩ = some (.slice s4 s3.length s5) ∧ Below wr.heap.size wr wx)) (by kernel_rfl) ?hS (fun hHeld => ?_)
                          case hS => exact ⟨c0, c1, c2, d0, d1, d2, (Below.refl _ _).drew⟩
                          refine rt 0 (some 109) ?_
                          refine rt 1 (some 110) ?_
                          cases F
                          · (try skip)
                            refine rs 2 (some 111) ?_
                            refine rs 3 (some 112) ?_
                            refine rs 4 (some 113) ?_
                            refine rs 5 (some 114) ?_
                            refine rs 6 (some 115) ?_
                            refine rs 7 (some 116) ?_
                            refine rs 8 (some 117) ?_
                            refine rs 9 (some 118) ?_
                            refine rs 10 (some 119) ?_
                            refine rs 11 (some 120) ?_
                            refine rs 12 (some 121) ?_
                            refine rt 13 (some 122) ?_
                            refine rt 14 (some 22) ?_
                            refine wpAnyH_done (by kernel_rfl) ?_ _
                            have hbF := below_next hbx hHeld.2.2.2.2.2.2
                            go_wp2_with fail
                            rw [← Hla.out, ← Hpa.out]
                            go_roundg (lj.length - (o + 1))
                            case measure => have := hgo.out; omega
                            case rel => exact ⟨o + 1, by go_num, by rw [Hat.out, ← Bool.and_assoc, HF.out]; rfl, by omega, rfl, hbF⟩
                          · (try skip)
                            refine rt 2 (some 111) ?_
                            refine rt 3 (some 112) ?_
                            refine rt 4 (some 113) ?_
                            refine rt 5 (some 114) ?_
                            refine rt 6 (some 115) ?_
                            refine rt 7 (some 116) ?_
                            refine rt 8 (some 117) ?_
                            refine rt 9 (some 118) ?_
                            refine rt 10 (some 119) ?_
                            refine rcall (i := 11) (d := (some 120)) (by kernel_rfl) rfl (by kernel_rfl) (fun K hK => ?_)
                            go_simp
                            go_at_call 92; refine (hM.out _ hHeld.2.2.2.2.2.2).mono ?_; rintro e w3' ⟨rfl, hb3⟩
                            refine hK.out _ _ ?hS (fun hHeld => ?_)
                            case hS => exact ⟨cell_later hb3 hHeld.1, cell_later hb3 hHeld.2.1, cell_later hb3 hHeld.2.2.1, cell_later hb3 hHeld.2.2.2.1, cell_later hb3 hHeld.2.2.2.2.1, cell_later hb3 hHeld.2.2.2.2.2.1, below_next hHeld.2.2.2.2.2.2 hb3⟩
                            clear hK K
                            simp only [Act.put, lsetA, lsetZ, lsetS]
                            refine rt 12 (some 121) ?_
                            refine rt 13 (some 122) ?_
                            refine rt 14 (some 22) ?_
                            refine wpAnyH_done (by kernel_rfl) ?_ _
                            have hbF := below_next hbx hHeld.2.2.2.2.2.2
                            go_wp2_with fail
                            rw [← Hla.out, ← Hpa.out]
                            go_roundg (lj.length - (o + 1))
                            case measure => have := hgo.out; omega
                            case rel => exact ⟨o + 1, by go_num, by rw [Hat.out, ← Bool.and_assoc, HF.out]; rfl, by omega, rfl, hbF⟩
                        · obtain rfl : o = lj.length := by omega
                          rw [List.take_length, ← Hfr.out]
                          obtain ⟨hCx, hlo, hbz⟩ := HCX.out _ hbx
                          have hb7q := (HBX.out _ hbz).2.2
                          obtain ⟨av, ac2, hav⟩ := HLK.out i him
                          have HAV := Lib.hid hav
                          clear Hfr hav
                          have hbd := HBD.out lj
                          have hci := HCB.out i
                          have hw : IntKind.i64.wrap (((sumN cn lj : Nat) : Int) + ((cn i : Nat) : Int)) = ((sumN cn lj + cn i : Nat) : Int) := by rw [IntWalk.i64_in _ (by omega)]; omega
                          have HSN := Lib.hid (sumN_snoc cn lj i)
                          generalize sumN cn lj = n1 at *
                          generalize cn i = n2 at *
                          go_upto_region 33 with (fail)
                          have hCx_l := hCx.lt; have hCx_0 := hCx.cell 0; have hCx_1 := hCx.cell 1; simp at hCx_0 hCx_1
                          refine wp_regionG (S := (fun wx => wx.cell? ⟨bC, 0, none⟩ = some (.int .i64 (n1 : Nat)) ∧ wx.cell? ⟨bC, 1, none⟩ = some (.slice la lj.length lc) ∧ (Instr.lookup 142 (.map (some bm)) (.int .i64 (i : Nat)) false).run Tryz.prog wx = .ok (.slice av n2 ac2) wx)) 13 (by kernel_rfl) ?hS (fun hHeld => ?_)
                          case hS => exact ⟨hCx_0, hCx_1, (HAV.out _ hb7q.drew).1⟩
                          refine rtakeG (i := 0) (d := (some 124)) (v := ?_) (n := 40) rfl (by kernel_rfl) (by kernel_rfl) (by kernel_rfl) (by kernel_rfl) (by kernel_rfl) (by kernel_rfl) (fun _ _ _ h => h) (by kernel_rfl) (by assumption) ?_ ?_
                          rotate_left 1
                          · (intro wI hSI; (try dsimp only at hSI); go_simp; (try with_reducible rfl))
                          simp only [Act.put, lsetA, lsetZ, lsetS]
                          refine rtakeG (i := 1) (d := (some 125)) (v := ?_) (n := 40) rfl (by kernel_rfl) (by kernel_rfl) (by kernel_rfl) (by kernel_rfl) (by kernel_rfl) (by kernel_rfl) (fun _ _ _ h => h) (by kernel_rfl) (by assumption) ?_ ?_
                          rotate_left 1
                          · (intro wI hSI; (try dsimp only at hSI); go_simp; (try with_reducible rfl))
                          simp only [Act.put, lsetA, lsetZ, lsetS]
                          refine rtakeG (i := 2) (d := (some 126)) (v := ?_) (n := 40) rfl (by kernel_rfl) (by kernel_rfl) (by kernel_rfl) (by kernel_rfl) (by kernel_rfl) (by kernel_rfl) (fun _ _ _ h => h) (by kernel_rfl) (by assumption) ?_ ?_
                          rotate_left 1
                          · (intro wI hSI; (try dsimp only at hSI); go_simp; (try with_reducible rfl))
                          simp only [Act.put, lsetA, lsetZ, lsetS]
                          refine rtakeG (i := 3) (d := (some 127)) (v := ?_) (n := 40) rfl (by kernel_rfl) (by kernel_rfl) (by kernel_rfl) (by kernel_rfl) (by kernel_rfl) (by kernel_rfl) (fun _ _ _ h => h) (by kernel_rfl) (by assumption) ?_ ?_
                          rotate_left 1
                          · (intro wI hSI; (try dsimp only at hSI); go_simp; (try with_reducible rfl))
                          simp only [Act.put, lsetA, lsetZ, lsetS]
                          refine rtakeG (i := 4) (d := (some 128)) (v := ?_) (n := 40) rfl (by kernel_rfl) (by kernel_rfl) (by kernel_rfl) (by kernel_rfl) (by kernel_rfl) (by kernel_rfl) (fun _ _ _ h => h) (by kernel_rfl) (by assumption) ?_ ?_
                          rotate_left 1
                          · (intro wI hSI; (try dsimp only at hSI); go_simp; (try with_reducible rfl))
                          simp only [Act.put, lsetA, lsetZ, lsetS]
                          refine rtakeG (i := 5) (d := (some 129)) (v := ?_) (n := 40) rfl (by kernel_rfl) (by kernel_rfl) (by kernel_rfl) (by kernel_rfl) (by kernel_rfl) (by kernel_rfl) (fun _ _ _ h => h) (by kernel_rfl) (by assumption) ?_ ?_
                          rotate_left 1
                          · (intro wI hSI; (try dsimp only at hSI); go_simp; (try with_reducible rfl))
                          simp only [Act.put, lsetA, lsetZ, lsetS]
                          refine rtakeG (i := 6) (d := (some 130)) (v := ?_) (n := 40) rfl (by kernel_rfl) (by kernel_rfl) (by kernel_rfl) (by kernel_rfl) (by kernel_rfl) (by kernel_rfl) (fun _ _ _ h => h) (by kernel_rfl) (by assumption) ?_ ?_
                          rotate_left 1
                          · (intro wI hSI; (try dsimp only at hSI); go_simp; (try with_reducible rfl))
                          simp only [Act.put, lsetA, lsetZ, lsetS]
                          refine rtakeG (i := 7) (d := (some 131)) (v := ?_) (n := 40) rfl (by kernel_rfl) (by kernel_rfl) (by kernel_rfl) (by kernel_rfl) (by kernel_rfl) (by kernel_rfl) (fun _ _ _ h => h) (by kernel_rfl) (by assumption) ?_ ?_
                          rotate_left 1
                          · (intro wI hSI; (try dsimp only at hSI); go_simp; (try with_reducible rfl))
                          simp only [Act.put, lsetA, lsetZ, lsetS]
                          refine rtakeG (i := 8) (d := (some 132)) (v := ?_) (n := 40) rfl (by kernel_rfl) (by kernel_rfl) (by kernel_rfl) (by kernel_rfl) (by kernel_rfl) (by kernel_rfl) (fun _ _ _ h => h) (by kernel_rfl) (by assumption) ?_ ?_
                          rotate_left 1
                          · (intro wI hSI; (try dsimp only at hSI); go_simp; (try with_reducible rfl))
                          simp only [Act.put, lsetA, lsetZ, lsetS]
                          refine rtakeG (i := 9) (d := (some 133)) (v := ?_) (n := 40) rfl (by kernel_rfl) (by kernel_rfl) (by kernel_rfl) (by kernel_rfl) (by kernel_rfl) (by kernel_rfl) (fun _ _ _ h => h) (by kernel_rfl) (by assumption) ?_ ?_
                          rotate_left 1
                          · (intro wI hSI; (try dsimp only at hSI); go_simp; (try with_reducible rfl))
                          simp only [Act.put, lsetA, lsetZ, lsetS]
                          refine rtakeG (i := 12) (d := (some 136)) (v := ?_) (n := 40) rfl (by kernel_rfl) (by kernel_rfl) (by kernel_rfl) (by kernel_rfl) (by kernel_rfl) (by kernel_rfl) (fun _ _ _ h => h) (by kernel_rfl) (by assumption) ?_ ?_
                          rotate_left 1
                          · (intro wI hSI; (try dsimp only at hSI); go_simp; (try with_reducible rfl))
                          simp only [Act.put, lsetA, lsetZ, lsetS]
                          clear hHeld
                          have hloA := hlo.drew.alloc (.cells #[.int .i64 (i : Nat)] 3)
                          have hCxA := hCx.drew.alloc (.cells #[.int .i64 (i : Nat)] 3)
                          have hbzA := hbz.drew.alloc (by have := hbz.size; simpa using this) (.cells #[.int .i64 (i : Nat)] 3)
                          have hb7A := hb7q.drew.alloc (by have := hb7q.size; simpa using this) (.cells #[.int .i64 (i : Nat)] 3)
                          have hol := hloA.lt
                          refine rcallG (i := 10) (d := (some 134)) (by kernel_rfl) rfl (by kernel_rfl) (fun K hK => ?_)
                          go_simp
                          refine hK.out _ _ (.inr ?hS) (fun hHeld0 => ?_)
                          case hS => exact ⟨hCxA.cell 0, hCxA.cell 1, (HAV.out _ hb7A).1⟩
                          clear hK K
                          have hHeld := hHeld0.resolve_left (by decide)
                          simp only [Act.put, lsetA, lsetZ, lsetS]
                          refine rcallG (i := 11) (d := (some 135)) (by kernel_rfl) rfl (by kernel_rfl) (fun K hK => ?_)
                          refine step_append_lie (α := Nat) (by rfl) _ _ 22 (by rfl) 3 8 (.int .i64 0) Tryz.underlying22 infoIntA (by rfl) (.slice la lj.length lc) lj (by rfl) hloA i _ (by rfl) (Box.new _ _ _) (by omega) (by omega) (by simp; omega) ?_; intro g9 cap9 w9' hown9 hg9 hat9; have hC9 := hCxA.grown hg9 (fun e => by have := (hol bC e.symm).1; omega); have hb79 := hb7A.grown hg9 (by have := hb7A.size; omega) (fun j hj => by have := (hol j hj).1; omega)
                          refine hK.out _ _ (.inr ?hS) (fun hHeld0 => ?_)
                          case hS => exact ⟨hC9.cell 0, hC9.cell 1, (HAV.out _ hb79).1⟩
                          clear hK K
                          have hHeld := hHeld0.resolve_left (by decide)
                          simp only [Act.put, lsetA, lsetZ, lsetS]
                          have hbz9 := hbzA.grown hg9 (by have := hbzA.size; omega) (fun j hj => by have := (hol j hj).1; have := HbC.out; omega)
                          have hS0 := hC9.set 0 (.int .i64 ((n1 : Int) + (n2 : Int)))
                          have hS1 := hS0.set 1 (.slice (some ⟨g9, 0, none⟩) (lj.length + 1) cap9)
                          simp at hS0 hS1
                          have hgC : g9 ≠ bC := by have := (hown9.lt g9 rfl).1; omega
                          have hownF := (hown9.setOther (p := ⟨bC, 0, none⟩) (fun b hb => by obtain rfl : g9 = b := Option.some.inj hb; exact hgC) (.int .i64 ((n1 : Int) + (n2 : Int)))).setOther (p := ⟨bC, 1, none⟩) (fun b hb => by obtain rfl : g9 = b := Option.some.inj hb; exact hgC) (.slice (some ⟨g9, 0, none⟩) (lj.length + 1) cap9)
                          have hbzF := (hbz9.setCell (p := ⟨bC, 0, none⟩) (by show wz.heap.size ≤ bC; have := HbC.out; omega) (.int .i64 ((n1 : Int) + (n2 : Int)))).setCell (p := ⟨bC, 1, none⟩) (by show wz.heap.size ≤ bC; have := HbC.out; omega) (.slice (some ⟨g9, 0, none⟩) (lj.length + 1) cap9)
                          have HSF := Lib.hid hS1
                          have HOF := Lib.hid hownF
                          have HZF := Lib.hid hbzF
                          have hc90 := hC9.cell 0
                          have hf90 := hC9.frozen 0
                          have hc91 := hS0.cell 1
                          have hf91 := hS0.frozen 1
                          simp at hc90 hf90 hc91 hf91
                          clear hS1 hownF hbzF hbz9 hown9 hat9 hg9 hol hHeld
                          refine rcallG (i := 13) (d := none) (by kernel_rfl) rfl (by kernel_rfl) (fun K hK => ?_)
                          go_simp
                          refine hK.out undef _ (.inl (by decide)) (fun _ => ?_)
                          clear hK K
                          simp only [Act.put, lsetA, lsetZ, lsetS]
                          refine rcallG (i := 14) (d := (some 137)) (by kernel_rfl) rfl (by kernel_rfl) (fun K hK => ?_)
                          go_simp
                          refine hK.out _ _ (.inl (by decide)) (fun _ => ?_)
                          clear hK K
                          simp only [Act.put, lsetA, lsetZ, lsetS]
                          refine rcallG (i := 15) (d := none) (by kernel_rfl) rfl (by kernel_rfl) (fun K hK => ?_)
                          go_simp
                          refine hK.out undef _ (.inl (by decide)) (fun _ => ?_)
                          clear hK K
                          simp only [Act.put, lsetA, lsetZ, lsetS]
                          refine wpAnyG_done (by kernel_rfl) ?_ _
                          clear hS0 hC9 hc90 hf90 hc91 hf91
                          generalize (w9'.setCell ⟨bC, 0, none⟩ (.int .i64 ((n1 : Int) + (n2 : Int)))).setCell ⟨bC, 1, none⟩ (.slice (some ⟨g9, 0, none⟩) (lj.length + 1) cap9) = wF at *
                          go_wp2_with fail
                          rw [← Hxa.out]
                          go_roundg (all.length - (j + 1))
                          case measure => have := hgj.out; omega
                          case rel => exact ⟨j + 1, _, by go_num, rfl, by omega, rfl, by rw [Hsu.out, HSN.out, Int.natCast_add]; exact HSF.out, by rw [Hsu.out]; exact HOF.out, by rw [HbC.out]; exact HZF.out⟩
                  · obtain rfl : j = all.length := by omega
                    obtain ⟨hBx, hbo, hb7q⟩ := HBX.out _ hbq'
                    obtain ⟨bN, hbN⟩ : ∃ bN, bN = bestSet mt cn all (s + 1) := ⟨_, rfl⟩
                    have HbN := Lib.hid hbN
                    have Hst : Hid (bN = if (freeTo mt all s all.length && btrB (sumN cn (subTo all s all.length), subTo all s all.length) (bestSet mt cn all s)) = true then (sumN cn (subTo all s all.length), subTo all s all.length) else bestSet mt cn all s) := by rw [hbN]; rfl
                    have hll := subTo_len all s all.length
                    have hBl := bestSet_len (mt := mt) (cn := cn) (all := all) s
                    clear hbN hgj hjl hj
                    generalize subTo all s all.length = l at *
                    generalize bestSet mt cn all s = B at *
                    generalize freeTo mt all s all.length = F at *
                    obtain ⟨nB, lB⟩ := B
                    simp only at hBx hbo hBl
                    obtain ⟨la, lc, rfl, hls, -, -⟩ := hlo.form
                    obtain ⟨ba, bc, rfl, hbs, -, -⟩ := hbo.form
                    have HBT := Lib.hid (better_any (sumN cn l, l) (nB, lB) la ba lc bc wr hls hbs (by show l.length ≤ _; omega) (by show lB.length ≤ _; omega))
                    unfold chcV at HBT
                    simp only at HBT
                    generalize btrB (sumN cn l, l) (nB, lB) = bt at *
                    generalize sumN cn l = n1 at *
                    cases F
                    · have Hst3 : Hid (bN = (nB, lB)) := by show _ = _; rw [Hst.out]; rfl
                      clear Hst HBT
                      go_wp2_with fail
                      go_roundg (NN - (s + 1))
                      case measure => have := hgs.out; omega
                      case rel => exact ⟨s + 1, _, by go_num, by omega, rfl, by rw [← HbN.out, Hst3.out]; exact hBx, by rw [← HbN.out, Hst3.out]; exact hbo, hb7q⟩
                    · have Hst2 : Hid (bN = if bt = true then (n1, l) else (nB, lB)) := Hst.out
                      clear Hst
                      have hCx_l := hCx.lt; have hCx_0 := hCx.cell 0; have hCx_1 := hCx.cell 1; simp at hCx_0 hCx_1
                      have hBx_l := hBx.lt; have hBx_0 := hBx.cell 0; have hBx_1 := hBx.cell 1; simp at hBx_0 hBx_1
                      go_wp2_with fail
                      clear hCx_l hCx_0 hCx_1
                      clear hBx_l hBx_0 hBx_1
                      refine HBT.out.mono ?_
                      rintro e w1' ⟨rfl, hbe⟩
                      have hBx1 := hBx.below hbe
                      have hCx1 := hCx.below hbe
                      have hbo1 := hbo.below hbe
                      have hlo1 := hlo.below hbe
                      have hb71 := below_next hb7q hbe
                      clear HBT hls hbs hlo hbo hCx hBx hb7q hbe hbq hbq'
                      cases bt
                      · have Hst3 : Hid (bN = (nB, lB)) := by show _ = _; rw [Hst2.out]; rfl
                        clear Hst2
                        go_wp2_with fail
                        go_roundg (NN - (s + 1))
                        case measure => have := hgs.out; omega
                        case rel => exact ⟨s + 1, _, by go_num, by omega, rfl, by rw [← HbN.out, Hst3.out]; exact hBx1, by rw [← HbN.out, Hst3.out]; exact hbo1, hb71⟩
                      · have Hst3 : Hid (bN = (n1, l)) := by show _ = _; rw [Hst2.out]; rfl
                        clear Hst2
                        have hS1 := (hBx1.set 0 (.int .i64 (n1 : Nat))).set 1 (.slice la l.length lc)
                        simp at hS1
                        have hlB : ∀ b, (Value.slice la l.length lc).ownBlock = some b → b ≠ bB := fun b hb => by have := (hlo1.lt b hb).1; omega
                        have hownF := ((hlo1.setOther (p := ⟨bB, 0, none⟩) hlB (.int .i64 (n1 : Nat))).setOther (p := ⟨bB, 1, none⟩) hlB (.slice la l.length lc)).mono (show bB + 1 ≤ bC + 1 by omega)
                        have hbzF := (hb71.setCell (p := ⟨bB, 0, none⟩) hbB7 (.int .i64 (n1 : Nat))).setCell (p := ⟨bB, 1, none⟩) hbB7 (.slice la l.length lc)
                        have HSF := Lib.hid hS1
                        have HOF := Lib.hid hownF
                        have HZF := Lib.hid hbzF
                        clear hS1 hownF hbzF hlB hbo1 hlo1 hb71
                        have hCx1_l := hCx1.lt; have hCx1_0 := hCx1.cell 0; have hCx1_1 := hCx1.cell 1; simp at hCx1_0 hCx1_1
                        have hBx1_l := hBx1.lt; have hBx1_0 := hBx1.cell 0; have hBx1_1 := hBx1.cell 1; simp at hBx1_0 hBx1_1
                        have hBx1_f0 := hBx1.frozen 0; have hBx1_f1 := hBx1.frozen 1
                        go_upto_region 37 with (fail)
                        clear hCx1_l hCx1_0 hCx1_1
                        clear hBx1_l hBx1_0 hBx1_1
                        clear hBx1_f0 hBx1_f1 hBx1 hCx1
                        generalize (w1'.setCell ⟨bB, 0, none⟩ (.int .i64 (n1 : Nat))).setCell ⟨bB, 1, none⟩ (.slice la l.length lc) = wF at *
                        go_wp2_with fail
                        go_roundg (NN - (s + 1))
                        case measure => have := hgs.out; omega
                        case rel => exact ⟨s + 1, _, by go_num, by omega, rfl, by rw [← HbN.out, Hst3.out]; exact HSF.out, by rw [← HbN.out, Hst3.out]; exact HOF.out, HZF.out⟩
              · obtain rfl : s = NN := by omega
                have hbm := fun x hx => bestSet_mem (mt := mt) (cn := cn) (all := all) s x hx
                have hbl := bestSet_len (mt := mt) (cn := cn) (all := all) s
                have hbd1 := (bestSet mt cn all s).1
                clear HNN hpb HBD
                generalize (bestSet mt cn all s).2 = bl at *
                generalize (bestSet mt cn all s).1 = bn1 at *
                obtain ⟨vba, vbc, rfl, hbs, -, -⟩ := hbo.form
                obtain ⟨w9, hw9⟩ : ∃ w9, w9 = wr := ⟨_, rfl⟩
                have HBS := Lib.hid (fun W (h : Below wr.heap.size wr W) => hbs.below h)
                rw [← hw9] at HBS
                have HB9 : Hid (∀ W, Below w9.heap.size w9 W → Below w7.heap.size w7 W) := fun W h => by rw [hw9] at h; exact below_next hb h
                have Hw9 := Lib.hid hw9
                have HBM := Lib.hid hbm
                have hBx_l := hBx.lt; have hBx_0 := hBx.cell 0; have hBx_1 := hBx.cell 1; simp at hBx_0 hBx_1
                go_wp2_with fail
                clear hBx_l hBx_0 hBx_1
                clear hw9 hbs hbo hb hbm hBx
                go_loopg [150, 27, 28] bl.length (fun gk iv pv sv wx => ∃ (j : Nat) (v1 v2 : Value) (ls : List Ses), v1 = pv ∧ v2 = sv ∧ iv = .int .i64 j ∧ j ≤ bl.length ∧ Hid (gk = bl.length - j) ∧ PS w9.heap.size wx v1 v2 ((bl.take j).flatMap (wlTo p wish wish.length)) ls ∧ Hid (ls.map (fun s => some (keyOf3 s)) = (bl.take j).map (fun i => p[i]?.map keyOf3)) ∧ Below w9.heap.size w9 wx)
                case atStart => exact ⟨0, _, _, [], rfl, rfl, rfl, by omega, rfl, PS.nil _ _, rfl, by rw [Hw9.out]; exact Below.refl _ _⟩
                case round =>
                  obtain ⟨j, v1, v2, ls, rfl, rfl, rfl, hj, hgj, hps, hlk, hb9⟩ := hrel
                  by_cases hjl : j < bl.length
                  · obtain ⟨lb, lo_, hla, y0⟩ := (HBS.out _ hb9).natC hjl
                    have Hla := Lib.hid hla
                    rw [hla]
                    clear hla
                    have him := HBM.out _ (List.getElem_mem hjl)
                    have hip := HAL.out _ him
                    have Hf1 := Lib.hid (wlf_take p wish hjl)
                    have Hf2 := Lib.hid (key_take hjl hip)
                    have hln := wlf_len p wish (bl.take j)
                    rw [List.length_take, Nat.min_eq_left (by omega)] at hln
                    have hln2 : wish.length * j ≤ 1000 * 14 := Nat.mul_le_mul huw (by omega)
                    have hlsl : ls.length ≤ 14 := by
                      have hlsl := congrArg List.length hlk.out
                      rw [List.length_map, List.length_map, List.length_take, Nat.min_eq_left (by omega)] at hlsl
                      omega
                    have hyl := wl_len p wish wish.length bl[j]
                    have Hyn := Lib.hid (wl_some (Nat.le_refl _) (HAK.out _ him))
                    obtain ⟨av, ac2, hav⟩ := HLK.out _ him
                    rw [Hcn.out] at hav
                    simp only at hav
                    have hb7w := HB9.out _ hb9
                    have hlkv := (hav wr hb7w).1
                    have hysa := (hav wr hb7w).2
                    clear hav
                    generalize bl[j] = i at *
                    generalize (bl.take j).flatMap (wlTo p wish wish.length) = acc at *
                    generalize wlTo p wish wish.length i = ys at *
                    have hPW := HP.out _ (HB2.out _ (HB7.out _ hb7w))
                    obtain ⟨pb, po, hpa, -, -, -⟩ := hPW.list.sesC hip
                    have HPC : Hid (∀ W, Below w9.heap.size w9 W → W.cell? ⟨pb, po + i * 3, none⟩ = some (.string p[i].slot) ∧ W.cell? ⟨pb, po + i * 3 + 1, none⟩ = some (.string p[i].room) ∧ W.cell? ⟨pb, po + i * 3 + 2, none⟩ = some (.slice p[i].a1 p[i].papers.length p[i].c1) ∧ SA W p[i].a1 p[i].papers) := fun W h => by
                      have hW := HP.out _ (HB2.out _ (HB7.out _ (HB9.out _ h)))
                      obtain ⟨b', o', h', c0, c1, c2⟩ := hW.list.sesC hip
                      rw [hpa] at h'
                      cases h'
                      exact ⟨c0, c1, c2, hW.papers _ (List.getElem_mem hip)⟩
                    have hsl := HPO.out _ (List.getElem_mem hip)
                    have Hpa := Lib.hid hpa
                    rw [hpa]
                    clear hpa hPW
                    generalize p[i] = sx at *
                    obtain ⟨s1, s2, s3, s4, s5⟩ := sx
                    simp only at HPC hsl Hf2
                    have hi0 : (0 : Int) ≤ (i : Int) := by omega
                    have hi2 : (i : Int) < (p.length : Int) := by omega
                    have hzw := hb9.size
                    have HA := Lib.hid hps.a
                    have Hol := Lib.hid hps.a.lt
                    have HPP := Lib.hid (fun g n cap w' l1' (h1 : Own w9.heap.size 9 w' (.slice (some ⟨g, 0, none⟩) n cap) l1') h2 h3 => hps.papers h1 h2 h3)
                    have HB9w := Lib.hid hb9
                    clear hps hb9 him
                    go_wp2_with (at_builtin; refine wpList_append_more (α := ByteArray) rfl _ _ 56 rfl 9 16 (.string ⟨#[]⟩) Tryz.underlying56 Tryz.infoString rfl v1 acc rfl HA.out ys av ac2 rfl hysa Hyn.out (by omega) (by omega) (by omega) ?_; intro g8 cap8 w8' hown8 hg8 hat8; have hps8 := HPP.out _ _ _ _ _ hown8 hg8 hat8; have hb98 := HB9w.out.grown hg8 hzw (fun j hj => by have := (Hol.out j hj).1; omega); have hz8 := hg8.size; obtain ⟨c80, c81, c82, hs8⟩ := HPC.out _ hb98; clear hown8 hg8 hat8)
                    have HCL := Lib.hid (cloneP_any ⟨s1, s2, s3, s4, s5⟩ w8' hs8 (by show s3.length ≤ _; omega))
                    unfold Ses.agg at HCL
                    simp only at HCL
                    clear c80 c81 c82 hs8 HPC HPP HA Hol hysa hlkv
                    refine HCL.out.mono ?_
                    rintro e w10 ⟨aC, cC, n4, rfl, hn4, hoC, hbC⟩
                    have hb910 := below_next hb98 hbC
                    have hz910 := hb910.size
                    have HOB := Lib.hid ((hps8.below hbC).b.1.alloc (.cells #[.string s1, .string s2, .slice aC s3.length cC] 114))
                    have Hol := Lib.hid (hps8.below hbC).b.1.lt
                    have HPC := Lib.hid (fun g n cap w9' (h1 : Own w9.heap.size 114 w9' (.slice (some ⟨g, 0, none⟩) n cap) (ls ++ [⟨s1, s2, s3, aC, cC⟩])) (h2 : (w10.alloc (.cells #[.string s1, .string s2, .slice aC s3.length cC] 114)).grownBy w9' v2.ownBlock) h3 => PS.cloned hps8 hbC hoC hn4 hb98.size h1 h2 h3)
                    have HBA := Lib.hid (hb910.alloc hz910 (.cells #[.string s1, .string s2, .slice aC s3.length cC] 114))
                    clear hps8 hb98 hoC hbC hb910 HCL
                    go_wp2_with (at_builtin; refine wpList_append_lie (α := Ses) rfl _ _ 50 rfl 114 56 (.agg #[.string ⟨#[]⟩, .string ⟨#[]⟩, .slice none 0 0]) Tryz.underlying50 infoSesA rfl v2 ls rfl HOB.out ⟨s1, s2, s3, aC, cC⟩ _ rfl (Box.new _ _ _) (by omega) (by omega) (by simp; omega) ?_; intro g9 cap9 w11 hown9 hg9 hat9; have hps11 := HPC.out _ _ _ _ hown9 hg9 hat9; have hb11 := HBA.out.grown hg9 (by simp; omega) (fun j hj => by have := (Hol.out j hj).1; omega))
                    clear hown9 hg9 hat9 HOB Hol HPC HBA
                    have hlk2 : Hid ((ls ++ [(⟨s1, s2, s3, aC, cC⟩ : Ses)]).map (fun s => some (keyOf3 s)) = (bl.take (j + 1)).map (fun i => p[i]?.map keyOf3)) := by
                      show _ = _
                      rw [Hf2.out, List.map_append, hlk.out]
                      rfl
                    (try go_wp2_with fail)
                    rw [← Hla.out, ← Hpa.out]
                    go_roundg (bl.length - (j + 1))
                    case measure => have := hgj.out; omega
                    case rel => exact ⟨j + 1, _, _, _, rfl, rfl, by go_num, by omega, rfl, by rw [Hf1.out]; exact hps11, hlk2, hb11⟩
                  · obtain rfl : j = bl.length := by omega
                    rw [List.take_length] at hps hlk
                    have hln := wlf_len p wish bl
                    have hln2 : wish.length * bl.length ≤ 1000 * 14 := Nat.mul_le_mul huw (by omega)
                    obtain ⟨acc, hacc⟩ : ∃ acc, acc = bl.flatMap (wlTo p wish wish.length) := ⟨_, rfl⟩
                    have Hacc := Lib.hid hacc
                    rw [← hacc] at hps hln
                    clear hacc
                    have HSO := Lib.hid (sortS_any _ acc v1 wr hps.a (by omega))
                    go_wp2_with fail
                    refine HSO.out.mono ?_
                    rintro e w10 ⟨rfl, hoA, hgA⟩
                    go_wp2_with fail
                    refine bodyPost_ret (v := .tuple #[v1, v2, .int .i64 0]) (by simp only [results, Tryz.results31]; go_simp) rfl ?_
                    have hb10 := hb9.grown hgA hb9.size (fun j hj => (hps.a.lt j hj).1)
                    have hbw := HB2.out _ (HB7.out _ (HB9.out _ hb10))
                    have hzz : w.heap.size ≤ w9.heap.size := (HB2.out _ (HB7.out _ (HB9.out _ (Below.refl _ _)))).size
                    refine ⟨hbw, ?_⟩
                    unfold AgdRes
                    refine ⟨hbw, Or.inr ⟨k, hk, by rw [← Hwo.out], Or.inr ⟨?_, v1, v2, ls, rfl, ?_, (hps.b.grownOther hgA (fun j hj => hps.far j hj)).mono hzz, ?_⟩⟩⟩
                    · rw [← Hue.out]
                      show (someL wish p).length ≤ 14
                      rw [Hall.out]
                      exact h14''
                    · rw [← Hue.out]
                      show Own _ _ _ _ (sortS ((agdBest g p wish).flatMap (wlTo p wish wish.length)))
                      rw [HAB.out, ← Hacc.out]
                      exact hoA.mono hzz
                    · rw [← Hue.out]
                      show _ = (agdBest g p wish).map _
                      rw [HAB.out]
                      exact hlk.out
end Go.Proofs.YtaecdhdnjmckpaaGreatDoor
