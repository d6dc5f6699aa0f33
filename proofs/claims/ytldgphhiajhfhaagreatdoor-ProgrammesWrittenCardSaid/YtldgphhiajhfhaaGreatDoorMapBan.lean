/- Maps from keys to their places in a list. Plain. -/
import Derived.Test.YtldgphhiajhfhaaGreatDoorMap
import Derived.Test.YtldgphhiajhfhaaGreatDoorList
import Derived.Test.YtldgphhiajhfhaaGreatDoorKeep
import Derived.DeepKeys4
import Derived.WideKeyMaps
/-! Maps from keys to their places in a list. Plain. -/
namespace Go.Proofs.YtldgphhiajhfhaaGreatDoor
open Go.RowKit
set_option linter.unusedVariables false
set_option linter.unusedSimpArgs false

/-- The map of the first k keys to their places. -/
def idxTo (ks : List ByteArray) : Nat → List (ByteArray × Value)
 | 0 => []
 | k + 1 => match ks[k]? with
  | none => idxTo ks k
  | some x => mput (idxTo ks k) x (.int .i64 (k : Nat))
def idxL (ks : List ByteArray) : List (ByteArray × Value) := idxTo ks ks.length
theorem idxTo_succ {ks : List ByteArray} {k : Nat} (h : k < ks.length) : idxTo ks (k + 1) = mput (idxTo ks k) ks[k] (.int .i64 (k : Nat)) := by
 show (match ks[k]? with | none => idxTo ks k | some x => mput (idxTo ks k) x (.int .i64 (k : Nat))) = _
 rw [List.getElem?_eq_getElem h]
theorem idxTo_some {ks : List ByteArray} {x : ByteArray} {v : Value} : ∀ k, mget (idxTo ks k) x = some v → ∃ i, ∃ h : i < ks.length, i < k ∧ v = .int .i64 (i : Nat) ∧ ks[i] = x
 | 0, h => by cases h
 | k + 1, h => by
  by_cases hk : k < ks.length
  ·
   rw [idxTo_succ hk, mget_mput] at h
   by_cases hx : ks[k] = x
   ·
    rw [if_pos hx] at h
    exact ⟨k, hk, by omega, (Option.some.inj h).symm, hx⟩
   ·
    rw [if_neg hx] at h
    obtain ⟨i, h1, h2, h3, h4⟩ := idxTo_some k h
    exact ⟨i, h1, by omega, h3, h4⟩
  ·
   have e : idxTo ks (k + 1) = idxTo ks k := by
    show (match ks[k]? with | none => idxTo ks k | some x => mput (idxTo ks k) x (.int .i64 (k : Nat))) = _
    rw [List.getElem?_eq_none (by omega)]
   rw [e] at h
   obtain ⟨i, h1, h2, h3, h4⟩ := idxTo_some k h
   exact ⟨i, h1, by omega, h3, h4⟩
theorem idxTo_none {ks : List ByteArray} {x : ByteArray} : ∀ k, mget (idxTo ks k) x = none → ∀ i (h : i < ks.length), i < k → ks[i] ≠ x
 | 0, _, i, _, hi => by omega
 | k + 1, h, i, hl, hi => by
  by_cases hk : k < ks.length
  ·
   rw [idxTo_succ hk, mget_mput] at h
   by_cases hx : ks[k] = x
   ·
    rw [if_pos hx] at h; cases h
   ·
    rw [if_neg hx] at h
    rcases Nat.lt_or_eq_of_le (Nat.le_of_lt_succ hi) with h1 | rfl
    ·
     exact idxTo_none k h i hl h1
    ·
     exact hx
  ·
   have e : idxTo ks (k + 1) = idxTo ks k := by
    show (match ks[k]? with | none => idxTo ks k | some x => mput (idxTo ks k) x (.int .i64 (k : Nat))) = _
    rw [List.getElem?_eq_none (by omega)]
   rw [e] at h
   exact idxTo_none k h i hl (by omega)
theorem idxL_some {ks : List ByteArray} {x : ByteArray} {v : Value} (h : mget (idxL ks) x = some v) : ∃ i, ∃ hi : i < ks.length, v = .int .i64 (i : Nat) ∧ ks[i] = x := by
 obtain ⟨i, h1, -, h3, h4⟩ := idxTo_some _ h
 exact ⟨i, h1, h3, h4⟩
theorem idxL_has (ks : List ByteArray) (x : ByteArray) : (mget (idxL ks) x).isSome = ks.any (fun y => decide (y = x)) := by
 rw [Bool.eq_iff_iff, List.any_eq_true]
 constructor
 ·
  intro h
  obtain ⟨v, hv⟩ := Option.isSome_iff_exists.1 h
  obtain ⟨i, hi, -, e⟩ := idxL_some hv
  exact ⟨ks[i], List.getElem_mem hi, decide_eq_true e⟩
 ·
  rintro ⟨y, hy, he⟩
  obtain ⟨i, hi, rfl⟩ := List.mem_iff_getElem.1 hy
  cases hm : mget (idxL ks) x with
  | some v => rfl
  | none => exact absurd (of_decide_eq_true he) (idxTo_none _ hm i hi hi)
/-- In a list of distinct keys the place found is the one asked for. -/
theorem idx_find {α : Type} {l : List α} {f : α → ByteArray} (hn : (l.map f).Nodup) {i : Nat} (hi : i < l.length) {x : ByteArray} (hx : f l[i] = x) : l.find? (fun y => decide (f y = x)) = some l[i] := by
 induction l generalizing i with
 | nil => simp at hi
 | cons y r ih =>
  rw [List.map_cons, List.nodup_cons] at hn
  rw [List.find?_cons]
  cases i with
  | zero =>
   have : decide (f y = x) = true := decide_eq_true hx
   rw [this]
   rfl
  | succ i =>
   have hi' : i < r.length := by simpa using hi
   have hx' : f r[i] = x := by simpa using hx
   have : decide (f y = x) = false := decide_eq_false (fun e => hn.1 (by rw [e, ← hx']; exact List.mem_map_of_mem (List.getElem_mem hi')))
   rw [this]
   simpa using ih hn.2 hi' hx'
theorem find_any {α : Type} (l : List α) (f : α → ByteArray) (x : ByteArray) : (l.find? (fun y => decide (f y = x))).isSome = (l.map f).any (fun y => decide (y = x)) := by
 induction l with
 | nil => rfl
 | cons y r ih =>
  rw [List.find?_cons, List.map_cons, List.any_cons]
  cases decide (f y = x)
  ·
   rw [Bool.false_or]; exact ih
  ·
   rfl
end Go.Proofs.YtldgphhiajhfhaaGreatDoor

/-! Maps whose keys are structs or arrays, known exactly: look-ups and stores. -/
/-! Maps whose keys are structs or arrays, known exactly: look-ups and stores. -/
namespace Go.Proofs.YtldgphhiajhfhaaGreatDoor
open Go.RowKit
set_option linter.unusedVariables false
set_option linter.unusedSimpArgs false

section
variable {κ : Type} [DecidableEq κ]
/-- What a list of entries gives for a key. -/
def gget (l : List (κ × Value)) (k : κ) : Option Value :=
 match l with
 | [] => none
 | p :: r => if p.1 = k then some p.2 else gget r k
/-- A store into a list of entries. -/
def gput (l : List (κ × Value)) (k : κ) (v : Value) : List (κ × Value) :=
 match l with
 | [] => [(k, v)]
 | p :: r => if p.1 = k then (k, v) :: r else p :: gput r k v
theorem gget_gput (l : List (κ × Value)) (k k' : κ) (v : Value) : gget (gput l k v) k' = if k = k' then some v else gget l k' := by
 induction l with
 | nil => simp [gput, gget]
 | cons p r ih =>
  unfold gput
  by_cases h : p.1 = k
  ·
   simp only [h, if_true, gget]
   by_cases h2 : k = k' <;> simp [h2]
  ·
   simp only [h, if_false, gget, ih]
   by_cases h2 : k = k'
   ·
    subst h2; simp [h]
   ·
    simp [h2]
theorem gput_keys (l : List (κ × Value)) (k : κ) (v : Value) : (gput l k v).map (·.1) = if k ∈ l.map (·.1) then l.map (·.1) else l.map (·.1) ++ [k] := by
 induction l with
 | nil => simp [gput]
 | cons p r ih =>
  unfold gput
  by_cases h : p.1 = k
  ·
   simp [h]
  ·
   have h' : ¬ k = p.1 := fun e => h e.symm
   simp only [h, if_false, List.map_cons, ih, List.mem_cons, h', false_or]
   split <;> simp
theorem gput_length (l : List (κ × Value)) (k : κ) (v : Value) : (gput l k v).length ≤ l.length + 1 := by
 induction l with
 | nil => simp [gput]
 | cons p r ih => unfold gput; split <;> simp <;> omega
theorem gget_none {l : List (κ × Value)} {k : κ} (h : k ∉ l.map (·.1)) : gget l k = none := by
 induction l with
 | nil => rfl
 | cons p r ih =>
  simp only [List.map_cons, List.mem_cons, not_or] at h
  rw [gget, if_neg (fun e => h.1 e.symm)]
  exact ih h.2
theorem gput_new {l : List (κ × Value)} {k : κ} (h : k ∉ l.map (·.1)) (v : Value) : gput l k v = l ++ [(k, v)] := by
 induction l with
 | nil => rfl
 | cons p r ih =>
  simp only [List.map_cons, List.mem_cons, not_or] at h
  rw [gput, if_neg (fun e => h.1 e.symm), ih h.2]; rfl
theorem gget_at {l : List (κ × Value)} {k : κ} {v : Value} {j : Nat} (hn : (l.map (·.1)).Nodup) (h : l[j]? = some (k, v)) : gget l k = some v := by
 induction l generalizing j with
 | nil => simp at h
 | cons p r ih =>
  rw [List.map_cons, List.nodup_cons] at hn
  cases j with
  | zero =>
   simp at h
   subst h
   rw [gget, if_pos rfl]
  | succ j =>
   simp at h
   have hm : k ∈ r.map (·.1) := List.mem_map.2 ⟨(k, v), List.mem_of_getElem? h, rfl⟩
   rw [gget, if_neg (fun e => hn.1 (by rw [e]; exact hm))]
   exact ih hn.2 h
theorem gput_at {l : List (κ × Value)} {k : κ} {v : Value} {j : Nat} (hn : (l.map (·.1)).Nodup) (h : l[j]? = some (k, v)) (u : Value) : gput l k u = l.set j (k, u) := by
 induction l generalizing j with
 | nil => simp at h
 | cons p r ih =>
  rw [List.map_cons, List.nodup_cons] at hn
  cases j with
  | zero =>
   simp at h
   subst h
   rw [gput, if_pos rfl]; rfl
  | succ j =>
   simp at h
   have hm : k ∈ r.map (·.1) := List.mem_map.2 ⟨(k, v), List.mem_of_getElem? h, rfl⟩
   rw [gput, if_neg (fun e => hn.1 (by rw [e]; exact hm)), ih hn.2 h]; rfl
theorem gput_nodup {l : List (κ × Value)} (h : (l.map (·.1)).Nodup) (k : κ) (v : Value) : ((gput l k v).map (·.1)).Nodup := by
 rw [gput_keys]
 split
 ·
  exact h
 ·
  rename_i hn
  rw [List.nodup_append]
  refine ⟨h, by simp, ?_⟩
  intro a ha b hb e
  simp at hb
  subst hb
  subst e
  exact hn ha
theorem gput_all {ok : κ → Prop} {l : List (κ × Value)} (h : ∀ p ∈ l, ok p.1) {k : κ} (hk : ok k) (v : Value) : ∀ p ∈ gput l k v, ok p.1 := by
 induction l with
 | nil => intro p hp; simp [gput] at hp; subst hp; exact hk
 | cons q r ih =>
  intro p hp
  unfold gput at hp
  split at hp
  ·
   rcases List.mem_cons.1 hp with rfl | hp
   ·
    exact hk
   ·
    exact h p (List.mem_cons_of_mem _ hp)
  ·
   rcases List.mem_cons.1 hp with rfl | hp
   ·
    exact h _ (List.mem_cons_self ..)
   ·
    exact ih (fun p hp => h p (List.mem_cons_of_mem _ hp)) p hp
def glooked (l : List (κ × Value)) (k : κ) (z : Value) (c : Bool) : Value :=
 if c then .tuple #[(gget l k).getD z, .bool (gget l k).isSome] else (gget l k).getD z

/-- How keys lie. -/
structure Keys (P : Program) (kt : TypeId) (enc : κ → Value) (ok : κ → Prop) : Prop where
 law : WideMaps.KeyLaw P kt
 of : ∀ k, ok k → ∃ l, keyOf P kt (enc k) = some l
 inj : ∀ a b, enc a = enc b → a = b

/-- Block b is a map with these entries, in their order. -/
def GBox (enc : κ → Value) (ok : κ → Prop) (w : World) (b : Nat) (l : List (κ × Value)) : Prop :=
 ∃ es clock, w.heap[b]? = some (.map es clock) ∧ es.toList.map (fun e => (e.key, e.val)) = l.map (fun p => (enc p.1, p.2)) ∧ (∀ e ∈ es.toList, e.born < clock) ∧ (es.toList.map (·.born)).Nodup ∧ (l.map (·.1)).Nodup ∧ ∀ p ∈ l, ok p.1
end

section
variable {κ : Type} {enc : κ → Value} {ok : κ → Prop} {w w' : World} {b : Nat} {l : List (κ × Value)}
theorem GBox.lt (h : GBox enc ok w b l) : b < w.heap.size := by
 obtain ⟨es, c, h1, _⟩ := h; exact (Array.getElem?_eq_some_iff.1 h1).1
theorem GBox.same (h : GBox enc ok w b l) (k : w'.heap[b]? = w.heap[b]?) : GBox enc ok w' b l := by
 obtain ⟨es, c, h1, h2⟩ := h; exact ⟨es, c, k.trans h1, h2⟩
theorem GBox.new (enc : κ → Value) (ok : κ → Prop) (w : World) : GBox enc ok (w.alloc (.map #[] 0)) w.heap.size [] :=
 ⟨#[], 0, by show (w.heap.push _)[w.heap.size]? = _; simp, rfl, by simp, by simp, by simp, by simp⟩
theorem GBox.newAt (enc : κ → Value) (ok : κ → Prop) (w : World) (n : Nat) (h : n = w.heap.size) : GBox enc ok (w.alloc (.map #[] 0)) n [] := by subst h; exact GBox.new enc ok w
theorem GBox.alloc (h : GBox enc ok w b l) (o : Obj) : GBox enc ok (w.alloc o) b l := h.same (Below.heap_alloc _ _ _ h.lt)
theorem GBox.drewN (h : GBox enc ok w b l) (n : Nat) : GBox enc ok (w.drewN n) b l := h
theorem GBox.drew (h : GBox enc ok w b l) : GBox enc ok w.drew b l := h
theorem GBox.below (h : GBox enc ok w b l) (k : Below w.heap.size w w') : GBox enc ok w' b l := h.same (k.block _ h.lt)
theorem GBox.kp {X : Nat → Prop} (h : GBox enc ok w b l) (k : Kp X w w') (hX : ¬ X b) : GBox enc ok w' b l := h.same (k.block _ h.lt hX)
theorem GBox.setOther (h : GBox enc ok w b l) {p : Addr} (hp : p.block ≠ b) (v : Value) : GBox enc ok (w.setCell p v) b l := h.same (Below.heap_setCell _ _ _ _ (Ne.symm hp))
theorem GBox.grown {row : Option Nat} (h : GBox enc ok w b l) (k : w.grownBy w' row) (hne : some b ≠ row) : GBox enc ok w' b l := h.same (k.block _ h.lt hne)
theorem GBox.nodup (h : GBox enc ok w b l) : (l.map (·.1)).Nodup := by obtain ⟨_, _, _, _, _, _, h1, _⟩ := h; exact h1
end

section
variable {κ : Type} {enc : κ → Value} {ok : κ → Prop} {P : Program} {w : World} {b : Nat} {l : List (κ × Value)} {t kt et : TypeId}
theorem g_find (hK : Keys P kt enc ok) {es : List MapEntry} (h : es.map (fun e => (e.key, e.val)) = l.map (fun p => (enc p.1, p.2))) (hok : ∀ p ∈ l, ok p.1) (k : κ) (hk : ok k) (w : World) :
  ((Instr.findKey kt (enc k) es).run P w = .ok none w ∧ k ∉ l.map (·.1)) ∨ ∃ j v e, (Instr.findKey kt (enc k) es).run P w = .ok (some (j, v)) w ∧ l[j]? = some (k, v) ∧ es[j]? = some e ∧ e.key = enc k := by
 obtain ⟨lx, hx⟩ := hK.of k hk
 have hall : ∀ e ∈ es, ∃ l, keyOf P kt e.key = some l := by
  intro e he
  have hm : (e.key, e.val) ∈ l.map (fun p => (enc p.1, p.2)) := by rw [← h]; exact List.mem_map.2 ⟨e, he, rfl⟩
  obtain ⟨p, hp, e1⟩ := List.mem_map.1 hm
  simp only [Prod.mk.injEq] at e1
  rw [← e1.1]
  exact hK.of _ (hok p hp)
 rcases hK.law.find w hx es hall with ⟨h1, h2⟩ | ⟨j, e, h1, h2, h3⟩
 ·
  left
  refine ⟨h1, fun hm => ?_⟩
  obtain ⟨p, hp, e1⟩ := List.mem_map.1 hm
  have hm2 : (enc p.1, p.2) ∈ es.map (fun e => (e.key, e.val)) := by rw [h]; exact List.mem_map.2 ⟨p, hp, rfl⟩
  obtain ⟨e, he, e2⟩ := List.mem_map.1 hm2
  simp only [Prod.mk.injEq] at e2
  exact h2 e he (by rw [e2.1, e1])
 ·
  right
  have hj : (es.map (fun e => (e.key, e.val)))[j]? = some (e.key, e.val) := by rw [List.getElem?_map, h2]; rfl
  rw [h, List.getElem?_map] at hj
  cases hl : l[j]? with
  | none => rw [hl] at hj; cases hj
  | some p =>
   rw [hl] at hj
   simp only [Option.map_some, Option.some.injEq, Prod.mk.injEq] at hj
   refine ⟨j, e.val, e, h1, ?_, h2, h3⟩
   rw [hl, show p = (k, e.val) from Prod.ext (hK.inj _ _ (by rw [hj.1, h3])) hj.2]
end
section
variable {κ : Type} [DecidableEq κ] {enc : κ → Value} {ok : κ → Prop} {P : Program} {w : World} {b : Nat} {l : List (κ × Value)} {t kt et : TypeId}
theorem GBox.look (h : GBox enc ok w b l) (hK : Keys P kt enc ok) (ht : P.underlying t = some (.map kt et)) (z : Value) (hz : ∀ w, (zeroValue et).run P w = .ok z w) (k : κ) (hk : ok k) (c : Bool) :
  (Instr.lookup t (.map (some b)) (enc k) c).run P w = .ok (glooked l k z c) w := by
 obtain ⟨es, clock, h1, h2, _, _, h5, h6⟩ := h
 obtain ⟨lx, hx⟩ := hK.of k hk
 have hck := fun em => hK.law.check w em hx
 unfold glooked
 rcases g_find hK h2 h6 k hk w with ⟨q1, q2⟩ | ⟨j, v, e, q1, q2, q3, q4⟩
 ·
  rw [gget_none q2]
  cases c <;> simp [Instr.lookup, run_underlying ht, MapKept.run_getObj_map h1, hck, q1, hz, Result.andThen]
 ·
  rw [gget_at h5 q2]
  cases c <;> simp [Instr.lookup, run_underlying ht, MapKept.run_getObj_map h1, hck, q1, Result.andThen]

theorem modify_pairs {es : List MapEntry} {j : Nat} {k v : Value} {e : MapEntry} (he : es[j]? = some e) : (es.modify j (fun e => { e with key := k, val := v })).map (fun e => (e.key, e.val)) = (es.map (fun e => (e.key, e.val))).set j (k, v) := by
 induction es generalizing j with
 | nil => simp at he
 | cons x r ih =>
  cases j with
  | zero => simp
  | succ j =>
   simp at he
   simpa using ih he
theorem modify_born {es : List MapEntry} {j : Nat} {k v : Value} : (es.modify j (fun e => { e with key := k, val := v })).map (·.born) = es.map (·.born) := by
 induction es generalizing j with
 | nil => simp
 | cons x r ih =>
  cases j with
  | zero => simp
  | succ j => simpa using ih

/-- A store: the map holds it; nothing else has turned. -/
theorem GBox.store (h : GBox enc ok w b l) (hK : Keys P kt enc ok) (ht : P.underlying t = some (.map kt et)) (k : κ) (hk : ok k) (v : Value) :
  ∃ w', (Instr.mapUpdate t (.map (some b)) (enc k) v).run P w = .ok () w' ∧ GBox enc ok w' b (gput l k v) ∧ w.grownBy w' (some b) ∧ w'.heap.size = w.heap.size := by
 obtain ⟨es, clock, h1, h2, h3, h4, h5, h6⟩ := h
 have hlt : b < w.heap.size := (Array.getElem?_eq_some_iff.1 h1).1
 obtain ⟨lx, hx⟩ := hK.of k hk
 have hck := hK.law.check w false hx
 have hst := hK.law.stays w hx
 rcases g_find hK h2 h6 k hk w with ⟨q1, q2⟩ | ⟨j, u, e, q1, q2, q3, q4⟩
 ·
  refine ⟨{ w with heap := w.heap.setIfInBounds b (.map (es.push { key := enc k, val := v, born := clock }) (clock + 1)) }, ?_, ?_, grown_setBlock _, by simp⟩
  ·
   simp [Instr.mapUpdate, run_underlying ht, MapKept.run_getObj_map h1, hck, q1, MapKept.run_setObj_map _ h1, Result.andThen]
  ·
   refine ⟨es.push { key := enc k, val := v, born := clock }, clock + 1, by simp [hlt], ?_, ?_, ?_, gput_nodup h5 k v, gput_all h6 hk v⟩
   ·
    rw [gput_new q2]
    simp [h2]
   ·
    intro e he
    simp at he
    rcases he with he | rfl
    ·
     have := h3 e (by simpa using he); omega
    ·
     simp
   ·
    simp only [Array.toList_push, List.map_append, List.map_cons, List.map_nil]
    rw [List.nodup_append]
    refine ⟨h4, by simp, ?_⟩
    intro a ha c hc
    simp at hc
    obtain ⟨e, he, rfl⟩ := List.mem_map.1 ha
    have := h3 e he
    omega
 ·
  have hj' : es[j]? = some e := by simpa using q3
  refine ⟨{ w with heap := w.heap.setIfInBounds b (.map (es.modify j (fun e => { e with key := enc k, val := v })) clock) }, ?_, ?_, grown_setBlock _, by simp⟩
  ·
   simp [Instr.mapUpdate, run_underlying ht, MapKept.run_getObj_map h1, hck, q1, hj', q4, hst, MapKept.run_setObj_map _ h1, Result.andThen]
  ·
   refine ⟨_, clock, by simp only [Array.getElem?_setIfInBounds_self, hlt, if_true]; rfl, ?_, ?_, ?_, gput_nodup h5 k v, gput_all h6 hk v⟩
   ·
    rw [Array.toList_modify, modify_pairs q3, h2, gput_at h5 q2, List.map_set]
   ·
    intro x hx
    have hm : x.born ∈ (es.modify j (fun e => { e with key := enc k, val := v })).toList.map (·.born) := List.mem_map_of_mem hx
    rw [Array.toList_modify, modify_born] at hm
    obtain ⟨e', he', hb'⟩ := List.mem_map.1 hm
    rw [← hb']
    exact h3 e' he'
   ·
    rw [Array.toList_modify, modify_born]; exact h4

/-- A store, for the walk. -/
theorem wpList_mapUpdate_gbox {ops : Array Oper} {rest : List Oper} {o : Oper} {a : Act} {Q : Exit → Act → World → Prop}
  (hg : o.guard = none) (m x y : Operand) (t : TypeId) (hop : o.op = Op.mapUpdate t m x y) (kt et : TypeId) (ht : P.underlying t = some (.map kt et)) (hK : Keys P kt enc ok)
  (b : Nat) (l : List (κ × Value)) (hm : a.eval m = .map (some b)) (hbox : GBox enc ok w b l) (k : κ) (hk : ok k) (hx : a.eval x = enc k) (v : Value) (hv : a.eval y = v)
  (hW : ∀ w', GBox enc ok w' b (gput l k v) → w.grownBy w' (some b) → w'.heap.size = w.heap.size → wpList P ops Q rest (a.put o.dst undef) w') :
  wpList P ops Q (o :: rest) a w := by
 refine wpList_plain hg fun K' hK' => ?_
 obtain ⟨w', hrun, r1, r2, r3⟩ := hbox.store hK ht k hk v
 unfold Oper.wp
 simp [execOp, hop, hm, hx, hv, hrun, Result.andThen]
 exact hK' _ _ (hW w' r1 r2 r3)

/-- A store in a region that draws its order. -/
theorem step_mapUpdate_gbox {ops : Array Oper} {o : Oper} {a : Act} {K : Act → World → Prop} {Q : Exit → Act → World → Prop} {E : Prop} (hgd : o.guard = none)
  (m x y : Operand) (t : TypeId) (hop : o.op = Op.mapUpdate t m x y) (kt et : TypeId) (ht : P.underlying t = some (.map kt et)) (hK : Keys P kt enc ok)
  (b : Nat) (l : List (κ × Value)) (hm : a.eval m = .map (some b)) (hbox : GBox enc ok w b l) (k : κ) (hk : ok k) (hx : a.eval x = enc k) (v : Value) (hv : a.eval y = v)
  (hW : ∀ w', GBox enc ok w' b (gput l k v) → w.grownBy w' (some b) → w'.heap.size = w.heap.size → K (a.put o.dst undef) w') :
  if Region.wanted o (yielded ops a.tmps) = true then Oper.wp P o a w K Q else E := by
 have hw : Region.wanted o (yielded ops a.tmps) = true := by simp [Region.wanted, hgd]
 rw [if_pos hw]
 obtain ⟨w', hrun, r1, r2, r3⟩ := hbox.store hK ht k hk v
 unfold Oper.wp
 simp [execOp, hop, hm, hx, hv, hrun, Result.andThen]
 exact hW w' r1 r2 r3
end

/-- Two strings. -/
abbrev Two := ByteArray × ByteArray
def enc2 (k : Two) : Value := .agg #[.string k.1, .string k.2]
def ok2 (k : Two) : Prop := k.1.size ≤ 1000000 ∧ k.2.size ≤ 1000000
theorem enc2_inj (a b : Two) (h : enc2 a = enc2 b) : a = b := by
 unfold enc2 at h
 simp at h
 exact Prod.ext h.1 h.2
end Go.Proofs.YtldgphhiajhfhaaGreatDoor

/-! Bans as keys of maps. -/
namespace Go.Proofs.YtldgphhiajhfhaaGreatDoor
open Go.RowKit
set_option linter.unusedVariables false
set_option linter.unusedSimpArgs false

theorem keys2_laid : laidOutB Tryz.prog = true := by kernel_rfl
theorem keys2_law : WideMaps.KeyLaw Tryz.prog 64 := deep_law_laid keys2_laid (m := 2) (by decide) (of_decide_eq_true (by kernel_rfl)) (by kernel_rfl) (by kernel_rfl)
set_option maxRecDepth 100000 in
theorem keys2_of (k : Two) (h : ok2 k) : ∃ l, keyOf Tryz.prog 64 (enc2 k) = some l := by
 have h1 : k.1.size ≤ maxLen := by have := h.1; unfold maxLen; omega
 have h2 : k.2.size ≤ maxLen := by have := h.2; unfold maxLen; omega
 have e1 : Tryz.prog.keyType 64 = true := by kernel_rfl
 have e2 : (enc2 k).formed Tryz.prog 64 = true := by kernel_rfl
 have ek : ∀ d (s : ByteArray), s.size ≤ maxLen → Tryz.prog.keyLits (d + 1) 9 [.string s] = some [.string s.data.toList] := fun d s hs => by
  unfold Program.keyLits
  rw [Tryz.underlying9]
  simp [hs]
 have e3 : Tryz.prog.keyLits (Tryz.prog.types.size + 1) 64 (enc2 k).cells.toList = some [.string k.1.data.toList, .string k.2.data.toList] := by
  obtain ⟨d, hd⟩ : ∃ d, Tryz.prog.types.size = d + 1 := ⟨Tryz.prog.types.size - 1, (Nat.succ_pred_eq_of_pos (of_decide_eq_true (by kernel_rfl))).symm⟩
  rw [hd]
  have k1 := ek d k.1 h1
  have k2 := ek d k.2 h2
  unfold Program.keyLits
  rw [Tryz.underlying64]
  have c1 : Tryz.prog.cellsOf 9 = 1 := by kernel_rfl
  have c2 : Tryz.prog.cellsOf 64 = 2 := by kernel_rfl
  simp [enc2, Value.cells, c1, c2, k1, k2]
 refine ⟨.string (keyBytes [.string k.1.data.toList, .string k.2.data.toList]), ?_⟩
 unfold keyOf
 rw [Tryz.underlying64]
 simp only [e1, e2, Bool.and_self, if_true, e3]
 rfl
theorem keys2 : Keys Tryz.prog 64 enc2 ok2 := ⟨keys2_law, keys2_of, enc2_inj⟩
end Go.Proofs.YtldgphhiajhfhaaGreatDoor
