/- Maps with pairs of strings or strings as keys, known exactly: m[k]++. -/
import Derived.Test.YtcjcdbhobehlpaaGreatDoorMapG
import Derived.Deep.RegionHeld3
import Derived.WideKeyEntry
namespace Go.Proofs.YtcjcdbhobehlpaaGreatDoor
open Go.RowKit
set_option linter.unusedVariables false
set_option linter.unusedSimpArgs false

section
variable {κ : Type} [DecidableEq κ] {enc : κ → Value} {ok : κ → Prop} {P : Program} {w : World} {b : Nat} {l : List (κ × Value)} {t kt et : TypeId}
theorem g_push {es : Array MapEntry} {clock : Nat} (h2 : es.toList.map (fun e => (e.key, e.val)) = l.map (fun p => (enc p.1, p.2))) (h3 : ∀ e ∈ es.toList, e.born < clock) (h4 : (es.toList.map (·.born)).Nodup) (h5 : (l.map (·.1)).Nodup) (h6 : ∀ p ∈ l, ok p.1) {k : κ} (q2 : k ∉ l.map (·.1)) (hk : ok k) (v : Value) :
  (es.push ⟨enc k, v, clock⟩).toList.map (fun e => (e.key, e.val)) = (gput l k v).map (fun p => (enc p.1, p.2)) ∧ (∀ e ∈ (es.push ⟨enc k, v, clock⟩).toList, e.born < clock + 1) ∧ ((es.push ⟨enc k, v, clock⟩).toList.map (·.born)).Nodup ∧ ((gput l k v).map (·.1)).Nodup ∧ ∀ p ∈ gput l k v, ok p.1 := by
 refine ⟨?_, ?_, ?_, gput_nodup h5 k v, gput_all h6 hk v⟩
 ·
  rw [gput_new q2]; simp [h2]
 ·
  intro e he
  rw [Array.toList_push, List.mem_append, List.mem_singleton] at he
  rcases he with he | rfl
  ·
   have := h3 e he; omega
  ·
   exact Nat.lt_succ_self _
 ·
  simp only [Array.toList_push, List.map_append, List.map_cons, List.map_nil]
  rw [List.nodup_append]
  refine ⟨h4, by simp, fun a ha c hc e => ?_⟩
  rw [List.mem_singleton] at hc
  obtain ⟨x, hx, rfl⟩ := List.mem_map.1 ha
  have := h3 x hx
  omega
/-- An entry is looked for, or made; then its value is stored. -/
theorem GBox.ment (h : GBox enc ok w b l) (hK : Keys P kt enc ok) (ht : P.underlying t = some (.map kt et)) (z : Value) (hz : ∀ w, (zeroValue et).run P w = .ok z w) (k : κ) (hk : ok k) :
  ∃ (v0 : Value) (st : Nat) (w1 : World) (l1 : List (κ × Value)), (Instr.mapEntry t (.map (some b)) (enc k)).run P w = .ok (.tuple #[v0, .int .i64 st]) w1 ∧ GBox enc ok w1 b l1 ∧ (∀ c, glooked l1 k z c = glooked l k z c ∨ c = true) ∧ w.grownBy w1 (some b) ∧ w1.heap.size = w.heap.size ∧
   ∀ (w2 : World) (val : Value), w2.heap[b]? = w1.heap[b]? → ∃ w3, (Instr.entryStore t (.map (some b)) (.int .i64 st) val).run P w2 = .ok () w3 ∧ GBox enc ok w3 b (gput l k val) ∧ w2.grownBy w3 (some b) ∧ w3.heap.size = w2.heap.size := by
 obtain ⟨es, clock, h1, h2, h3, h4, h5, h6⟩ := h
 have hlt : b < w.heap.size := (Array.getElem?_eq_some_iff.1 h1).1
 obtain ⟨lx, hx⟩ := hK.of k hk
 have hck := hK.law.check w false hx
 have hst := hK.law.stays w hx
 rcases g_find hK h2 h6 k hk w with ⟨q1, q2⟩ | ⟨j, u, e, q1, q2, q3, q4⟩
 ·
  refine ⟨z, clock, { w with heap := w.heap.setIfInBounds b (.map (es.push { key := enc k, val := z, born := clock }) (clock + 1)) }, gput l k z, ?_, ⟨_, _, by simp [hlt], g_push h2 h3 h4 h5 h6 q2 hk z⟩, fun c => ?_, grown_setBlock _, by simp, fun w2 val hw2 => ?_⟩
  ·
   simp [Instr.mapEntry, run_underlying ht, MapKept.run_getObj_map h1, hck, q1, hz, MapKept.run_setObj_map _ h1, Result.andThen, goInt]
  ·
   cases c
   ·
    left
    unfold glooked
    rw [if_neg (by decide), if_neg (by decide), gget_gput, if_pos rfl, gget_none q2]; rfl
   ·
    exact .inr rfl
  ·
   have hb2 : w2.heap[b]? = some (.map (es.push { key := enc k, val := z, born := clock }) (clock + 1)) := by rw [hw2]; simp [hlt]
   have hlt2 : b < w2.heap.size := (Array.getElem?_eq_some_iff.1 hb2).1
   have hidx : (es.push ⟨enc k, z, clock⟩).findIdx? (fun e => ((e.born : Nat) : Int) == ((clock : Nat) : Int)) = some es.size := by
    rw [WideElems.findIdx_arr]
    exact WideElems.findIdx_born (e0 := ⟨enc k, z, clock⟩) (g_push h2 h3 h4 h5 h6 q2 hk z).2.2.1 (by simp)
   have hmod : (es.push ⟨enc k, z, clock⟩).modify es.size (fun e => { e with val := val }) = es.push ⟨enc k, val, clock⟩ := by
    apply Array.ext'
    rw [Array.toList_modify, Array.toList_push, Array.toList_push, ← Array.length_toList, WideElems.modify_last]
   refine ⟨{ w2 with heap := w2.heap.setIfInBounds b (.map (es.push { key := enc k, val := val, born := clock }) (clock + 1)) }, ?_, ⟨_, _, by simp [hlt2], g_push h2 h3 h4 h5 h6 q2 hk val⟩, grown_setBlock _, by simp⟩
   simp [Instr.entryStore, MapKept.run_getObj_map hb2, asInt, asIntOf, hidx, hmod, MapKept.run_setObj_map _ hb2, Result.andThen]
 ·
  have hj : es[j]? = some e := by simpa using q3
  have hset : ∀ (L : List MapEntry) (j : Nat) (a : MapEntry) (f : MapEntry → MapEntry), L[j]? = some a → f a = a → L.modify j f = L := by
   intro L
   induction L with
   | nil => intro j a f h _; simp at h
   | cons x r ih =>
    intro j a f h hf
    cases j with
    | zero => simp at h; subst h; simp [hf]
    | succ j => simp at h; simp [ih j a f h hf]
  have hsame : es.modify j (fun e => { e with key := enc k }) = es := by
   apply Array.ext'
   rw [Array.toList_modify]
   refine hset _ _ e _ q3 ?_
   rw [← q4]
  have hw1 : { w with heap := w.heap.setIfInBounds b (.map es clock) } = w := by
   have : w.heap.setIfInBounds b (.map es clock) = w.heap := by
    apply Array.ext'
    rw [Array.toList_setIfInBounds]
    apply List.ext_getElem?
    intro i
    rw [List.getElem?_set]
    split
    ·
     next hi =>
     subst hi
     rw [if_pos (by simpa using hlt)]
     have := h1
     rw [← Array.getElem?_toList] at this
     exact this.symm
    ·
     rfl
   rw [this]
  refine ⟨u, e.born, w, l, ?_, ⟨es, clock, h1, h2, h3, h4, h5, h6⟩, fun c => .inl rfl, ⟨rfl, rfl, rfl, Nat.le_refl _, fun _ _ _ => rfl⟩, rfl, fun w2 val hw2 => ?_⟩
  ·
   have hcons : (((es[j]?).map (·.key)).getD (enc k)) = enc k := by rw [hj]; exact q4
   have hborn : (((es[j]?).map (·.born)).getD 0) = e.born := by rw [hj]; rfl
   have hborn2 : (Option.map (fun x : MapEntry => (x.born : Int)) es[j]?).getD 0 = (e.born : Int) := by rw [hj]; rfl
   have hr : ∀ x, x = { w with heap := w.heap.setIfInBounds b (.map es clock) } → (Instr.mapEntry t (.map (some b)) (enc k)).run P w = .ok (.tuple #[u, .int .i64 e.born]) x := by
    rintro x rfl
    simp [Instr.mapEntry, run_underlying ht, MapKept.run_getObj_map h1, hck, q1, hcons, hst, hsame, hborn, hborn2, MapKept.run_setObj_map _ h1, Result.andThen, goInt]
   exact hr w hw1.symm
  ·
   have hb2 : w2.heap[b]? = some (.map es clock) := hw2.trans h1
   have hlt2 : b < w2.heap.size := (Array.getElem?_eq_some_iff.1 hb2).1
   have hidx : es.findIdx? (fun x => ((x.born : Nat) : Int) == ((e.born : Nat) : Int)) = some j := by
    rw [WideElems.findIdx_arr]
    exact WideElems.findIdx_born h4 q3
   have hmod1 : (es.modify j (fun e => { e with val := val })).toList.map (fun e => (e.key, e.val)) = (gput l k val).map (fun p => (enc p.1, p.2)) := by
    rw [gput_at h5 q2, Array.toList_modify]
    have h9 := modify_pairs (k := enc k) (v := val) q3
    have h10 : es.toList.modify j (fun e => { e with val := val }) = es.toList.modify j (fun e => { e with key := enc k, val := val }) := by
     have : ∀ (L : List MapEntry) (j : Nat), L[j]? = some e → L.modify j (fun e => { e with val := val }) = L.modify j (fun e => { e with key := enc k, val := val }) := by
      intro L
      induction L with
      | nil => intro j h; simp at h
      | cons x r ih =>
       intro j h
       cases j with
       | zero => simp at h; subst h; simp [← q4]
       | succ j => simp at h; simp [ih j h]
     exact this _ _ q3
    rw [h10, h9, h2, List.map_set]
   have hmod2 : (es.modify j (fun e => { e with val := val })).toList.map (·.born) = es.toList.map (·.born) := by
    rw [Array.toList_modify]
    have : ∀ (L : List MapEntry) (j : Nat), (L.modify j (fun e => { e with val := val })).map (·.born) = L.map (·.born) := by
     intro L
     induction L with
     | nil => intro j; simp
     | cons x r ih =>
      intro j
      cases j with
      | zero => simp
      | succ j => simp [ih j]
    exact this _ _
   refine ⟨{ w2 with heap := w2.heap.setIfInBounds b (.map (es.modify j (fun e => { e with val := val })) clock) }, ?_, ⟨es.modify j (fun e => { e with val := val }), clock, by simp [hlt2], hmod1, ?_, by rw [hmod2]; exact h4, gput_nodup h5 k val, gput_all h6 hk val⟩, grown_setBlock _, by simp⟩
   ·
    simp [Instr.entryStore, MapKept.run_getObj_map hb2, asInt, asIntOf, hidx, MapKept.run_setObj_map _ hb2, Result.andThen]
   ·
    intro x hx9
    have hm : x.born ∈ (es.modify j (fun e => { e with val := val })).toList.map (·.born) := List.mem_map.2 ⟨x, hx9, rfl⟩
    rw [hmod2] at hm
    obtain ⟨y, hy, e9⟩ := List.mem_map.1 hm
    rw [← e9]; exact h3 y hy
end
/-- Pairs of strings as keys. -/
theorem keysA_law : WideMaps.KeyLaw Tryz.prog 80 := deep_law_laid keys2_laid (m := 2) (by decide) (of_decide_eq_true (by kernel_rfl)) (by kernel_rfl) (by kernel_rfl)
set_option maxRecDepth 100000 in
theorem keysA_of (k : Two) (h : ok2 k) : ∃ l, keyOf Tryz.prog 80 (enc2 k) = some l := by
 have h1 : k.1.size ≤ maxLen := by have := h.1; unfold maxLen; omega
 have h2 : k.2.size ≤ maxLen := by have := h.2; unfold maxLen; omega
 have e1 : Tryz.prog.keyType 80 = true := by kernel_rfl
 have e2 : (enc2 k).formed Tryz.prog 80 = true := by kernel_rfl
 have ek : ∀ d (s : ByteArray), s.size ≤ maxLen → Tryz.prog.keyLits (d + 1) 9 [.string s] = some [.string s.data.toList] := fun d s hs => by
  unfold Program.keyLits
  rw [Tryz.underlying9]
  simp [hs]
 have e3 : Tryz.prog.keyLits (Tryz.prog.types.size + 1) 80 (enc2 k).cells.toList = some [.string k.1.data.toList, .string k.2.data.toList] := by
  obtain ⟨d, hd⟩ : ∃ d, Tryz.prog.types.size = d + 1 := ⟨Tryz.prog.types.size - 1, (Nat.succ_pred_eq_of_pos (of_decide_eq_true (by kernel_rfl))).symm⟩
  rw [hd]
  have k1 := ek d k.1 h1
  have k2 := ek d k.2 h2
  unfold Program.keyLits
  rw [Tryz.underlying80]
  have c1 : Tryz.prog.cellsOf 9 = 1 := by kernel_rfl
  have c2 : Tryz.prog.cellsOf 80 = 2 := by kernel_rfl
  simp [enc2, Value.cells, c1, c2]
  refine ⟨[[.string k.1.data.toList], [.string k.2.data.toList]], ?_, rfl⟩
  rw [show List.range 2 = [0, 1] from rfl]
  simp [k1, k2]
 refine ⟨.string (keyBytes [.string k.1.data.toList, .string k.2.data.toList]), ?_⟩
 unfold keyOf
 rw [Tryz.underlying80]
 simp only [e1, e2, Bool.and_self, if_true, e3]
 rfl
theorem keysA : Keys Tryz.prog 80 enc2 ok2 := ⟨keysA_law, keysA_of, enc2_inj⟩
section
variable {κ : Type} [DecidableEq κ] {enc : κ → Value} {ok : κ → Prop} {P : Program} {w : World} {b : Nat} {l : List (κ × Value)} {t kt et : TypeId}
theorem step_mapEntry_gbox {ops : Array Oper} {o : Oper} {a : Act} {K : Act → World → Prop} {Q : Exit → Act → World → Prop} {E : Prop} (hgd : o.guard = none)
  (m x : Operand) (t : TypeId) (hop : o.op = Op.mapEntry t m x) (kt et : TypeId) (ht : P.underlying t = some (.map kt et)) (hK : Keys P kt enc ok) (z : Value) (hz : ∀ w, (zeroValue et).run P w = .ok z w)
  (b : Nat) (l : List (κ × Value)) (hm : a.eval m = .map (some b)) (hbox : GBox enc ok w b l) (k : κ) (hk : ok k) (hx : a.eval x = enc k)
  (hW : ∀ (v0 : Value) (st : Nat) (w1 : World) (l1 : List (κ × Value)), GBox enc ok w1 b l1 → glooked l1 k z false = glooked l k z false → w.grownBy w1 (some b) → w1.heap.size = w.heap.size → (∀ (w2 : World) (val : Value), w2.heap[b]? = w1.heap[b]? → ∃ w3, (Instr.entryStore t (.map (some b)) (.int .i64 st) val).run P w2 = .ok () w3 ∧ GBox enc ok w3 b (gput l k val) ∧ w2.grownBy w3 (some b) ∧ w3.heap.size = w2.heap.size) → K (a.put o.dst (.tuple #[v0, .int .i64 st])) w1) :
  if Region.wanted o (yielded ops a.tmps) = true then Oper.wp P o a w K Q else E := by
 have hw : Region.wanted o (yielded ops a.tmps) = true := by simp [Region.wanted, hgd]
 rw [if_pos hw]
 obtain ⟨v0, st, w1, l1, hrun, r1, r2, r3, r4, r5⟩ := hbox.ment hK ht z hz k hk
 unfold Oper.wp
 simp [execOp, hop, hm, hx, hrun, Result.andThen]
 exact hW v0 st w1 l1 r1 ((r2 false).resolve_right (by decide)) r3 r4 r5
theorem step_entryStore {ops : Array Oper} {o : Oper} {a : Act} {K : Act → World → Prop} {Q : Exit → Act → World → Prop} {E : Prop} (hgd : o.guard = none)
  (m s x : Operand) (t : TypeId) (hop : o.op = Op.entryStore t m s x) (b st : Nat) (val : Value) (hm : a.eval m = .map (some b)) (hs : a.eval s = .int .i64 st) (hx : a.eval x = val)
  (R : World → Prop) (hrun : ∃ w3, (Instr.entryStore t (.map (some b)) (.int .i64 st) val).run P w = .ok () w3 ∧ R w3) (hW : ∀ w3, R w3 → K (a.put o.dst undef) w3) :
  if Region.wanted o (yielded ops a.tmps) = true then Oper.wp P o a w K Q else E := by
 have hw : Region.wanted o (yielded ops a.tmps) = true := by simp [Region.wanted, hgd]
 rw [if_pos hw]
 obtain ⟨w3, h1, h2⟩ := hrun
 unfold Oper.wp
 simp [execOp, hop, hm, hs, hx, h1, Result.andThen]
 exact hW w3 h2
end
end Go.Proofs.YtcjcdbhobehlpaaGreatDoor
