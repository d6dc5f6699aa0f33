/- Marks by papers and by persons: maps of slices. -/
import Derived.Test.YtaoomkkhpianlaaGreatDoorMark2
import Derived.Test.YtaoomkkhpianlaaGreatDoorKeep
namespace Go.Proofs.YtaoomkkhpianlaaGreatDoor
open Go.RowKit
set_option linter.unusedVariables false
set_option linter.unusedSimpArgs false

theorem Tryz.infoMark : (Tryz.prog.info? 54).map (fun i => (i.zero, i.size, i.bytes)) = some (some (.agg #[.string ⟨#[]⟩, .string ⟨#[]⟩, .int .i64 0]), 3, 40) := by kernel_rfl
theorem Tryz.zeroMarks (w : World) : (zeroValue 26).run Tryz.prog w = .ok (.slice none 0 0) w := Tryz.zeroValue26 w

/-- append(s, y) in a region that draws its order; where the slice lies. -/
theorem step_append_lie {α : Type} [Cel α] {w : World} {base : Nat} {P : Program} {ops : Array Oper} {o : Oper} {a : Act} {K : Act → World → Prop} {Q : Exit → Act → World → Prop} {E' : Prop} (hgd : o.guard = none) (s x : Operand) (t : TypeId)
    (ho : o.op = .call { callee := .builtin .append, args := #[s, x], argTypes := #[t, t] }) (E bytes : Nat) (z : Value) (ht : P.underlying t = some (.slice E))
    (hE : (P.info? E).map (fun i => (i.zero, i.size, i.bytes)) = some (some z, Cel.k α, bytes)) (hzs : z.cells.size = Cel.k α)
    (v : Value) (l : List α) (hs : a.eval s = v) (hown : Own base E w v l) (y : α) (nb : Nat) (hx : a.eval x = .slice (some ⟨nb, 0, none⟩) 1 1)
    (hbox : Box w nb E (Cel.cells y).toArray) (hlen : (l.length + 1) * bytes ≤ 140737488355328) (hmax : l.length + 1 ≤ 1000000000000) (hbase : base ≤ w.heap.size)
    (h : ∀ g cap w', Own base E w' (.slice (some ⟨g, 0, none⟩) (l.length + 1) cap) (l ++ [y]) → w.grownBy w' v.ownBlock → (v.ownBlock = some g ∨ g = w.heap.size) → K (a.put o.dst (.slice (some ⟨g, 0, none⟩) (l.length + 1) cap)) w') :
    if Region.wanted o (yielded ops a.tmps) = true then Oper.wp P o a w K Q else E' := by
  obtain ⟨i0, hi, hz0, hz1, hz2⟩ := info_parts hE
  refine step_append_lies w hgd s x t ho base E i0 z (Cel.k α) bytes ht hi hz0 hz1 hz2 hzs Cel.pos v l.length (l.flatMap Cel.cells) hs hown ⟨nb, 0, none⟩ 1 1 (Cel.cells y) hx (by rw [Cel.len]; omega) ?_ (Cel.one y) (by omega) (by unfold maxLen; omega) hlen hbase w.heap.size rfl ?_
  · intro j u hu
    have hb := hbox.cell j
    rw [show (Addr.add ⟨nb, 0, none⟩ j : Addr) = ⟨nb, j, none⟩ from by unfold Addr.add; split <;> simp_all]
    rw [hb]
    simpa using hu
  · intro g cap w' h1 h2 h3 _
    refine h g cap w' ?_ h2 h3
    unfold Own
    rw [List.length_append, List.flatMap_append]
    simpa using h1

/-- The marks with a key. -/
def sel (f : Mark → ByteArray) (p : ByteArray) (l : List Mark) : List Mark := l.filter (fun x => decide (f x = p))
/-- The value of a key in a list of entries; nil if there is none. -/
def valOf (es : List (ByteArray × Value)) (p : ByteArray) : Value := (mget es p).getD (.slice none 0 0)
/-- The blocks of the values. -/
def blk (es : List (ByteArray × Value)) (j : Nat) : Prop := ∃ p, (valOf es p).ownBlock = some j
theorem mput_keys (es : List (ByteArray × Value)) (k : ByteArray) (v : Value) (p : ByteArray) : p ∈ (mput es k v).map (·.1) ↔ p = k ∨ p ∈ es.map (·.1) := by
  induction es with
  | nil => simp [mput]
  | cons x r ih =>
    unfold mput
    by_cases h : x.1 = k
    · subst h
      simp
    · rw [if_neg h, List.map_cons, List.mem_cons, ih, List.map_cons, List.mem_cons]
      constructor
      · rintro (h | h | h) <;> simp [h]
      · rintro (h | h | h) <;> simp [h]
theorem mput_nodup (es : List (ByteArray × Value)) (k : ByteArray) (v : Value) (h : (es.map (·.1)).Nodup) : ((mput es k v).map (·.1)).Nodup := by
  induction es with
  | nil => simp [mput]
  | cons x r ih =>
    rw [List.map_cons, List.nodup_cons] at h
    unfold mput
    by_cases hx : x.1 = k
    · subst hx
      simpa using h
    · rw [if_neg hx, List.map_cons, List.nodup_cons]
      refine ⟨?_, ih h.2⟩
      rw [mput_keys]
      rintro (h1 | h1)
      · exact hx h1
      · exact h.1 h1
theorem valOf_put (es : List (ByteArray × Value)) (k : ByteArray) (v : Value) (p : ByteArray) : valOf (mput es k v) p = if k = p then v else valOf es p := by
  unfold valOf; rw [mget_mput]; split <;> simp

theorem sel_snoc (f : Mark → ByteArray) (p : ByteArray) (ms : List Mark) (x : Mark) : sel f p (ms ++ [x]) = if f x = p then sel f p ms ++ [x] else sel f p ms := by
  unfold sel
  rw [List.filter_append, List.filter_cons]
  by_cases h : f x = p <;> simp [h]
theorem sel_nil {f : Mark → ByteArray} {p : ByteArray} {l : List Mark} : sel f p l = [] ↔ ¬ ∃ x ∈ l, f x = p := by
  unfold sel
  rw [List.filter_eq_nil_iff]
  constructor
  · rintro h ⟨x, hx, e⟩
    exact h x hx (by simp [e])
  · intro h x hx e
    exact h ⟨x, hx, by simpa using e⟩
theorem sel_len (f : Mark → ByteArray) (p : ByteArray) (ms : List Mark) : (sel f p ms).length ≤ ms.length := List.length_filter_le _ _
theorem mget_of_mem {es : List (ByteArray × Value)} (hn : (es.map (·.1)).Nodup) {k : ByteArray} {v : Value} (h : (k, v) ∈ es) : mget es k = some v := by
  induction es with
  | nil => cases h
  | cons x r ih =>
    rw [List.map_cons, List.nodup_cons] at hn
    unfold mget
    rcases List.mem_cons.1 h with h | h
    · subst h; simp
    · have : x.1 ≠ k := fun e => hn.1 (by rw [e]; exact List.mem_map_of_mem (f := (·.1)) h)
      rw [if_neg this]
      exact ih hn.2 h
theorem valOf_mem {es : List (ByteArray × Value)} (hn : (es.map (·.1)).Nodup) {k : ByteArray} {v : Value} (h : (k, v) ∈ es) : valOf es k = v := by
  unfold valOf; rw [mget_of_mem hn h]; rfl
/-- Block b is a map from keys to the slices of their marks. -/
structure MSl (w : World) (b base : Nat) (f : Mark → ByteArray) (l : List Mark) (es : List (ByteArray × Value)) : Prop where
  box : MBox w b es
  nodup : (es.map (·.1)).Nodup
  keys : ∀ p, p ∈ es.map (·.1) ↔ ∃ x ∈ l, f x = p
  vals : ∀ p, Own base 54 w (valOf es p) (sel f p l)
  apart : ∀ p q k, p ≠ q → (valOf es p).ownBlock = some k → (valOf es q).ownBlock ≠ some k
section
variable {w w' w1 w2 : World} {b base : Nat} {f : Mark → ByteArray} {l : List Mark} {es : List (ByteArray × Value)}
theorem MSl.blk (h : MSl w b base f l es) {j : Nat} (hj : blk es j) : base ≤ j ∧ j < w.heap.size := by
  obtain ⟨p, hp⟩ := hj; exact (h.vals p).lt j hp
theorem MSl.keep (h : MSl w b base f l es) (hk : ∀ j, (j = b ∨ Go.Proofs.YtaoomkkhpianlaaGreatDoor.blk es j) → w'.heap[j]? = w.heap[j]?) : MSl w' b base f l es :=
  ⟨h.box.same (hk b (.inl rfl)), h.nodup, h.keys, fun p => (h.vals p).same fun j hj => hk j (.inr ⟨p, hj⟩), h.apart⟩
theorem MSl.below (h : MSl w b base f l es) (hb : Below w.heap.size w w') : MSl w' b base f l es :=
  h.keep fun j hj => hb.block j (by rcases hj with rfl | hj; exact h.box.lt; exact (h.blk hj).2)
theorem MSl.alloc (h : MSl w b base f l es) (o : Obj) : MSl (w.alloc o) b base f l es := h.below ((Below.refl _ _).alloc (Nat.le_refl _) o)
theorem MSl.drew (h : MSl w b base f l es) : MSl w.drew b base f l es := h.below (Below.refl _ _).drew
theorem MSl.look (h : MSl w b base f l es) (p : ByteArray) : (Instr.lookup 104 (.map (some b)) (.string p) false).run Tryz.prog w = .ok (valOf es p) w :=
  MBox.look h.box Tryz.underlying104 Tryz.underlying9 (.slice none 0 0) Tryz.zeroMarks p false
theorem MSl.new (w : World) (base : Nat) (f : Mark → ByteArray) : MSl (w.alloc (.map #[] 0)) w.heap.size base f [] [] :=
  ⟨MBox.new w, by simp, by simp, fun p => Own.nil _ _ _, fun p q k _ h => by cases h⟩
/-- A mark was appended to the slice of its key, and the slice stored. -/
theorem MSl.step (h : MSl w b base f l es) (x : Mark) {g cap : Nat} (hown : Own base 54 w1 (.slice (some ⟨g, 0, none⟩) ((sel f (f x) l).length + 1) cap) (sel f (f x) l ++ [x]))
    (hg : w.grownBy w1 (valOf es (f x)).ownBlock) (hat : (valOf es (f x)).ownBlock = some g ∨ g = w.heap.size) (hM : MBox w2 b (mput es (f x) (.slice (some ⟨g, 0, none⟩) ((sel f (f x) l).length + 1) cap))) (hg2 : w1.grownBy w2 (some b)) (hb : b < base) :
    MSl w2 b base f (l ++ [x]) (mput es (f x) (.slice (some ⟨g, 0, none⟩) ((sel f (f x) l).length + 1) cap)) := by
  have hold : ∀ p, p ≠ f x → ∀ j, (valOf es p).ownBlock = some j → w2.heap[j]? = w.heap[j]? := fun p hp j hj => by
    have hlt := (h.vals p).lt j hj
    rw [hg2.block j (Nat.lt_of_lt_of_le hlt.2 hg.size) (fun e => by cases e; omega), hg.block j hlt.2 (fun e => h.apart p (f x) j hp hj e.symm)]
  have hgne : ∀ p, p ≠ f x → (valOf es p).ownBlock ≠ some g := fun p hp e => by
    rcases hat with h1 | h1
    · exact h.apart p (f x) g hp e h1
    · have := ((h.vals p).lt g e).2; omega
  refine ⟨hM, mput_nodup _ _ _ h.nodup, fun p => ?_, fun p => ?_, fun p q k hpq => ?_⟩
  · rw [mput_keys, h.keys]
    constructor
    · rintro (rfl | ⟨y, hy, rfl⟩)
      · exact ⟨x, by simp, rfl⟩
      · exact ⟨y, by simp [hy], rfl⟩
    · rintro ⟨y, hy, rfl⟩
      rw [List.mem_append, List.mem_singleton] at hy
      rcases hy with hy | rfl
      · exact .inr ⟨y, hy, rfl⟩
      · exact .inl rfl
  · rw [valOf_put]
    by_cases hp : f x = p
    · subst hp
      rw [if_pos rfl]
      have e : sel f (f x) (l ++ [x]) = sel f (f x) l ++ [x] := by unfold sel; simp
      rw [e]
      exact hown.same fun j hj => hg2.block j (hown.lt j hj).2 (fun e => by cases e; have := (hown.lt _ hj).1; omega)
    · rw [if_neg hp]
      have e : sel f p (l ++ [x]) = sel f p l := by unfold sel; simp [hp]
      rw [e]
      exact (h.vals p).same fun j hj => hold p (Ne.symm hp) j hj
  · rw [valOf_put, valOf_put]
    by_cases hp : f x = p
    · rw [if_pos hp, if_neg (fun e => hpq (hp.symm.trans e))]
      intro hk
      have hkg : k = g := by cases hk; rfl
      subst hkg
      exact hgne q (fun e => hpq (hp.symm.trans e.symm))
    · rw [if_neg hp]
      by_cases hq : f x = q
      · rw [if_pos hq]
        intro hk e
        have hkg : k = g := by cases e; rfl
        subst hkg
        exact hgne p (Ne.symm hp) hk
      · rw [if_neg hq]
        exact h.apart p q k hpq
/-- Whose blocks there are behind a step. -/
theorem blk_step {x : Mark} {g n cap : Nat} {j : Nat} (h : blk (mput es (f x) (.slice (some ⟨g, 0, none⟩) n cap)) j) : j = g ∨ blk es j := by
  obtain ⟨p, hp⟩ := h
  rw [valOf_put] at hp
  split at hp
  · cases hp; exact .inl rfl
  · exact .inr ⟨p, hp⟩
end

/-- Marks by papers (map b1) and by persons (map b2). -/
structure Shs (w : World) (b1 b2 base : Nat) (l : List Mark) (es1 es2 : List (ByteArray × Value)) : Prop where
  one : MSl w b1 base (·.1) l es1
  two : MSl w b2 base (·.2.1) l es2
  cross : ∀ j, blk es1 j → ¬ blk es2 j
theorem Shs.below {w w' : World} {b1 b2 base : Nat} {l : List Mark} {es1 es2 : List (ByteArray × Value)} (h : Shs w b1 b2 base l es1 es2) (hb : Below w.heap.size w w') : Shs w' b1 b2 base l es1 es2 := ⟨h.one.below hb, h.two.below hb, h.cross⟩
theorem Shs.alloc {w : World} {b1 b2 base : Nat} {l : List Mark} {es1 es2 : List (ByteArray × Value)} (h : Shs w b1 b2 base l es1 es2) (o : Obj) : Shs (w.alloc o) b1 b2 base l es1 es2 := ⟨h.one.alloc o, h.two.alloc o, h.cross⟩
end Go.Proofs.YtaoomkkhpianlaaGreatDoor
