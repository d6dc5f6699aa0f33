/- Arrivals by papers: a map of slices. -/
import Derived.Test.YtifflpilnpcmoaaGreatDoorMapV
import Derived.Test.YtifflpilnpcmoaaGreatDoorStateP
import Derived.Test.YtifflpilnpcmoaaGreatDoorKeep
namespace Go.Proofs.YtifflpilnpcmoaaGreatDoor
open Go.RowKit
set_option linter.unusedVariables false
set_option linter.unusedSimpArgs false

theorem Tryz.infoArv : (Tryz.prog.info? 63).map (fun i => (i.zero, i.size, i.bytes)) = some (some (.agg #[.string ⟨#[]⟩, .int .i64 0, .int .i64 0, .string ⟨#[]⟩, .string ⟨#[]⟩]), 5, 64) := by kernel_rfl
theorem Tryz.zeroArvs (w : World) : (zeroValue 30).run Tryz.prog w = .ok (.slice none 0 0) w := Tryz.zeroValue30 w
/-- Block b is a map from the keys K to slices of arrivals. -/
structure ASl (w : World) (b base : Nat) (K : List ByteArray) (F : ByteArray → List Arv) (es : List (ByteArray × Value)) : Prop where
  box : MBox w b es
  nodup : (es.map (·.1)).Nodup
  keys : ∀ p, p ∈ es.map (·.1) ↔ p ∈ K
  vals : ∀ p, Own base 63 w (valOf es p) (F p)
  apart : ∀ p q k, p ≠ q → (valOf es p).ownBlock = some k → (valOf es q).ownBlock ≠ some k
section
variable {w w' w1 w2 : World} {b base : Nat} {K : List ByteArray} {F : ByteArray → List Arv} {es : List (ByteArray × Value)}
theorem ASl.blk (h : ASl w b base K F es) {j : Nat} (hj : blk es j) : base ≤ j ∧ j < w.heap.size := by
  obtain ⟨p, hp⟩ := hj; exact (h.vals p).lt j hp
theorem ASl.keep (h : ASl w b base K F es) (hk : ∀ j, (j = b ∨ Go.Proofs.YtifflpilnpcmoaaGreatDoor.blk es j) → w'.heap[j]? = w.heap[j]?) : ASl w' b base K F es :=
  ⟨h.box.same (hk b (.inl rfl)), h.nodup, h.keys, fun p => (h.vals p).same fun j hj => hk j (.inr ⟨p, hj⟩), h.apart⟩
theorem ASl.below (h : ASl w b base K F es) (hb : Below w.heap.size w w') : ASl w' b base K F es :=
  h.keep fun j hj => hb.block j (by rcases hj with rfl | hj; exact h.box.lt; exact (h.blk hj).2)
theorem ASl.alloc (h : ASl w b base K F es) (o : Obj) : ASl (w.alloc o) b base K F es := h.below ((Below.refl _ _).alloc (Nat.le_refl _) o)
theorem ASl.drew (h : ASl w b base K F es) : ASl w.drew b base K F es := h.below (Below.refl _ _).drew
theorem ASl.look (h : ASl w b base K F es) (p : ByteArray) : (Instr.lookup 77 (.map (some b)) (.string p) false).run Tryz.prog w = .ok (valOf es p) w :=
  MBox.look h.box Tryz.underlying77 Tryz.underlying9 (.slice none 0 0) Tryz.zeroArvs p false
theorem ASl.new (w : World) (base : Nat) : ASl (w.alloc (.map #[] 0)) w.heap.size base [] (fun _ => []) [] :=
  ⟨MBox.new w, by simp, by simp, fun p => Own.nil _ _ _, fun p q k _ h => by cases h⟩
theorem valOf_touch (es : List (ByteArray × Value)) (k p : ByteArray) : valOf (mput es k (valOf es k)) p = valOf es p := by
  rw [valOf_put]
  split
  · rename_i e; rw [e]
  · rfl
/-- A key is laid, with the slice that it had. -/
theorem ASl.touch (h : ASl w b base K F es) (k : ByteArray) (hM : MBox w2 b (mput es k (valOf es k))) (hg2 : w.grownBy w2 (some b)) (hb : b < base) : ASl w2 b base (K ++ [k]) F (mput es k (valOf es k)) := by
  refine ⟨hM, mput_nodup _ _ _ h.nodup, fun p => ?_, fun p => ?_, fun p q j hpq => ?_⟩
  · rw [mput_keys, h.keys, List.mem_append, List.mem_singleton]
    exact or_comm
  · rw [valOf_touch]
    exact (h.vals p).same fun j hj => hg2.block j ((h.vals p).lt j hj).2 (fun e => by cases e; have := ((h.vals p).lt _ hj).1; omega)
  · rw [valOf_touch, valOf_touch]
    exact h.apart p q j hpq
/-- An arrival was appended to the slice of its key, and the slice stored. -/
theorem ASl.step (h : ASl w b base K F es) (k : ByteArray) (x : Arv) (hk : k ∈ K) {g cap : Nat} (hown : Own base 63 w1 (.slice (some ⟨g, 0, none⟩) ((F k).length + 1) cap) (F k ++ [x]))
    (hg : w.grownBy w1 (valOf es k).ownBlock) (hat : (valOf es k).ownBlock = some g ∨ g = w.heap.size) (hM : MBox w2 b (mput es k (.slice (some ⟨g, 0, none⟩) ((F k).length + 1) cap))) (hg2 : w1.grownBy w2 (some b)) (hb : b < base) :
    ASl w2 b base K (fun p => if k = p then F p ++ [x] else F p) (mput es k (.slice (some ⟨g, 0, none⟩) ((F k).length + 1) cap)) := by
  have hold : ∀ p, p ≠ k → ∀ j, (valOf es p).ownBlock = some j → w2.heap[j]? = w.heap[j]? := fun p hp j hj => by
    have hlt := (h.vals p).lt j hj
    rw [hg2.block j (Nat.lt_of_lt_of_le hlt.2 hg.size) (fun e => by cases e; omega), hg.block j hlt.2 (fun e => h.apart p k j hp hj e.symm)]
  have hgne : ∀ p, p ≠ k → (valOf es p).ownBlock ≠ some g := fun p hp e => by
    rcases hat with h1 | h1
    · exact h.apart p k g hp e h1
    · have := ((h.vals p).lt g e).2; omega
  refine ⟨hM, mput_nodup _ _ _ h.nodup, fun p => ?_, fun p => ?_, fun p q j hpq => ?_⟩
  · rw [mput_keys, h.keys]
    constructor
    · rintro (rfl | h1)
      · exact hk
      · exact h1
    · exact .inr
  · rw [valOf_put]
    by_cases hp : k = p
    · subst hp
      rw [if_pos rfl]
      show Own base _ w2 _ (if k = k then _ else _)
      rw [if_pos rfl]
      exact hown.same fun j hj => hg2.block j (hown.lt j hj).2 (fun e => by cases e; have := (hown.lt _ hj).1; omega)
    · rw [if_neg hp]
      show Own base _ w2 _ (if k = p then _ else _)
      rw [if_neg hp]
      exact (h.vals p).same fun j hj => hold p (Ne.symm hp) j hj
  · rw [valOf_put, valOf_put]
    by_cases hp : k = p
    · rw [if_pos hp, if_neg (fun e => hpq (hp.symm.trans e))]
      intro hj
      have hkg : j = g := by cases hj; rfl
      subst hkg
      exact hgne q (fun e => hpq (hp.symm.trans e.symm))
    · rw [if_neg hp]
      by_cases hq : k = q
      · rw [if_pos hq]
        intro hj e
        have hkg : j = g := by cases e; rfl
        subst hkg
        exact hgne p (Ne.symm hp) hj
      · rw [if_neg hq]
        exact h.apart p q j hpq
end
end Go.Proofs.YtifflpilnpcmoaaGreatDoor
