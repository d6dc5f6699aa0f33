/- Skills that are learnt: plain laws. -/
import Derived.Test.YtpgofjjcmldhpaaGreatDoorSkill1
import Derived.Test.YtpgofjjcmldhpaaGreatDoorPaper1
import Derived.Test.YtpgofjjcmldhpaaGreatDoorSortP
namespace Go.Proofs.YtpgofjjcmldhpaaGreatDoor
open Go.RowKit Go.Sort
set_option linter.unusedVariables false
set_option linter.unusedSimpArgs false

/-- How often a key was counted. -/
def cntV (es : List (ByteArray × Value)) (t : ByteArray) : Int := match mget es t with | some (.int _ z) => z | _ => 0
/-- Counts, and the greatest of them. -/
abbrev Lrn := List (ByteArray × Value) × Int
def lrnS (st : Lrn) (t : ByteArray) : Lrn := (mput st.1 t (.int .i64 (cntV st.1 t + 1)), max st.2 (cntV st.1 t + 1))
def lrnL (ts : List ByteArray) : Lrn := ts.foldl lrnS ([], 0)
theorem lrn_snoc (ts : List ByteArray) (t : ByteArray) : lrnL (ts ++ [t]) = lrnS (lrnL ts) t := by unfold lrnL; rw [List.foldl_append]; rfl
theorem mget_isSome (l : List (ByteArray × Value)) (k : ByteArray) : (mget l k).isSome = true ↔ k ∈ l.map (·.1) := by
  induction l with
  | nil => simp [mget]
  | cons p r ih =>
    unfold mget
    by_cases h : p.1 = k
    · simp [h]
    · simp only [h, if_false, ih, List.map_cons, List.mem_cons]
      constructor
      · exact .inr
      · rintro (e | e)
        · exact absurd e.symm h
        · exact e
theorem mput_old {l : List (ByteArray × Value)} {k : ByteArray} (h : k ∈ l.map (·.1)) (v : Value) : (mput l k v).map (·.1) = l.map (·.1) := by
  induction l with
  | nil => simp at h
  | cons p r ih =>
    unfold mput
    by_cases e : p.1 = k
    · simp [e]
    · rw [if_neg e, List.map_cons, List.map_cons, ih]
      rw [List.map_cons, List.mem_cons] at h
      exact h.resolve_left fun g => e g.symm
theorem mput_fresh {l : List (ByteArray × Value)} {k : ByteArray} (h : k ∉ l.map (·.1)) (v : Value) : (mput l k v).map (·.1) = l.map (·.1) ++ [k] := by
  induction l with
  | nil => rfl
  | cons p r ih =>
    rw [List.map_cons, List.mem_cons, not_or] at h
    unfold mput
    rw [if_neg (fun g => h.1 g.symm), List.map_cons, List.map_cons, ih h.2]
    rfl
structure LrnOk (st : Lrn) (n : Nat) : Prop where
  val : ∀ k v, mget st.1 k = some v → ∃ c : Int, v = .int .i64 c ∧ 1 ≤ c ∧ c ≤ st.2
  lo : 0 ≤ st.2
  hi : st.2 ≤ n
  nodup : (st.1.map (·.1)).Nodup
  len : st.1.length ≤ n
theorem LrnOk.cnt {st : Lrn} {n : Nat} (h : LrnOk st n) (k : ByteArray) : 0 ≤ cntV st.1 k ∧ cntV st.1 k ≤ st.2 := by
  unfold cntV
  cases hm : mget st.1 k with
  | none => exact ⟨by simp, by simpa using h.lo⟩
  | some v =>
    obtain ⟨c, rfl, h1, h2⟩ := h.val k v hm
    exact ⟨by simp; omega, by simpa using h2⟩
theorem LrnOk.look {st : Lrn} {n : Nat} (h : LrnOk st n) (k : ByteArray) : looked st.1 k (.int .i64 0) false = .int .i64 (cntV st.1 k) := by
  unfold looked cntV
  cases hm : mget st.1 k with
  | none => rfl
  | some v =>
    obtain ⟨c, rfl, _⟩ := h.val k v hm
    rfl
theorem LrnOk.pos {st : Lrn} {n : Nat} (h : LrnOk st n) (k : ByteArray) : 0 < cntV st.1 k ↔ k ∈ st.1.map (·.1) := by
  rw [← mget_isSome]
  unfold cntV
  cases hm : mget st.1 k with
  | none => simp
  | some v =>
    obtain ⟨c, rfl, h1, _⟩ := h.val k v hm
    simp; omega
theorem LrnOk.step {st : Lrn} {n : Nat} (h : LrnOk st n) (t : ByteArray) : LrnOk (lrnS st t) (n + 1) := by
  have hc := h.cnt t
  have h1 := h.lo
  have h2 := h.hi
  have hle1 := Int.le_max_left st.2 (cntV st.1 t + 1)
  have hle2 := Int.le_max_right st.2 (cntV st.1 t + 1)
  have hmx : max st.2 (cntV st.1 t + 1) ≤ (n : Int) + 1 := Int.max_le.2 ⟨by omega, by omega⟩
  refine ⟨?_, ?_, ?_, ?_, ?_⟩
  · intro k v hk
    show ∃ c : Int, v = .int .i64 c ∧ 1 ≤ c ∧ c ≤ max st.2 (cntV st.1 t + 1)
    have hk' : mget (mput st.1 t (.int .i64 (cntV st.1 t + 1))) k = some v := hk
    rw [mget_mput] at hk'
    by_cases e : t = k
    · rw [if_pos e] at hk'
      cases hk'
      exact ⟨_, rfl, by omega, hle2⟩
    · rw [if_neg e] at hk'
      obtain ⟨c, rfl, g1, g2⟩ := h.val k v hk'
      exact ⟨c, rfl, g1, by omega⟩
  · show 0 ≤ max st.2 (cntV st.1 t + 1)
    omega
  · show max st.2 (cntV st.1 t + 1) ≤ ((n + 1 : Nat) : Int)
    omega
  · show ((mput st.1 t (.int .i64 (cntV st.1 t + 1))).map (·.1)).Nodup
    by_cases hn : t ∈ st.1.map (·.1)
    · rw [mput_old hn]; exact h.nodup
    · rw [mput_fresh hn, List.nodup_append]
      refine ⟨h.nodup, by simp, ?_⟩
      intro a ha b hb e
      simp at hb
      subst hb
      subst e
      exact hn ha
  · have := mput_length st.1 t (.int .i64 (cntV st.1 t + 1))
    have := h.len
    show (mput st.1 t (.int .i64 (cntV st.1 t + 1))).length ≤ n + 1
    omega
theorem lrn_rev (ts : List ByteArray) : LrnOk (lrnL ts.reverse) ts.length ∧ ∀ k, k ∈ (lrnL ts.reverse).1.map (·.1) ↔ k ∈ ts := by
  induction ts with
  | nil => exact ⟨⟨by simp [lrnL, mget], by simp [lrnL], by simp [lrnL], by simp [lrnL], by simp [lrnL]⟩, by simp [lrnL]⟩
  | cons t r ih =>
    rw [List.reverse_cons, lrn_snoc]
    refine ⟨ih.1.step t, fun k => ?_⟩
    show k ∈ (mput (lrnL r.reverse).1 t (.int .i64 (cntV (lrnL r.reverse).1 t + 1))).map (·.1) ↔ _
    by_cases hm : t ∈ (lrnL r.reverse).1.map (·.1)
    · rw [mput_old hm, ih.2, List.mem_cons]
      constructor
      · exact .inr
      · rintro (rfl | e)
        · exact (ih.2 k).1 hm
        · exact e
    · rw [mput_fresh hm, List.mem_append, ih.2, List.mem_singleton, List.mem_cons]
      exact Or.comm
theorem lrn_ok (ts : List ByteArray) : LrnOk (lrnL ts) ts.length := by
  have := (lrn_rev ts.reverse).1
  rwa [List.reverse_reverse, List.length_reverse] at this
theorem lrn_mem (ts : List ByteArray) (k : ByteArray) : k ∈ (lrnL ts).1.map (·.1) ↔ k ∈ ts := by
  have := (lrn_rev ts.reverse).2 k
  rwa [List.reverse_reverse, List.mem_reverse] at this

/-- The topics of the papers of a person, one after another. -/
def hisT (who : ByteArray) (p : Paper) : List ByteArray := if p.authors.any (fun y => decide (y = who)) then p.topics else []
def topicsOf (ps : List Paper) (who : ByteArray) : List ByteArray := ps.flatMap (hisT who)
theorem topicsOf_snoc {ps : List Paper} {k : Nat} (hk : k < ps.length) (who : ByteArray) : topicsOf (ps.take (k + 1)) who = topicsOf (ps.take k) who ++ hisT who ps[k] := by
  unfold topicsOf
  rw [List.take_succ_eq_append_getElem hk, List.flatMap_append]
  simp
theorem topicsOf_len {ps : List Paper} {n : Nat} (h : ∀ p ∈ ps, p.topics.length ≤ n) (who : ByteArray) : (topicsOf ps who).length ≤ ps.length * n := by
  induction ps with
  | nil => simp [topicsOf]
  | cons p r ih =>
    have h1 := ih fun q hq => h q (List.mem_cons_of_mem _ hq)
    have h2 := h p (List.mem_cons_self ..)
    unfold topicsOf at *
    rw [List.flatMap_cons, List.length_append, List.length_cons, Nat.add_mul]
    have h3 : (hisT who p).length ≤ p.topics.length := by unfold hisT; split <;> simp
    omega
/-- A weight. -/
def wgt (st : Lrn) (t : ByteArray) : Int := max 1 ((100 * cntV st.1 t).tdiv st.2)
def learnL (st : Lrn) (ks : List ByteArray) : List Skill := ks.map (fun t => (t, wgt st t))
theorem learnL_snoc (st : Lrn) (ks : List ByteArray) (t : ByteArray) : learnL st (ks ++ [t]) = learnL st ks ++ [(t, wgt st t)] := by unfold learnL; rw [List.map_append]; rfl
/-- The keys that were counted, in the order of a forest. -/
def hitK (st : Lrn) (l : List Topic) : List ByteArray := (l.filter (fun t => decide (0 < cntV st.1 t.1))).map (·.1)
theorem hitK_snoc (st : Lrn) {l : List Topic} {k : Nat} (hk : k < l.length) : hitK st (l.take (k + 1)) = if 0 < cntV st.1 l[k].1 then hitK st (l.take k) ++ [l[k].1] else hitK st (l.take k) := by
  unfold hitK
  rw [List.take_succ_eq_append_getElem hk, List.filter_append, List.map_append]
  by_cases h : 0 < cntV st.1 l[k].1
  · rw [if_pos h]; simp [h]
  · rw [if_neg h]; simp [h]
theorem hitK_len (st : Lrn) (l : List Topic) : (hitK st l).length ≤ l.length := by unfold hitK; rw [List.length_map]; exact List.length_filter_le _ _
theorem rise_lt {a b : ByteArray} (h : Op.bytesLess a.toList b.toList = true) : ltS a b := by
  rw [bl_eq, decide_eq_true_eq, ByteArray.toList_eq, ByteArray.toList_eq] at h
  exact h
theorem has_mem {l : List Topic} {k : ByteArray} (h : (ForestPure.topicOf l k).isSome = true) : ∃ t ∈ l, t.1 = k := by
  obtain ⟨t, ht⟩ := Option.isSome_iff_exists.1 h
  exact ⟨t, ForestPure.topicOf_some ht⟩
theorem hit_keys {l : List Topic} (h0 : forestFault l = 0) {ts : List ByteArray} (hts : ∀ t ∈ ts, (ForestPure.topicOf l t).isSome = true) : hitK (lrnL ts) l = keysS ((lrnL ts).1.map (·.1)) := by
  refine keysS_is ?_ fun p => ?_
  · have hr : Rise (l.map (·.1)) := by
      unfold Rise
      rw [List.pairwise_map, List.pairwise_iff_getElem]
      intro i k hi hk hik
      have h1 : ∀ j, j < l.length → f1 l j = 0 := by
        have g := h0
        unfold forestFault at g
        by_cases h100 : 100 < l.length
        · simp [h100] at g
        · simp only [h100, if_false, firstOf] at g
          by_cases g1 : firstErr (f1 l) l.length = 0
          · exact firstErr_zeros g1
          · simp [g1] at g
      exact rise_lt (rises h1 (Nat.le_refl _) i k hik hk)
    unfold hitK Rise at *
    exact hr.sublist (List.Sublist.map _ List.filter_sublist)
  · have hp := (lrn_ok ts).pos p
    unfold hitK
    rw [List.mem_map]
    constructor
    · rintro ⟨t, ht, rfl⟩
      rw [List.mem_filter] at ht
      exact hp.1 (by simpa using ht.2)
    · intro hm
      obtain ⟨t, ht, e⟩ := has_mem (hts p ((lrn_mem ts p).1 hm))
      exact ⟨t, List.mem_filter.2 ⟨ht, by rw [e]; simpa using hp.2 hm⟩, e⟩
/-- The error of Learn, but for the forest's. -/
def learnE (l : List Topic) (ps : List Paper) (who : ByteArray) : Int :=
  if papersFault ps ≠ 0 then papersFault ps else if keyB who = false then 5 else if (topicsOf ps who).all (fun t => (ForestPure.topicOf l t).isSome) = false then 8 else 0
end Go.Proofs.YtpgofjjcmldhpaaGreatDoor
