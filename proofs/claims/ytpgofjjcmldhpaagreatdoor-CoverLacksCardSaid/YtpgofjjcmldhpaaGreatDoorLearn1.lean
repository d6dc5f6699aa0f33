/- Skills that are learnt: Learn of the program, LearnOf of the reference. -/
import Derived.Test.YtpgofjjcmldhpaaGreatDoorLearnP
import Derived.Test.YtpgofjjcmldhpaaGreatDoorPaper1
import Derived.Test.YtpgofjjcmldhpaaGreatDoorTopic5
import Derived.Test.YtpgofjjcmldhpaaGreatDoorSort
import Derived.Test.YtpgofjjcmldhpaaGreatDoorReg
import Derived.Deep.RegionWith
namespace Go.Proofs.YtpgofjjcmldhpaaGreatDoor
open Go.RowKit Go.Sort
set_option linter.unusedVariables false
set_option linter.unusedSimpArgs false

theorem Tryz.infoSkillL : (Tryz.prog.info? 139).map (fun i => (i.zero, i.size, i.bytes)) = some (some (.agg #[.string ⟨#[]⟩, .int .i64 0]), 2, 24) := by kernel_rfl

set_option maxHeartbeats 1000000 in
theorem keysI_any (b : Nat) (es : List (ByteArray × Value)) (w : World) (h : MBox w b es) (hnd : (es.map (·.1)).Nodup) (hel : es.length ≤ 1000000) (hes : ∀ x ∈ es, x.1.size ≤ 1000000) :
    Calls Tryz.prog 84 #[.map (some b)] w (GivesOwn 9 (keysS (es.map (·.1))) w) := by
  obtain ⟨D, hown, hsize, hperm⟩ := h.owns hnd hes (by omega)
  have hfin : ∀ ss : List (List UInt8), ss.Perm (strKeys D) → (ss.mergeSort fun x y => decide (x ≤ y)).map ofL = keysS (es.map (·.1)) := fun ss hss => by
    have hp := hss.trans hperm
    have hn2 : ss.Nodup := by
      refine hp.nodup_iff.2 ?_
      refine List.pairwise_map.2 (hnd.imp fun {a b} hne e => hne ?_)
      rw [← ofL_toL a, e, ofL_toL]
    refine keysS_is (rise_sorted ss hn2) (fun p => ?_)
    rw [List.mem_map]
    constructor
    · rintro ⟨x, hx, rfl⟩
      rw [List.mem_mergeSort, hp.mem_iff, List.mem_map] at hx
      obtain ⟨q, hq, rfl⟩ := hx
      rw [ofL_toL]
      exact hq
    · intro hpl
      refine ⟨toL p, ?_, ofL_toL p⟩
      rw [List.mem_mergeSort, hp.mem_iff]
      exact List.mem_map_of_mem hpl
  have Hfin := Lib.hid hfin
  have Hlen := Lib.hid hsize
  clear hfin hperm hes h hsize
  refine (callsIn_wide (n := 6)).1 ?_
  have hfK : Fence.wide.fn 120 := trivial
  have hfS : Fence.wide.fn 119 := trivial
  refine callsIn_of_wp Tryz.func84 rfl trivial ?_ rfl
  simp only [Tryz.ntmps84, List.size_toArray, List.length_cons, List.length_nil, Nat.reduceAdd, Nat.reduceSub, Array.replicate_succ, Array.replicate_zero, List.push_toArray, List.append_toArray, List.nil_append, List.cons_append]
  gi_wp2_with (first
    | (gi_at_call 120; refine (Tryz.maps_Keys_120 _ _).mono ?_; rintro e w' ⟨rfl, rfl⟩)
    | (gi_at_call 119; refine (Tryz.slices_Sorted_keys_119_120 b es.length D _ w hown (by rw [Hlen.out]; unfold maxLen; omega) (by rw [Hlen.out]; omega)).mono ?_; rintro e w' ⟨v, ss, rfl, hS, hrow, hnil, hb⟩))
  go_ret
  refine ⟨v, rfl, ?_, ((Below.refl _ w).alloc (Nat.le_refl _) _).trans (hb.mono (by simp))⟩
  rw [← Hfin.out ss hS]
  unfold Own
  rw [← enc_ofL, List.length_map, List.length_mergeSort]
  exact ownsRow_base_a hrow (by simp)

/-- What learning gives. -/
def learnOut (er : Int) (st : Lrn) (ks : List ByteArray) : List Skill := if er = 0 then learnL st ks else []
def GivesSk (er : Int) (out : List Skill) (w : World) (e : Ending) (w' : World) : Prop :=
  Below w.heap.size w w' ∧ ∃ a cap, e = .returned (.tuple #[.slice a out.length cap, .int .i64 er]) ∧ SA w' a out

theorem learn_pos {st : Lrn} {n : Nat} (h : LrnOk st n) {k : ByteArray} (hk : k ∈ st.1.map (·.1)) : 1 ≤ st.2 := by
  have h1 := (h.pos k).2 hk
  have h2 := h.cnt k
  omega
theorem tdiv_bd {c m : Int} (h1 : 0 ≤ c) (h2 : c ≤ 100000000) (h3 : 1 ≤ m) : 0 ≤ c.tdiv m ∧ c.tdiv m ≤ 100000000 := by
  rw [Int.tdiv_eq_ediv_of_nonneg h1]
  have := Int.ediv_nonneg h1 (by omega : 0 ≤ m)
  have := Int.ediv_le_self m h1
  omega


/-- The bounds of what is learnt of. -/
theorem topics_bd {ps : List Paper} (hpl : ps.length ≤ 1000) (hsm : ∀ p ∈ ps, PSmall p) (who : ByteArray) (k : Nat) : (topicsOf (ps.take k) who).length ≤ 1000000 ∧ ∀ t ∈ topicsOf (ps.take k) who, t ∈ topicsOf ps who := by
  constructor
  · have h1 := topicsOf_len (ps := ps.take k) (n := 1000) (fun p hp => (hsm p (List.mem_of_mem_take hp)).2.2.2.2.1) who
    have h2 : (ps.take k).length ≤ 1000 := by rw [List.length_take]; omega
    have h3 := Nat.mul_le_mul_right 1000 h2
    omega
  · intro t ht
    unfold topicsOf at *
    rw [List.mem_flatMap] at *
    obtain ⟨p, hp, h⟩ := ht
    exact ⟨p, List.mem_of_mem_take hp, h⟩
theorem learnE_fault {l : List Topic} {ps : List Paper} {who : ByteArray} (h : papersFault ps ≠ 0) : learnE l ps who = papersFault ps := by unfold learnE; rw [if_pos h]
theorem learnE_key {l : List Topic} {ps : List Paper} {who : ByteArray} (h : papersFault ps = 0) (g : keyB who = false) : learnE l ps who = 5 := by unfold learnE; rw [if_neg (by simpa using h), if_pos g]
theorem learnE_none {l : List Topic} {ps : List Paper} {who : ByteArray} (h : papersFault ps = 0) (g : keyB who = true) {t : ByteArray} (ht : t ∈ topicsOf ps who) (hn : (ForestPure.topicOf l t).isSome = false) : learnE l ps who = 8 := by
  unfold learnE
  rw [if_neg (by simpa using h), if_neg (by rw [g]; decide), if_pos]
  rw [List.all_eq_false]
  exact ⟨t, ht, by rw [hn]; decide⟩
theorem learnE_ok {l : List Topic} {ps : List Paper} {who : ByteArray} (h : papersFault ps = 0) (g : keyB who = true) (k : ∀ t ∈ topicsOf ps who, (ForestPure.topicOf l t).isSome = true) : learnE l ps who = 0 := by
  unfold learnE
  rw [if_neg (by simpa using h), if_neg (by rw [g]; decide), if_neg]
  rw [List.all_eq_true.2 k]
  decide

end Go.Proofs.YtpgofjjcmldhpaaGreatDoor
