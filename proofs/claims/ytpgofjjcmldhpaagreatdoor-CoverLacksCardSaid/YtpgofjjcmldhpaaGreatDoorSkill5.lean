/- AffinityOf of the reference; Affinity and Reasons of the program; equal lists. -/
import Derived.Test.YtpgofjjcmldhpaaGreatDoorSkill2
import Derived.Test.YtpgofjjcmldhpaaGreatDoorTopic5
namespace Go.Proofs.YtpgofjjcmldhpaaGreatDoor
open Go.RowKit
set_option linter.unusedVariables false
set_option linter.unusedSimpArgs false

theorem SA.bec {w : World} {a : Option Addr} {l : List Bec} (h : SA w a l) {i : Nat} (hi : i < l.length) :
    ∃ b off, a = some ⟨b, off, none⟩ ∧ w.cell? ⟨b, off + i * 4, none⟩ = some (.string l[i].1) ∧ w.cell? ⟨b, off + i * 4 + 1, none⟩ = some (.string l[i].2.1) ∧ w.cell? ⟨b, off + i * 4 + 1 + 1, none⟩ = some (.int .i64 l[i].2.2.1) ∧ w.cell? ⟨b, off + i * 4 + 1 + 1 + 1, none⟩ = some (.int .i64 l[i].2.2.2) := by
  obtain ⟨b, off, ha, hc⟩ := h.at hi
  exact ⟨b, off, ha, hc 0 (by decide), hc 1 (by decide), hc 2 (by decide), hc 3 (by decide)⟩

set_option maxHeartbeats 1000000 in
theorem part0_any (n : Int) (w : World) : Calls Tryz.prog 96 #[.int .i64 n, .int .i64 0] w (Gives (.agg #[.int .i64 0, .int .i64 1]) w) := by
  go_enter Tryz.func96, Tryz.ntmps96
  go_wp2_with fail
  refine bodyPost_ret (v := .agg #[.int .i64 0, .int .i64 1]) (by simp only [results, Tryz.results96]; go_simp) rfl ⟨rfl, ?_⟩
  (repeat' (first | exact Below.refl _ _ | assumption | refine Below.setCell ?_ ?_ _ | refine below_drewN ?_ _ | refine Below.drew ?_ | refine Below.alloc ?_ ?_ _ | (with_reducible refine Below.trans ?_ (Below.mono hb ?_)) | (with_reducible refine Below.trans ?_ (Below.mono hb0 ?_)) | (with_reducible refine Below.trans ?_ (Below.mono hb1 ?_)) | (with_reducible refine Below.trans ?_ (Below.mono hb2 ?_)) | (with_reducible refine Below.trans ?_ (Below.mono hb3 ?_)) | (with_reducible refine Below.trans ?_ (Below.mono hb4 ?_)) | (with_reducible refine Below.trans ?_ (Below.mono hb5 ?_)) | (with_reducible refine Below.trans ?_ (Below.mono hb6 ?_)) | (with_reducible refine Below.trans ?_ (Below.mono hb7 ?_)) | (with_reducible refine Below.trans ?_ (Below.mono hb8 ?_)) | (with_reducible refine Below.trans ?_ (Below.mono hb9 ?_)) | (with_reducible refine Below.trans ?_ (Below.mono hb10 ?_)) | (with_reducible refine Below.trans ?_ (Below.mono hb11 ?_)) | (with_reducible refine Below.trans ?_ (Below.mono hb12 ?_)) | (with_reducible refine Below.trans ?_ (Below.mono hb13 ?_)) | (with_reducible refine Below.trans ?_ (Below.mono hb14 ?_)) | (with_reducible refine Below.trans ?_ (Below.mono hb15 ?_)) | omega | (simp; done) | (simp; omega)))

set_option maxRecDepth 100000 in
set_option maxHeartbeats 4000000 in
theorem affinityOf_any (l : List Topic) (a : Option Addr) (cap : Nat) (s : List Skill) (a2 : Option Addr) (cap2 : Nat) (ts : List ByteArray) (a3 : Option Addr) (cap3 : Nat) (w : World) (hl : SA w a l) (hs : SA w a2 s) (ht : SA w a3 ts) (hlen : l.length ≤ 1000) (hsl : s.length ≤ 1000000) (htl : ts.length ≤ 8) (hok : SkillFit l s) (htk : ∀ t ∈ ts, (ab l t).length ≤ 5) :
    Calls Tryz.prog 82 #[.slice a l.length cap, .slice a2 s.length cap2, .slice a3 ts.length cap3] w (Gives (affV l s ts) w) := by
  have hR0 := Box.new w 37 #[.int .i64 0, .int .i64 0]
  have hbdA := aff_bd (ts := ts) hlen hok htk htl
  go_enter Tryz.func82, Tryz.ntmps82
  go_wp2_with fail
  refine (becauseOf_any l a cap s a2 cap2 ts a3 cap3 _ (hl.alloc _) (hs.alloc _) (ht.alloc _) hlen hsl (by omega) hok.ok).mono ?_
  rintro e w0 ⟨v, rfl, hown, hb0⟩
  obtain ⟨a4, cap4, rfl, hsa, _, _⟩ := hown.sa
  have hz0 := hb0.size
  simp at hz0
  have hR := hR0.below hb0
  have hb0' : Below w.heap.size w w0 := by (repeat' (first | exact Below.refl _ _ | assumption | refine Below.setCell ?_ ?_ _ | refine below_drewN ?_ _ | refine Below.drew ?_ | refine Below.alloc ?_ ?_ _ | (with_reducible refine Below.trans ?_ (Below.mono hb ?_)) | (with_reducible refine Below.trans ?_ (Below.mono hb0 ?_)) | (with_reducible refine Below.trans ?_ (Below.mono hb1 ?_)) | (with_reducible refine Below.trans ?_ (Below.mono hb2 ?_)) | (with_reducible refine Below.trans ?_ (Below.mono hb3 ?_)) | (with_reducible refine Below.trans ?_ (Below.mono hb4 ?_)) | (with_reducible refine Below.trans ?_ (Below.mono hb5 ?_)) | (with_reducible refine Below.trans ?_ (Below.mono hb6 ?_)) | (with_reducible refine Below.trans ?_ (Below.mono hb7 ?_)) | (with_reducible refine Below.trans ?_ (Below.mono hb8 ?_)) | (with_reducible refine Below.trans ?_ (Below.mono hb9 ?_)) | (with_reducible refine Below.trans ?_ (Below.mono hb10 ?_)) | (with_reducible refine Below.trans ?_ (Below.mono hb11 ?_)) | (with_reducible refine Below.trans ?_ (Below.mono hb12 ?_)) | (with_reducible refine Below.trans ?_ (Below.mono hb13 ?_)) | (with_reducible refine Below.trans ?_ (Below.mono hb14 ?_)) | (with_reducible refine Below.trans ?_ (Below.mono hb15 ?_)) | omega | (simp; done) | (simp; omega)))
  have hbl := becs_length l s ts
  have Hbl := Lib.hid hbl
  rw [hbl]
  clear hbl hown hR0
  go_wp2_with fail
  go_loopg [7, 8, 17] ts.length (fun gk s7 s8 i wr => ∃ k : Nat, i = .int .i64 k ∧ k ≤ ts.length ∧ Hid (gk = ts.length - k) ∧ s7 = .int .i64 (affOf (knowns l s (ts.take k))).1 ∧ s8 = .int .i64 (affOf (knowns l s (ts.take k))).2 ∧ Box wr w.heap.size 37 #[.int .i64 0, .int .i64 0] ∧ SA wr a4 (becs l s ts) ∧ Below w.heap.size w wr)
  case atStart => exact ⟨0, rfl, by omega, rfl, rfl, rfl, hR, hsa, hb0'⟩
  case round =>
    clear hR hsa hb0' hb0
    obtain ⟨k, rfl, hk, hgk, rfl, rfl, hR, hsa, hb⟩ := hrel
    have hz := hb.size
    by_cases hlt : k < ts.length
    · have hlb : k < (becs l s ts).length := by rw [Hbl.out]; exact hlt
      obtain ⟨b, off, ha, c0, c1, c2, c3⟩ := hsa.bec hlb
      have hbk : (becs l s ts)[k] = (ts[k], bestOf l s ts[k]) := by simp [becs]
      rw [hbk] at c0 c1 c2 c3
      have Hst := Lib.hid (aff_snoc l s hlt)
      obtain ⟨⟨q1, q2⟩, q3, q4⟩ := aff_bd (l := l) (s := s) (ts := ts.take k) hlen hok (fun x hx => htk x (List.mem_of_mem_take hx)) (by rw [List.length_take]; omega)
      obtain ⟨⟨q5, q6⟩, q7, q8⟩ := best_bd2 ts[k] hlen hok (htk ts[k] (List.getElem_mem hlt))
      rw [ha]
      unfold affStep at Hst
      clear hbk hlb
      generalize affOf (knowns l s (ts.take k)) = A at *
      generalize bestOf l s ts[k] = o at *
      generalize ts[k] = t at *
      obtain ⟨A1, A2⟩ := A
      obtain ⟨o1, o2, o3⟩ := o
      simp only at q1 q2 q3 q4 q5 q6 q7 q8 Hst c0 c1 c2 c3 ⊢
      have hm1 := mul_bd2 q1 q2 (by omega : 0 ≤ o3) q8
      have hm2 := mul_bd2 q5 q6 (by omega : 0 ≤ A2) q4
      have hm3 := mul_pos A2 o3 q3 q7
      have hm4 := (mul_bd2 (by omega : 0 ≤ A2) q4 (by omega : 0 ≤ o3) q8).2
      have HP := Lib.hid (fun w => part_any (A1 * o3 + o2 * A2) (A2 * o3) w (by omega) (by omega) (by omega))
      unfold low at HP
      generalize lowN (A1 * o3 + o2 * A2) (A2 * o3) = pn at *
      generalize lowD (A1 * o3 + o2 * A2) (A2 * o3) = pd at *
      have hw1 : IntKind.i64.wrap (A1 * o3) = A1 * o3 := IntWalk.i64_in _ (by omega)
      have hw2 : IntKind.i64.wrap (o2 * A2) = o2 * A2 := IntWalk.i64_in _ (by omega)
      have hw3 : IntKind.i64.wrap (A1 * o3 + o2 * A2) = A1 * o3 + o2 * A2 := IntWalk.i64_in _ (by omega)
      have hw4 : IntKind.i64.wrap (A2 * o3) = A2 * o3 := IntWalk.i64_in _ (by omega)
      clear hm1 hm2 hm3 hm4
      go_wp2_with fail
      go_quiet (fail)
      clear hw1 hw2 hw3 hw4
      go_wp2_with fail
      refine (HP.out _).mono ?_
      rintro e w1 ⟨rfl, hb1⟩
      have hz1 := hb1.size
      simp at hz1
      have hR1 := ((hR.alloc _).drewN _).below hb1
      have hsa1 := ((hsa.alloc _).drewN _).below hb1
      have hb1' : Below w.heap.size w w1 := by (repeat' (first | exact Below.refl _ _ | assumption | refine Below.setCell ?_ ?_ _ | refine below_drewN ?_ _ | refine Below.drew ?_ | refine Below.alloc ?_ ?_ _ | (with_reducible refine Below.trans ?_ (Below.mono hb ?_)) | (with_reducible refine Below.trans ?_ (Below.mono hb0 ?_)) | (with_reducible refine Below.trans ?_ (Below.mono hb1 ?_)) | (with_reducible refine Below.trans ?_ (Below.mono hb2 ?_)) | (with_reducible refine Below.trans ?_ (Below.mono hb3 ?_)) | (with_reducible refine Below.trans ?_ (Below.mono hb4 ?_)) | (with_reducible refine Below.trans ?_ (Below.mono hb5 ?_)) | (with_reducible refine Below.trans ?_ (Below.mono hb6 ?_)) | (with_reducible refine Below.trans ?_ (Below.mono hb7 ?_)) | (with_reducible refine Below.trans ?_ (Below.mono hb8 ?_)) | (with_reducible refine Below.trans ?_ (Below.mono hb9 ?_)) | (with_reducible refine Below.trans ?_ (Below.mono hb10 ?_)) | (with_reducible refine Below.trans ?_ (Below.mono hb11 ?_)) | (with_reducible refine Below.trans ?_ (Below.mono hb12 ?_)) | (with_reducible refine Below.trans ?_ (Below.mono hb13 ?_)) | (with_reducible refine Below.trans ?_ (Below.mono hb14 ?_)) | (with_reducible refine Below.trans ?_ (Below.mono hb15 ?_)) | omega | (simp; done) | (simp; omega)))
      clear hb1
      go_wp2_with fail
      go_quiet (fail)
      go_wp2_with fail
      rw [← ha]
      go_roundg (ts.length - (k + 1))
      case measure => have := hgk.out; omega
      case rel => exact ⟨k + 1, by go_num, by omega, rfl, by rw [Hst.out], by rw [Hst.out], (hR1.alloc _).drewN _, (hsa1.alloc _).drewN _, by (repeat' (first | exact Below.refl _ _ | assumption | refine Below.setCell ?_ ?_ _ | refine below_drewN ?_ _ | refine Below.drew ?_ | refine Below.alloc ?_ ?_ _ | (with_reducible refine Below.trans ?_ (Below.mono hb ?_)) | (with_reducible refine Below.trans ?_ (Below.mono hb0 ?_)) | (with_reducible refine Below.trans ?_ (Below.mono hb1 ?_)) | (with_reducible refine Below.trans ?_ (Below.mono hb2 ?_)) | (with_reducible refine Below.trans ?_ (Below.mono hb3 ?_)) | (with_reducible refine Below.trans ?_ (Below.mono hb4 ?_)) | (with_reducible refine Below.trans ?_ (Below.mono hb5 ?_)) | (with_reducible refine Below.trans ?_ (Below.mono hb6 ?_)) | (with_reducible refine Below.trans ?_ (Below.mono hb7 ?_)) | (with_reducible refine Below.trans ?_ (Below.mono hb8 ?_)) | (with_reducible refine Below.trans ?_ (Below.mono hb9 ?_)) | (with_reducible refine Below.trans ?_ (Below.mono hb10 ?_)) | (with_reducible refine Below.trans ?_ (Below.mono hb11 ?_)) | (with_reducible refine Below.trans ?_ (Below.mono hb12 ?_)) | (with_reducible refine Below.trans ?_ (Below.mono hb13 ?_)) | (with_reducible refine Below.trans ?_ (Below.mono hb14 ?_)) | (with_reducible refine Below.trans ?_ (Below.mono hb15 ?_)) | omega | (simp; done) | (simp; omega)))⟩
    · obtain rfl : k = ts.length := by omega
      rw [List.take_length]
      obtain ⟨⟨q1, q2⟩, q3, q4⟩ := hbdA
      have hV : affV l s ts = if ts.length = 0 then .agg #[.int .i64 0, .int .i64 1] else low (affOf (knowns l s ts)).1 ((affOf (knowns l s ts)).2 * ts.length) := rfl
      have HV := Lib.hid hV
      clear hV
      generalize affOf (knowns l s ts) = A at *
      obtain ⟨A1, A2⟩ := A
      simp only at q1 q2 q3 q4 HV ⊢
      by_cases h0 : ts.length = 0
      · have hm : A2 * (ts.length : Int) = 0 := by rw [h0]; simp
        have HL : Hid (∀ w, Calls Tryz.prog 96 #[.int .i64 A1, .int .i64 (A2 * (ts.length : Int))] w (Gives (.agg #[.int .i64 0, .int .i64 1]) w)) := fun w => by rw [hm]; exact part0_any A1 w
        have hv := HV.out
        rw [if_pos h0] at hv
        have Hv := Lib.hid hv
        have hm1 : 0 ≤ A2 * (ts.length : Int) := by omega
        have hm2 : A2 * (ts.length : Int) ≤ 10 := by omega
        clear hv hm h0 HV
        go_wp2_with fail
        refine (HL.out _).mono ?_
        rintro e w1 ⟨rfl, hb1⟩
        have hz1 := hb1.size
        have hR1 := hR.below hb1
        have hR1_f0 := hR1.frozen 0; have hR1_f1 := hR1.frozen 1
        have hR1_l := hR1.lt; have hR1_0 := hR1.cell 0; have hR1_1 := hR1.cell 1; simp at hR1_0 hR1_1
        go_wp2_with fail
        refine bodyPost_ret (v := .agg #[.int .i64 0, .int .i64 1]) (by simp only [results, Tryz.results82]; go_simp) rfl ⟨by rw [Hv.out], ?_⟩
        (repeat' (first | exact Below.refl _ _ | assumption | refine Below.setCell ?_ ?_ _ | refine below_drewN ?_ _ | refine Below.drew ?_ | refine Below.alloc ?_ ?_ _ | (with_reducible refine Below.trans ?_ (Below.mono hb ?_)) | (with_reducible refine Below.trans ?_ (Below.mono hb0 ?_)) | (with_reducible refine Below.trans ?_ (Below.mono hb1 ?_)) | (with_reducible refine Below.trans ?_ (Below.mono hb2 ?_)) | (with_reducible refine Below.trans ?_ (Below.mono hb3 ?_)) | (with_reducible refine Below.trans ?_ (Below.mono hb4 ?_)) | (with_reducible refine Below.trans ?_ (Below.mono hb5 ?_)) | (with_reducible refine Below.trans ?_ (Below.mono hb6 ?_)) | (with_reducible refine Below.trans ?_ (Below.mono hb7 ?_)) | (with_reducible refine Below.trans ?_ (Below.mono hb8 ?_)) | (with_reducible refine Below.trans ?_ (Below.mono hb9 ?_)) | (with_reducible refine Below.trans ?_ (Below.mono hb10 ?_)) | (with_reducible refine Below.trans ?_ (Below.mono hb11 ?_)) | (with_reducible refine Below.trans ?_ (Below.mono hb12 ?_)) | (with_reducible refine Below.trans ?_ (Below.mono hb13 ?_)) | (with_reducible refine Below.trans ?_ (Below.mono hb14 ?_)) | (with_reducible refine Below.trans ?_ (Below.mono hb15 ?_)) | omega | (simp; done) | (simp; omega)))
      · have hm := mul_bd2 (by omega : 0 ≤ A2) q4 (by omega : (0 : Int) ≤ ts.length) (by omega : (ts.length : Int) ≤ 8)
        have hm2 := mul_pos A2 ts.length q3 (by omega)
        have HL := Lib.hid (fun w => part_any A1 (A2 * ts.length) w (by omega) (by omega) hm2)
        have hv := HV.out
        rw [if_neg h0] at hv
        have Hv := Lib.hid hv
        clear hv h0 HV
        go_wp2_with fail
        refine (HL.out _).mono ?_
        rintro e w1 ⟨rfl, hb1⟩
        have hz1 := hb1.size
        have hR1 := hR.below hb1
        have hR1_f0 := hR1.frozen 0; have hR1_f1 := hR1.frozen 1
        have hR1_l := hR1.lt; have hR1_0 := hR1.cell 0; have hR1_1 := hR1.cell 1; simp at hR1_0 hR1_1
        unfold low
        go_wp2_with fail
        refine bodyPost_ret (v := .agg #[.int .i64 (lowN A1 (A2 * ts.length)), .int .i64 (lowD A1 (A2 * ts.length))]) (by simp only [results, Tryz.results82]; go_simp) rfl ⟨by rw [Hv.out]; rfl, ?_⟩
        (repeat' (first | exact Below.refl _ _ | assumption | refine Below.setCell ?_ ?_ _ | refine below_drewN ?_ _ | refine Below.drew ?_ | refine Below.alloc ?_ ?_ _ | (with_reducible refine Below.trans ?_ (Below.mono hb ?_)) | (with_reducible refine Below.trans ?_ (Below.mono hb0 ?_)) | (with_reducible refine Below.trans ?_ (Below.mono hb1 ?_)) | (with_reducible refine Below.trans ?_ (Below.mono hb2 ?_)) | (with_reducible refine Below.trans ?_ (Below.mono hb3 ?_)) | (with_reducible refine Below.trans ?_ (Below.mono hb4 ?_)) | (with_reducible refine Below.trans ?_ (Below.mono hb5 ?_)) | (with_reducible refine Below.trans ?_ (Below.mono hb6 ?_)) | (with_reducible refine Below.trans ?_ (Below.mono hb7 ?_)) | (with_reducible refine Below.trans ?_ (Below.mono hb8 ?_)) | (with_reducible refine Below.trans ?_ (Below.mono hb9 ?_)) | (with_reducible refine Below.trans ?_ (Below.mono hb10 ?_)) | (with_reducible refine Below.trans ?_ (Below.mono hb11 ?_)) | (with_reducible refine Below.trans ?_ (Below.mono hb12 ?_)) | (with_reducible refine Below.trans ?_ (Below.mono hb13 ?_)) | (with_reducible refine Below.trans ?_ (Below.mono hb14 ?_)) | (with_reducible refine Below.trans ?_ (Below.mono hb15 ?_)) | omega | (simp; done) | (simp; omega)))


/-- Right arguments. -/
theorem topic_ab {l : List Topic} (h0 : forestFault l = 0) {x : ByteArray} (hx : (ForestPure.topicOf l x).isSome = true) : 1 ≤ (ab l x).length ∧ (ab l x).length ≤ 5 := by
  obtain ⟨t, ht⟩ := Option.isSome_iff_exists.1 hx
  constructor
  · unfold ab; rw [ForestPure.aboveN, ht]; simp
  · obtain ⟨hm, rfl⟩ := ForestPure.topicOf_some ht
    obtain ⟨j, hj, he⟩ := List.mem_iff_getElem.1 hm
    have h4 := (fault_zero h0).2.2 j hj
    unfold f4 at h4
    rw [List.getElem?_eq_getElem hj, he] at h4
    simp only at h4
    unfold ab
    by_cases h : (ForestPure.aboveN l (l.length + 1) t.1).length > 5
    · rw [if_pos h] at h4; cases h4
    · omega
theorem skills_fit {l : List Topic} {s : List Skill} (h0 : forestFault l = 0) (h : skillsFault l s = 0) : SkillFit l s := by
  unfold skillsFault at h
  by_cases h100 : 100 < s.length
  · rw [if_pos h100] at h; cases h
  · rw [if_neg h100] at h
    intro x hx
    obtain ⟨j, hj, rfl⟩ := List.mem_iff_getElem.1 hx
    have he := firstErr_all h j hj
    unfold skillE at he
    rw [List.getElem?_eq_getElem hj] at he
    simp only at he
    cases hh : (ForestPure.topicOf l s[j].1).isSome
    · rw [hh] at he; simp at he
    · rw [hh] at he
      simp only [Bool.true_eq_false, if_false] at he
      have h1 := topic_ab h0 hh
      by_cases hr : s[j].2 < 1 ∨ 100 < s[j].2
      · have hr' : (decide (s[j].2 < 1) || decide (100 < s[j].2)) = true := by simpa using hr
        rw [hr'] at he
        split at he <;> simp at he
      · exact ⟨h1.1, h1.2, by omega, by omega⟩
theorem wanted_fit {l : List Topic} {ts : List ByteArray} (h0 : forestFault l = 0) (h : wantedFault l ts = 0) : ts.length ≤ 8 ∧ ∀ t ∈ ts, (ab l t).length ≤ 5 := by
  unfold wantedFault at h
  by_cases h100 : 8 < ts.length
  · rw [if_pos h100] at h; cases h
  · rw [if_neg h100] at h
    refine ⟨by omega, fun t ht => ?_⟩
    obtain ⟨j, hj, rfl⟩ := List.mem_iff_getElem.1 ht
    have he := firstErr_all h j hj
    unfold wantedE at he
    rw [List.getElem?_eq_getElem hj] at he
    simp only at he
    cases hh : (ForestPure.topicOf l ts[j]).isSome
    · rw [hh] at he; simp at he
    · exact (topic_ab h0 hh).2
theorem wantingE_right {l : List Topic} {s : List Skill} {ts : List ByteArray} (h : wantingE l s ts = 0) : forestFault l = 0 ∧ skillsFault l s = 0 ∧ wantedFault l ts = 0 := by
  unfold wantingE at h
  by_cases hf : skilledE l s = 0
  · rw [if_neg (by simp [hf])] at h; exact ⟨(skilledE_right hf).1, (skilledE_right hf).2, h⟩
  · rw [if_pos hf] at h; exact absurd h hf



end Go.Proofs.YtpgofjjcmldhpaaGreatDoor
