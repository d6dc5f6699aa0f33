/- Skills that are learnt: Learn of the program, LearnOf of the reference. -/
import Derived.Test.YtgihommenknhoaaGreatDoorLearnP
import Derived.Test.YtgihommenknhoaaGreatDoorPaper1
import Derived.Test.YtgihommenknhoaaGreatDoorTopic5
import Derived.Test.YtgihommenknhoaaGreatDoorSort
import Derived.Test.YtgihommenknhoaaGreatDoorReg
import Derived.Deep.RegionWith
namespace Go.Proofs.YtgihommenknhoaaGreatDoor
open Go.RowKit Go.Sort
set_option linter.unusedVariables false
set_option linter.unusedSimpArgs false

theorem Tryz.infoSkillL : (Tryz.prog.info? 82).map (fun i => (i.zero, i.size, i.bytes)) = some (some (.agg #[.string ⟨#[]⟩, .int .i64 0]), 2, 24) := by kernel_rfl

set_option maxHeartbeats 1000000 in
theorem keysI_any (b : Nat) (es : List (ByteArray × Value)) (w : World) (h : MBox w b es) (hnd : (es.map (·.1)).Nodup) (hel : es.length ≤ 1000000) (hes : ∀ x ∈ es, x.1.size ≤ 1000000) :
    Calls Tryz.prog 113 #[.map (some b)] w (GivesOwn 9 (keysS (es.map (·.1))) w) := by
  obtain ⟨D, hown, hsize, hperm⟩ := h.owns hnd hes (by omega)
  have hfin : ∀ ss : List (List UInt8), ss.Perm (strKeys D) → (ss.mergeSort fun x y => decide (x ≤ y)).map ofL = keysS (es.map (·.1)) := fun ss hss => by
    have hp := hss.trans hperm
    have hn2 : ss.Nodup := by
      refine hp.nodup_iff.2 ?_
      refine List.pairwise_map.2 (hnd.imp fun {a b} hne e => hne ?_)
      rw [← ofL_toL a, e, ofL_toL]
    refine keysS_is (rise_sorted ss hn2) (fun p => ?_)
    rw [List.mem_map]
    constructor
    · rintro ⟨x, hx, rfl⟩
      rw [List.mem_mergeSort, hp.mem_iff, List.mem_map] at hx
      obtain ⟨q, hq, rfl⟩ := hx
      rw [ofL_toL]
      exact hq
    · intro hpl
      refine ⟨toL p, ?_, ofL_toL p⟩
      rw [List.mem_mergeSort, hp.mem_iff]
      exact List.mem_map_of_mem hpl
  have Hfin := Lib.hid hfin
  have Hlen := Lib.hid hsize
  clear hfin hperm hes h hsize
  refine (callsIn_wide (n := 6)).1 ?_
  have hfK : Fence.wide.fn 155 := trivial
  have hfS : Fence.wide.fn 154 := trivial
  refine callsIn_of_wp Tryz.func113 rfl trivial ?_ rfl
  simp only [Tryz.ntmps113, List.size_toArray, List.length_cons, List.length_nil, Nat.reduceAdd, Nat.reduceSub, Array.replicate_succ, Array.replicate_zero, List.push_toArray, List.append_toArray, List.nil_append, List.cons_append]
  gi_wp2_with (first
    | (gi_at_call 155; refine (Tryz.maps_Keys_155 _ _).mono ?_; rintro e w' ⟨rfl, rfl⟩)
    | (gi_at_call 154; refine (Tryz.slices_Sorted_keys_154_155 b es.length D _ w hown (by rw [Hlen.out]; unfold maxLen; omega) (by rw [Hlen.out]; omega)).mono ?_; rintro e w' ⟨v, ss, rfl, hS, hrow, hnil, hb⟩))
  go_ret
  refine ⟨v, rfl, ?_, ((Below.refl _ w).alloc (Nat.le_refl _) _).trans (hb.mono (by simp))⟩
  rw [← Hfin.out ss hS]
  unfold Own
  rw [← enc_ofL, List.length_map, List.length_mergeSort]
  exact ownsRow_base_a hrow (by simp)

/-- What learning gives. -/
def learnOut (er : Int) (st : Lrn) (ks : List ByteArray) : List Skill := if er = 0 then learnL st ks else []
def GivesSk (er : Int) (out : List Skill) (w : World) (e : Ending) (w' : World) : Prop :=
  Below w.heap.size w w' ∧ ∃ a cap, e = .returned (.tuple #[.slice a out.length cap, .int .i64 er]) ∧ SA w' a out

theorem learn_pos {st : Lrn} {n : Nat} (h : LrnOk st n) {k : ByteArray} (hk : k ∈ st.1.map (·.1)) : 1 ≤ st.2 := by
  have h1 := (h.pos k).2 hk
  have h2 := h.cnt k
  omega
theorem tdiv_bd {c m : Int} (h1 : 0 ≤ c) (h2 : c ≤ 100000000) (h3 : 1 ≤ m) : 0 ≤ c.tdiv m ∧ c.tdiv m ≤ 100000000 := by
  rw [Int.tdiv_eq_ediv_of_nonneg h1]
  have := Int.ediv_nonneg h1 (by omega : 0 ≤ m)
  have := Int.ediv_le_self m h1
  omega


/-- The bounds of what is learnt of. -/
theorem topics_bd {ps : List Paper} (hpl : ps.length ≤ 1000) (hsm : ∀ p ∈ ps, PSmall p) (who : ByteArray) (k : Nat) : (topicsOf (ps.take k) who).length ≤ 1000000 ∧ ∀ t ∈ topicsOf (ps.take k) who, t ∈ topicsOf ps who := by
  constructor
  · have h1 := topicsOf_len (ps := ps.take k) (n := 1000) (fun p hp => (hsm p (List.mem_of_mem_take hp)).2.2.2.2.1) who
    have h2 : (ps.take k).length ≤ 1000 := by rw [List.length_take]; omega
    have h3 := Nat.mul_le_mul_right 1000 h2
    omega
  · intro t ht
    unfold topicsOf at *
    rw [List.mem_flatMap] at *
    obtain ⟨p, hp, h⟩ := ht
    exact ⟨p, List.mem_of_mem_take hp, h⟩
theorem learnE_fault {l : List Topic} {ps : List Paper} {who : ByteArray} (h : papersFault ps ≠ 0) : learnE l ps who = papersFault ps := by unfold learnE; rw [if_pos h]
theorem learnE_key {l : List Topic} {ps : List Paper} {who : ByteArray} (h : papersFault ps = 0) (g : keyB who = false) : learnE l ps who = 5 := by unfold learnE; rw [if_neg (by simpa using h), if_pos g]
theorem learnE_none {l : List Topic} {ps : List Paper} {who : ByteArray} (h : papersFault ps = 0) (g : keyB who = true) {t : ByteArray} (ht : t ∈ topicsOf ps who) (hn : (ForestPure.topicOf l t).isSome = false) : learnE l ps who = 8 := by
  unfold learnE
  rw [if_neg (by simpa using h), if_neg (by rw [g]; decide), if_pos]
  rw [List.all_eq_false]
  exact ⟨t, ht, by rw [hn]; decide⟩
theorem learnE_ok {l : List Topic} {ps : List Paper} {who : ByteArray} (h : papersFault ps = 0) (g : keyB who = true) (k : ∀ t ∈ topicsOf ps who, (ForestPure.topicOf l t).isSome = true) : learnE l ps who = 0 := by
  unfold learnE
  rw [if_neg (by simpa using h), if_neg (by rw [g]; decide), if_neg]
  rw [List.all_eq_true.2 k]
  decide

set_option maxRecDepth 100000 in
set_option maxHeartbeats 8000000 in
theorem learnOf_any (l : List Topic) (a : Option Addr) (cap : Nat) (ps : List Paper) (pa : Option Addr) (pcap : Nat) (who : ByteArray) (w : World) (hE0 : Env w) (hl : SA w a l) (hP : PapersAt w pa ps) (hlen : l.length ≤ 1000000) (hpl : ps.length ≤ 1000) (hsm : ∀ p ∈ ps, PSmall p) (hwho : who.size ≤ 1000000) :
    Calls Tryz.prog 48 #[.slice a l.length cap, .slice pa ps.length pcap, .string who] w (GivesSk (learnE l ps who) (learnOut (learnE l ps who) (lrnL (topicsOf ps who)) (hitK (lrnL (topicsOf ps who)) l)) w) := by
  have HPF := Lib.hid (papersFault_any ps pa pcap w hE0 hP (by omega) hsm)
  have HE1 : Hid (papersFault ps ≠ 0 → learnE l ps who = papersFault ps) := learnE_fault
  have HE2 : Hid (papersFault ps = 0 → keyB who = false → learnE l ps who = 5) := learnE_key
  have HE80 : Hid (papersFault ps = 0 → keyB who = true → ∀ t, t ∈ topicsOf ps who → (ForestPure.topicOf l t).isSome = false → learnE l ps who = 8) := fun h g t ht hn => learnE_none h g ht hn
  have HE00 : Hid (papersFault ps = 0 → keyB who = true → (∀ t ∈ topicsOf ps who, (ForestPure.topicOf l t).isSome = true) → learnE l ps who = 0) := learnE_ok
  have HTs : Hid (∀ k, k ≤ ps.length → (topicsOf (ps.take k) who).length ≤ 1000000 ∧ ∀ t ∈ topicsOf (ps.take k) who, t ∈ topicsOf ps who) := fun k _ => topics_bd hpl hsm who k
  have HOut : Hid (learnE l ps who ≠ 0 → learnOut (learnE l ps who) (lrnL (topicsOf ps who)) (hitK (lrnL (topicsOf ps who)) l) = []) := fun h => by unfold learnOut; rw [if_neg h]
  have HOut0 : Hid (learnE l ps who = 0 → learnOut (learnE l ps who) (lrnL (topicsOf ps who)) (hitK (lrnL (topicsOf ps who)) l) = learnL (lrnL (topicsOf ps who)) (hitK (lrnL (topicsOf ps who)) l)) := fun h => by unfold learnOut; rw [if_pos h]
  have hmm := @run_makeMap Tryz.prog
  generalize learnOut (learnE l ps who) (lrnL (topicsOf ps who)) (hitK (lrnL (topicsOf ps who)) l) = outR at *
  generalize papersFault ps = pf at *
  generalize learnE l ps who = er at *
  go_enter Tryz.func48, Tryz.ntmps48
  go_wp2_with fail
  refine HPF.out.mono ?_
  rintro e w0 ⟨rfl, hb0⟩
  by_cases h0 : pf = 0
  · subst h0
    replace HE2 := Lib.hid (HE2.out rfl)
    replace HE80 := Lib.hid (HE80.out rfl)
    replace HE00 := Lib.hid (HE00.out rfl)
    go_wp2_with fail
    refine (keyOf_any who _ (by omega)).mono ?_
    rintro e W1 ⟨rfl, hb1⟩
    have hbW1 := below_next hb0 hb1
    cases hk : keyB who
    · have HE := Lib.hid (HE2.out hk)
      have HO := Lib.hid (HOut.out (by rw [HE.out]; decide))
      go_wp2_with fail
      exact bodyPost_ret (v := .tuple #[.slice none 0 0, .int .i64 5]) (by simp only [results, Tryz.results48]; go_simp) rfl ⟨hbW1, none, 0, by rw [HO.out, HE.out]; rfl, .inl HO.out⟩
    · have HE8 := Lib.hid (HE80.out hk)
      have HE0 := Lib.hid (HE00.out hk)
      have hl1 := hl.below hbW1
      have hP1 := hP.below hbW1
      have hM0 := MBox.new W1
      have hbM : Below W1.heap.size W1 (W1.alloc (.map #[] 0)) := (Below.refl _ _).alloc (Nat.le_refl _) _
      have HH := Lib.hid (fun x => hasT_gives l a cap x hlen)
      clear hE0 hl hP hb0 hb1 hk HPF HE1 HE2 HE80 HE00
      go_wp2_with fail
      go_loopg [10, 30] ps.length (fun gk v i wr => ∃ k : Nat, i = .int .i64 k ∧ k ≤ ps.length ∧ Hid (gk = ps.length - k) ∧ v = .int .i64 (lrnL (topicsOf (ps.take k) who)).2 ∧ MBox wr W1.heap.size (lrnL (topicsOf (ps.take k) who)).1 ∧ Hid (∀ t ∈ topicsOf (ps.take k) who, (ForestPure.topicOf l t).isSome = true) ∧ Below W1.heap.size W1 wr)
      case atStart => exact ⟨0, rfl, by omega, rfl, rfl, hM0, (fun t ht => by cases ht), hbM⟩
      clear hM0 hbM
      obtain ⟨k, rfl, hk, hgk, rfl, hM, Hhas, hb⟩ := hrel
      have hzr := hb.size
      by_cases hlt : k < ps.length
      · obtain ⟨pb, poff, ha, c0, c1, c2, c3, c4⟩ := (hP1.below hb).1.paper hlt
        have hrd := hP1.2 ps[k] (List.getElem_mem hlt)
        have Hts := Lib.hid (topicsOf_snoc hlt who)
        have hx := hsm ps[k] (List.getElem_mem hlt)
        have HT := Lib.hid (HTs.out (k + 1))
        have Ha := Lib.hid ha
        rw [ha]
        clear ha
        generalize ps[k] = p at *
        obtain ⟨x1, x2, x3, au, tt, a1, n1, a2, n2⟩ := p
        obtain ⟨hr1, hr2, hr3⟩ := hrd
        obtain ⟨_, _, _, hx4, hx5, _, hx7⟩ := hx
        simp only at c0 c1 c2 c3 c4 hr1 hr2 hr3 hx4 hx5 hx7
        unfold hisT at Hts
        simp only at Hts
        generalize topicsOf (ps.take k) who = T0 at *
        obtain ⟨T1, hT1⟩ : ∃ T1, topicsOf (ps.take (k + 1)) who = T1 := ⟨_, rfl⟩
        rw [hT1] at Hts HT
        have HT1 := Lib.hid hT1
        clear hT1
        have hsA := (hr1.below hb).alloc (.cells #[.string x1, .string x2, .string x3, .slice a1 au.length n1, .slice a2 tt.length n2] 119)
        have hB := Box.new wr 119 #[.string x1, .string x2, .string x3, .slice a1 au.length n1, .slice a2 tt.length n2]
        have hMa := hM.alloc (.cells #[.string x1, .string x2, .string x3, .slice a1 au.length n1, .slice a2 tt.length n2] 119)
        have hba := hb.alloc hzr (.cells #[.string x1, .string x2, .string x3, .slice a1 au.length n1, .slice a2 tt.length n2] 119)
        clear hM
        go_wp2_with fail
        refine (contains_any au a1 n1 who _ hsA (by omega)).mono ?_
        rintro e wa ⟨rfl, rfl⟩
        cases hc : au.any (fun y => decide (y = who))
        · rw [hc] at Hts
          have hTe : T1 = T0 := by rw [Hts.out]; simp
          have HTe := Lib.hid hTe
          clear hTe hc
          go_wp2_with fail
          rw [← Ha.out]
          go_roundg (ps.length - (k + 1))
          case measure => have := hgk.out; omega
          case rel => exact ⟨k + 1, by go_num, by omega, rfl, by rw [HT1.out, HTe.out], by rw [HT1.out, HTe.out]; exact hMa, by rw [HT1.out, HTe.out]; exact Hhas, hba⟩
        · rw [hc] at Hts
          have Hts2 : Hid (T1 = T0 ++ tt) := by show _ = _; rw [Hts.out]; simp
          have hB_l := hB.lt; have hB_0 := hB.cell 0; have hB_1 := hB.cell 1; have hB_2 := hB.cell 2; have hB_3 := hB.cell 3; have hB_4 := hB.cell 4; simp at hB_0 hB_1 hB_2 hB_3 hB_4
          clear hc Hts hsA
          go_wp2_with fail
          clear hB hB_l hB_0 hB_1 hB_2 hB_3 hB_4
          go_loopg [10, 42] tt.length (fun gk v i wx => ∃ j : Nat, i = .int .i64 j ∧ j ≤ tt.length ∧ Hid (gk = tt.length - j) ∧ v = .int .i64 (lrnL (T0 ++ tt.take j)).2 ∧ MBox wx W1.heap.size (lrnL (T0 ++ tt.take j)).1 ∧ Hid (∀ t ∈ T0 ++ tt.take j, (ForestPure.topicOf l t).isSome = true) ∧ Below W1.heap.size W1 wx)
          case atStart => exact ⟨0, rfl, by omega, rfl, by simp, by simpa using hMa, by simpa using Hhas, hba⟩
          clear hMa hba Hhas
          obtain ⟨j, rfl, hj, hgj, rfl, hM, Hhas, hbx⟩ := hrel
          by_cases hjl : j < tt.length
          · obtain ⟨tb, toff, hta, d0⟩ := (hr2.below hbx).str hjl
            have htake := List.take_succ_eq_append_getElem hjl
            have hA : (T0 ++ tt.take j).length + 1 ≤ 1000000 := by
              have h1 := (HT.out (by omega)).1
              rw [Hts2.out, List.length_append] at h1
              rw [List.length_append, List.length_take]
              omega
            have hmem : tt[j] ∈ T1 := by rw [Hts2.out]; exact List.mem_append.2 (.inr (List.getElem_mem hjl))
            have Hin := Lib.hid ((HT.out (by omega)).2 _ hmem)
            have Hstep : Hid (lrnL (T0 ++ tt.take (j + 1)) = lrnS (lrnL (T0 ++ tt.take j)) tt[j]) := by show _ = _; rw [htake, ← List.append_assoc]; exact lrn_snoc _ _
            have Hall : Hid ((ForestPure.topicOf l tt[j]).isSome = true → ∀ t ∈ T0 ++ tt.take (j + 1), (ForestPure.topicOf l t).isSome = true) := fun h t ht => by
              rw [htake, ← List.append_assoc, List.mem_append] at ht
              rcases ht with ht | ht
              · exact Hhas.out t ht
              · rw [List.mem_singleton] at ht; rw [ht]; exact h
            have Hta := Lib.hid hta
            rw [hta]
            clear hta htake hmem
            have hok := lrn_ok (T0 ++ tt.take j)
            have hsz := hx7 tt[j] (List.getElem_mem hjl)
            generalize tt[j] = t at *
            generalize lrnL (T0 ++ tt.take j) = st at *
            generalize (T0 ++ tt.take j).length = nA at *
            obtain ⟨es, mx⟩ := st
            unfold lrnS at Hstep
            simp only at Hstep hM
            have hcn := hok.cnt t
            have hlo := hok.lo
            have hhi := hok.hi
            have Hlk := Lib.hid (hok.look t)
            simp only at hcn hlo hhi Hlk
            generalize cntV es t = c at *
            clear hok
            go_wp2_with fail
            refine (HH.out t _ (hl1.below hbx)).mono ?_
            rintro e w3 ⟨rfl, hb3⟩
            have hb13 := below_next hbx hb3
            have hM3 := hM.below hb3
            have hzM := hM3.lt
            have hz3 := hb13.size
            cases hh : (ForestPure.topicOf l t).isSome
            · have hE := HE8.out t Hin.out hh
              have HE := Lib.hid hE
              have HO := Lib.hid (HOut.out (by rw [HE.out]; decide))
              clear hE
              go_wp2_with fail
              exact bodyPost_ret (v := .tuple #[.slice none 0 0, .int .i64 8]) (by simp only [results, Tryz.results48]; go_simp) rfl ⟨below_next hbW1 hb13, none, 0, by rw [HO.out, HE.out]; rfl, .inl HO.out⟩
            · have Hall2 := Lib.hid (Hall.out hh)
              have hlk : (Instr.lookup 102 (.map (some W1.heap.size)) (.string t) false).run Tryz.prog w3 = .ok (.int .i64 c) w3 := by rw [hM3.look Tryz.underlying102 Tryz.underlying9 (.int .i64 0) (fun w => Tryz.zeroValue3 w) t false, Hlk.out]
              clear hh Hall Hin
              go_wp2_with (at_mapUpdate; refine wpList_mapUpdate_box rfl _ _ _ 102 rfl 9 3 Tryz.underlying102 Tryz.underlying9 W1.heap.size es rfl hM3 t rfl (.int .i64 (c + 1)) rfl ?_; intro W5 hM5 hg5 hs5; have hlk5 : (Instr.lookup 102 (.map (some W1.heap.size)) (.string t) false).run Tryz.prog W5 = .ok (.int .i64 (c + 1)) W5 := (by rw [hM5.look Tryz.underlying102 Tryz.underlying9 (.int .i64 0) (fun w => Tryz.zeroValue3 w) t false]; unfold looked; rw [mget_mput, if_pos rfl]; rfl))
              have hb5 : Below W1.heap.size W1 W5 := hb13.grown hg5 (by omega) (by rintro j hj; cases hj; omega)
              rw [← Hta.out]
              go_roundg (tt.length - (j + 1))
              case measure => have := hgj.out; omega
              case rel => exact ⟨j + 1, by go_num, by omega, rfl, by rw [Hstep.out], by rw [Hstep.out]; exact hM5, Hall2, hb5⟩
          · obtain rfl : j = tt.length := by omega
            rw [List.take_length, ← Hts2.out] at hM Hhas ⊢
            clear hjl
            go_wp2_with fail
            rw [← Ha.out]
            go_roundg (ps.length - (k + 1))
            case measure => have := hgk.out; omega
            case rel => exact ⟨k + 1, by go_num, by omega, rfl, by rw [HT1.out], by rw [HT1.out]; exact hM, by rw [HT1.out]; exact Hhas, hbx⟩
      · obtain rfl : k = ps.length := by omega
        rw [List.take_length] at hM Hhas ⊢
        obtain ⟨wz, rfl⟩ : ∃ wz : World, wz = wr := ⟨_, rfl⟩
        have hE := HE0.out Hhas.out
        have HT := HTs.out ps.length (Nat.le_refl _)
        rw [List.take_length] at HT
        have hTl := HT.1
        have hok := lrn_ok (topicsOf ps who)
        have hbwr := below_next hbW1 hb
        have hlr := hl1.below hb
        subst hE
        have HO := Lib.hid (HOut0.out rfl)
        clear hlt HE0 HE8 HTs HT Hhas hP1 hl1 hbW1 HOut HOut0
        generalize (topicsOf ps who).length = nT at *
        generalize lrnL (topicsOf ps who) = st at *
        obtain ⟨es, mx⟩ := st
        have Hok := Lib.hid hok
        have hhi := hok.hi
        simp only at hM hhi HO
        clear hok
        go_wp2_with fail
        go_loopg [15, 63] l.length (fun gk v i wr => ∃ k : Nat, i = .int .i64 k ∧ k ≤ l.length ∧ Hid (gk = l.length - k) ∧ Own wz.heap.size 82 wr v (learnL (es, mx) (hitK (es, mx) (l.take k))) ∧ Below wz.heap.size wz wr)
        case atStart => exact ⟨0, rfl, by omega, rfl, Own.nil _ _ _, Below.refl _ _⟩
        obtain ⟨k, rfl, hk, hgk, hown, hbx⟩ := hrel
        by_cases hlt : k < l.length
        · obtain ⟨lb, loff, hla, e0, e1⟩ := (hlr.below hbx).topic hlt
          have Hsn := Lib.hid (hitK_snoc (es, mx) hlt)
          have hll := hitK_len (es, mx) (l.take k)
          rw [List.length_take] at hll
          have Hla := Lib.hid hla
          rw [hla]
          clear hla
          generalize l[k] = x at *
          obtain ⟨x1, x2⟩ := x
          simp only at e0 e1 Hsn
          have hcn := Hok.out.cnt x1
          have Hlk := Lib.hid (Hok.out.look x1)
          have Hwg : Hid (learnL (es, mx) (hitK (es, mx) (l.take k) ++ [x1]) = learnL (es, mx) (hitK (es, mx) (l.take k)) ++ [(x1, wgt (es, mx) x1)]) := learnL_snoc _ _ _
          have hal : (learnL (es, mx) (hitK (es, mx) (l.take k))).length ≤ 1000000 := by unfold learnL; rw [List.length_map]; omega
          have Hw1 : Hid (wgt (es, mx) x1 = max ((100 * cntV es x1).tdiv mx) 1) := by show _ = _; unfold wgt; exact Int.max_comm _ _
          simp only at hcn Hlk
          generalize wgt (es, mx) x1 = wg at *
          generalize hitK (es, mx) (l.take k) = h1 at *
          obtain ⟨acc, hacc⟩ : ∃ acc, learnL (es, mx) h1 = acc := ⟨_, rfl⟩
          rw [hacc] at hown Hwg hal
          have HAc := Lib.hid hacc
          clear hacc
          generalize cntV es x1 = c at *
          have hB := Box.new wr 114 #[.string x1, .string x2]
          have hMx := (hM.below hbx).alloc (.cells #[.string x1, .string x2] 114)
          have hownx := hown.alloc (.cells #[.string x1, .string x2] 114)
          have hbxa := hbx.alloc hbx.size (.cells #[.string x1, .string x2] 114)
          clear hown
          go_upto_region 25 with (fail)
          generalize wr.alloc (.cells #[.string x1, .string x2] 114) = wa at *
          generalize wr.heap.size = tb at *
          have hza := hbxa.size
          have hlk : (Instr.lookup 102 (.map (some W1.heap.size)) (.string x1) false).run Tryz.prog wa = .ok (.int .i64 c) wa := by rw [hMx.look Tryz.underlying102 Tryz.underlying9 (.int .i64 0) (fun w => Tryz.zeroValue3 w) x1 false, Hlk.out]
          have hB_l := hB.lt; have hB_0 := hB.cell 0; have hB_1 := hB.cell 1; simp at hB_0 hB_1
          clear e0 e1
          by_cases hpos : 0 < c
          · rw [if_pos hpos] at Hsn
            obtain ⟨dq, hdq⟩ : ∃ dq, (100 * c).tdiv mx = dq := ⟨_, rfl⟩
            have hdb := tdiv_bd (c := 100 * c) (m := mx) (by omega) (by omega) (by omega)
            rw [hdq] at hdb Hw1
            have hw1 : IntKind.i64.wrap (100 * c) = 100 * c := IntWalk.i64_in _ (by omega)
            have hw2 : IntKind.i64.wrap dq = dq := IntWalk.i64_in _ (by omega)
            have hmz : (mx == 0) = false := by simp; omega
            have hmz0 : ¬ mx = 0 := by omega
            obtain ⟨mq, hmq⟩ : ∃ mq, max dq 1 = mq := ⟨_, rfl⟩
            rw [hmq] at Hw1
            have HO := Lib.hid ((hownx.alloc (.cells #[.string x1, .int .i64 mq] 82)).drew)
            have HBn := Lib.hid ((Box.new wa 82 #[.string x1, .int .i64 mq]).drew)
            have Hlt := Lib.hid hownx.lt
            clear hownx
            go_wp2_with fail
            go_region_law (first | (refine step_append_one (by rfl) _ _ 75 (by rfl) 82 24 (.agg #[.string ⟨#[]⟩, .int .i64 0]) Tryz.underlying75 Tryz.infoSkillL (by rfl) _ acc (by rfl) HO.out (x1, mq) wa.heap.size (by rfl) HBn.out (by omega) (by omega) (by simp; omega) ?_; intro g9 cap9 w9 hown9 hg9))
            all_goals
              have hb9 : Below wz.heap.size wz w9 := Below.grown (w := (wa.alloc (.cells #[.string x1, .int .i64 mq] 82)).drew) (by (repeat' (first | exact Below.refl _ _ | assumption | refine Below.setCell ?_ ?_ _ | refine below_drewN ?_ _ | refine Below.drew ?_ | refine Below.alloc ?_ ?_ _ | (with_reducible refine Below.trans ?_ (Below.mono hb ?_)) | (with_reducible refine Below.trans ?_ (Below.mono hb0 ?_)) | (with_reducible refine Below.trans ?_ (Below.mono hb1 ?_)) | (with_reducible refine Below.trans ?_ (Below.mono hb2 ?_)) | (with_reducible refine Below.trans ?_ (Below.mono hb3 ?_)) | (with_reducible refine Below.trans ?_ (Below.mono hb4 ?_)) | (with_reducible refine Below.trans ?_ (Below.mono hb5 ?_)) | (with_reducible refine Below.trans ?_ (Below.mono hb6 ?_)) | (with_reducible refine Below.trans ?_ (Below.mono hb7 ?_)) | (with_reducible refine Below.trans ?_ (Below.mono hb8 ?_)) | (with_reducible refine Below.trans ?_ (Below.mono hb9 ?_)) | (with_reducible refine Below.trans ?_ (Below.mono hb10 ?_)) | (with_reducible refine Below.trans ?_ (Below.mono hb11 ?_)) | (with_reducible refine Below.trans ?_ (Below.mono hb12 ?_)) | (with_reducible refine Below.trans ?_ (Below.mono hb13 ?_)) | (with_reducible refine Below.trans ?_ (Below.mono hb14 ?_)) | (with_reducible refine Below.trans ?_ (Below.mono hb15 ?_)) | omega | (simp; done) | (simp; omega)))) hg9 (by simp; omega) (fun j hj => (Hlt.out j hj).1)
              go_wp2_with fail
              rw [← Hla.out]
              go_roundg (l.length - (k + 1))
              case measure => have := hgk.out; omega
              case rel => exact ⟨k + 1, by go_num, by omega, rfl, by rw [Hsn.out, Hwg.out, Hw1.out]; exact hown9, hb9⟩
          · rw [if_neg hpos] at Hsn
            go_wp2_with fail
            rw [← Hla.out]
            go_roundg (l.length - (k + 1))
            case measure => have := hgk.out; omega
            case rel => exact ⟨k + 1, by go_num, by omega, rfl, by rw [Hsn.out, HAc.out]; exact hownx, hbxa⟩
        · obtain rfl : k = l.length := by omega
          rw [List.take_length, ← HO.out] at hown
          obtain ⟨ao, capo, rfl, hsao, _, _⟩ := hown.sa
          clear hlt
          go_wp2_with fail
          exact bodyPost_ret (v := .tuple #[.slice ao outR.length capo, .int .i64 0]) (by simp only [results, Tryz.results48]; go_simp) rfl ⟨below_next hbwr hbx, ao, capo, rfl, hsao⟩
  · have h1 : (pf != 0) = true := by simpa using h0
    have HE := Lib.hid (HE1.out h0)
    have HO := Lib.hid (HOut.out (by rw [HE.out]; exact h0))
    clear h0
    go_wp2_with fail
    exact bodyPost_ret (v := .tuple #[.slice none 0 0, .int .i64 pf]) (by simp only [results, Tryz.results48]; go_simp) rfl ⟨hb0, none, 0, by rw [HO.out, HE.out]; rfl, .inl HO.out⟩
end Go.Proofs.YtgihommenknhoaaGreatDoor
