/- Skills that are learnt: Learn of the program. -/
import Derived.Test.YtgihommenknhoaaGreatDoorLearn1
namespace Go.Proofs.YtgihommenknhoaaGreatDoor
open Go.RowKit Go.Sort
set_option linter.unusedVariables false
set_option linter.unusedSimpArgs false

/-- The error of Learn. -/
def learnX (l : List Topic) (ps : List Paper) (who : ByteArray) : Int := if forestFault l ≠ 0 then forestFault l else learnE l ps who
/-- What Learn gives. -/
def learnP (l : List Topic) (ps : List Paper) (who : ByteArray) : List Skill := learnOut (learnX l ps who) (lrnL (topicsOf ps who)) (keysS ((lrnL (topicsOf ps who)).1.map (·.1)))
theorem learnP_nil {l : List Topic} {ps : List Paper} {who : ByteArray} (h : learnX l ps who ≠ 0) : learnP l ps who = [] := by unfold learnP learnOut; rw [if_neg h]
/-- The two agree. -/
theorem learnP_ref {l : List Topic} {ps : List Paper} {who : ByteArray} (h0 : forestFault l = 0) : learnX l ps who = learnE l ps who ∧ learnP l ps who = learnOut (learnE l ps who) (lrnL (topicsOf ps who)) (hitK (lrnL (topicsOf ps who)) l) := by
  have h1 : learnX l ps who = learnE l ps who := by unfold learnX; rw [if_neg (by simpa using h0)]
  refine ⟨h1, ?_⟩
  unfold learnP
  rw [h1]
  unfold learnOut
  by_cases hE : learnE l ps who = 0
  · rw [if_pos hE, if_pos hE, hit_keys h0]
    intro t ht
    cases hh : (ForestPure.topicOf l t).isSome
    · exfalso
      by_cases hp : papersFault ps = 0
      · cases hk : keyB who
        · rw [learnE_key hp hk] at hE; cases hE
        · rw [learnE_none hp hk ht hh] at hE; cases hE
      · rw [learnE_fault hp] at hE; exact hp hE
    · rfl
  · rw [if_neg hE, if_neg hE]

set_option maxRecDepth 100000 in
set_option maxHeartbeats 8000000 in
theorem learn_any (l : List Topic) (a : Option Addr) (cap : Nat) (ps : List Paper) (pa : Option Addr) (pcap : Nat) (who : ByteArray) (w : World) (hE0 : Env w) (hl : SA w a l) (hP : PapersAt w pa ps) (hlen : l.length ≤ 1000000) (hsT : SmallT l) (hpl : ps.length ≤ 1000) (hsm : ∀ p ∈ ps, PSmall p) (hwho : who.size ≤ 1000000) :
    Calls Tryz.prog 47 #[.slice a l.length cap, .slice pa ps.length pcap, .string who] w (GivesSk (learnX l ps who) (learnP l ps who) w) := by
  have HCF := Lib.hid (checkForest_any l a cap w hl hlen hsT)
  have HPF := Lib.hid (fun W (hE : Env W) (h : PapersAt W pa ps) => checkPapers_any ps pa pcap W hE h (by omega) hsm)
  have HXF : Hid (forestFault l ≠ 0 → learnX l ps who = forestFault l) := fun h => by unfold learnX; rw [if_pos h]
  have HX : Hid (forestFault l = 0 → learnX l ps who = learnE l ps who) := fun h => (learnP_ref h).1
  have HR : Hid (forestFault l = 0 → RightF l) := fun h => (fault_zero h).2.1
  have HE1 : Hid (papersFault ps ≠ 0 → learnE l ps who = papersFault ps) := learnE_fault
  have HE2 : Hid (papersFault ps = 0 → keyB who = false → learnE l ps who = 5) := learnE_key
  have HE80 : Hid (papersFault ps = 0 → keyB who = true → ∀ t, t ∈ topicsOf ps who → (ForestPure.topicOf l t).isSome = false → learnE l ps who = 8) := fun h g t ht hn => learnE_none h g ht hn
  have HE00 : Hid (papersFault ps = 0 → keyB who = true → (∀ t ∈ topicsOf ps who, (ForestPure.topicOf l t).isSome = true) → learnE l ps who = 0) := learnE_ok
  have HTs : Hid (∀ k, k ≤ ps.length → (topicsOf (ps.take k) who).length ≤ 1000000 ∧ ∀ t ∈ topicsOf (ps.take k) who, t ∈ topicsOf ps who) := fun k _ => topics_bd hpl hsm who k
  have HSz : Hid (∀ t ∈ topicsOf ps who, t.size ≤ 1000000) := fun t ht => by
    unfold topicsOf at ht
    obtain ⟨p, hp, h⟩ := List.mem_flatMap.1 ht
    have h7 := (hsm p hp).2.2.2.2.2.2
    unfold hisT at h
    split at h
    · have := h7 t h; omega
    · cases h
  have HOut : Hid (learnX l ps who ≠ 0 → learnP l ps who = []) := learnP_nil
  have HOut0 : Hid (learnX l ps who = 0 → learnP l ps who = learnL (lrnL (topicsOf ps who)) (keysS ((lrnL (topicsOf ps who)).1.map (·.1)))) := fun h => by unfold learnP learnOut; rw [if_pos h]
  have hmm := @run_makeMap Tryz.prog
  generalize papersFault ps = pf at *
  generalize learnP l ps who = outP at *
  generalize forestFault l = ff at *
  by_cases hf : ff = 0
  · subst hf
    rw [HX.out rfl] at HOut HOut0 ⊢
    have hRF := HR.out rfl
    clear HXF HX HR
    generalize learnE l ps who = er at *
    go_enter Tryz.func47, Tryz.ntmps47
    go_wp2_with fail
    refine HCF.out.mono ?_
    rintro e wf ⟨rfl, hbf⟩
    go_wp2_with fail
    refine (HPF.out _ (hE0.below hbf) (hP.below hbf)).mono ?_
    rintro e w0 ⟨rfl, hb0⟩
    have hb00 := below_next hbf hb0
    by_cases h0 : pf = 0
    · subst h0
      replace HE2 := Lib.hid (HE2.out rfl)
      replace HE80 := Lib.hid (HE80.out rfl)
      replace HE00 := Lib.hid (HE00.out rfl)
      go_wp2_with fail
      refine (isKey_gives who _ (by omega)).mono ?_
      rintro e wk ⟨rfl, hbk⟩
      have hb0k := below_next hb00 hbk
      cases hk : keyB who
      · have HE := Lib.hid (HE2.out hk)
        have HO := Lib.hid (HOut.out (by rw [HE.out]; decide))
        go_wp2_with fail
        exact bodyPost_ret (v := .tuple #[.slice none 0 0, .int .i64 5]) (by simp only [results, Tryz.results47]; go_simp) rfl ⟨hb0k, none, 0, by rw [HO.out, HE.out]; rfl, .inl HO.out⟩
      · have HE8 := Lib.hid (HE80.out hk)
        have HE0 := Lib.hid (HE00.out hk)
        have HFo := Lib.hid (forestOf_any l a cap wk (hl.below hb0k) hlen hRF)
        go_wp2_with fail
        refine HFo.out.mono ?_
        rintro e W1 ⟨fb, rfl, hF1, hb1⟩
        have hbW1 := below_next hb0k hb1
        have hP1 := hP.below hbW1
        have hM0 := MBox.new W1
        have hbM : Below W1.heap.size W1 (W1.alloc (.map #[] 0)) := (Below.refl _ _).alloc (Nat.le_refl _) _
        have HH := Lib.hid (fun x => has_gives l fb x)
        clear hE0 hl hP hb0 hb00 hb0k hb1 hbk hbf hk HPF HCF HE1 HE2 HE80 HE00 HFo hRF
        go_wp2_with fail
        go_loopg [12, 38] ps.length (fun gk v i wr => ∃ k : Nat, i = .int .i64 k ∧ k ≤ ps.length ∧ Hid (gk = ps.length - k) ∧ v = .int .i64 (lrnL (topicsOf (ps.take k) who)).2 ∧ MBox wr W1.heap.size (lrnL (topicsOf (ps.take k) who)).1 ∧ Hid (∀ t ∈ topicsOf (ps.take k) who, (ForestPure.topicOf l t).isSome = true) ∧ Below W1.heap.size W1 wr)
        case atStart => exact ⟨0, rfl, by omega, rfl, rfl, hM0, (fun t ht => by cases ht), hbM⟩
        clear hM0 hbM
        obtain ⟨k, rfl, hk, hgk, rfl, hM, Hhas, hb⟩ := hrel
        have hzr := hb.size
        by_cases hlt : k < ps.length
        · obtain ⟨pb, poff, ha, c0, c1, c2, c3, c4⟩ := (hP1.below hb).1.paper hlt
          have hrd := hP1.2 ps[k] (List.getElem_mem hlt)
          have Hts := Lib.hid (topicsOf_snoc hlt who)
          have hx := hsm ps[k] (List.getElem_mem hlt)
          have HT := Lib.hid (HTs.out (k + 1))
          have Ha := Lib.hid ha
          rw [ha]
          clear ha
          generalize ps[k] = p at *
          obtain ⟨x1, x2, x3, au, tt, a1, n1, a2, n2⟩ := p
          obtain ⟨hr1, hr2, hr3⟩ := hrd
          obtain ⟨_, _, _, hx4, hx5, _, hx7⟩ := hx
          simp only at c0 c1 c2 c3 c4 hr1 hr2 hr3 hx4 hx5 hx7
          unfold hisT at Hts
          simp only at Hts
          generalize topicsOf (ps.take k) who = T0 at *
          obtain ⟨T1, hT1⟩ : ∃ T1, topicsOf (ps.take (k + 1)) who = T1 := ⟨_, rfl⟩
          rw [hT1] at Hts HT
          have HT1 := Lib.hid hT1
          clear hT1
          have hsA := (hr1.below hb).alloc (.cells #[.string x1, .string x2, .string x3, .slice a1 au.length n1, .slice a2 tt.length n2] 119)
          have hB := Box.new wr 119 #[.string x1, .string x2, .string x3, .slice a1 au.length n1, .slice a2 tt.length n2]
          have hMa := hM.alloc (.cells #[.string x1, .string x2, .string x3, .slice a1 au.length n1, .slice a2 tt.length n2] 119)
          have hba := hb.alloc hzr (.cells #[.string x1, .string x2, .string x3, .slice a1 au.length n1, .slice a2 tt.length n2] 119)
          clear hM
          go_wp2_with fail
          refine (contains_any au a1 n1 who _ hsA (by omega)).mono ?_
          rintro e wa ⟨rfl, rfl⟩
          cases hc : au.any (fun y => decide (y = who))
          · rw [hc] at Hts
            have hTe : T1 = T0 := by rw [Hts.out]; simp
            have HTe := Lib.hid hTe
            clear hTe hc
            go_wp2_with fail
            rw [← Ha.out]
            go_roundg (ps.length - (k + 1))
            case measure => have := hgk.out; omega
            case rel => exact ⟨k + 1, by go_num, by omega, rfl, by rw [HT1.out, HTe.out], by rw [HT1.out, HTe.out]; exact hMa, by rw [HT1.out, HTe.out]; exact Hhas, hba⟩
          · rw [hc] at Hts
            have Hts2 : Hid (T1 = T0 ++ tt) := by show _ = _; rw [Hts.out]; simp
            have hB_l := hB.lt; have hB_0 := hB.cell 0; have hB_1 := hB.cell 1; have hB_2 := hB.cell 2; have hB_3 := hB.cell 3; have hB_4 := hB.cell 4; simp at hB_0 hB_1 hB_2 hB_3 hB_4
            clear hc Hts hsA
            go_wp2_with fail
            clear hB hB_l hB_0 hB_1 hB_2 hB_3 hB_4
            go_loopg [12, 50] tt.length (fun gk v i wx => ∃ j : Nat, i = .int .i64 j ∧ j ≤ tt.length ∧ Hid (gk = tt.length - j) ∧ v = .int .i64 (lrnL (T0 ++ tt.take j)).2 ∧ MBox wx W1.heap.size (lrnL (T0 ++ tt.take j)).1 ∧ Hid (∀ t ∈ T0 ++ tt.take j, (ForestPure.topicOf l t).isSome = true) ∧ Below W1.heap.size W1 wx)
            case atStart => exact ⟨0, rfl, by omega, rfl, by simp, by simpa using hMa, by simpa using Hhas, hba⟩
            clear hMa hba Hhas
            obtain ⟨j, rfl, hj, hgj, rfl, hM, Hhas, hbx⟩ := hrel
            by_cases hjl : j < tt.length
            · obtain ⟨tb, toff, hta, d0⟩ := (hr2.below hbx).str hjl
              have htake := List.take_succ_eq_append_getElem hjl
              have hA : (T0 ++ tt.take j).length + 1 ≤ 1000000 := by
                have h1 := (HT.out (by omega)).1
                rw [Hts2.out, List.length_append] at h1
                rw [List.length_append, List.length_take]
                omega
              have hmem : tt[j] ∈ T1 := by rw [Hts2.out]; exact List.mem_append.2 (.inr (List.getElem_mem hjl))
              have Hin := Lib.hid ((HT.out (by omega)).2 _ hmem)
              have Hstep : Hid (lrnL (T0 ++ tt.take (j + 1)) = lrnS (lrnL (T0 ++ tt.take j)) tt[j]) := by show _ = _; rw [htake, ← List.append_assoc]; exact lrn_snoc _ _
              have Hall : Hid ((ForestPure.topicOf l tt[j]).isSome = true → ∀ t ∈ T0 ++ tt.take (j + 1), (ForestPure.topicOf l t).isSome = true) := fun h t ht => by
                rw [htake, ← List.append_assoc, List.mem_append] at ht
                rcases ht with ht | ht
                · exact Hhas.out t ht
                · rw [List.mem_singleton] at ht; rw [ht]; exact h
              have Hta := Lib.hid hta
              rw [hta]
              clear hta htake hmem
              have hok := lrn_ok (T0 ++ tt.take j)
              have hsz := hx7 tt[j] (List.getElem_mem hjl)
              generalize tt[j] = t at *
              generalize lrnL (T0 ++ tt.take j) = st at *
              generalize (T0 ++ tt.take j).length = nA at *
              obtain ⟨es, mx⟩ := st
              unfold lrnS at Hstep
              simp only at Hstep hM
              have hcn := hok.cnt t
              have hlo := hok.lo
              have hhi := hok.hi
              have Hlk := Lib.hid (hok.look t)
              simp only at hcn hlo hhi Hlk
              generalize cntV es t = c at *
              clear hok
              go_wp2_with fail
              refine (HH.out t _ (hF1.below hbx)).mono ?_
              rintro e w3 ⟨rfl, hb3⟩
              have hb13 := below_next hbx hb3
              have hM3 := hM.below hb3
              have hzM := hM3.lt
              have hz3 := hb13.size
              cases hh : (ForestPure.topicOf l t).isSome
              · have hE := HE8.out t Hin.out hh
                have HE := Lib.hid hE
                have HO := Lib.hid (HOut.out (by rw [HE.out]; decide))
                clear hE
                go_wp2_with fail
                exact bodyPost_ret (v := .tuple #[.slice none 0 0, .int .i64 8]) (by simp only [results, Tryz.results47]; go_simp) rfl ⟨below_next hbW1 hb13, none, 0, by rw [HO.out, HE.out]; rfl, .inl HO.out⟩
              · have Hall2 := Lib.hid (Hall.out hh)
                have hlk : (Instr.lookup 102 (.map (some W1.heap.size)) (.string t) false).run Tryz.prog w3 = .ok (.int .i64 c) w3 := by rw [hM3.look Tryz.underlying102 Tryz.underlying9 (.int .i64 0) (fun w => Tryz.zeroValue3 w) t false, Hlk.out]
                clear hh Hall Hin
                go_wp2_with (at_mapUpdate; refine wpList_mapUpdate_box rfl _ _ _ 102 rfl 9 3 Tryz.underlying102 Tryz.underlying9 W1.heap.size es rfl hM3 t rfl (.int .i64 (c + 1)) rfl ?_; intro W5 hM5 hg5 hs5; have hlk5 : (Instr.lookup 102 (.map (some W1.heap.size)) (.string t) false).run Tryz.prog W5 = .ok (.int .i64 (c + 1)) W5 := (by rw [hM5.look Tryz.underlying102 Tryz.underlying9 (.int .i64 0) (fun w => Tryz.zeroValue3 w) t false]; unfold looked; rw [mget_mput, if_pos rfl]; rfl))
                have hb5 : Below W1.heap.size W1 W5 := hb13.grown hg5 (by omega) (by rintro j hj; cases hj; omega)
                rw [← Hta.out]
                go_roundg (tt.length - (j + 1))
                case measure => have := hgj.out; omega
                case rel => exact ⟨j + 1, by go_num, by omega, rfl, by rw [Hstep.out], by rw [Hstep.out]; exact hM5, Hall2, hb5⟩
            · obtain rfl : j = tt.length := by omega
              rw [List.take_length, ← Hts2.out] at hM Hhas ⊢
              clear hjl
              go_wp2_with fail
              rw [← Ha.out]
              go_roundg (ps.length - (k + 1))
              case measure => have := hgk.out; omega
              case rel => exact ⟨k + 1, by go_num, by omega, rfl, by rw [HT1.out], by rw [HT1.out]; exact hM, by rw [HT1.out]; exact Hhas, hbx⟩
        · obtain rfl : k = ps.length := by omega
          rw [List.take_length] at hM Hhas ⊢
          have hE := HE0.out Hhas.out
          have HT := HTs.out ps.length (Nat.le_refl _)
          rw [List.take_length] at HT
          have hTl := HT.1
          have hok := lrn_ok (topicsOf ps who)
          have hmm2 := lrn_mem (topicsOf ps who)
          have hbwr := below_next hbW1 hb
          subst hE
          have HO := Lib.hid (HOut0.out rfl)
          clear hlt HE0 HE8 HTs HT Hhas hP1 hF1 hbW1 HOut HOut0
          have Hmz : Hid (∀ x ∈ (lrnL (topicsOf ps who)).1, x.1.size ≤ 1000000) := fun x hx => HSz.out x.1 ((hmm2 x.1).1 (List.mem_map_of_mem hx))
          generalize (topicsOf ps who).length = nT at *
          clear hmm2
          generalize lrnL (topicsOf ps who) = st at *
          obtain ⟨es, mx⟩ := st
          have Hok := Lib.hid hok
          have hhi := hok.hi
          have hel := hok.len
          have Hnd := Lib.hid hok.nodup
          simp only at hM hhi hel Hnd HO Hmz
          clear hok
          go_wp2_with fail
          refine (keysI_any _ es _ hM Hnd.out (by omega) Hmz.out).mono ?_
          rintro e wq ⟨vk, rfl, hownk, hbq⟩
          obtain ⟨ka, kc, rfl, hka, _, _⟩ := hownk.sa
          have Hkm : Hid (∀ x ∈ keysS (es.map (·.1)), x ∈ es.map (·.1)) := fun x hx => (keysS_mem _ _).1 hx
          have hkl := keysS_length (es.map (·.1))
          rw [List.length_map] at hkl
          have hMq := hM.below hbq
          have hbwq := below_next hbwr hbq
          clear hownk hM hb hbwr hbq
          generalize keysS (es.map (·.1)) = ks at *
          go_wp2_with fail
          go_loopg [17, 72] ks.length (fun gk v i wr => ∃ k : Nat, i = .int .i64 k ∧ k ≤ ks.length ∧ Hid (gk = ks.length - k) ∧ Own wq.heap.size 82 wr v (learnL (es, mx) (ks.take k)) ∧ Below wq.heap.size wq wr)
          case atStart => exact ⟨0, rfl, by omega, rfl, Own.nil _ _ _, Below.refl _ _⟩
          obtain ⟨k, rfl, hk, hgk, hown, hbx⟩ := hrel
          by_cases hlt : k < ks.length
          · obtain ⟨lb, loff, hla, e0⟩ := (hka.below hbx).str hlt
            have htake := List.take_succ_eq_append_getElem hlt
            have Hsn := Lib.hid (learnL_snoc (es, mx) (ks.take k) ks[k])
            rw [← htake] at Hsn
            have hin := Hkm.out ks[k] (List.getElem_mem hlt)
            have hal : (learnL (es, mx) (ks.take k)).length ≤ 1000000 := by unfold learnL; rw [List.length_map, List.length_take]; omega
            have Hla := Lib.hid hla
            rw [hla]
            clear hla htake
            generalize ks[k] = x1 at *
            have hcn := Hok.out.cnt x1
            have hpos := (Hok.out.pos x1).2 hin
            have Hlk := Lib.hid (Hok.out.look x1)
            have Hw1 : Hid (wgt (es, mx) x1 = max 1 ((100 * cntV es x1).tdiv mx)) := rfl
            simp only at hcn hpos Hlk
            generalize wgt (es, mx) x1 = wg at *
            generalize learnL (es, mx) (ks.take k) = acc at *
            generalize cntV es x1 = c at *
            have hlk : (Instr.lookup 102 (.map (some W1.heap.size)) (.string x1) false).run Tryz.prog wr = .ok (.int .i64 c) wr := by rw [(hMq.below hbx).look Tryz.underlying102 Tryz.underlying9 (.int .i64 0) (fun w => Tryz.zeroValue3 w) x1 false, Hlk.out]
            obtain ⟨dq, hdq⟩ : ∃ dq, (100 * c).tdiv mx = dq := ⟨_, rfl⟩
            have hdb := tdiv_bd (c := 100 * c) (m := mx) (by omega) (by omega) (by omega)
            rw [hdq] at hdb Hw1
            have hw1 : IntKind.i64.wrap (100 * c) = 100 * c := IntWalk.i64_in _ (by omega)
            have hw2 : IntKind.i64.wrap dq = dq := IntWalk.i64_in _ (by omega)
            have hmz : (mx == 0) = false := by simp; omega
            have hmz0 : ¬ mx = 0 := by omega
            obtain ⟨mq, hmq⟩ : ∃ mq, max 1 dq = mq := ⟨_, rfl⟩
            rw [hmq] at Hw1
            have hownx := hown.alloc (.cells #[.string x1, .int .i64 mq] 82)
            have HBn := Box.new wr 82 #[.string x1, .int .i64 mq]
            clear hown hin
            go_wp2_with (at_builtin; refine wpList_append_one rfl _ _ 75 rfl wq.heap.size 82 24 (.agg #[.string ⟨#[]⟩, .int .i64 0]) Tryz.underlying75 Tryz.infoSkillL rfl _ acc rfl hownx (x1, mq) _ rfl HBn ?c1 ?c2 ?c3 ?_; rotate_left 3; intro v9 w9 hown9 hg9)
            case c1 => omega
            case c2 => omega
            case c3 => have := hbx.size; simp; omega
            have hb9 : Below wq.heap.size wq w9 := Below.grown (w := wr.alloc (.cells #[.string x1, .int .i64 mq] 82)) (hbx.alloc hbx.size _) hg9 (by have := hbx.size; simp; omega) (fun j hj => (hownx.lt j hj).1)
            go_wp2_with fail
            rw [← Hla.out]
            go_roundg (ks.length - (k + 1))
            case measure => have := hgk.out; omega
            case rel => exact ⟨k + 1, by go_num, by omega, rfl, by rw [Hsn.out, Hw1.out]; exact hown9, hb9⟩
          · obtain rfl : k = ks.length := by omega
            rw [List.take_length, ← HO.out] at hown
            obtain ⟨ao, capo, rfl, hsao, _, _⟩ := hown.sa
            clear hlt
            go_wp2_with fail
            exact bodyPost_ret (v := .tuple #[.slice ao outP.length capo, .int .i64 0]) (by simp only [results, Tryz.results47]; go_simp) rfl ⟨below_next hbwq hbx, ao, capo, rfl, hsao⟩
    · have h1 : (pf != 0) = true := by simpa using h0
      have HE := Lib.hid (HE1.out h0)
      have HO := Lib.hid (HOut.out (by rw [HE.out]; exact h0))
      clear h0
      go_wp2_with fail
      exact bodyPost_ret (v := .tuple #[.slice none 0 0, .int .i64 pf]) (by simp only [results, Tryz.results47]; go_simp) rfl ⟨hb00, none, 0, by rw [HO.out, HE.out]; rfl, .inl HO.out⟩
  · have hX := HXF.out hf
    have HX2 := Lib.hid hX
    have HO := Lib.hid (HOut.out (by rw [hX]; exact hf))
    have h1 : (ff != 0) = true := by simpa using hf
    clear hf hX
    go_enter Tryz.func47, Tryz.ntmps47
    go_wp2_with fail
    refine HCF.out.mono ?_
    rintro e wf ⟨rfl, hbf⟩
    go_wp2_with fail
    exact bodyPost_ret (v := .tuple #[.slice none 0 0, .int .i64 ff]) (by simp only [results, Tryz.results47]; go_simp) rfl ⟨hbf, none, 0, by rw [HO.out, HX2.out]; rfl, .inl HO.out⟩
end Go.Proofs.YtgihommenknhoaaGreatDoor
