/- For every list of raw numbers, SkillsLearnt returns true. The walk. -/
import Derived.Test.YtgihommenknhoaaGreatDoorMakePaper2
import Derived.Test.YtgihommenknhoaaGreatDoorMake2
import Derived.Test.YtgihommenknhoaaGreatDoorSpread
import Derived.Test.YtgihommenknhoaaGreatDoorReg
namespace Go.Proofs.YtgihommenknhoaaGreatDoor.skillsLearnt
open Go.RowKit
set_option linter.unusedVariables false
set_option linter.unusedSimpArgs false

theorem One_any (S : Nat) (B : Int) (b n cap T : Nat) (vs : Array Value) (w : World) (hs : Strm S B w) (hB : B ≤ 1000000000) (hbox : Box w b T vs) (hbS : b ≠ S) (hn : vs.size = n) (hl1 : 1 ≤ n) (hl2 : n ≤ 1000)
    (hc : ∀ v ∈ vs.toList, ∃ s : ByteArray, v = .string s ∧ s.size ≤ 1000) :
    Calls Tryz.prog 36 #[.pointer (some ⟨S, 0, none⟩), .slice (some ⟨b, 0, none⟩) n cap] w (SomeStr S B w) := by
  have HO := Lib.hid (one_any S B b n cap T vs w hs hB hbox hbS hn hl1 hl2 hc)
  clear hs hbox hc
  go_enter Tryz.func36, Tryz.ntmps36
  go_wp2_with fail
  refine HO.out.mono ?_
  rintro e w1 ⟨x, hx, rfl, h1, s1⟩
  go_wp2_with fail
  go_ret
  exact ⟨x, hx, rfl, h1, s1⟩
set_option maxRecDepth 100000 in
set_option maxHeartbeats 4000000 in
/-- Two slices that read alike are equal. -/
theorem equalSkill_any (l : List Skill) (a a2 : Option Addr) (cap cap2 : Nat) (w : World) (h : SA w a l) (h2 : SA w a2 l) (hlen : l.length ≤ 1000000000) :
    Calls Tryz.prog 49 #[.slice a l.length cap, .slice a2 l.length cap2] w (Draws (.bool true) w) := by
  have hq0 : ((l.length : Int) != (l.length : Int)) = false := by simp
  go_enter Tryz.func49, Tryz.ntmps49
  go_wp2_with fail
  go_loopg [13] l.length (fun gk i wr => ∃ k : Nat, i = .int .i64 k ∧ k ≤ l.length ∧ Hid (gk = l.length - k) ∧ ∃ n, wr = w.drewN n)
  case atStart => exact ⟨0, rfl, by omega, rfl, 0, rfl⟩
  case round =>
    obtain ⟨k, rfl, hk, hgk, n, rfl⟩ := hrel
    by_cases hlt : k < l.length
    · obtain ⟨b, off, ha, c0, c1⟩ := h.skill hlt
      obtain ⟨b', off', ha', d0, d1⟩ := h2.skill hlt
      rw [ha, ha']
      generalize l[k] = x at *
      obtain ⟨x1, x2⟩ := x
      simp only at *
      have hk1 : (0 : Int) ≤ (k : Int) := by omega
      have hk2 : (k : Int) < (l.length : Int) := by omega
      go_wp2_with fail
      go_quiet (fail)
      go_wp2_with fail
      rw [← ha, ← ha']
      go_roundg (l.length - (k + 1))
      case measure => have := hgk.out; omega
      case rel => exact ⟨k + 1, by go_num, by omega, rfl, _, rfl⟩
    · go_wp2_with fail
      go_ret
      exact ⟨rfl, _, rfl⟩

theorem PRd.alloc {w : World} {p : Paper} (h : PRd w p) (o : Obj) : PRd (w.alloc o) p := h.below ((Below.refl _ _).alloc (Nat.le_refl _) o)

set_option maxRecDepth 100000 in
set_option maxHeartbeats 8000000 in
theorem walk (a0 : Option Addr) (len0 cap0 : Nat) (z0 : List Int) (w : World) (w0 : IsRow .i64 w a0 len0 cap0 z0) (hE : Env w) :
    Calls Tryz.prog 5 #[.slice a0 len0 cap0] w fun e w' => e = .returned (.bool true) ∧ Below w.heap.size w w' := by
  have hs := strm_new w0
  have hES := hE.envS
  go_enter Tryz.func5, Tryz.ntmps5
  go_wp2_with fail
  refine (forest_any w.heap.size 0 _ hs (by omega)).mono ?_
  rintro e w1 ⟨a, cap, l, rfl, hl12, hcap, hsm, hsa, hp, h1, s1⟩
  have hpS : ∀ z : Addr, a = some z → z.block ≠ w.heap.size := fun z hz => by
    rcases hp with hp | ⟨b, off, hp, hS⟩ <;> rw [hp] at hz <;> cases hz
    exact hS
  have hz1 := h1.size
  simp at hz1
  go_wp2_with fail
  refine (skills_any w.heap.size (0 + 20) _ s1 (by omega)).mono ?_
  rintro e w2 ⟨v2, s, rfl, hs5, hsk, hown2, h2, s2⟩
  have hz2 := h2.size
  go_wp2_with fail
  refine (papers_any w.heap.size (0 + 20 + 20) 5 _ s2 (by omega) (by omega)).mono ?_
  rintro e w3 ⟨v3, ps, rfl, hn5, hsz, hown3, hrd, h3, s3⟩
  have hz3 := h3.size
  go_wp2_with fail
  refine (One_any w.heap.size _ w3.heap.size 4 4 9 _ _ (s3.alloc _) (by omega) (Box.new _ _ _) (by omega) rfl (by omega) (by omega) (by simp; decide)).mono ?_
  rintro e w4 ⟨who, hwho, rfl, h4, s4⟩
  have hz4 := h4.size
  simp at hz4
  go_wp2_with fail
  refine (pick_box w.heap.size _ _ 3 5 [1, 50, 100, 0, 101] _ (s4.alloc _) (by omega) (Box.new _ _ _) (by omega) (by decide) (by decide)).mono ?_
  rintro e w5 ⟨least, hR, rfl, h5, s5⟩
  have hz5 := h5.size
  simp at hz5
  have hst5 : Stp w.heap.size w w5 := (((((((Stp.refl w.heap.size w).alloc (.cells #[.slice a0 len0 cap0, .int .i64 0] 25)).trans h1).trans h2).trans h3).alloc _).trans h4 |>.alloc _).trans h5
  have hE5 : Env w5 := hE.stp hst5 hES
  have hb : Below w.heap.size w w5 := by have := hst5.below; rwa [Nat.min_self] at this
  have hl5 : SA w5 a l := (((((hsa.stp h2 hpS).stp h3 hpS).alloc _).stp h4 hpS).alloc _).stp h5 hpS
  obtain ⟨a2, cap2, rfl, hs2, _, _⟩ := (((((hown2.stp h3 (by omega)).alloc _).stp h4 (by omega)).alloc _).stp h5 (by omega)).sa
  obtain ⟨a3, cap3, rfl, hp3, _, _⟩ := ((((hown3.alloc _).stp h4 (by omega)).alloc _).stp h5 (by omega)).sa
  have hP5 : PapersAt w5 a3 ps := ⟨hp3, fun p hp => by
    have g1 := (hrd p hp).1
    have g2 := (hsz p hp).2
    exact (((g1.below ((Below.refl _ _).alloc (Nat.le_refl _) _)).stp h4 g2).below ((Below.refl _ _).alloc (Nat.le_refl _) _)).stp h5 g2⟩
  have Hps : Hid (∀ p ∈ ps, PSmall p) := fun p hp => (hsz p hp).1.small (by omega)
  have Hsm := Lib.hid hsm
  clear h1 h2 h3 h4 h5 s1 s2 s3 s4 s5 hs w0 hsa hp hpS hsm hown2 hown3 hsk hrd hsz hp3 hst5 hE hES hR
  have HF := Lib.hid (fun W (h : SA W a l) => forestFault_any l a cap W h (by omega) Hsm.out)
  have HS := Lib.hid (fun W (h1 : SA W a l) (h2 : SA W a2 s) => skillsFaultR_any l a cap s a2 cap2 W h1 h2 (by omega) (by omega))
  have HC := Lib.hid (fun W (h1 : SA W a l) (h2 : SA W a2 s) => checkSkills_any l a cap s a2 cap2 W h1 h2 (by omega) (by omega) Hsm.out)
  have HL := Lib.hid (fun W (h0 : Env W) (h1 : SA W a l) (h2 : PapersAt W a3 ps) => learn_any l a cap ps a3 cap3 who W h0 h1 h2 (by omega) Hsm.out (by omega) Hps.out (by omega))
  have HSp := Lib.hid (fun W (h1 : SA W a l) (h2 : SA W a2 s) => spread_any l a cap s a2 cap2 least W h1 h2 (by omega) (by omega) Hsm.out)
  have HO1 : Hid (spreadE l s least ≠ 0 → spreadOut l s least = []) := fun h => by unfold spreadOut; rw [if_neg h]
  have HO2 : Hid (spreadE l s least = 0 → spreadOut l s least = spreadL l s least l) := fun h => by unfold spreadOut; rw [if_pos h]
  have hol : (spreadOut l s least).length ≤ 1000 := by
    unfold spreadOut
    split
    · have := spreadL_len l s least l; omega
    · simp
  by_cases hff : forestFault l = 0
  · have hke : skilledE l s = skillsFault l s := by unfold skilledE; rw [if_neg (by simpa using hff)]
    have HLo := Lib.hid (fun W (h0 : Env W) (h1 : SA W a l) (h2 : PapersAt W a3 ps) => learnOf_any l a cap ps a3 cap3 who W h0 h1 h2 (by omega) (by omega) Hps.out (by omega))
    have hLr := learnP_ref (ps := ps) (who := who) hff
    have hlen : (learnP l ps who).length ≤ 1000000 := by
      rw [hLr.2]
      unfold learnOut
      split
      · unfold learnL; rw [List.length_map]; have := hitK_len (lrnL (topicsOf ps who)) l; omega
      · simp
    rw [← hLr.2, ← hLr.1] at HLo
    have HSo : Hid (skillsFault l s = 0 → ∀ W, SA W a l → SA W a2 s → Calls Tryz.prog 51 #[.slice a l.length cap, .slice a2 s.length cap2, .int .i64 least] W (GivesOwn 82 (spreadL l s least l) W)) := fun h W h1 h2 => spreadOf_any l a cap s a2 cap2 least W h1 h2 (by omega) (by omega) (skills_fit hff h).ok
    have HE1 : Hid (skillsFault l s ≠ 0 → spreadE l s least = skillsFault l s) := fun h => by unfold spreadE; rw [hke, if_pos h]
    have HE2 : Hid (skillsFault l s = 0 → spreadE l s least = if least < 1 ∨ 100 < least then 1 else 0) := fun h => by unfold spreadE; rw [hke, if_neg (by simpa using h)]
    rw [hff] at HF
    rw [hke] at HC
    clear hke hLr hff
    generalize spreadOut l s least = os at *
    generalize spreadE l s least = se at *
    generalize spreadL l s least l = sl at *
    generalize skillsFault l s = sf at *
    generalize learnX l ps who = le at *
    generalize learnP l ps who = ol at *
    have hq1 : (sf != sf) = false := by simp
    have hq2 : (le != le) = false := by simp
    go_wp2_with fail
    refine (HF.out _ hl5).mono ?_
    rintro e w6 ⟨rfl, hb6⟩
    go_wp2_with fail
    refine (HS.out _ (hl5.below hb6) (hs2.below hb6)).mono ?_
    rintro e w7 ⟨rfl, hb7⟩
    have hb57 := below_next hb6 hb7
    go_wp2_with fail
    refine (HC.out _ (hl5.below hb57) (hs2.below hb57)).mono ?_
    rintro e w8 ⟨rfl, hb8⟩
    have hb58 := below_next hb57 hb8
    have hl8 := hl5.below hb58
    have hs8 := hs2.below hb58
    have hP8 := hP5.below hb58
    have hE8 := hE5.below hb58
    have hbw8 := below_next hb hb58
    clear hb6 hb7 hb8 hb57 hb58 hl5 hs2 hP5 hE5 hb HF HS HC
    go_wp2_with fail
    refine (HL.out _ hE8 hl8 hP8).mono ?_
    rintro e w9 ⟨hb9, aL, cL, rfl, hsL⟩
    go_wp2_with fail
    refine (HLo.out _ (hE8.below hb9) (hl8.below hb9) (hP8.below hb9)).mono ?_
    rintro e w10 ⟨hb10, bL, dL, rfl, hsM⟩
    have hb810 := below_next hb9 hb10
    have hl10 := hl8.below hb810
    have hs10 := hs8.below hb810
    have hbw10 := below_next hbw8 hb810
    have hsL10 := hsL.below hb10
    clear hb9 hb10 hb810 hl8 hs8 hP8 hE8 hbw8 hsL HL HLo
    go_wp2_with fail
    refine (equalSkill_any ol aL bL cL dL _ hsL10 hsM (by omega)).mono ?_
    rintro e w11 ⟨rfl, n11, rfl⟩
    have hl11 := hl10.drewN n11
    have hs11 := hs10.drewN n11
    have hbw11 := below_drewN hbw10 n11
    clear hl10 hs10 hbw10 hsL10 hsM
    generalize w10.drewN n11 = w11 at *
    go_wp2_with fail
    refine (HSp.out _ hl11 hs11).mono ?_
    rintro e w12 ⟨hb12, aS, cS, rfl, hsS⟩
    have hl12' := hl11.below hb12
    have hs12 := hs11.below hb12
    have hbw12 := below_next hbw11 hb12
    clear hl11 hs11 hbw11 hb12 HSp
    by_cases hsf : sf = 0
    · subst hsf
      have hse := HE2.out rfl
      clear HE1 HE2
      by_cases hlo : least < 1
      · rw [if_pos (.inl hlo)] at hse
        subst hse
        have hd1 : decide (least < 1) = true := decide_eq_true hlo
        clear hlo
        go_wp2_with fail
        refine (topics_any _).mono ?_
        rintro e w13 ⟨rfl, hb13⟩
        go_wp2_with fail
        go_ret
        exact ⟨rfl, below_next hbw12 hb13⟩
      · have hd1 : decide (least < 1) = false := decide_eq_false hlo
        by_cases hhi : 100 < least
        · rw [if_pos (.inr hhi)] at hse
          subst hse
          have hd2 : decide (100 < least) = true := decide_eq_true hhi
          clear hlo hhi
          go_wp2_with fail
          refine (topics_any _).mono ?_
          rintro e w13 ⟨rfl, hb13⟩
          go_wp2_with fail
          go_ret
          exact ⟨rfl, below_next hbw12 hb13⟩
        · rw [if_neg (by omega)] at hse
          subst hse
          have hd2 : decide (100 < least) = false := decide_eq_false hhi
          have hos := HO2.out rfl
          subst hos
          have HSo2 := Lib.hid (HSo.out rfl)
          clear hlo hhi HO1 HO2 HSo
          go_wp2_with fail
          refine (topics_any _).mono ?_
          rintro e w13 ⟨rfl, hb13⟩
          have hl13 := hl12'.below hb13
          have hs13 := hs12.below hb13
          have hsS13 := hsS.below hb13
          have hbw13 := below_next hbw12 hb13
          go_wp2_with fail
          refine (HSo2.out _ hl13 hs13).mono ?_
          rintro e w14 ⟨vS, rfl, hownS, hb14⟩
          obtain ⟨bS, dS, rfl, hsT, _, _⟩ := hownS.sa
          go_wp2_with fail
          refine (equalSkill_any _ aS bS cS dS _ (hsS13.below hb14) hsT (by omega)).mono ?_
          rintro e w15 ⟨rfl, n15, rfl⟩
          go_wp2_with fail
          go_ret
          exact ⟨rfl, below_drewN (below_next hbw13 hb14) _⟩
    · have hse := HE1.out hsf
      subst hse
      have hq3 : (se == 0) = false := by simpa using hsf
      have hq4 : (se != 0) = true := by simpa using hsf
      have hq5 : (se == se) = true := by simp
      clear hsf HE1 HE2
      go_wp2_with fail
      refine (topics_any _).mono ?_
      rintro e w13 ⟨rfl, hb13⟩
      go_wp2_with fail
      go_ret
      exact ⟨rfl, below_next hbw12 hb13⟩
  · have hke : skilledE l s = forestFault l := by unfold skilledE; rw [if_pos hff]
    have hle : learnX l ps who = forestFault l := by unfold learnX; rw [if_pos hff]
    have hse : spreadE l s least = forestFault l := by unfold spreadE; rw [hke, if_pos hff]
    rw [hle] at HL
    rw [hse] at HSp
    rw [hke] at HC
    clear hke hle hse HO1 HO2 HS
    generalize spreadOut l s least = os at *
    generalize learnP l ps who = ol at *
    generalize forestFault l = ff at *
    have hq1 : (ff != ff) = false := by simp
    have hq2 : (ff == 0) = false := by simpa using hff
    have hq3 : (ff != 0) = true := by simpa using hff
    have hq4 : (ff == ff) = true := by simp
    clear hff
    go_wp2_with fail
    refine (HF.out _ hl5).mono ?_
    rintro e w6 ⟨rfl, hb6⟩
    go_wp2_with fail
    refine (HC.out _ (hl5.below hb6) (hs2.below hb6)).mono ?_
    rintro e w8 ⟨rfl, hb8⟩
    have hb58 := below_next hb6 hb8
    go_wp2_with fail
    refine (HL.out _ (hE5.below hb58) (hl5.below hb58) (hP5.below hb58)).mono ?_
    rintro e w9 ⟨hb9, aL, cL, rfl, hsL⟩
    have hb59 := below_next hb58 hb9
    go_wp2_with fail
    refine (HSp.out _ (hl5.below hb59) (hs2.below hb59)).mono ?_
    rintro e w12 ⟨hb12, aS, cS, rfl, hsS⟩
    have hb512 := below_next hb59 hb12
    go_wp2_with fail
    refine (topics_any _).mono ?_
    rintro e w13 ⟨rfl, hb13⟩
    go_wp2_with fail
    go_ret
    exact ⟨rfl, below_next (below_next hb hb512) hb13⟩
end Go.Proofs.YtgihommenknhoaaGreatDoor.skillsLearnt
