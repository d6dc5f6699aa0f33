/- For every list of raw numbers, PapersOrdered returns true. The walk. -/
import Derived.Test.YtaoomkkhpianlaaGreatDoorMakeMark2
import Derived.Test.YtaoomkkhpianlaaGreatDoorEq
import Derived.Test.YtaoomkkhpianlaaGreatDoorRanked
import Derived.Deep.CutBlock
namespace Go.Proofs.YtaoomkkhpianlaaGreatDoor.papersOrdered
open Go.RowKit
set_option linter.unusedVariables false
set_option linter.unusedSimpArgs false


set_option maxRecDepth 100000 in
set_option maxHeartbeats 4000000 in
theorem walk (a0 : Option Addr) (len0 cap0 : Nat) (z0 : List Int) (w : World) (w0 : IsRow .i64 w a0 len0 cap0 z0) :
    Calls Tryz.prog 6 #[.slice a0 len0 cap0] w fun e w' => e = .returned (.bool true) ∧ Below w.heap.size w w' := by
  have hs := strm_new w0
  go_enter Tryz.func6, Tryz.ntmps6
  go_wp2_with fail
  refine (anyMarksN_any w.heap.size 0 _ hs (by omega)).mono ?_
  rintro e w1 ⟨l, v, rfl, hown, hlen, hsm, h1, s1, names, hn1, hn2⟩
  have hkn : (keysOf (fun x => x.1) l).length ≤ 19 := by
    have := nodup_len (a := keysOf (fun x => x.1) l) (b := names) (keysS_rise _).nodup (fun p hp => by
      rw [keysOf_mem] at hp
      obtain ⟨x, hx, rfl⟩ := hp
      exact hn2 x hx)
    omega
  clear hn1 hn2
  have hz1 := h1.size
  simp at hz1
  obtain ⟨a, cap, rfl, hsa, hform, _⟩ := hown.form
  have hst1 : Stp w.heap.size w w1 := ((Stp.refl _ w).alloc _).trans h1
  have HnS : Hid (∀ x : Addr, a = some x → x.block ≠ w.heap.size) := fun x hx => by
    rcases hform with h | ⟨b, h, hb1, _⟩
    · rw [h] at hx; cases hx
    · rw [h] at hx; cases hx; simp at hb1; simp; omega
  have Hsm := Lib.hid hsm
  clear w0 hs hown hform h1 hsm
  go_wp2_with fail
  refine (MarkPaper_any w.heap.size (0 + 2 + 1000) _ s1 (by omega)).mono ?_
  rintro e w2 ⟨pa, hpa, rfl, h2, s2⟩
  have hz2 := h2.size
  have hsa2 := hsa.stp h2 HnS.out
  have hst2 := hst1.trans h2
  clear hsa hst1 h2 s1
  go_wp2_with fail
  refine (MarkPaper_any w.heap.size (0 + 2 + 1000 + 1) _ s2 (by omega)).mono ?_
  rintro e w3 ⟨pb, hpb, rfl, h3, s3⟩
  have hz3 := h3.size
  have hsa3 := hsa2.stp h3 HnS.out
  have hst3 := hst2.trans h3
  clear hsa2 hst2 h3 s2
  go_wp2_with fail
  refine (pick_box w.heap.size (0 + 2 + 1000 + 1 + 1) _ 3 7 [1, 2, 3, 4, 5, 0, 6] _ (s3.alloc _) (by omega) (Box.new _ _ _) (by omega) (by decide) (by decide)).mono ?_
  rintro e w4 ⟨how, hR, rfl, h4, s4⟩
  have hz4 := h4.size
  simp at hz4
  have hsa4 := (hsa3.alloc _).stp h4 HnS.out
  have hst4 := (hst3.alloc _).trans h4
  have hbw4 : Below w.heap.size w w4 := by have := hst4.below; rw [Nat.min_self] at this; exact this
  clear hsa3 hst3 h4 s3 hst4 s4 hR HnS
  have Hks : Hid (∀ x ∈ l, x.1.size ≤ 1000 ∧ x.2.1.size ≤ 1000) := fun x hx => ⟨(Hsm.out x hx).1, (Hsm.out x hx).2.1⟩
  have HW := Lib.hid (fun W (h : SA W a l) => winsP_any l a cap pa pb W h hlen Hks.out)
  have HP := Lib.hid (fun W (h : SA W a l) => pointsP_any l a cap W h hlen Hks.out)
  have HO := Lib.hid (fun W (h : SA W a l) => orderP_any l a cap how W h hlen Hks.out hkn)
  have HF := Lib.hid (fun W (h : SA W a l) => marksFault_any l a cap W h (by omega) Hks.out)
  have HM := Lib.hid (fun W (h : SA W a l) => MarkedPapers_any l a cap W h (by omega))
  have HWO := Lib.hid (fun W (h : SA W a l) => winsOf_any l a cap pa pb W h hlen)
  have HPO := Lib.hid (fun W (h : SA W a l) => pointsOfL_any l a cap W h hlen)
  have HRO0 : Hid (marksFault l = 0 → ∀ W, SA W a l → 1 ≤ how → how ≤ 5 → Calls Tryz.prog 47 #[.slice a l.length cap, .int .i64 how] W (GivesOwn 9 (orderL l how) W)) := fun h W hW g1 g2 => rankedOf_any l a cap how W hW hlen h g1 g2 hkn
  have Hmem : ∀ p, (keysOf (fun x => x.1) l).any (fun y => decide (y = p)) = !(decide (ofP l p = [])) := fun p => by
    by_cases h : ofP l p = []
    · rw [decide_eq_true h]
      have h' := sel_nil.1 h
      simp only [Bool.not_true, List.any_eq_false, decide_eq_true_eq]
      rintro y hy rfl
      rw [keysOf_mem] at hy
      exact h' hy
    · rw [decide_eq_false h]
      have h' : ¬ ¬ ∃ x ∈ l, x.1 = p := fun g => h (sel_nil.2 g)
      simp only [Bool.not_false, List.any_eq_true, decide_eq_true_eq]
      exact ⟨p, by rw [keysOf_mem]; exact Classical.byContradiction h', rfl⟩
  have HWE1 : Hid (marksFault l ≠ 0 → winE l pa pb = marksFault l) := fun h => by unfold winE; rw [if_pos h]
  have HWE2 : Hid (marksFault l = 0 → winE l pa pb = if (!(keysOf (fun x => x.1) l).any (fun y => decide (y = pa)) || !(keysOf (fun x => x.1) l).any (fun y => decide (y = pb))) = true then 8 else if pa = pb then 6 else 0) := fun h => by
    unfold winE
    rw [if_neg (by simpa using h), Hmem, Hmem]
    simp only [Bool.not_not, Bool.or_eq_true, decide_eq_true_eq]
  have HOE1 : Hid (marksFault l ≠ 0 → ordE l how = marksFault l) := fun h => by unfold ordE; rw [if_pos h]
  have HOE2 : Hid (marksFault l = 0 → (1 ≤ how ∧ how ≤ 5 ∧ ordE l how = 0) ∨ ((how < 1 ∨ 5 < how) ∧ ordE l how = 4)) := fun h => by
    unfold ordE
    rw [if_neg (by simpa using h)]
    by_cases g : how < 1 ∨ 5 < how
    · exact .inr ⟨g, by rw [if_pos g]⟩
    · exact .inl ⟨by omega, by omega, by rw [if_neg g]⟩
  have HWV : Hid (winE l pa pb = 0 → (if winE l pa pb = 0 then winsN l pa pb else 0) = winsN l pa pb) := fun h => by rw [if_pos h]
  have hol : (orderL l how).length ≤ 19 := by unfold orderL; rw [isort_length]; exact hkn
  have hpl : (pointsL l (keysOf (fun x => x.1) l)).length ≤ 19 := by unfold pointsL; rw [List.length_map]; exact hkn
  clear Hmem
  generalize pointsL l (keysOf (fun x => x.1) l) = pl at *
  generalize keysOf (fun x => x.1) l = ks at *
  generalize orderL l how = ol at *
  generalize (if winE l pa pb = 0 then winsN l pa pb else 0) = wv at *
  generalize winsN l pa pb = wn at *
  generalize winE l pa pb = we at *
  generalize ordE l how = oe at *
  generalize marksFault l = pf at *
  go_wp2_with fail
  refine (HW.out _ hsa4).mono ?_
  rintro e w5 ⟨rfl, hb5⟩
  have hsa5 := hsa4.below hb5
  have hbw5 := below_next hbw4 hb5
  clear hsa4 hbw4 hb5 HW
  go_wp2_with fail
  refine (HP.out _ hsa5).mono ?_
  rintro e w6 ⟨hb6, pa0, pn, pc0, rfl, hpn, hp⟩
  have hsa6 := hsa5.below hb6
  have hbw6 := below_next hbw5 hb6
  have Hp6 := Lib.hid hp
  clear hsa5 hbw5 hb6 HP hp
  go_wp2_with fail
  refine (HO.out _ hsa6).mono ?_
  rintro e w7 ⟨hb7, oa0, on, oc0, rfl, hon, ho⟩
  have hsa7 := hsa6.below hb7
  have hbw7 := below_next hbw6 hb7
  have Hp7 : Hid (pf = 0 → pn = pl.length ∧ SA w7 pa0 pl) := fun h => ⟨(Hp6.out h).1, (Hp6.out h).2.below hb7⟩
  have Ho7 := Lib.hid ho
  clear hsa6 hbw6 hb7 HO ho Hp6
  go_wp2_with fail
  refine (HF.out _ hsa7).mono ?_
  rintro e w8 ⟨rfl, hb8⟩
  have hsa8 := hsa7.below hb8
  have hbw8 := below_next hbw7 hb8
  by_cases h0 : pf = 0
  · subst h0
    have HWE := Lib.hid (HWE2.out rfl)
    have Hhow := Lib.hid (HOE2.out rfl)
    have HRO := Lib.hid (HRO0.out rfl)
    obtain ⟨rfl, hp7⟩ := Hp7.out rfl
    clear HWE1 HWE2 HOE1 HOE2 HRO0 HF Hp7
    go_wp2_with fail
    refine (HM.out _ hsa8).mono ?_
    rintro e w9 ⟨vk, rfl, hownk, hb9⟩
    obtain ⟨ka, kc, rfl, hka, _, _⟩ := hownk.sa
    have hsa9 := hsa8.below hb9
    have hbw9 := below_next hbw8 hb9
    have hb79 := below_next hb8 hb9
    have Hp : Hid (SA w9 pa0 pl ∧ True) := ⟨hp7.below hb79, trivial⟩
    have Ho : Hid (oe = 0 → on = ol.length ∧ SA w9 oa0 ol) := fun h => ⟨(Ho7.out h).1, (Ho7.out h).2.below hb79⟩
    clear hownk hb8 hb9 hb79 hsa7 hsa8 hbw7 hbw8 hp7 Ho7 HM
    have HC := Lib.hid (fun x => contains_any ks ka kc x w9 hka (by omega))
    have HCa := Lib.hid (HC.out pa)
    have HCb := Lib.hid (HC.out pb)
    generalize ks.any (fun y => decide (y = pa)) = c1 at *
    generalize ks.any (fun y => decide (y = pb)) = c2 at *
    clear HC hka
    go_upto_block 0 with fail
    go_cut [14] (fun v wx => v = .int .i64 we ∧ w9 = wx)
    case first =>
      cases c1
      · have Hwe := Lib.hid (HWE.out)
        clear HWE HCb
        go_wp2_with (fail)
        refine HCa.out.mono ?_
        rintro e wa ⟨rfl, rfl⟩
        go_wp2_with fail
        go_meet
        exact ⟨by rw [Hwe.out] <;> rfl, rfl⟩
      · cases c2
        · have Hwe := Lib.hid (HWE.out)
          clear HWE
          go_wp2_with (fail)
          refine HCa.out.mono ?_
          rintro e wa ⟨rfl, rfl⟩
          go_wp2_with (fail)
          refine HCb.out.mono ?_
          rintro e wa ⟨rfl, rfl⟩
          go_wp2_with fail
          go_meet
          exact ⟨by rw [Hwe.out] <;> rfl, rfl⟩
        · have hwe := HWE.out
          rw [if_neg (by simp)] at hwe
          clear HWE
          by_cases hab : pa = pb
          · have e1 := tl_eq hab
            have e2 := tl_eq' hab
            have e3 : pa.toList = pb.toList := by rw [hab]
            rw [if_pos hab] at hwe
            have Hwe := Lib.hid hwe
            clear hwe hab
            go_wp2_with (fail)
            refine HCa.out.mono ?_
            rintro e wa ⟨rfl, rfl⟩
            go_wp2_with (fail)
            refine HCb.out.mono ?_
            rintro e wa ⟨rfl, rfl⟩
            go_wp2_with fail
            go_meet
            exact ⟨by rw [Hwe.out] <;> rfl, rfl⟩
          · have e1 := tl_ne hab
            have e2 := tl_ne' hab
            have e3 : ¬ pa.toList = pb.toList := fun h => hab (toList_inj.1 h)
            rw [if_neg hab] at hwe
            have Hwe := Lib.hid hwe
            clear hwe hab
            go_wp2_with (fail)
            refine HCa.out.mono ?_
            rintro e wa ⟨rfl, rfl⟩
            go_wp2_with (fail)
            refine HCb.out.mono ?_
            rintro e wa ⟨rfl, rfl⟩
            go_wp2_with fail
            go_meet
            exact ⟨by rw [Hwe.out] <;> rfl, rfl⟩
    case rest =>
    obtain ⟨rfl, rfl⟩ := hcut
    clear HWE HCa HCb
    by_cases hw0 : we = 0
    · subst hw0
      have hwv := HWV.out rfl
      subst hwv
      have hq1 : (wv != wv) = false := by simp
      clear HWV
      go_wp2_with fail
      refine (HWO.out _ hsa9).mono ?_
      rintro e wE ⟨rfl, hbE⟩
      have hsaE := hsa9.below hbE
      have hbwE := below_next hbw9 hbE
      clear hsa9 hbw9 HWO
      go_wp2_with fail
      refine (HPO.out _ hsaE).mono ?_
      rintro e wG ⟨vG, rfl, hownG, hbG⟩
      obtain ⟨pa1, pc1, rfl, hpa1, _, _⟩ := hownG.sa
      have hpaG := (Hp.out.1.below hbE).below hbG
      have hoG := fun h => ((Ho.out h).2.below hbE).below hbG
      have hsaG := hsaE.below hbG
      have hbwG := below_next hbwE hbG
      clear hownG hsaE hbwE
      go_wp2_with fail
      refine (equalLevel_any pl pa0 pa1 pc0 pc1 _ hpaG hpa1 (by omega)).mono ?_
      rintro e wH ⟨rfl, nH, rfl⟩
      have hsaH := hsaG.drewN nH
      have hbwH := below_drewN hbwG nH
      have hoH := fun h => (hoG h).below (below_drewN (Below.refl _ _) nH)
      clear hpaG hpa1 hsaG hbwG hoG hbG hbE
      generalize wG.drewN nH = wH at *
      rcases Hhow.out with ⟨hh1, hh2, rfl⟩ | ⟨hh, rfl⟩
      · obtain ⟨hol, _⟩ := Ho.out rfl
        subst hol
        have hoa := hoH rfl
        have HR := Lib.hid (fun W h => HRO.out W h hh1 hh2)
        have hd1 : decide (how < 1) = false := decide_eq_false (by omega)
        have hd2 : decide (5 < how) = false := decide_eq_false (by omega)
        clear hh1 hh2 hoH HRO
        go_wp2_with fail
        refine (scores_any _).mono ?_
        rintro e wI ⟨rfl, hbI⟩
        have hsaI := hsaH.below hbI
        have hoI := hoa.below hbI
        have hbwI := below_next hbwH hbI
        clear hsaH hoa hbwH
        go_wp2_with fail
        refine (HR.out _ hsaI).mono ?_
        rintro e wJ ⟨vJ, rfl, hownJ, hbJ⟩
        obtain ⟨oa1, oc1, rfl, hoa1, _, _⟩ := hownJ.sa
        have hoJ := hoI.below hbJ
        have hbwJ := below_next hbwI hbJ
        clear hownJ
        go_wp2_with fail
        refine (equal_any ol ol oa0 oa1 oc0 oc1 _ hoJ hoa1 (by omega) (by omega)).mono ?_
        rw [decide_eq_true (rfl : ol = ol)]
        rintro e wK ⟨rfl, nK, rfl⟩
        go_wp2_with fail
        go_ret
        exact ⟨rfl, below_drewN hbwJ _⟩
      · clear hoH HRO
        rcases hh with hh | hh
        · have hd1 : decide (how < 1) = true := decide_eq_true hh
          clear hh
          go_wp2_with fail
          refine (scores_any _).mono ?_
          rintro e wI ⟨rfl, hbI⟩
          go_wp2_with fail
          go_ret
          exact ⟨rfl, below_next hbwH hbI⟩
        · have hd1 : decide (how < 1) = false := decide_eq_false (by omega)
          have hd2 : decide (5 < how) = true := decide_eq_true hh
          clear hh
          go_wp2_with fail
          refine (scores_any _).mono ?_
          rintro e wI ⟨rfl, hbI⟩
          go_wp2_with fail
          go_ret
          exact ⟨rfl, below_next hbwH hbI⟩
    · have hq1 : (we != we) = false := by simp
      have hq2 : (we == 0) = false := by simpa using hw0
      have hsaE := hsa9
      have hbwE := hbw9
      have hbE := Below.refl w9.heap.size w9
      clear hsa9 hbw9 hw0 HWV
      go_wp2_with fail
      refine (HPO.out _ hsaE).mono ?_
      rintro e wG ⟨vG, rfl, hownG, hbG⟩
      obtain ⟨pa1, pc1, rfl, hpa1, _, _⟩ := hownG.sa
      have hpaG := (Hp.out.1.below hbE).below hbG
      have hoG := fun h => ((Ho.out h).2.below hbE).below hbG
      have hsaG := hsaE.below hbG
      have hbwG := below_next hbwE hbG
      clear hownG hsaE hbwE
      go_wp2_with fail
      refine (equalLevel_any pl pa0 pa1 pc0 pc1 _ hpaG hpa1 (by omega)).mono ?_
      rintro e wH ⟨rfl, nH, rfl⟩
      have hsaH := hsaG.drewN nH
      have hbwH := below_drewN hbwG nH
      have hoH := fun h => (hoG h).below (below_drewN (Below.refl _ _) nH)
      clear hpaG hpa1 hsaG hbwG hoG hbG hbE
      generalize wG.drewN nH = wH at *
      rcases Hhow.out with ⟨hh1, hh2, rfl⟩ | ⟨hh, rfl⟩
      · obtain ⟨hol, _⟩ := Ho.out rfl
        subst hol
        have hoa := hoH rfl
        have HR := Lib.hid (fun W h => HRO.out W h hh1 hh2)
        have hd1 : decide (how < 1) = false := decide_eq_false (by omega)
        have hd2 : decide (5 < how) = false := decide_eq_false (by omega)
        clear hh1 hh2 hoH HRO
        go_wp2_with fail
        refine (scores_any _).mono ?_
        rintro e wI ⟨rfl, hbI⟩
        have hsaI := hsaH.below hbI
        have hoI := hoa.below hbI
        have hbwI := below_next hbwH hbI
        clear hsaH hoa hbwH
        go_wp2_with fail
        refine (HR.out _ hsaI).mono ?_
        rintro e wJ ⟨vJ, rfl, hownJ, hbJ⟩
        obtain ⟨oa1, oc1, rfl, hoa1, _, _⟩ := hownJ.sa
        have hoJ := hoI.below hbJ
        have hbwJ := below_next hbwI hbJ
        clear hownJ
        go_wp2_with fail
        refine (equal_any ol ol oa0 oa1 oc0 oc1 _ hoJ hoa1 (by omega) (by omega)).mono ?_
        rw [decide_eq_true (rfl : ol = ol)]
        rintro e wK ⟨rfl, nK, rfl⟩
        go_wp2_with fail
        go_ret
        exact ⟨rfl, below_drewN hbwJ _⟩
      · clear hoH HRO
        rcases hh with hh | hh
        · have hd1 : decide (how < 1) = true := decide_eq_true hh
          clear hh
          go_wp2_with fail
          refine (scores_any _).mono ?_
          rintro e wI ⟨rfl, hbI⟩
          go_wp2_with fail
          go_ret
          exact ⟨rfl, below_next hbwH hbI⟩
        · have hd1 : decide (how < 1) = false := decide_eq_false (by omega)
          have hd2 : decide (5 < how) = true := decide_eq_true hh
          clear hh
          go_wp2_with fail
          refine (scores_any _).mono ?_
          rintro e wI ⟨rfl, hbI⟩
          go_wp2_with fail
          go_ret
          exact ⟨rfl, below_next hbwH hbI⟩
  · have h1 := HWE1.out h0
    subst h1
    have h2 := HOE1.out h0
    subst h2
    have h0a : (oe != 0) = true := by simpa using h0
    have h0c : (oe == oe) = true := by simp
    clear h0
    go_wp2_with fail
    refine (scores_any _).mono ?_
    rintro e w11 ⟨rfl, hb11⟩
    go_wp2_with fail
    go_ret
    exact ⟨rfl, below_next hbw8 hb11⟩
end Go.Proofs.YtaoomkkhpianlaaGreatDoor.papersOrdered
