/- For every list of raw numbers, PlacesRange returns true. The walk. -/
import Derived.Test.YtgihommenknhoaaGreatDoorMakeMark2
import Derived.Test.YtgihommenknhoaaGreatDoorFracMake
import Derived.Test.YtgihommenknhoaaGreatDoorPlace2
import Derived.Test.YtgihommenknhoaaGreatDoorPlace3
import Derived.Deep.CutBlock
namespace Go.Proofs.YtgihommenknhoaaGreatDoor.placesRange
open Go.RowKit
set_option linter.unusedVariables false
set_option linter.unusedSimpArgs false

/-- Two fractions lie in blocks F and G. -/
def TwoAt (w : World) (F G : Nat) (wx : World) : Prop :=
  ∃ p q r t : Int, Box wx F 41 #[.int .i64 p, .int .i64 q] ∧ Box wx G 41 #[.int .i64 r, .int .i64 t] ∧ Below w.heap.size w wx


set_option maxRecDepth 100000 in
set_option maxHeartbeats 8000000 in
theorem walk (a0 : Option Addr) (len0 cap0 : Nat) (z0 : List Int) (w : World) (w0 : IsRow .i64 w a0 len0 cap0 z0) :
    Calls Tryz.prog 3 #[.slice a0 len0 cap0] w fun e w' => e = .returned (.bool true) ∧ Below w.heap.size w w' := by
  have hs := strm_new w0
  go_enter Tryz.func3, Tryz.ntmps3
  go_wp2_with fail
  refine (next_any w.heap.size 0 5 _ hs (by omega) (by omega) (by omega)).mono ?_
  rintro e w1 ⟨r, ⟨hr1, hr2⟩, rfl, h1, s1⟩
  obtain ⟨np, rfl⟩ := Int.eq_ofNat_of_zero_le hr1
  go_wp2_with fail
  refine (next_any w.heap.size (0 + 1) 5 _ s1 (by omega) (by omega) (by omega)).mono ?_
  rintro e w2 ⟨r, ⟨hr3, hr4⟩, rfl, h2, s2⟩
  obtain ⟨nq, rfl⟩ := Int.eq_ofNat_of_zero_le hr3
  go_wp2_with fail
  refine (marksN_any w.heap.size (0 + 1 + 1) np nq _ s2 (by omega) (by omega) (by omega)).mono ?_
  rintro e w3 ⟨l, v, rfl, hown, hlen, hsm, h3, s3, names, hn1, hn2⟩
  have hkn : (keysOf (fun x => x.1) l).length ≤ 19 := by
    have := nodup_len (a := keysOf (fun x => x.1) l) (b := names) (keysS_rise _).nodup (fun p hp => by
      rw [keysOf_mem] at hp
      obtain ⟨x, hx, rfl⟩ := hp
      exact hn2 x hx)
    omega
  clear hn1 hn2
  have hst3 : Stp w.heap.size w w3 := ((((Stp.refl _ w).alloc _).trans h1).trans h2).trans h3
  have hz3 : w.heap.size < w2.heap.size := by have := h1.size; have := h2.size; simp at *; omega
  have hz33 := h3.size
  obtain ⟨a, cap, rfl, hsa, hform, _⟩ := hown.form
  have HnS : Hid (∀ x : Addr, a = some x → x.block ≠ w.heap.size) := fun x hx => by
    rcases hform with h | ⟨b, h, hb1, _⟩
    · rw [h] at hx; cases hx
    · rw [h] at hx; cases hx; simp; omega
  have Hfm : Hid (a = none ∨ ∃ b off, a = some ⟨b, off, none⟩) := by
    rcases hform with h | ⟨b, h, _⟩
    · exact .inl h
    · exact .inr ⟨b, 0, h⟩
  have Hsm := Lib.hid hsm
  clear w0 hs hown hform h1 h2 h3 s1 s2 hsm hr1 hr3
  go_wp2_with fail
  refine (MarkPaper_any w.heap.size (0 + 1 + 1 + 1000) _ s3 (by omega)).mono ?_
  rintro e w4 ⟨pa, hpa, rfl, h4, s4⟩
  have hz4 := h4.size
  have hsa4 := hsa.stp h4 HnS.out
  have hst4 := hst3.trans h4
  clear hsa hst3 h4 s3
  go_wp2_with fail
  refine (pick_box w.heap.size (0 + 1 + 1 + 1000 + 1) _ 3 7 [1, 2, 3, 4, 5, 0, 6] _ (s4.alloc _) (by omega) (Box.new _ _ _) (by omega) (by decide) (by decide)).mono ?_
  rintro e w5 ⟨how, hR, rfl, h5, s5⟩
  have hz5 := h5.size
  simp at hz5
  have hsa5 := (hsa4.alloc _).stp h5 HnS.out
  have hst5 : Stp w.heap.size w w5 := (hst4.alloc _).trans h5
  clear hsa4 hst4 h5 s4 hR HnS
  have Hks : Hid (∀ x ∈ l, x.1.size ≤ 1000 ∧ x.2.1.size ≤ 1000) := fun x hx => ⟨(Hsm.out x hx).1, (Hsm.out x hx).2.1⟩
  have HRP := Lib.hid (fun W (h : SA W a l) => range_place l a cap pa how W h Hfm.out hlen Hks.out hkn)
  have HF := Lib.hid (fun W (h : SA W a l) => marksFault_any l a cap W h (by omega) Hks.out)
  have HM := Lib.hid (fun W (h : SA W a l) => MarkedPapers_any l a cap W h (by omega))
  have Hmem : Hid ((keysOf (fun x => x.1) l).any (fun y => decide (y = pa)) = !(decide (ofP l pa = []))) := by
    show _ = _
    by_cases h : ofP l pa = []
    · rw [decide_eq_true h]
      have h' := sel_nil.1 h
      simp only [Bool.not_true, List.any_eq_false, decide_eq_true_eq]
      rintro y hy rfl
      rw [keysOf_mem] at hy
      exact h' hy
    · rw [decide_eq_false h]
      have h' : ¬ ¬ ∃ x ∈ l, x.1 = pa := fun g => h (sel_nil.2 g)
      simp only [Bool.not_false, List.any_eq_true, decide_eq_true_eq]
      exact ⟨pa, by rw [keysOf_mem]; exact Classical.byContradiction h', rfl⟩
  have HE1 : Hid (marksFault l ≠ 0 → rangeE l how pa = marksFault l) := fun h => by unfold rangeE; rw [if_pos h]
  have HE2 : Hid (marksFault l = 0 → ofP l pa = [] → rangeE l how pa = 8) := fun h g => by unfold rangeE; rw [if_neg (by simpa using h), if_pos g]
  have HE3 : Hid (marksFault l = 0 → ¬ ofP l pa = [] → (how < 1 ∨ 5 < how) → rangeE l how pa = 4) := fun h g k => by unfold rangeE; rw [if_neg (by simpa using h), if_neg g, if_pos k]
  have HE4 : Hid (marksFault l = 0 → ¬ ofP l pa = [] → ¬ (how < 1 ∨ 5 < how) → rangeE l how pa = 0 ∧ rangeV l how pa = rangeN l how pa) := fun h g k => by
    have : rangeE l how pa = 0 := by unfold rangeE; rw [if_neg (by simpa using h), if_neg g, if_neg k]
    exact ⟨this, by unfold rangeV; rw [if_pos this]⟩
  have HRO : Hid (marksFault l = 0 → ¬ ofP l pa = [] → ¬ (how < 1 ∨ 5 < how) → ∀ W, SA W a l → Calls Tryz.prog 14 #[.slice a l.length cap, .string pa, .int .i64 how] W (Gives (.tuple #[.int .i64 (rangeN l how pa).1, .int .i64 (rangeN l how pa).2]) W)) := fun h g k W hW => rangeOf_any l a cap pa how W hW Hfm.out hlen h (by omega) (by omega) hkn g
  obtain ⟨v1, v2, hv⟩ : ∃ v1 v2, rangeV l how pa = (v1, v2) := ⟨_, _, rfl⟩
  have HV := Lib.hid hv
  rw [hv] at HRP HE4
  have HRO2 : Hid (marksFault l = 0 → ¬ ofP l pa = [] → ¬ (how < 1 ∨ 5 < how) → ∀ W, SA W a l → Calls Tryz.prog 14 #[.slice a l.length cap, .string pa, .int .i64 how] W (Gives (.tuple #[.int .i64 v1, .int .i64 v2]) W)) := fun h g k W hW => by
    have h1 := HRO.out h g k W hW
    rw [← (HE4.out h g k).2] at h1
    exact h1
  simp only at HRP
  clear hv HV HRO
  generalize keysOf (fun x => x.1) l = ks at *
  generalize rangeE l how pa = re at *
  generalize marksFault l = pf at *
  go_wp2_with fail
  refine (HRP.out _ hsa5).mono ?_
  rintro e w6 ⟨rfl, hb6⟩
  have hsa6 := hsa5.below hb6
  have hst6 := hst5.trans (Stp.of_below hb6 (S := w.heap.size))
  have s6 := s5.below hb6
  clear hsa5 hst5 s5 hb6 HRP
  go_wp2_with fail
  refine (HF.out _ hsa6).mono ?_
  rintro e w7 ⟨rfl, hb7⟩
  have hsa7 := hsa6.below hb7
  have hst7 := hst6.trans (Stp.of_below hb7 (S := w.heap.size))
  have s7 := s6.below hb7
  clear hsa6 hst6 s6 hb7 HF
  have hz7 := hst7.size
  obtain ⟨b1, hb1⟩ : ∃ b1, (decide (pf = 0) && decide (ofP l pa = [])) = b1 := ⟨_, rfl⟩
  obtain ⟨wa, hwa⟩ : ∃ wa : Int, (if b1 = true then 8 else pf) = wa := ⟨_, rfl⟩
  obtain ⟨b2, hb2⟩ : ∃ b2, (decide (wa = 0) && (decide (how < 1) || decide (5 < how))) = b2 := ⟨_, rfl⟩
  have Hre : Hid ((if b2 = true then 4 else wa) = re) := by
    show _ = _
    subst hb2
    subst hwa
    subst hb1
    by_cases h0 : pf = 0
    · by_cases hz : ofP l pa = []
      · rw [HE2.out h0 hz]; simp [h0, hz]
      · by_cases hh : how < 1 ∨ 5 < how
        · rw [HE3.out h0 hz hh]
          rcases hh with hh | hh <;> simp [h0, hz, hh]
        · rw [(HE4.out h0 hz hh).1]
          have e1 : ¬ how < 1 := fun h => hh (.inl h)
          have e2 : ¬ 5 < how := fun h => hh (.inr h)
          simp [h0, hz, e1, e2]
    · rw [HE1.out h0]; simp [h0]
  have Hall : Hid (re = 0 → pf = 0 ∧ ¬ ofP l pa = [] ∧ ¬ (how < 1 ∨ 5 < how)) := fun h => by
    by_cases h0 : pf = 0
    · by_cases hz : ofP l pa = []
      · rw [HE2.out h0 hz] at h; cases h
      · by_cases hh : how < 1 ∨ 5 < how
        · rw [HE3.out h0 hz hh] at h; cases h
        · exact ⟨h0, hz, hh⟩
    · rw [HE1.out h0] at h; exact absurd h h0
  have HB1 := Lib.hid hb1
  have HWa := Lib.hid hwa
  have HB2 := Lib.hid hb2
  clear hb1 hwa hb2 HE1 HE2 HE3 HE4
  go_upto_region 5 with (fail)
  go_cut [49] (fun v wx => v = .bool b1 ∧ ∃ W', W' = wx ∧ Below w7.heap.size w7 W')
  case first =>
    by_cases h0 : pf = 0
    · have h0a : (pf == 0) = true := by simpa using h0
      have H0 := Lib.hid h0
      clear h0
      go_wp2_with fail
      refine (HM.out _ hsa7).mono ?_
      rintro e w8 ⟨vk, rfl, hownk, hb8⟩
      obtain ⟨ka, kc, rfl, hka, _, _⟩ := hownk.sa
      go_wp2_with fail
      refine (contains_any ks ka kc pa w8 hka (by omega)).mono ?_
      rintro e w9 ⟨rfl, rfl⟩
      rw [Hmem.out]
      go_wp2_with fail
      go_meet
      exact ⟨by rw [← HB1.out, decide_eq_true H0.out]; simp, _, rfl, hb8⟩
    · have h0a : (pf == 0) = false := by simpa using h0
      have H0 := Lib.hid h0
      clear h0
      go_wp2_with fail
      go_meet
      exact ⟨by rw [← HB1.out, decide_eq_false H0.out]; rfl, _, rfl, Below.refl _ _⟩
  case rest =>
  obtain ⟨rfl, w8, rfl, hb8⟩ := hcut
  have hsa8 := hsa7.below hb8
  have hst8 := hst7.trans (Stp.of_below hb8 (S := w.heap.size))
  have s8 := s7.below hb8
  have hz8 := hb8.size
  clear hsa7 hst7 s7 hb8 Hmem HM HB1
  go_upto_if 49 with (fail)
  go_cut [10] (fun v wx => v = .int .i64 wa ∧ w8 = wx)
  case first =>
    cases b1
    · go_wp2_with fail
      go_meet
      exact ⟨by rw [← HWa.out] <;> rfl, rfl⟩
    · go_wp2_with fail
      go_meet
      exact ⟨by rw [← HWa.out] <;> rfl, rfl⟩
  case rest =>
  obtain ⟨rfl, rfl⟩ := hcut
  clear HWa
  go_upto_region 7 with (fail)
  go_cut [59] (fun v wx => v = .bool b2 ∧ w8 = wx)
  case first =>
    by_cases h0 : wa = 0
    · have h0a : (wa == 0) = true := by simpa using h0
      have H0 := Lib.hid h0
      clear h0
      by_cases hd : how < 1
      · have hd1 : decide (how < 1) = true := decide_eq_true hd
        have Hd := Lib.hid hd
        clear hd
        go_wp2_with fail
        go_meet
        exact ⟨by rw [← HB2.out, decide_eq_true H0.out, decide_eq_true Hd.out]; rfl, rfl⟩
      · have hd1 : decide (how < 1) = false := decide_eq_false hd
        have Hd := Lib.hid hd
        clear hd
        go_wp2_with fail
        go_meet
        exact ⟨by rw [← HB2.out, decide_eq_true H0.out, decide_eq_false (by have := Hd.out; omega : ¬ how < 1)]; simp, rfl⟩
    · have h0a : (wa == 0) = false := by simpa using h0
      have H0 := Lib.hid h0
      clear h0
      go_wp2_with fail
      go_meet
      exact ⟨by rw [← HB2.out, decide_eq_false H0.out]; rfl, rfl⟩
  case rest =>
  obtain ⟨rfl, rfl⟩ := hcut
  clear HB2
  go_upto_if 59 with (fail)
  go_cut [10] (fun v wx => v = .int .i64 re ∧ w8 = wx)
  case first =>
    cases b2
    · go_wp2_with fail
      go_meet
      exact ⟨by rw [← Hre.out] <;> rfl, rfl⟩
    · go_wp2_with fail
      go_meet
      exact ⟨by rw [← Hre.out] <;> rfl, rfl⟩
  case rest =>
  obtain ⟨rfl, rfl⟩ := hcut
  clear Hre
  have hq1 : (re != re) = false := by simp
  go_upto_if 64 with (fail)
  go_cut [] (fun wx => ∃ W', W' = wx ∧ Below w8.heap.size w8 W')
  case first =>
    by_cases h0 : re = 0
    · have h0a : (re == 0) = true := by simpa using h0
      obtain ⟨g1, g2, g3⟩ := Hall.out h0
      have HR2 := Lib.hid (HRO2.out g1 g2 g3)
      have hq2 : (v1 != v1) = false := by simp
      have hq3 : (v2 != v2) = false := by simp
      clear g1 g2 g3 h0
      go_wp2_with fail
      refine (HR2.out _ hsa8).mono ?_
      rintro e w9 ⟨rfl, hb9⟩
      go_wp2_with fail
      go_meet
      exact ⟨_, rfl, hb9⟩
    · have h0a : (re == 0) = false := by simpa using h0
      clear h0
      go_wp2_with fail
      go_meet
      exact ⟨_, rfl, Below.refl _ _⟩
  case rest =>
  obtain ⟨w9, rfl, hb9⟩ := hcut
  have hst9 := hst8.trans (Stp.of_below hb9 (S := w.heap.size))
  have s9 := s8.below hb9
  have hz9 := hb9.size
  clear hsa8 hst8 s8 hb9 HRO2 Hall Hfm Hsm Hks hkn hlen
  go_wp2_with fail
  refine (fraction_any w.heap.size _ _ s9 (by omega)).mono ?_
  rintro e w10 ⟨p, q, rfl, h10, s10⟩
  have hst10 := hst9.trans h10
  have hz10 := h10.size
  clear hst9 h10 s9
  go_wp2_with fail
  refine (fraction_any w.heap.size _ _ s10 (by omega)).mono ?_
  rintro e w11 ⟨r, t, rfl, h11, s11⟩
  have hst11 := hst10.trans h11
  have hz11 := h11.size
  have hzw : w.heap.size < w11.heap.size := s11.lt
  clear hst10 h11 s10
  go_wp2_with fail
  refine (flip_any w.heap.size _ 2 _ ((s11.alloc _).alloc _) (by omega) (by omega) (by omega)).mono ?_
  rintro e w12 ⟨fl, rfl, h12, s12⟩
  have hF := ((Box.new w11 41 #[.int .i64 p, .int .i64 q]).alloc _).stp h12 (by omega)
  have hG := (Box.newAt (w11.alloc (.cells #[.int .i64 p, .int .i64 q] 41)) (w11.heap.size + 1) 41 #[.int .i64 r, .int .i64 t] (by simp)).stp h12 (by omega)
  have hst12 : Stp w.heap.size w w12 := ((hst11.alloc _).alloc _).trans h12
  have hb12 : Below w.heap.size w w12 := by have := hst12.below; rwa [Nat.min_self] at this
  clear hst11 h12 s11 s12 hst12
  generalize w11.heap.size = F at *
  go_upto_if 85 with (fail)
  go_cut [] (fun wx => ∃ W', W' = wx ∧ TwoAt w F (F + 1) W')
  case first =>
    cases fl
    · go_wp2_with fail
      go_meet
      exact ⟨_, rfl, p, q, r, t, hF, hG, hb12⟩
    · have hF_l := hF.lt; have hF_0 := hF.cell 0; have hF_1 := hF.cell 1; simp at hF_0 hF_1
      have hF_f0 := hF.frozen 0; have hF_f1 := hF.frozen 1
      obtain ⟨pn, hpn⟩ : ∃ pn, IntKind.i64.wrap (-p) = pn := ⟨_, rfl⟩
      go_wp2_with fail
      go_meet
      refine ⟨_, rfl, pn, q, r, t, ?_, hG.setOther ?_ _, hb12.setCell ?_ _⟩
      · have := hF.set 0 (.int .i64 pn)
        simpa using this
      · simp
      · simp; omega
  case rest =>
  obtain ⟨wx, rfl, p', q', r', t', hFa, hGa, hbx⟩ := hcut
  clear hF hG hb12
  have HSx := Lib.hid (fun W => signedRight_any p' q' W)
  have HSy := Lib.hid (fun W => signedRight_any r' t' W)
  have hFa_l := hFa.lt; have hFa_0 := hFa.cell 0; have hFa_1 := hFa.cell 1; simp at hFa_0 hFa_1
  have hGa_l := hGa.lt; have hGa_0 := hGa.cell 0; have hGa_1 := hGa.cell 1; simp at hGa_0 hGa_1
  go_wp2_with fail
  refine (compareP_any p' q' r' t' _).mono ?_
  rintro e wy ⟨rfl, hby⟩
  clear hFa_l hFa_0 hFa_1
  clear hGa_l hGa_0 hGa_1
  have hFy := hFa.below hby
  have hGy := hGa.below hby
  have hbwy := below_next hbx hby
  clear hFa hGa hbx hby
  have hFy_l := hFy.lt; have hFy_0 := hFy.cell 0; have hFy_1 := hFy.cell 1; simp at hFy_0 hFy_1
  have hGy_l := hGy.lt; have hGy_0 := hGy.cell 0; have hGy_1 := hGy.cell 1; simp at hGy_0 hGy_1
  cases hx : sgnB p' q'
  · have hE : compareE p' q' r' t' = 3 := by unfold compareE; rw [hx]; rfl
    rw [hE]
    rw [hx] at HSx
    generalize compareN p' q' r' t' = cn at *
    clear hE hx HSy
    go_wp2_with fail
    refine (HSx.out _).mono ?_
    rintro e wz ⟨rfl, hbz⟩
    have hbwz := below_next hbwy hbz
    go_wp2_with fail
    refine (scores_any _).mono ?_
    rintro e wv ⟨rfl, hbv⟩
    go_wp2_with fail
    go_ret
    exact ⟨rfl, below_next hbwz hbv⟩
  · rw [hx] at HSx
    cases hy : sgnB r' t'
    · have hE : compareE p' q' r' t' = 3 := by unfold compareE; rw [hy, hx]; rfl
      rw [hE]
      rw [hy] at HSy
      generalize compareN p' q' r' t' = cn at *
      clear hE hx hy
      go_wp2_with fail
      refine (HSx.out _).mono ?_
      rintro e wz ⟨rfl, hbz⟩
      have hGz := hGy.below hbz
      have hbwz := below_next hbwy hbz
      clear hFy_l hFy_0 hFy_1
      clear hGy_l hGy_0 hGy_1
      have hGz_l := hGz.lt; have hGz_0 := hGz.cell 0; have hGz_1 := hGz.cell 1; simp at hGz_0 hGz_1
      go_wp2_with fail
      refine (HSy.out _).mono ?_
      rintro e wu ⟨rfl, hbu⟩
      have hbwu := below_next hbwz hbu
      go_wp2_with fail
      refine (scores_any _).mono ?_
      rintro e wv ⟨rfl, hbv⟩
      go_wp2_with fail
      go_ret
      exact ⟨rfl, below_next hbwu hbv⟩
    · have hE : compareE p' q' r' t' = 0 := by unfold compareE; rw [hy, hx]; rfl
      obtain ⟨a1, a2, a3, a4, _⟩ := (sgnB_iff p' q').1 hx
      obtain ⟨b1', b2', b3, b4, _⟩ := (sgnB_iff r' t').1 hy
      have m1 := mul_sg a3 a4 b1' b2'
      have m2 := mul_sg b3 b4 a1 a2
      have HCo := Lib.hid (fun W => comparedOf_any p' q' r' t' W (by omega) (by omega) (by omega) (by omega))
      have hN : compareN p' q' r' t' = cmpZ (p' * t') (r' * q') := by unfold compareN; rw [hx, hy]; rfl
      rw [hE, hN]
      rw [hy] at HSy
      generalize cmpZ (p' * t') (r' * q') = cn at *
      clear hE hx hy hN m1 m2
      go_wp2_with fail
      refine (HSx.out _).mono ?_
      rintro e wz ⟨rfl, hbz⟩
      have hFz := hFy.below hbz
      have hGz := hGy.below hbz
      have hbwz := below_next hbwy hbz
      clear hFy_l hFy_0 hFy_1
      clear hGy_l hGy_0 hGy_1
      have hGz_l := hGz.lt; have hGz_0 := hGz.cell 0; have hGz_1 := hGz.cell 1; simp at hGz_0 hGz_1
      go_wp2_with fail
      refine (HSy.out _).mono ?_
      rintro e wu ⟨rfl, hbu⟩
      have hFu := hFz.below hbu
      have hGu := hGz.below hbu
      have hbwu := below_next hbwz hbu
      clear hGz_l hGz_0 hGz_1
      go_wp2_with fail
      refine (scores_any _).mono ?_
      rintro e wv ⟨rfl, hbv⟩
      have hFv := hFu.below hbv
      have hGv := hGu.below hbv
      have hbwv := below_next hbwu hbv
      have hFv_l := hFv.lt; have hFv_0 := hFv.cell 0; have hFv_1 := hFv.cell 1; simp at hFv_0 hFv_1
      have hGv_l := hGv.lt; have hGv_0 := hGv.cell 0; have hGv_1 := hGv.cell 1; simp at hGv_0 hGv_1
      go_wp2_with fail
      refine (HCo.out _).mono ?_
      rintro e wt ⟨rfl, hbt⟩
      have hqq : (cn == cn) = true := by simp
      go_wp2_with fail
      go_ret
      exact ⟨rfl, below_next hbwv hbt⟩
end Go.Proofs.YtgihommenknhoaaGreatDoor.placesRange
