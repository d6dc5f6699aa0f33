/- What is wrong with an event by itself: eventFault of the reference. -/
import Derived.Test.YtnocceilpnmbpaaGreatDoorEv2
namespace Go.Proofs.YtnocceilpnmbpaaGreatDoor
open Go.RowKit
set_option linter.unusedVariables false
set_option linter.unusedSimpArgs false

set_option maxRecDepth 100000 in
set_option maxHeartbeats 4000000 in
theorem eventFault_any (x : Ev) (w : World) (hE : Env w) (hok : EvOk x) : Calls Tryz.prog 53 #[x.agg] w (Gives (.int .i64 (headF x)) w) := by
 obtain ⟨x1, x2, x3, x4, x5, x6, x7, x8, x9, xa, xc⟩ := x
 have hz2 := hok.desk; have hz6 := hok.who; have hz7 := hok.paper; have hz8 := hok.wth; have hz9 := hok.txt
 simp only at hz2 hz6 hz7 hz8 hz9
 clear hok
 obtain ⟨a1, ha1⟩ : ∃ b, (!decide (x5 = 7) && !keyB x6) = b := ⟨_, rfl⟩
 obtain ⟨a3, ha3⟩ : ∃ b, (decide (x5 = 6) && (decide (x8.size ≠ 0) && !keyB x8)) = b := ⟨_, rfl⟩
 obtain ⟨f1, hf1⟩ : ∃ b, (decide (x5 = 7) && decide (x6.size ≠ 0)) = b := ⟨_, rfl⟩
 obtain ⟨f2, hf2⟩ : ∃ b, (!decide (x5 = 6) && decide (x8.size ≠ 0)) = b := ⟨_, rfl⟩
 obtain ⟨f3, hf3⟩ : ∃ b, (!textK x5 && decide (x9.size ≠ 0)) = b := ⟨_, rfl⟩
 obtain ⟨f4, hf4⟩ : ∃ b, (textK x5 && (!decide (x9.size ≠ 0) || (!plainB x9 || decide (200 < x9.size)))) = b := ⟨_, rfl⟩
 have hT3 : ((textK x5 != decide (x9.size ≠ 0)) || (!plainB x9 || decide (200 < x9.size))) = (f3 || f4) := by
  rw [← hf3, ← hf4]
  by_cases h0 : x9.size = 0
  ·
   have hp := plainB_nil
   rw [← size_nil h0] at hp
   rw [decide_eq_false (fun h => h h0), hp, decide_eq_false (show ¬ 200 < x9.size by omega)]
   cases textK x5 <;> rfl
  ·
   rw [decide_eq_true h0]
   cases textK x5 <;> simp
 have HH : Hid (headF ⟨x1, x2, x3, x4, x5, x6, x7, x8, x9, xa, xc⟩ = if keyB x2 = false then 5 else if momB x3 = false then 1 else if x5 < 1 ∨ 7 < x5 then 4 else if a1 || (!keyB x7 || a3) then 5 else if f1 || f2 then 3 else if f3 || f4 then 3 else 0) := by
  show _ = _
  rw [← hT3, ← ha1, ← ha3, ← hf1, ← hf2]; rfl
 clear hT3
 generalize headF ⟨x1, x2, x3, x4, x5, x6, x7, x8, x9, xa, xc⟩ = hf at *
 have HK := Lib.hid (fun s W h => keyOf_any s W h)
 obtain ⟨b7, h7⟩ : ∃ b, decide (x5 = 7) = b := ⟨_, rfl⟩
 obtain ⟨b6, h6⟩ : ∃ b, decide (x5 = 6) = b := ⟨_, rfl⟩
 obtain ⟨tk, htk⟩ : ∃ b, textK x5 = b := ⟨_, rfl⟩
 rw [h7] at ha1 hf1
 rw [h6] at ha3 hf2
 rw [htk] at hf3 hf4
 have h7a : (x5 == 7) = b7 := by rw [← h7]; by_cases h : x5 = 7 <;> simp [h]
 have h6a : (x5 == 6) = b6 := by rw [← h6]; by_cases h : x5 = 6 <;> simp [h]
 have h6b : (x5 != 6) = !b6 := by rw [← h6]; by_cases h : x5 = 6 <;> simp [h]
 clear h7 h6
 have Htk := Lib.hid htk
 have Ha1 := Lib.hid ha1
 have Ha3 := Lib.hid ha3
 have Hf1 := Lib.hid hf1
 have Hf2 := Lib.hid hf2
 have Hf3 := Lib.hid hf3
 have Hf4 := Lib.hid hf4
 clear htk ha1 ha3 hf1 hf2 hf3 hf4
 have hbx := Box.new w 53 #[.string x1, .string x2, .int .i64 x3, .slice xa x4.length xc, .int .i64 x5, .string x6, .string x7, .string x8, .string x9]
 have Hb := Lib.hid ((Below.refl w.heap.size w).alloc (Nat.le_refl _) (.cells #[.string x1, .string x2, .int .i64 x3, .slice xa x4.length xc, .int .i64 x5, .string x6, .string x7, .string x8, .string x9] 53))
 have Hbx := Lib.hid hbx
 have HE := Lib.hid hE
 have HPl := Lib.hid (fun W (hb : Below w.heap.size w W) => plainOf_any x9 W (HE.out.below hb) (by omega))
 clear hE HE
 unfold Ev.agg
 simp only
 go_enter Tryz.func53, Tryz.ntmps53
 go_upto_region 1 with (fail)
 generalize w.alloc (.cells #[.string x1, .string x2, .int .i64 x3, .slice xa x4.length xc, .int .i64 x5, .string x6, .string x7, .string x8, .string x9] 53) = W at *
 have hbx_l := hbx.lt; have hbx_0 := hbx.cell 0; have hbx_1 := hbx.cell 1; have hbx_2 := hbx.cell 2; have hbx_3 := hbx.cell 3; have hbx_4 := hbx.cell 4; have hbx_5 := hbx.cell 5; have hbx_6 := hbx.cell 6; have hbx_7 := hbx.cell 7; have hbx_8 := hbx.cell 8; simp at hbx_0 hbx_1 hbx_2 hbx_3 hbx_4 hbx_5 hbx_6 hbx_7 hbx_8
 go_cut [3] (fun v wx => v = .bool tk ∧ wx = W)
 case first =>
  by_cases h1 : x5 = 1
  ·
   have h1a : (x5 == 1) = true := by simp [h1]
   have Hv : Hid (tk = true) := by show _ = _; rw [← Htk.out]; unfold textK; rw [decide_eq_true h1]; rfl
   clear h1
   go_wp2_with fail
   go_meet
   exact ⟨by (rw [Hv.out]) <;> first | rfl | (simp; omega), rfl⟩
  ·
   have h1a : (x5 == 1) = false := beq_eq_false_iff_ne.2 h1
   by_cases h5 : x5 = 5
   ·
    have h5a : (x5 == 5) = true := by simp [h5]
    have Hv : Hid (tk = true) := by show _ = _; rw [← Htk.out]; unfold textK; rw [decide_eq_true h5]; simp
    clear h1 h5
    go_wp2_with fail
    go_meet
    exact ⟨by (rw [Hv.out]) <;> first | rfl | (simp; omega), rfl⟩
   ·
    have h5a : (x5 == 5) = false := beq_eq_false_iff_ne.2 h5
    have Hv : Hid (tk = false) := by show _ = _; rw [← Htk.out]; unfold textK; rw [decide_eq_false h1, decide_eq_false h5]; rfl
    clear h1 h5
    go_wp2_with fail
    go_meet
    exact ⟨by (rw [Hv.out]) <;> first | rfl | (simp; omega), rfl⟩
 case rest =>
  obtain ⟨hso, rfl⟩ := hcut
  rw [hso]
  clear hso Htk
  go_wp2_with fail
  refine (HK.out x2 _ (by omega)).mono ?_
  rintro e w1 ⟨rfl, hbq⟩
  have HbN : Hid (Below w.heap.size w w1) := below_next Hb.out hbq
  have HbxN := Lib.hid (Hbx.out.below hbq)
  clear hbx_l hbx_0 hbx_1 hbx_2 hbx_3 hbx_4 hbx_5 hbx_6 hbx_7 hbx_8
  clear hbx Hb Hbx
  have Hb := HbN
  have Hbx := HbxN
  have hbx := Hbx.out
  clear HbN HbxN
  have hbx_l := hbx.lt; have hbx_0 := hbx.cell 0; have hbx_1 := hbx.cell 1; have hbx_2 := hbx.cell 2; have hbx_3 := hbx.cell 3; have hbx_4 := hbx.cell 4; have hbx_5 := hbx.cell 5; have hbx_6 := hbx.cell 6; have hbx_7 := hbx.cell 7; have hbx_8 := hbx.cell 8; simp at hbx_0 hbx_1 hbx_2 hbx_3 hbx_4 hbx_5 hbx_6 hbx_7 hbx_8
  cases h1 : keyB x2
  ·
   have Hv := Lib.hid (show hf = 5 by rw [HH.out]; rw [h1]; rfl)
   go_wp2_with fail
   go_ret
   exact ⟨by rw [Hv.out] <;> rfl, Hb.out⟩
  rw [h1, if_neg (by decide)] at HH
  go_wp2_with fail
  refine (moment_any x3 _).mono ?_
  rintro e w' ⟨rfl, rfl⟩
  cases h2 : momB x3
  ·
   have Hv := Lib.hid (show hf = 1 by rw [HH.out]; rw [h2]; rfl)
   go_wp2_with fail
   go_ret
   exact ⟨by rw [Hv.out] <;> rfl, Hb.out⟩
  rw [h2, if_neg (by decide)] at HH
  by_cases h3 : x5 < 1
  ·
   have Hv := Lib.hid (show hf = 4 by rw [HH.out]; rw [if_pos (.inl h3)])
   go_wp2_with fail
   go_ret
   exact ⟨by rw [Hv.out] <;> rfl, Hb.out⟩
  by_cases h4 : 7 < x5
  ·
   have Hv := Lib.hid (show hf = 4 by rw [HH.out]; rw [if_pos (.inr h4)])
   go_wp2_with fail
   go_ret
   exact ⟨by rw [Hv.out] <;> rfl, Hb.out⟩
  rw [if_neg (by omega)] at HH
  go_upto_region 9 with (fail)
  clear h3 h4
  go_cut [35] (fun v wx => v = .bool a1 ∧ Below w1.heap.size w1 wx)
  case first =>
   cases b7
   ·
    go_wp2_with fail
    refine (HK.out x6 _ (by omega)).mono ?_
    rintro e w2 ⟨rfl, hb9⟩
    cases hk : keyB x6
    ·
     go_wp2_with fail
     go_meet
     exact ⟨by (rw [← Ha1.out, hk]) <;> first | rfl | (simp; omega), hb9⟩
    ·
     go_wp2_with fail
     go_meet
     exact ⟨by (rw [← Ha1.out, hk]) <;> first | rfl | (simp; omega), hb9⟩
   ·
    go_wp2_with fail
    go_meet
    exact ⟨by (rw [← Ha1.out]) <;> first | rfl | (simp; omega), Below.refl _ _⟩
  case rest =>
   obtain ⟨hso, hb9⟩ := hcut
   rw [hso]
   clear hso Ha1
   have HbN : Hid (Below w.heap.size w wc) := below_next Hb.out hb9
   have HbxN := Lib.hid (Hbx.out.below hb9)
   clear hbx_l hbx_0 hbx_1 hbx_2 hbx_3 hbx_4 hbx_5 hbx_6 hbx_7 hbx_8
   clear hbx Hb Hbx
   have Hb := HbN
   have Hbx := HbxN
   have hbx := Hbx.out
   clear HbN HbxN
   have hbx_l := hbx.lt; have hbx_0 := hbx.cell 0; have hbx_1 := hbx.cell 1; have hbx_2 := hbx.cell 2; have hbx_3 := hbx.cell 3; have hbx_4 := hbx.cell 4; have hbx_5 := hbx.cell 5; have hbx_6 := hbx.cell 6; have hbx_7 := hbx.cell 7; have hbx_8 := hbx.cell 8; simp at hbx_0 hbx_1 hbx_2 hbx_3 hbx_4 hbx_5 hbx_6 hbx_7 hbx_8
   cases a1
   ·
    go_wp2_with fail
    refine (HK.out x7 _ (by omega)).mono ?_
    rintro e w2 ⟨rfl, hb8⟩
    have HbN : Hid (Below w.heap.size w w2) := below_next Hb.out hb8
    have HbxN := Lib.hid (Hbx.out.below hb8)
    clear hbx_l hbx_0 hbx_1 hbx_2 hbx_3 hbx_4 hbx_5 hbx_6 hbx_7 hbx_8
    clear hbx Hb Hbx
    have Hb := HbN
    have Hbx := HbxN
    have hbx := Hbx.out
    clear HbN HbxN
    have hbx_l := hbx.lt; have hbx_0 := hbx.cell 0; have hbx_1 := hbx.cell 1; have hbx_2 := hbx.cell 2; have hbx_3 := hbx.cell 3; have hbx_4 := hbx.cell 4; have hbx_5 := hbx.cell 5; have hbx_6 := hbx.cell 6; have hbx_7 := hbx.cell 7; have hbx_8 := hbx.cell 8; simp at hbx_0 hbx_1 hbx_2 hbx_3 hbx_4 hbx_5 hbx_6 hbx_7 hbx_8
    cases h5 : keyB x7
    ·
     have Hv := Lib.hid (show hf = 5 by rw [HH.out]; rw [h5]; rfl)
     go_wp2_with fail
     go_ret
     exact ⟨by rw [Hv.out] <;> rfl, Hb.out⟩
    rw [h5] at HH
    go_upto_region 11 with (fail)
    go_cut [35] (fun v wx => v = .bool a3 ∧ Below w2.heap.size w2 wx)
    case first =>
     cases b6
     ·
      go_wp2_with fail
      go_meet
      exact ⟨by (rw [← Ha3.out]) <;> first | rfl | (simp; omega), Below.refl _ _⟩
     ·
      by_cases h8 : x8.size = 0
      ·
       have he8 := emp_yes h8
       rw [decide_eq_false (fun h => h h8)] at Ha3
       go_wp2_with fail
       go_meet
       exact ⟨by (rw [← Ha3.out]) <;> first | rfl | (simp; omega), Below.refl _ _⟩
      ·
       obtain ⟨he8b, he8⟩ := emp_no h8
       rw [decide_eq_true h8] at Ha3
       go_wp2_with fail
       refine (HK.out x8 _ (by omega)).mono ?_
       rintro e w3 ⟨rfl, hb7⟩
       cases hk : keyB x8
       ·
        go_wp2_with fail
        go_meet
        exact ⟨by (rw [← Ha3.out, hk]) <;> first | rfl | (simp; omega), hb7⟩
       ·
        go_wp2_with fail
        go_meet
        exact ⟨by (rw [← Ha3.out, hk]) <;> first | rfl | (simp; omega), hb7⟩
    case rest =>
     obtain ⟨hso, hb7⟩ := hcut
     rw [hso]
     clear hso Ha3
     have HbN : Hid (Below w.heap.size w wc) := below_next Hb.out hb7
     have HbxN := Lib.hid (Hbx.out.below hb7)
     clear hbx_l hbx_0 hbx_1 hbx_2 hbx_3 hbx_4 hbx_5 hbx_6 hbx_7 hbx_8
     clear hbx Hb Hbx
     have Hb := HbN
     have Hbx := HbxN
     have hbx := Hbx.out
     clear HbN HbxN
     have hbx_l := hbx.lt; have hbx_0 := hbx.cell 0; have hbx_1 := hbx.cell 1; have hbx_2 := hbx.cell 2; have hbx_3 := hbx.cell 3; have hbx_4 := hbx.cell 4; have hbx_5 := hbx.cell 5; have hbx_6 := hbx.cell 6; have hbx_7 := hbx.cell 7; have hbx_8 := hbx.cell 8; simp at hbx_0 hbx_1 hbx_2 hbx_3 hbx_4 hbx_5 hbx_6 hbx_7 hbx_8
     cases a3
     ·
      obtain ⟨w4, hw4⟩ : ∃ w4, w4 = wc := ⟨_, rfl⟩
      rw [← hw4] at hbx hbx_l hbx_0 hbx_1 hbx_2 hbx_3 hbx_4 hbx_5 hbx_6 hbx_7 hbx_8 Hb Hbx ⊢
      clear hb7 hw4
      go_upto_region 13 with (fail)
      go_cut [62] (fun v wx => v = .bool f1 ∧ wx = w4)
      case first =>
       cases b7
       ·
        go_wp2_with fail
        go_meet
        exact ⟨by (rw [← Hf1.out]) <;> first | rfl | (simp; omega), rfl⟩
       ·
        by_cases h8 : x6.size = 0
        ·
         have he8 := emp_yes h8
         rw [decide_eq_false (fun h => h h8)] at Hf1
         go_wp2_with fail
         go_meet
         exact ⟨by (rw [← Hf1.out]) <;> first | rfl | (simp; omega), rfl⟩
        ·
         obtain ⟨he8b, he8⟩ := emp_no h8
         rw [decide_eq_true h8] at Hf1
         go_wp2_with fail
         go_meet
         exact ⟨by (rw [← Hf1.out]) <;> first | rfl | (simp; omega), rfl⟩
      case rest =>
       obtain ⟨hso, rfl⟩ := hcut
       rw [hso]
       clear hso Hf1
       cases f1
       ·
        go_upto_region 14 with (fail)
        go_cut [62] (fun v wx => v = .bool f2 ∧ wx = wc)
        case first =>
         cases b6
         ·
          by_cases h8 : x8.size = 0
          ·
           have he8 := emp_yes h8
           rw [decide_eq_false (fun h => h h8)] at Hf2
           go_wp2_with fail
           go_meet
           exact ⟨by (rw [← Hf2.out]) <;> first | rfl | (simp; omega), rfl⟩
          ·
           obtain ⟨he8b, he8⟩ := emp_no h8
           rw [decide_eq_true h8] at Hf2
           go_wp2_with fail
           go_meet
           exact ⟨by (rw [← Hf2.out]) <;> first | rfl | (simp; omega), rfl⟩
         ·
          go_wp2_with fail
          go_meet
          exact ⟨by (rw [← Hf2.out]) <;> first | rfl | (simp; omega), rfl⟩
        case rest =>
         obtain ⟨hso, rfl⟩ := hcut
         rw [hso]
         clear hso Hf2
         cases f2
         ·
          go_upto_region 15 with (fail)
          go_cut [62] (fun v wx => v = .bool f3 ∧ wx = wc)
          case first =>
           cases tk
           ·
            by_cases h8 : x9.size = 0
            ·
             have he8 := emp_yes h8
             rw [decide_eq_false (fun h => h h8)] at Hf3
             go_wp2_with fail
             go_meet
             exact ⟨by (rw [← Hf3.out]) <;> first | rfl | (simp; omega), rfl⟩
            ·
             obtain ⟨he8b, he8⟩ := emp_no h8
             rw [decide_eq_true h8] at Hf3
             go_wp2_with fail
             go_meet
             exact ⟨by (rw [← Hf3.out]) <;> first | rfl | (simp; omega), rfl⟩
           ·
            go_wp2_with fail
            go_meet
            exact ⟨by (rw [← Hf3.out]) <;> first | rfl | (simp; omega), rfl⟩
          case rest =>
           obtain ⟨hso, rfl⟩ := hcut
           rw [hso]
           clear hso Hf3
           cases f3
           ·
            go_upto_region 17 with (fail)
            go_cut [84] (fun v wx => v = .bool f4 ∧ Below w.heap.size w wx)
            case first =>
             cases tk
             ·
              go_wp2_with fail
              go_meet
              exact ⟨by (rw [← Hf4.out]) <;> first | rfl | (simp; omega), Hb.out⟩
             ·
              by_cases h8 : x9.size = 0
              ·
               have he8 := emp_yes h8
               rw [decide_eq_false (fun h => h h8)] at Hf4
               go_wp2_with fail
               go_meet
               exact ⟨by (rw [← Hf4.out]) <;> first | rfl | (simp; omega), Hb.out⟩
              ·
               obtain ⟨he8b, he8⟩ := emp_no h8
               rw [decide_eq_true h8] at Hf4
               go_wp2_with fail
               refine (HPl.out _ Hb.out).mono ?_
               rintro e w5 ⟨rfl, hb6⟩
               have HbN : Hid (Below w.heap.size w w5) := below_next Hb.out hb6
               have HbxN := Lib.hid (Hbx.out.below hb6)
               clear hbx_l hbx_0 hbx_1 hbx_2 hbx_3 hbx_4 hbx_5 hbx_6 hbx_7 hbx_8
               clear hbx Hb Hbx
               have Hb := HbN
               have Hbx := HbxN
               have hbx := Hbx.out
               clear HbN HbxN
               have hbx_l := hbx.lt; have hbx_0 := hbx.cell 0; have hbx_1 := hbx.cell 1; have hbx_2 := hbx.cell 2; have hbx_3 := hbx.cell 3; have hbx_4 := hbx.cell 4; have hbx_5 := hbx.cell 5; have hbx_6 := hbx.cell 6; have hbx_7 := hbx.cell 7; have hbx_8 := hbx.cell 8; simp at hbx_0 hbx_1 hbx_2 hbx_3 hbx_4 hbx_5 hbx_6 hbx_7 hbx_8
               cases hp : plainB x9
               ·
                go_wp2_with fail
                go_meet
                exact ⟨by (rw [← Hf4.out, hp]) <;> first | rfl | (simp; omega), Hb.out⟩
               ·
                by_cases hg : 200 < x9.size
                ·
                 have hg1 : (200 : Int) < (x9.size : Int) := by omega
                 rw [decide_eq_true hg] at Hf4
                 go_wp2_with fail
                 go_meet
                 exact ⟨by (rw [← Hf4.out, hp]) <;> first | rfl | (simp; omega), Hb.out⟩
                ·
                 have hg1 : ¬ (200 : Int) < (x9.size : Int) := by omega
                 rw [decide_eq_false hg] at Hf4
                 go_wp2_with fail
                 go_meet
                 exact ⟨by (rw [← Hf4.out, hp]) <;> first | rfl | (simp; omega), Hb.out⟩
            case rest =>
             obtain ⟨hso, hb5⟩ := hcut
             rw [hso]
             have Hb := Lib.hid hb5
             clear hso Hf4 hb5
             cases f4
             ·
              have Hv := Lib.hid (show hf = 0 by rw [HH.out]; rfl)
              go_wp2_with fail
              go_ret
              exact ⟨by rw [Hv.out] <;> rfl, Hb.out⟩
             ·
              have Hv := Lib.hid (show hf = 3 by rw [HH.out]; rfl)
              go_wp2_with fail
              go_ret
              exact ⟨by rw [Hv.out] <;> rfl, Hb.out⟩
           ·
            have Hv := Lib.hid (show hf = 3 by rw [HH.out]; rfl)
            go_wp2_with fail
            go_ret
            exact ⟨by rw [Hv.out] <;> rfl, Hb.out⟩
         ·
          have Hv := Lib.hid (show hf = 3 by rw [HH.out]; rfl)
          go_wp2_with fail
          go_ret
          exact ⟨by rw [Hv.out] <;> rfl, Hb.out⟩
       ·
        have Hv := Lib.hid (show hf = 3 by rw [HH.out]; rfl)
        go_wp2_with fail
        go_ret
        exact ⟨by rw [Hv.out] <;> rfl, Hb.out⟩
     ·
      have Hv := Lib.hid (show hf = 5 by rw [HH.out]; rfl)
      go_wp2_with fail
      go_ret
      exact ⟨by rw [Hv.out] <;> rfl, Hb.out⟩
   ·
    have Hv := Lib.hid (show hf = 5 by rw [HH.out]; rfl)
    go_wp2_with fail
    go_ret
    exact ⟨by rw [Hv.out] <;> rfl, Hb.out⟩
end Go.Proofs.YtnocceilpnmbpaaGreatDoor
