/- What is wrong with an event by itself: formFault, selfFault of the program; eventFault of the reference. -/
import Derived.Test.YtnocceilpnmbpaaGreatDoorEv1
namespace Go.Proofs.YtnocceilpnmbpaaGreatDoor
open Go.RowKit
set_option linter.unusedVariables false
set_option linter.unusedSimpArgs false

theorem plainB_nil : plainB ⟨#[]⟩ = true := by kernel_rfl
theorem size_nil {s : ByteArray} (h : s.size = 0) : s = ⟨#[]⟩ := by
 apply toList_empty.1
 rw [isEmpty_size, decide_eq_true h]
theorem emp_yes {s : ByteArray} (h : s.size = 0) : s.toList = [] := List.isEmpty_iff.1 (by rw [isEmpty_size, decide_eq_true h])
theorem emp_no {s : ByteArray} (h : s.size ≠ 0) : s.toList.isEmpty = false ∧ s.toList ≠ [] := by
 have he2 : s.toList.isEmpty = false := by rw [isEmpty_size, decide_eq_false h]
 exact ⟨he2, fun h => by rw [h] at he2; cases he2⟩
theorem hasText_any (k : Int) (w : World) : Calls Tryz.prog 140 #[.int .i64 k] w (fun e w' => e = .returned (.bool (textK k)) ∧ w = w') := by
 unfold textK
 by_cases h1 : k = 1
 ·
  subst h1
  go_enter Tryz.func140, Tryz.ntmps140
  go_wp2_with fail
  go_ret
  exact ⟨rfl, rfl⟩
 ·
  by_cases h5 : k = 5
  ·
   subst h5
   go_enter Tryz.func140, Tryz.ntmps140
   go_wp2_with fail
   go_ret
   exact ⟨rfl, rfl⟩
  ·
   rw [decide_eq_false h1, decide_eq_false h5]
   have g1 : (k == 1) = false := beq_eq_false_iff_ne.2 h1
   have g5 : (k == 5) = false := beq_eq_false_iff_ne.2 h5
   clear h1 h5
   go_enter Tryz.func140, Tryz.ntmps140
   go_wp2_with fail
   go_ret
   exact ⟨rfl, rfl⟩
set_option maxRecDepth 100000 in
set_option maxHeartbeats 4000000 in
theorem formFault_any (x : Ev) (w : World) (hE : Env w) (hok : EvOk x) : Calls Tryz.prog 94 #[x.agg] w (Gives (.int .i64 (formF x)) w) := by
 obtain ⟨x1, x2, x3, x4, x5, x6, x7, x8, x9, xa, xc⟩ := x
 have hz2 := hok.desk; have hz6 := hok.who; have hz7 := hok.paper; have hz8 := hok.wth; have hz9 := hok.txt
 simp only at hz2 hz6 hz7 hz8 hz9
 clear hok
 obtain ⟨nb, hnb⟩ : ∃ b, ((!decide (x5 = 7) && !keyB x6) || (!keyB x7 || (decide (x5 = 6) && (decide (x8.size ≠ 0) && !keyB x8)))) = b := ⟨_, rfl⟩
 obtain ⟨fb, hfb⟩ : ∃ b, ((decide (x5 = 7) && decide (x6.size ≠ 0)) || (!decide (x5 = 6) && decide (x8.size ≠ 0))) = b := ⟨_, rfl⟩
 obtain ⟨tb, htb⟩ : ∃ b, ((textK x5 != decide (x9.size ≠ 0)) || (!plainB x9 || decide (200 < x9.size))) = b := ⟨_, rfl⟩
 have HF : Hid (formF ⟨x1, x2, x3, x4, x5, x6, x7, x8, x9, xa, xc⟩ = if nb then 5 else if fb then 3 else if tb then 3 else 0) := by
  show _ = _
  rw [← hnb, ← hfb, ← htb]; rfl
 generalize formF ⟨x1, x2, x3, x4, x5, x6, x7, x8, x9, xa, xc⟩ = ff at *
 have HK := Lib.hid (fun s W h => isKey_any s W h)
 obtain ⟨b7, h7⟩ : ∃ b, decide (x5 = 7) = b := ⟨_, rfl⟩
 obtain ⟨b6, h6⟩ : ∃ b, decide (x5 = 6) = b := ⟨_, rfl⟩
 rw [h7] at hnb hfb
 rw [h6] at hnb hfb
 have h7a : (x5 != 7) = !b7 := by rw [← h7]; by_cases h : x5 = 7 <;> simp [h]
 have h6a : (x5 == 6) = b6 := by rw [← h6]; by_cases h : x5 = 6 <;> simp [h]
 clear h7 h6
 have Hnb := Lib.hid hnb
 have Hfb := Lib.hid hfb
 have Htb := Lib.hid htb
 clear hnb hfb htb
 have hbx := Box.new w 53 #[.string x1, .string x2, .int .i64 x3, .slice xa x4.length xc, .int .i64 x5, .string x6, .string x7, .string x8, .string x9]
 have Hb0 := Lib.hid ((Below.refl w.heap.size w).alloc (Nat.le_refl _) (.cells #[.string x1, .string x2, .int .i64 x3, .slice xa x4.length xc, .int .i64 x5, .string x6, .string x7, .string x8, .string x9] 53))
 have Hbx := Lib.hid hbx
 have HE := Lib.hid hE
 clear hE
 unfold Ev.agg
 simp only
 go_enter Tryz.func94, Tryz.ntmps94
 go_upto_region 1 with (fail)
 generalize w.alloc (.cells #[.string x1, .string x2, .int .i64 x3, .slice xa x4.length xc, .int .i64 x5, .string x6, .string x7, .string x8, .string x9] 53) = W at *
 have hbx_l := hbx.lt; have hbx_0 := hbx.cell 0; have hbx_1 := hbx.cell 1; have hbx_2 := hbx.cell 2; have hbx_3 := hbx.cell 3; have hbx_4 := hbx.cell 4; have hbx_5 := hbx.cell 5; have hbx_6 := hbx.cell 6; have hbx_7 := hbx.cell 7; have hbx_8 := hbx.cell 8; simp at hbx_0 hbx_1 hbx_2 hbx_3 hbx_4 hbx_5 hbx_6 hbx_7 hbx_8
 go_quiet (fail)
 have hbx2 := Hbx.out.drewN nq
 have Hb2 : Hid (Below w.heap.size w (W.drewN nq)) := below_drewN Hb0.out nq
 generalize W.drewN nq = W2 at *
 clear hbx_l hbx_0 hbx_1 hbx_2 hbx_3 hbx_4 hbx_5 hbx_6 hbx_7 hbx_8
 clear hbx Hbx Hb0
 have hbx2_l := hbx2.lt; have hbx2_0 := hbx2.cell 0; have hbx2_1 := hbx2.cell 1; have hbx2_2 := hbx2.cell 2; have hbx2_3 := hbx2.cell 3; have hbx2_4 := hbx2.cell 4; have hbx2_5 := hbx2.cell 5; have hbx2_6 := hbx2.cell 6; have hbx2_7 := hbx2.cell 7; have hbx2_8 := hbx2.cell 8; simp at hbx2_0 hbx2_1 hbx2_2 hbx2_3 hbx2_4 hbx2_5 hbx2_6 hbx2_7 hbx2_8
 go_upto_region 2 with (fail)
 go_cut [11] (fun v wx => v = .bool nb ∧ wx = W2)
 case first =>
  cases b7
  ·
   go_wp2_with fail
   refine (HK.out x6 _ (by omega)).mono ?_
   rintro e w' ⟨rfl, rfl⟩
   cases h1 : keyB x6
   ·
    go_wp2_with fail
    go_meet
    exact ⟨by rw [← Hnb.out, h1] <;> rfl, rfl⟩
   ·
    rw [h1] at Hnb
    go_wp2_with fail
    refine (HK.out x7 _ (by omega)).mono ?_
    rintro e w' ⟨rfl, rfl⟩
    cases h2 : keyB x7
    ·
     go_wp2_with fail
     go_meet
     exact ⟨by rw [← Hnb.out, h2] <;> rfl, rfl⟩
    ·
     rw [h2] at Hnb
     cases b6
     ·
      go_wp2_with fail
      go_meet
      exact ⟨by rw [← Hnb.out] <;> rfl, rfl⟩
     ·
      by_cases h8 : x8.size = 0
      ·
       have he8 := emp_yes h8
       rw [decide_eq_false (fun h => h h8)] at Hnb
       go_wp2_with fail
       go_meet
       exact ⟨by rw [← Hnb.out] <;> rfl, rfl⟩
      ·
       obtain ⟨he8b, he8⟩ := emp_no h8
       rw [decide_eq_true h8] at Hnb
       go_wp2_with fail
       refine (HK.out x8 _ (by omega)).mono ?_
       rintro e w' ⟨rfl, rfl⟩
       cases h3 : keyB x8
       ·
        go_wp2_with fail
        go_meet
        exact ⟨by rw [← Hnb.out, h3] <;> rfl, rfl⟩
       ·
        go_wp2_with fail
        go_meet
        exact ⟨by rw [← Hnb.out, h3] <;> rfl, rfl⟩
  ·
   go_wp2_with fail
   refine (HK.out x7 _ (by omega)).mono ?_
   rintro e w' ⟨rfl, rfl⟩
   cases h2 : keyB x7
   ·
    go_wp2_with fail
    go_meet
    exact ⟨by rw [← Hnb.out, h2] <;> rfl, rfl⟩
   ·
    rw [h2] at Hnb
    cases b6
    ·
     go_wp2_with fail
     go_meet
     exact ⟨by rw [← Hnb.out] <;> rfl, rfl⟩
    ·
     by_cases h8 : x8.size = 0
     ·
      have he8 := emp_yes h8
      rw [decide_eq_false (fun h => h h8)] at Hnb
      go_wp2_with fail
      go_meet
      exact ⟨by rw [← Hnb.out] <;> rfl, rfl⟩
     ·
      obtain ⟨he8b, he8⟩ := emp_no h8
      rw [decide_eq_true h8] at Hnb
      go_wp2_with fail
      refine (HK.out x8 _ (by omega)).mono ?_
      rintro e w' ⟨rfl, rfl⟩
      cases h3 : keyB x8
      ·
       go_wp2_with fail
       go_meet
       exact ⟨by rw [← Hnb.out, h3] <;> rfl, rfl⟩
      ·
       go_wp2_with fail
       go_meet
       exact ⟨by rw [← Hnb.out, h3] <;> rfl, rfl⟩
 case rest =>
  obtain ⟨hso, rfl⟩ := hcut
  rw [hso]
  clear hso Hnb
  cases nb
  ·
   go_upto_region 4 with (fail)
   go_cut [39] (fun v wx => v = .bool fb ∧ wx = wc)
   case first =>
    cases b7
    ·
     cases b6
     ·
      by_cases h8 : x8.size = 0
      ·
       have he8 := emp_yes h8
       rw [decide_eq_false (show ¬ x8.size ≠ 0 from fun h => h h8)] at Hfb
       go_wp2_with fail
       go_meet
       exact ⟨by rw [← Hfb.out] <;> rfl, rfl⟩
      ·
       obtain ⟨he8b, he8⟩ := emp_no h8
       rw [decide_eq_true (show x8.size ≠ 0 from h8)] at Hfb
       go_wp2_with fail
       go_meet
       exact ⟨by rw [← Hfb.out] <;> rfl, rfl⟩
     ·
      go_wp2_with fail
      go_meet
      exact ⟨by rw [← Hfb.out] <;> rfl, rfl⟩
    ·
     by_cases h8 : x6.size = 0
     ·
      have he8 := emp_yes h8
      rw [decide_eq_false (fun h => h h8)] at Hfb
      cases b6
      ·
       by_cases h9 : x8.size = 0
       ·
        have he9 := emp_yes h9
        rw [decide_eq_false (fun h => h h9)] at Hfb
        go_wp2_with fail
        go_meet
        exact ⟨by rw [← Hfb.out] <;> rfl, rfl⟩
       ·
        obtain ⟨he9b, he9⟩ := emp_no h9
        rw [decide_eq_true h9] at Hfb
        go_wp2_with fail
        go_meet
        exact ⟨by rw [← Hfb.out] <;> rfl, rfl⟩
      ·
       go_wp2_with fail
       go_meet
       exact ⟨by rw [← Hfb.out] <;> rfl, rfl⟩
     ·
      obtain ⟨he8b, he8⟩ := emp_no h8
      rw [decide_eq_true h8] at Hfb
      go_wp2_with fail
      go_meet
      exact ⟨by rw [← Hfb.out] <;> rfl, rfl⟩
   case rest =>
    obtain ⟨hso, rfl⟩ := hcut
    rw [hso]
    clear hso Hfb
    cases fb
    ·
     go_upto_region 6 with (fail)
     go_cut [56] (fun v wx => v = .bool tb ∧ Below w.heap.size w wx)
     case first =>
      have HT := Lib.hid (fun W => hasText_any x5 W)
      have HPl := Lib.hid (fun W (hb : Below w.heap.size w W) => isPlain_any x9 W (HE.out.below hb) (by omega))
      generalize textK x5 = tk at *
      by_cases h9 : x9.size = 0
      ·
       have he1 := emp_yes h9
       have hp := plainB_nil
       rw [← size_nil h9] at hp
       have hg1 : ¬ (200 : Int) < (x9.size : Int) := by omega
       rw [decide_eq_false (fun h => h h9), hp, decide_eq_false (show ¬ 200 < x9.size by omega)] at Htb
       rw [hp] at HPl
       clear hp
       cases tk
       ·
        refine wp_region_held_drew (S := (fun wx => wx.cell? ⟨w.heap.size, 4, none⟩ = some (.int .i64 x5) ∧ wx.cell? ⟨w.heap.size, 8, none⟩ = some (.string x9) ∧ Below w.heap.size w wx)) (by kernel_rfl) ?hS (fun hHeld => ?_)
        case hS => exact ⟨hbx2_4, hbx2_8, Hb2.out.drew⟩
        refine rt 0 (some 57) ?_
        refine rt 1 (some 58) ?_
        refine rt 3 (some 60) ?_
        refine rt 4 (some 61) ?_
        refine rt 5 (some 62) ?_
        refine rcall (i := 2) (d := (some 59)) (by kernel_rfl) rfl (by kernel_rfl) (fun K hK => ?_)
        go_simp
        go_at_call 140; refine (HT.out _).mono ?_; rintro e w' ⟨rfl, rfl⟩
        refine hK.out _ _ ?hS (fun hHeld => ?_)
        case hS => exact hHeld
        clear hK K
        simp only [Act.put, lsetA, lsetZ, lsetS]
        refine rt 6 (some 63) ?_
        refine rt 7 (some 64) ?_
        refine rt 8 (some 65) ?_
        refine rt 9 (some 66) ?_
        refine rcall (i := 10) (d := (some 67)) (by kernel_rfl) rfl (by kernel_rfl) (fun K hK => ?_)
        rw [if_pos (by kernel_rfl)]; go_simp; go_at_call 141; refine (HPl.out _ hHeld.2.2).mono ?_; rintro e w' ⟨rfl, hbp⟩
        refine hK.out _ _ ?hS (fun hHeld => ?_)
        case hS => exact ⟨cell_later hbp hHeld.1, cell_later hbp hHeld.2.1, below_next hHeld.2.2 hbp⟩
        clear hK K
        simp only [Act.put, lsetA, lsetZ, lsetS]
        refine rt 11 (some 68) ?_
        refine rt 12 (some 69) ?_
        refine rt 13 (some 70) ?_
        refine rt 14 (some 71) ?_
        refine rt 15 (some 72) ?_
        refine rt 16 (some 73) ?_
        refine rt 17 (some 74) ?_
        refine rt 18 (some 75) ?_
        refine rt 19 (some 56) ?_
        refine wpAnyH_done (by kernel_rfl) ?_ _
        have Hb3 := Lib.hid hHeld.2.2
        go_wp2_with fail
        go_meet
        exact ⟨by rw [← Htb.out] <;> first | rfl | (congr 1; rw [Bool.eq_iff_iff]; simp; try omega), Hb3.out⟩
       ·
        refine wp_region_held_drew (S := (fun wx => wx.cell? ⟨w.heap.size, 4, none⟩ = some (.int .i64 x5) ∧ wx.cell? ⟨w.heap.size, 8, none⟩ = some (.string x9) ∧ Below w.heap.size w wx)) (by kernel_rfl) ?hS (fun hHeld => ?_)
        case hS => exact ⟨hbx2_4, hbx2_8, Hb2.out.drew⟩
        refine rt 0 (some 57) ?_
        refine rt 1 (some 58) ?_
        refine rt 3 (some 60) ?_
        refine rt 4 (some 61) ?_
        refine rt 5 (some 62) ?_
        refine rcall (i := 2) (d := (some 59)) (by kernel_rfl) rfl (by kernel_rfl) (fun K hK => ?_)
        go_simp
        go_at_call 140; refine (HT.out _).mono ?_; rintro e w' ⟨rfl, rfl⟩
        refine hK.out _ _ ?hS (fun hHeld => ?_)
        case hS => exact hHeld
        clear hK K
        simp only [Act.put, lsetA, lsetZ, lsetS]
        refine rt 6 (some 63) ?_
        refine rt 7 (some 64) ?_
        refine rs 8 (some 65) ?_
        refine rs 9 (some 66) ?_
        refine rcall (i := 10) (d := (some 67)) (by kernel_rfl) rfl (by kernel_rfl) (fun K hK => ?_)
        rw [if_neg (by rw [show Region.wanted _ _ = false by kernel_rfl]; decide)]
        refine hK.out _ _ ?hS (fun hHeld => ?_)
        case hS => exact hHeld
        clear hK K
        simp only [Act.put, lsetA, lsetZ, lsetS]
        refine rs 11 (some 68) ?_
        refine rt 12 (some 69) ?_
        refine rt 13 (some 70) ?_
        refine rs 14 (some 71) ?_
        refine rs 15 (some 72) ?_
        refine rs 16 (some 73) ?_
        refine rs 17 (some 74) ?_
        refine rt 18 (some 75) ?_
        refine rt 19 (some 56) ?_
        refine wpAnyH_done (by kernel_rfl) ?_ _
        have Hb3 := Lib.hid hHeld.2.2
        go_wp2_with fail
        go_meet
        exact ⟨by rw [← Htb.out] <;> first | rfl | (congr 1; rw [Bool.eq_iff_iff]; simp; try omega), Hb3.out⟩
      ·
       obtain ⟨he2, he1⟩ := emp_no h9
       rw [decide_eq_true h9] at Htb
       cases tk
       ·
        refine wp_region_held_drew (S := (fun wx => wx.cell? ⟨w.heap.size, 4, none⟩ = some (.int .i64 x5) ∧ wx.cell? ⟨w.heap.size, 8, none⟩ = some (.string x9) ∧ Below w.heap.size w wx)) (by kernel_rfl) ?hS (fun hHeld => ?_)
        case hS => exact ⟨hbx2_4, hbx2_8, Hb2.out.drew⟩
        refine rt 0 (some 57) ?_
        refine rt 1 (some 58) ?_
        refine rt 3 (some 60) ?_
        refine rt 4 (some 61) ?_
        refine rt 5 (some 62) ?_
        refine rcall (i := 2) (d := (some 59)) (by kernel_rfl) rfl (by kernel_rfl) (fun K hK => ?_)
        go_simp
        go_at_call 140; refine (HT.out _).mono ?_; rintro e w' ⟨rfl, rfl⟩
        refine hK.out _ _ ?hS (fun hHeld => ?_)
        case hS => exact hHeld
        clear hK K
        simp only [Act.put, lsetA, lsetZ, lsetS]
        refine rt 6 (some 63) ?_
        refine rt 7 (some 64) ?_
        refine rs 8 (some 65) ?_
        refine rs 9 (some 66) ?_
        refine rcall (i := 10) (d := (some 67)) (by kernel_rfl) rfl (by kernel_rfl) (fun K hK => ?_)
        rw [if_neg (by rw [show Region.wanted _ _ = false by kernel_rfl]; decide)]
        refine hK.out _ _ ?hS (fun hHeld => ?_)
        case hS => exact hHeld
        clear hK K
        simp only [Act.put, lsetA, lsetZ, lsetS]
        refine rs 11 (some 68) ?_
        refine rt 12 (some 69) ?_
        refine rt 13 (some 70) ?_
        refine rs 14 (some 71) ?_
        refine rs 15 (some 72) ?_
        refine rs 16 (some 73) ?_
        refine rs 17 (some 74) ?_
        refine rt 18 (some 75) ?_
        refine rt 19 (some 56) ?_
        refine wpAnyH_done (by kernel_rfl) ?_ _
        have Hb3 := Lib.hid hHeld.2.2
        go_wp2_with fail
        go_meet
        exact ⟨by rw [← Htb.out] <;> first | rfl | (congr 1; rw [Bool.eq_iff_iff]; simp; try omega), Hb3.out⟩
       ·
        refine wp_region_held_drew (S := (fun wx => wx.cell? ⟨w.heap.size, 4, none⟩ = some (.int .i64 x5) ∧ wx.cell? ⟨w.heap.size, 8, none⟩ = some (.string x9) ∧ Below w.heap.size w wx)) (by kernel_rfl) ?hS (fun hHeld => ?_)
        case hS => exact ⟨hbx2_4, hbx2_8, Hb2.out.drew⟩
        refine rt 0 (some 57) ?_
        refine rt 1 (some 58) ?_
        refine rt 3 (some 60) ?_
        refine rt 4 (some 61) ?_
        refine rt 5 (some 62) ?_
        refine rcall (i := 2) (d := (some 59)) (by kernel_rfl) rfl (by kernel_rfl) (fun K hK => ?_)
        go_simp
        go_at_call 140; refine (HT.out _).mono ?_; rintro e w' ⟨rfl, rfl⟩
        refine hK.out _ _ ?hS (fun hHeld => ?_)
        case hS => exact hHeld
        clear hK K
        simp only [Act.put, lsetA, lsetZ, lsetS]
        refine rt 6 (some 63) ?_
        refine rt 7 (some 64) ?_
        refine rt 8 (some 65) ?_
        refine rt 9 (some 66) ?_
        cases hp : plainB x9
        ·
         rw [hp] at HPl Htb
         refine rcall (i := 10) (d := (some 67)) (by kernel_rfl) rfl (by kernel_rfl) (fun K hK => ?_)
         rw [if_pos (by kernel_rfl)]; go_simp; go_at_call 141; refine (HPl.out _ hHeld.2.2).mono ?_; rintro e w' ⟨rfl, hbp⟩
         refine hK.out _ _ ?hS (fun hHeld => ?_)
         case hS => exact ⟨cell_later hbp hHeld.1, cell_later hbp hHeld.2.1, below_next hHeld.2.2 hbp⟩
         clear hK K
         simp only [Act.put, lsetA, lsetZ, lsetS]
         refine rt 11 (some 68) ?_
         refine rt 12 (some 69) ?_
         refine rt 13 (some 70) ?_
         refine rs 14 (some 71) ?_
         refine rs 15 (some 72) ?_
         refine rs 16 (some 73) ?_
         refine rs 17 (some 74) ?_
         refine rt 18 (some 75) ?_
         refine rt 19 (some 56) ?_
         refine wpAnyH_done (by kernel_rfl) ?_ _
         have Hb3 := Lib.hid hHeld.2.2
         go_wp2_with fail
         go_meet
         exact ⟨by rw [← Htb.out] <;> first | rfl | (congr 1; rw [Bool.eq_iff_iff]; simp; try omega), Hb3.out⟩
        ·
         rw [hp] at HPl Htb
         refine rcall (i := 10) (d := (some 67)) (by kernel_rfl) rfl (by kernel_rfl) (fun K hK => ?_)
         rw [if_pos (by kernel_rfl)]; go_simp; go_at_call 141; refine (HPl.out _ hHeld.2.2).mono ?_; rintro e w' ⟨rfl, hbp⟩
         refine hK.out _ _ ?hS (fun hHeld => ?_)
         case hS => exact ⟨cell_later hbp hHeld.1, cell_later hbp hHeld.2.1, below_next hHeld.2.2 hbp⟩
         clear hK K
         simp only [Act.put, lsetA, lsetZ, lsetS]
         refine rt 11 (some 68) ?_
         refine rt 12 (some 69) ?_
         refine rt 13 (some 70) ?_
         refine rt 14 (some 71) ?_
         refine rt 15 (some 72) ?_
         refine rt 16 (some 73) ?_
         refine rt 17 (some 74) ?_
         refine rt 18 (some 75) ?_
         refine rt 19 (some 56) ?_
         refine wpAnyH_done (by kernel_rfl) ?_ _
         have Hb3 := Lib.hid hHeld.2.2
         go_wp2_with fail
         go_meet
         exact ⟨by rw [← Htb.out] <;> first | rfl | (congr 1; rw [Bool.eq_iff_iff]; simp; try omega), Hb3.out⟩
     case rest =>
      obtain ⟨hso, hb3⟩ := hcut
      rw [hso]
      have Hb3 := Lib.hid hb3
      clear hso Htb hb3
      cases tb
      ·
       go_wp2_with fail
       go_ret
       exact ⟨by rw [HF.out] <;> rfl, Hb3.out⟩
      ·
       go_wp2_with fail
       go_ret
       exact ⟨by rw [HF.out] <;> rfl, Hb3.out⟩
    ·
     go_wp2_with fail
     go_ret
     exact ⟨by rw [HF.out] <;> rfl, Hb2.out⟩
  ·
   go_wp2_with fail
   go_ret
   exact ⟨by rw [HF.out] <;> rfl, Hb2.out⟩
set_option maxRecDepth 100000 in
set_option maxHeartbeats 4000000 in
theorem selfFault_any (x : Ev) (w : World) (hE : Env w) (hok : EvOk x) (hrd : ERd w x) : Calls Tryz.prog 49 #[x.agg] w (Gives (.int .i64 (selfF x)) w) := by
 have HFF := Lib.hid (fun W (hb : Below w.heap.size w W) => formFault_any x W (hE.below hb) hok)
 have HSS := Lib.hid (fun W (hb : Below w.heap.size w W) => sumsFault_any x.after x.a x.c W (hrd.1.below hb) (by have := hok.len; omega) hok.after)
 obtain ⟨hF, HSF⟩ : ∃ hF, hF = headF x := ⟨_, rfl⟩
 have HS : Hid (selfF x = if headF x ≠ 0 then headF x else if 20 < x.after.length then 2 else sumsF x.after) := rfl
 have HH : Hid (headF x = if keyB x.desk = false then 5 else if momB x.at_ = false then 1 else if x.kind < 1 ∨ 7 < x.kind then 4 else formF x) := rfl
 have hln := hok.len
 generalize headF x = hf at *
 generalize selfF x = sf at *
 generalize formF x = ff at *
 generalize sumsF x.after = ss at *
 clear HSF hF
 obtain ⟨x1, x2, x3, x4, x5, x6, x7, x8, x9, xa, xc⟩ := x
 have hz2 := hok.desk; have hz6 := hok.who; have hz7 := hok.paper; have hz8 := hok.wth; have hz9 := hok.txt
 simp only at hz2 hz6 hz7 hz8 hz9
 simp only at HH HS HSS HFF hln
 clear hok hrd hE
 unfold Ev.agg at HFF ⊢
 simp only at HFF ⊢
 have hbx := Box.new w 53 #[.string x1, .string x2, .int .i64 x3, .slice xa x4.length xc, .int .i64 x5, .string x6, .string x7, .string x8, .string x9]
 have hb0 := (Below.refl w.heap.size w).alloc (Nat.le_refl _) (.cells #[.string x1, .string x2, .int .i64 x3, .slice xa x4.length xc, .int .i64 x5, .string x6, .string x7, .string x8, .string x9] 53)
 go_enter Tryz.func49, Tryz.ntmps49
 go_upto_region 1 with (fail)
 generalize w.alloc (.cells #[.string x1, .string x2, .int .i64 x3, .slice xa x4.length xc, .int .i64 x5, .string x6, .string x7, .string x8, .string x9] 53) = W at *
 have Hb0 := Lib.hid hb0
 have Hbx := Lib.hid hbx
 have hbx_l := hbx.lt; have hbx_0 := hbx.cell 0; have hbx_1 := hbx.cell 1; have hbx_2 := hbx.cell 2; have hbx_3 := hbx.cell 3; have hbx_4 := hbx.cell 4; have hbx_5 := hbx.cell 5; have hbx_6 := hbx.cell 6; have hbx_7 := hbx.cell 7; have hbx_8 := hbx.cell 8; simp at hbx_0 hbx_1 hbx_2 hbx_3 hbx_4 hbx_5 hbx_6 hbx_7 hbx_8
 go_wp2_with fail
 refine (isKey_any x2 _ (by omega)).mono ?_
 rintro e w' ⟨rfl, rfl⟩
 cases h1 : keyB x2
 ·
  rw [h1] at HH
  have Hv := Lib.hid (show sf = 5 by rw [HS.out, HH.out]; rfl)
  go_wp2_with fail
  go_ret
  exact ⟨by rw [Hv.out] <;> rfl, Hb0.out⟩
 rw [h1, if_neg (by decide)] at HH
 go_wp2_with fail
 refine (isMoment_any x3 _).mono ?_
 rintro e w' ⟨rfl, rfl⟩
 cases h2 : momB x3
 ·
  rw [h2] at HH
  have Hv := Lib.hid (show sf = 1 by rw [HS.out, HH.out]; rfl)
  go_wp2_with fail
  go_ret
  exact ⟨by rw [Hv.out] <;> rfl, Hb0.out⟩
 rw [h2, if_neg (by decide)] at HH
 go_wp2_with fail
 by_cases h3 : x5 < 1 ∨ 7 < x5
 ·
  rw [if_pos h3] at HH
  have Hv := Lib.hid (show sf = 4 by rw [HS.out, HH.out]; rfl)
  refine (outside_yes x5 1 7 _ h3).mono ?_
  rintro e w' ⟨rfl, rfl⟩
  clear h3
  go_wp2_with fail
  go_ret
  exact ⟨by rw [Hv.out] <;> rfl, Hb0.out⟩
 rw [if_neg h3] at HH
 refine (outside_no x5 1 7 _ (by omega) (by omega)).mono ?_
 rintro e w' ⟨rfl, rfl⟩
 clear h3
 go_wp2_with fail
 refine (HFF.out _ Hb0.out).mono ?_
 rintro e w1 ⟨rfl, hb1⟩
 have hb1' := below_next Hb0.out hb1
 have hbx1 := Hbx.out.below hb1
 rw [HH.out] at HS
 clear hbx_l hbx_0 hbx_1 hbx_2 hbx_3 hbx_4 hbx_5 hbx_6 hbx_7 hbx_8
 clear hbx hb0 hb1 Hb0 Hbx
 have hbx1_l := hbx1.lt; have hbx1_0 := hbx1.cell 0; have hbx1_1 := hbx1.cell 1; have hbx1_2 := hbx1.cell 2; have hbx1_3 := hbx1.cell 3; have hbx1_4 := hbx1.cell 4; have hbx1_5 := hbx1.cell 5; have hbx1_6 := hbx1.cell 6; have hbx1_7 := hbx1.cell 7; have hbx1_8 := hbx1.cell 8; simp at hbx1_0 hbx1_1 hbx1_2 hbx1_3 hbx1_4 hbx1_5 hbx1_6 hbx1_7 hbx1_8
 by_cases h4 : ff = 0
 ·
  rw [if_neg (fun h => h h4)] at HS
  have hq : (ff != 0) = false := by simpa using h4
  clear h4
  by_cases h5 : 20 < x4.length
  ·
   have Hv := Lib.hid (show sf = 2 by rw [HS.out, if_pos h5])
   go_wp2_with fail
   go_ret
   exact ⟨by rw [Hv.out] <;> rfl, hb1'⟩
  ·
   rw [if_neg h5] at HS
   go_wp2_with fail
   refine (HSS.out _ hb1').mono ?_
   rintro e w2 ⟨rfl, hb2⟩
   go_wp2_with fail
   go_ret
   exact ⟨by rw [HS.out] <;> rfl, below_next hb1' hb2⟩
 ·
  rw [if_pos h4] at HS
  have hq : (ff != 0) = true := by simpa using h4
  clear h4
  go_wp2_with fail
  go_ret
  exact ⟨by rw [HS.out] <;> rfl, hb1'⟩
end Go.Proofs.YtnocceilpnmbpaaGreatDoor
