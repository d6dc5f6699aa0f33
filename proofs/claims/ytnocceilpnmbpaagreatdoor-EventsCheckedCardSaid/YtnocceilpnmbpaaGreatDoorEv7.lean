/- EventsFault of the reference. -/
import Derived.Test.YtnocceilpnmbpaaGreatDoorEv6
namespace Go.Proofs.YtnocceilpnmbpaaGreatDoor
open Go.RowKit
set_option linter.unusedVariables false
set_option linter.unusedSimpArgs false

set_option maxRecDepth 100000 in
set_option maxHeartbeats 8000000 in
theorem eventsFault_any (s : List Ev) (a : Option Addr) (cap : Nat) (w : World) (hE : EnvE w) (hs : EvsAt w a s) (hl : s.length ≤ 1000000) (hok : ∀ e ∈ s, EvOk e) :
  Calls Tryz.prog 10 #[.slice a s.length cap] w (Gives (.tuple #[.int .i64 (evsRes s).1, .int .i64 (evsRes s).2]) w) := by
 by_cases h15 : 1500 < s.length
 ·
  rw [evsRes_large h15]
  go_enter Tryz.func10, Tryz.ntmps10
  go_wp2_with fail
  go_ret2
  exact ⟨rfl, Below.refl _ _⟩
 have H15 := Lib.hid h15
 have hln : ¬ (1500 : Int) < (s.length : Int) := by omega
 clear h15
 have HS := Lib.hid (fun W (h : Below w.heap.size w W) => hs.below h)
 have HE := Lib.hid (fun W (h : Below w.heap.size w W) => hE.below h)
 have HOK := Lib.hid hok
 clear hs hE hok
 go_enter Tryz.func10, Tryz.ntmps10
 go_wp2_with fail
 go_loopg [18] s.length (fun gk i wr => ∃ k : Nat, i = .int .i64 k ∧ k ≤ s.length ∧ Hid (gk = s.length - k) ∧ Hid (∀ j, j < k → evE s j = 0) ∧ Below w.heap.size w wr)
 case atStart => exact ⟨0, rfl, by omega, rfl, fun j hj => by omega, Below.refl _ _⟩
 case round =>
  obtain ⟨k, rfl, hk, hgk, hf0, hb⟩ := hrel
  by_cases hlt : k < s.length
  ·
   obtain ⟨b, off, ha, c0, c1, c2, c3, c4, c5, c6, c7, c8⟩ := (HS.out _ hb).1.ev hlt
   have HX := Lib.hid (evE_is hlt)
   have hmem := List.getElem_mem hlt
   have hxs := (HOK.out _ hmem).sum
   have HHead := Lib.hid (fun W (h : Below w.heap.size w W) => eventFault_any s[k] W (HE.out _ h).1 (HOK.out _ hmem))
   have HSms := Lib.hid (fun W (h : Below w.heap.size w W) => refSums_any s[k].after s[k].a s[k].c W ((HS.out _ h).2 _ hmem).1 (by have := (HOK.out _ hmem).len; omega) (HOK.out _ hmem).after)
   have hxl := (HOK.out _ hmem).len
   have HSF : Hid (selfF s[k] = if headF s[k] ≠ 0 then headF s[k] else if 20 < s[k].after.length then 2 else sumsF s[k].after) := rfl
   have HSum := Lib.hid (fun W (h : Below w.heap.size w W) => eventSum_any s[k] W (HE.out _ h) (HOK.out _ hmem) ((HS.out _ h).2 _ hmem))
   have Hfe := Lib.hid (fun (e : Int) he he0 => evsRes_first (er := e) H15.out hlt hf0.out he he0)
   clear hmem
   have Ha := Lib.hid ha
   rw [ha]
   clear ha
   generalize hx : s[k] = x at *
   have Hx := Lib.hid (congrArg Ev.sum hx)
   clear hx
   generalize evSum x = sm at *
   generalize selfF x = sf at *
   generalize headF x = hf at *
   generalize sumsF x.after = ss at *
   unfold Ev.agg at HHead HSum
   obtain ⟨x1, x2, x3, x4, x5, x6, x7, x8, x9, xa, xc⟩ := x
   simp only at c0 c1 c2 c3 c4 c5 c6 c7 c8 HX HHead HSum HSms HSF hxs hxl Hx
   have hz := hb.size
   have hbx := Box.new wr 53 #[.string x1, .string x2, .int .i64 x3, .slice xa x4.length xc, .int .i64 x5, .string x6, .string x7, .string x8, .string x9]
   have Hb := Lib.hid (hb.alloc (show w.heap.size ≤ wr.heap.size by omega) (.cells #[.string x1, .string x2, .int .i64 x3, .slice xa x4.length xc, .int .i64 x5, .string x6, .string x7, .string x8, .string x9] 53))
   go_upto_region 6 with (fail)
   generalize wr.alloc (.cells #[.string x1, .string x2, .int .i64 x3, .slice xa x4.length xc, .int .i64 x5, .string x6, .string x7, .string x8, .string x9] 53) = W at *
   generalize wr.heap.size = q at *
   clear c0 c1 c2 c3 c4 c5 c6 c7 c8 hb
   have Hbx := Lib.hid hbx
   have hbx_l := hbx.lt; have hbx_0 := hbx.cell 0; have hbx_1 := hbx.cell 1; have hbx_2 := hbx.cell 2; have hbx_3 := hbx.cell 3; have hbx_4 := hbx.cell 4; have hbx_5 := hbx.cell 5; have hbx_6 := hbx.cell 6; have hbx_7 := hbx.cell 7; have hbx_8 := hbx.cell 8; simp at hbx_0 hbx_1 hbx_2 hbx_3 hbx_4 hbx_5 hbx_6 hbx_7 hbx_8
   go_wp2_with fail
   refine (refSum_any x1 _ (by omega)).mono ?_
   rintro e w1 ⟨rfl, hbq⟩
   have HbN : Hid (Below w.heap.size w w1) := below_next Hb.out hbq
   have HbxN := Lib.hid (Hbx.out.below hbq)
   clear hbx_l hbx_0 hbx_1 hbx_2 hbx_3 hbx_4 hbx_5 hbx_6 hbx_7 hbx_8
   clear hbx Hb Hbx
   have Hb := HbN
   have Hbx := HbxN
   have hbx := Hbx.out
   clear HbN HbxN
   have hbx_l := hbx.lt; have hbx_0 := hbx.cell 0; have hbx_1 := hbx.cell 1; have hbx_2 := hbx.cell 2; have hbx_3 := hbx.cell 3; have hbx_4 := hbx.cell 4; have hbx_5 := hbx.cell 5; have hbx_6 := hbx.cell 6; have hbx_7 := hbx.cell 7; have hbx_8 := hbx.cell 8; simp at hbx_0 hbx_1 hbx_2 hbx_3 hbx_4 hbx_5 hbx_6 hbx_7 hbx_8
   cases h1 : sumB x1
   ·
    rw [h1] at HX
    have Hv := Lib.hid (show evsRes s = ((k : Int), 3) from Hfe.out 3 (by rw [HX.out]; rfl) (by decide))
    go_wp2_with fail
    go_ret2
    exact ⟨by rw [Hv.out] <;> rfl, Hb.out⟩
   rw [h1, if_neg (by decide)] at HX
   go_upto_region 16 with (fail)
   go_cut [52] (fun v wx => v = .bool (ordB (s.map (·.sum)) k) ∧ ∃ n, wx = w1.drewN n)
   case first =>
    have ha := Ha.out
    by_cases hk0 : k = 0
    ·
     have hd : decide (0 < k) = false := by simp [hk0]
     have hd' : decide ((0 : Int) < (k : Int)) = false := by simp [hk0]
     have ho0 : ordB (s.map (·.sum)) k = false := by rw [hk0]; rfl
     have Ho := Lib.hid ho0
     clear hk0 ho0
     go_wp2_with fail
     go_quiet (fail); go_wp2_with fail
     go_meet
     exact ⟨by rw [Ho.out] <;> rfl, _, rfl⟩
    ·
     obtain ⟨p, hp⟩ : ∃ p, k = p + 1 := ⟨k - 1, by omega⟩
     have hpl : p < s.length := by omega
     obtain ⟨b', off', ha', d0, d1, d2, d3, d4, d5, d6, d7, d8⟩ := (HS.out _ Hb.out).1.ev hpl; generalize hy : s[p].sum = y at *; have Hy := Lib.hid hy; clear hy d1 d2 d3 d4 d5 d6 d7 d8
     rw [ha] at ha'
     cases ha'
     have Ho := Lib.hid (ordB_at (ks := (s.map (·.sum))) (k := k) (p := p) (x := x1) (y := y) hp (by have := Hx.out; simp [List.getElem?_eq_getElem hlt, this]) (by have := Hy.out; simp [List.getElem?_eq_getElem hpl, this]))
     have hwp : IntKind.i64.wrap ((k : Int) - 1) = (p : Int) := by rw [hp, IntWalk.i64_in _ (by omega)]; omega
     have hk1 : 0 < k := by omega
     have hk2 : (0 : Int) < (k : Int) := by omega
     have hp1 : (0 : Int) ≤ (p : Int) := by omega
     have hp2 : (p : Int) < (s.length : Int) := by omega
     have hp3 : (k : Int) - 1 = (p : Int) := by omega
     have Hp := Lib.hid hp
     clear hp hk0
     go_wp2_with fail
     go_quiet (fail); go_wp2_with fail
     go_meet
     exact ⟨by rw [Ho.out] <;> rfl, _, rfl⟩
   case rest =>
    obtain ⟨hso, n, rfl⟩ := hcut
    rw [hso]
    clear hso
    obtain ⟨w2, hw2⟩ : ∃ w2, w2 = w1.drewN n := ⟨_, rfl⟩
    have hbd : Below w1.heap.size w1 w2 := by rw [hw2]; exact below_drewN (Below.refl _ _) n
    rw [← hw2]
    clear hw2
    have HbN : Hid (Below w.heap.size w w2) := below_next Hb.out hbd
    have HbxN := Lib.hid (Hbx.out.below hbd)
    clear hbx_l hbx_0 hbx_1 hbx_2 hbx_3 hbx_4 hbx_5 hbx_6 hbx_7 hbx_8
    clear hbx Hb Hbx
    have Hb := HbN
    have Hbx := HbxN
    have hbx := Hbx.out
    clear HbN HbxN
    have hbx_l := hbx.lt; have hbx_0 := hbx.cell 0; have hbx_1 := hbx.cell 1; have hbx_2 := hbx.cell 2; have hbx_3 := hbx.cell 3; have hbx_4 := hbx.cell 4; have hbx_5 := hbx.cell 5; have hbx_6 := hbx.cell 6; have hbx_7 := hbx.cell 7; have hbx_8 := hbx.cell 8; simp at hbx_0 hbx_1 hbx_2 hbx_3 hbx_4 hbx_5 hbx_6 hbx_7 hbx_8
    cases hob : ordB (s.map (·.sum)) k
    ·
     rw [hob, if_neg (by decide)] at HX
     go_wp2_with fail
     refine (HHead.out _ Hb.out).mono ?_
     rintro e w3 ⟨rfl, hbr⟩
     have HbN : Hid (Below w.heap.size w w3) := below_next Hb.out hbr
     have HbxN := Lib.hid (Hbx.out.below hbr)
     clear hbx_l hbx_0 hbx_1 hbx_2 hbx_3 hbx_4 hbx_5 hbx_6 hbx_7 hbx_8
     clear hbx Hb Hbx
     have Hb := HbN
     have Hbx := HbxN
     have hbx := Hbx.out
     clear HbN HbxN
     have hbx_l := hbx.lt; have hbx_0 := hbx.cell 0; have hbx_1 := hbx.cell 1; have hbx_2 := hbx.cell 2; have hbx_3 := hbx.cell 3; have hbx_4 := hbx.cell 4; have hbx_5 := hbx.cell 5; have hbx_6 := hbx.cell 6; have hbx_7 := hbx.cell 7; have hbx_8 := hbx.cell 8; simp at hbx_0 hbx_1 hbx_2 hbx_3 hbx_4 hbx_5 hbx_6 hbx_7 hbx_8
     clear hbd hbq hbr
     by_cases hhf : hf = 0
     ·
      rw [if_neg (fun h => h hhf)] at HSF
      subst hhf
      by_cases h20 : 20 < x4.length
      ·
       have h20i : (20 : Int) < (x4.length : Int) := by omega
       rw [if_pos h20] at HSF
       rw [HSF.out, if_pos (by decide)] at HX
       go_upto_region 12 with (fail)
       refine wp_region_held_drew (S := (fun wx => wx.cell? ⟨q, 0, none⟩ = some (.string x1) ∧ wx.cell? ⟨q, 1, none⟩ = some (.string x2) ∧ wx.cell? ⟨q, 2, none⟩ = some (.int .i64 x3) ∧ wx.cell? ⟨q, 3, none⟩ = some (.slice xa x4.length xc) ∧ wx.cell? ⟨q, 4, none⟩ = some (.int .i64 x5) ∧ wx.cell? ⟨q, 5, none⟩ = some (.string x6) ∧ wx.cell? ⟨q, 6, none⟩ = some (.string x7) ∧ wx.cell? ⟨q, 7, none⟩ = some (.string x8) ∧ wx.cell? ⟨q, 8, none⟩ = some (.string x9) ∧ Below w.heap.size w wx)) (by kernel_rfl) ?hS (fun hHeld => ?_)
       case hS => exact ⟨hbx_0, hbx_1, hbx_2, hbx_3, hbx_4, hbx_5, hbx_6, hbx_7, hbx_8, Hb.out.drew⟩
       refine rt 0 (some 38) ?_
       refine rt 1 (some 39) ?_
       refine rt 2 (some 40) ?_
       refine rs 3 (some 41) ?_
       refine rs 4 (some 42) ?_
       refine rs 5 (some 43) ?_
       refine rcall (i := 6) (d := (some 44)) (by kernel_rfl) rfl (by kernel_rfl) (fun K hK => ?_)
       rw [if_neg (by rw [show Region.wanted _ _ = false by kernel_rfl]; decide)]
       refine hK.out _ _ ?hS (fun hHeld => ?_)
       case hS => exact hHeld
       clear hK K
       simp only [Act.put, lsetA, lsetZ, lsetS]
       refine rs 7 (some 45) ?_
       refine rt 8 (some 46) ?_
       refine wpAnyH_done (by kernel_rfl) ?_ _
       have Hb := Lib.hid hHeld.2.2.2.2.2.2.2.2.2
       have Hv := Lib.hid (show evsRes s = ((k : Int), 2) from Hfe.out 2 HX.out (by decide))
       go_wp2_with fail
       go_ret2
       exact ⟨by rw [Hv.out] <;> rfl, Hb.out⟩
      ·
       have h20i : ¬ (20 : Int) < (x4.length : Int) := by omega
       rw [if_neg h20] at HSF
       rw [HSF.out] at HX
       go_wp2_with fail
       refine (HSms.out _ Hb.out).mono ?_
       rintro e w4 ⟨rfl, hb4⟩
       have HbN : Hid (Below w.heap.size w w4) := below_next Hb.out hb4
       have HbxN := Lib.hid (Hbx.out.below hb4)
       clear hbx_l hbx_0 hbx_1 hbx_2 hbx_3 hbx_4 hbx_5 hbx_6 hbx_7 hbx_8
       clear hbx Hb Hbx
       have Hb := HbN
       have Hbx := HbxN
       have hbx := Hbx.out
       clear HbN HbxN
       have hbx_l := hbx.lt; have hbx_0 := hbx.cell 0; have hbx_1 := hbx.cell 1; have hbx_2 := hbx.cell 2; have hbx_3 := hbx.cell 3; have hbx_4 := hbx.cell 4; have hbx_5 := hbx.cell 5; have hbx_6 := hbx.cell 6; have hbx_7 := hbx.cell 7; have hbx_8 := hbx.cell 8; simp at hbx_0 hbx_1 hbx_2 hbx_3 hbx_4 hbx_5 hbx_6 hbx_7 hbx_8
       clear hb4
       by_cases hss : ss = 0
       ·
        rw [if_neg (fun h => h hss)] at HX
        subst hss
        go_upto_region 12 with (fail)
        by_cases hsm : x1 = sm
        ·
         rw [if_neg (fun h => h hsm)] at HX
         subst hsm
         refine wp_region_held_drew (S := (fun wx => wx.cell? ⟨q, 0, none⟩ = some (.string x1) ∧ wx.cell? ⟨q, 1, none⟩ = some (.string x2) ∧ wx.cell? ⟨q, 2, none⟩ = some (.int .i64 x3) ∧ wx.cell? ⟨q, 3, none⟩ = some (.slice xa x4.length xc) ∧ wx.cell? ⟨q, 4, none⟩ = some (.int .i64 x5) ∧ wx.cell? ⟨q, 5, none⟩ = some (.string x6) ∧ wx.cell? ⟨q, 6, none⟩ = some (.string x7) ∧ wx.cell? ⟨q, 7, none⟩ = some (.string x8) ∧ wx.cell? ⟨q, 8, none⟩ = some (.string x9) ∧ Below w.heap.size w wx)) (by kernel_rfl) ?hS (fun hHeld => ?_)
         case hS => exact ⟨hbx_0, hbx_1, hbx_2, hbx_3, hbx_4, hbx_5, hbx_6, hbx_7, hbx_8, Hb.out.drew⟩
         refine rt 0 (some 38) ?_
         refine rt 1 (some 39) ?_
         refine rt 2 (some 40) ?_
         refine rt 3 (some 41) ?_
         refine rt 4 (some 42) ?_
         refine rt 5 (some 43) ?_
         refine rcall (i := 6) (d := (some 44)) (by kernel_rfl) rfl (by kernel_rfl) (fun K hK => ?_)
         rw [if_pos (by kernel_rfl)]; go_simp; go_at_call 44; refine (HSum.out _ hHeld.2.2.2.2.2.2.2.2.2).mono ?_; rintro e w' ⟨rfl, hbs⟩
         refine hK.out _ _ ?hS (fun hHeld => ?_)
         case hS => exact ev9_later hHeld hbs
         clear hK K
         simp only [Act.put, lsetA, lsetZ, lsetS]
         refine rt 7 (some 45) ?_
         refine rt 8 (some 46) ?_
         refine wpAnyH_done (by kernel_rfl) ?_ _
         have Hb3 := Lib.hid hHeld.2.2.2.2.2.2.2.2.2
         clear hbx_l hbx_0 hbx_1 hbx_2 hbx_3 hbx_4 hbx_5 hbx_6 hbx_7 hbx_8
         clear hbx hHeld Hbx Hb
         go_wp2_with fail
         rw [← Ha.out]
         go_roundg (s.length - (k + 1))
         case measure => have := hgk.out; omega
         case rel => exact ⟨k + 1, by go_num, by omega, rfl, zeros_succ hf0.out HX.out, Hb3.out⟩
        ·
         rw [if_pos hsm] at HX
         have q1 := tl_ne hsm
         have q2 := tl_ne' hsm
         have q3 : ¬ x1.toList = sm.toList := fun h => hsm (toList_inj.1 h)
         clear hsm
         refine wp_region_held_drew (S := (fun wx => wx.cell? ⟨q, 0, none⟩ = some (.string x1) ∧ wx.cell? ⟨q, 1, none⟩ = some (.string x2) ∧ wx.cell? ⟨q, 2, none⟩ = some (.int .i64 x3) ∧ wx.cell? ⟨q, 3, none⟩ = some (.slice xa x4.length xc) ∧ wx.cell? ⟨q, 4, none⟩ = some (.int .i64 x5) ∧ wx.cell? ⟨q, 5, none⟩ = some (.string x6) ∧ wx.cell? ⟨q, 6, none⟩ = some (.string x7) ∧ wx.cell? ⟨q, 7, none⟩ = some (.string x8) ∧ wx.cell? ⟨q, 8, none⟩ = some (.string x9) ∧ Below w.heap.size w wx)) (by kernel_rfl) ?hS (fun hHeld => ?_)
         case hS => exact ⟨hbx_0, hbx_1, hbx_2, hbx_3, hbx_4, hbx_5, hbx_6, hbx_7, hbx_8, Hb.out.drew⟩
         refine rt 0 (some 38) ?_
         refine rt 1 (some 39) ?_
         refine rt 2 (some 40) ?_
         refine rt 3 (some 41) ?_
         refine rt 4 (some 42) ?_
         refine rt 5 (some 43) ?_
         refine rcall (i := 6) (d := (some 44)) (by kernel_rfl) rfl (by kernel_rfl) (fun K hK => ?_)
         rw [if_pos (by kernel_rfl)]; go_simp; go_at_call 44; refine (HSum.out _ hHeld.2.2.2.2.2.2.2.2.2).mono ?_; rintro e w' ⟨rfl, hbs⟩
         refine hK.out _ _ ?hS (fun hHeld => ?_)
         case hS => exact ev9_later hHeld hbs
         clear hK K
         simp only [Act.put, lsetA, lsetZ, lsetS]
         refine rt 7 (some 45) ?_
         refine rt 8 (some 46) ?_
         refine wpAnyH_done (by kernel_rfl) ?_ _
         have Hb := Lib.hid hHeld.2.2.2.2.2.2.2.2.2
         have Hv := Lib.hid (show evsRes s = ((k : Int), 15) from Hfe.out 15 HX.out (by decide))
         go_wp2_with fail
         go_ret2
         exact ⟨by rw [Hv.out] <;> rfl, Hb.out⟩
       ·
        rw [if_pos hss] at HX
        have hq0 : (ss == 0) = false := beq_eq_false_iff_ne.2 hss
        have hq : (ss != 0) = true := by simpa using hss
        have Hv := Lib.hid (show evsRes s = ((k : Int), ss) from Hfe.out ss HX.out hss)
        clear hss
        go_upto_region 12 with (fail)
        refine wp_region_held_drew (S := (fun wx => wx.cell? ⟨q, 0, none⟩ = some (.string x1) ∧ wx.cell? ⟨q, 1, none⟩ = some (.string x2) ∧ wx.cell? ⟨q, 2, none⟩ = some (.int .i64 x3) ∧ wx.cell? ⟨q, 3, none⟩ = some (.slice xa x4.length xc) ∧ wx.cell? ⟨q, 4, none⟩ = some (.int .i64 x5) ∧ wx.cell? ⟨q, 5, none⟩ = some (.string x6) ∧ wx.cell? ⟨q, 6, none⟩ = some (.string x7) ∧ wx.cell? ⟨q, 7, none⟩ = some (.string x8) ∧ wx.cell? ⟨q, 8, none⟩ = some (.string x9) ∧ Below w.heap.size w wx)) (by kernel_rfl) ?hS (fun hHeld => ?_)
        case hS => exact ⟨hbx_0, hbx_1, hbx_2, hbx_3, hbx_4, hbx_5, hbx_6, hbx_7, hbx_8, Hb.out.drew⟩
        refine rt 0 (some 38) ?_
        refine rt 1 (some 39) ?_
        refine rt 2 (some 40) ?_
        refine rs 3 (some 41) ?_
        refine rs 4 (some 42) ?_
        refine rs 5 (some 43) ?_
        refine rcall (i := 6) (d := (some 44)) (by kernel_rfl) rfl (by kernel_rfl) (fun K hK => ?_)
        rw [if_neg (by rw [show Region.wanted _ _ = false by kernel_rfl]; decide)]
        refine hK.out _ _ ?hS (fun hHeld => ?_)
        case hS => exact hHeld
        clear hK K
        simp only [Act.put, lsetA, lsetZ, lsetS]
        refine rs 7 (some 45) ?_
        refine rt 8 (some 46) ?_
        refine wpAnyH_done (by kernel_rfl) ?_ _
        have Hb := Lib.hid hHeld.2.2.2.2.2.2.2.2.2
        go_wp2_with fail
        go_ret2
        exact ⟨by rw [Hv.out] <;> rfl, Hb.out⟩
     ·
      rw [if_pos hhf] at HSF
      rw [HSF.out, if_pos hhf] at HX
      have hq0 : (hf == 0) = false := beq_eq_false_iff_ne.2 hhf
      have hq : (hf != 0) = true := by simpa using hhf
      have Hv := Lib.hid (show evsRes s = ((k : Int), hf) from Hfe.out hf HX.out hhf)
      clear hhf
      go_upto_region 12 with (fail)
      refine wp_region_held_drew (S := (fun wx => wx.cell? ⟨q, 0, none⟩ = some (.string x1) ∧ wx.cell? ⟨q, 1, none⟩ = some (.string x2) ∧ wx.cell? ⟨q, 2, none⟩ = some (.int .i64 x3) ∧ wx.cell? ⟨q, 3, none⟩ = some (.slice xa x4.length xc) ∧ wx.cell? ⟨q, 4, none⟩ = some (.int .i64 x5) ∧ wx.cell? ⟨q, 5, none⟩ = some (.string x6) ∧ wx.cell? ⟨q, 6, none⟩ = some (.string x7) ∧ wx.cell? ⟨q, 7, none⟩ = some (.string x8) ∧ wx.cell? ⟨q, 8, none⟩ = some (.string x9) ∧ Below w.heap.size w wx)) (by kernel_rfl) ?hS (fun hHeld => ?_)
      case hS => exact ⟨hbx_0, hbx_1, hbx_2, hbx_3, hbx_4, hbx_5, hbx_6, hbx_7, hbx_8, Hb.out.drew⟩
      refine rt 0 (some 38) ?_
      refine rt 1 (some 39) ?_
      refine rt 2 (some 40) ?_
      refine rs 3 (some 41) ?_
      refine rs 4 (some 42) ?_
      refine rs 5 (some 43) ?_
      refine rcall (i := 6) (d := (some 44)) (by kernel_rfl) rfl (by kernel_rfl) (fun K hK => ?_)
      rw [if_neg (by rw [show Region.wanted _ _ = false by kernel_rfl]; decide)]
      refine hK.out _ _ ?hS (fun hHeld => ?_)
      case hS => exact hHeld
      clear hK K
      simp only [Act.put, lsetA, lsetZ, lsetS]
      refine rs 7 (some 45) ?_
      refine rt 8 (some 46) ?_
      refine wpAnyH_done (by kernel_rfl) ?_ _
      have Hb := Lib.hid hHeld.2.2.2.2.2.2.2.2.2
      go_wp2_with fail
      go_ret2
      exact ⟨by rw [Hv.out] <;> rfl, Hb.out⟩
    ·
     rw [hob] at HX
     have Hv := Lib.hid (show evsRes s = ((k : Int), 7) from Hfe.out 7 (by rw [HX.out]; rfl) (by decide))
     go_wp2_with fail
     go_ret2
     exact ⟨by rw [Hv.out] <;> rfl, Hb.out⟩
  ·
   obtain rfl : k = s.length := by omega
   have HR := Lib.hid (evE_sorted hf0.out)
   clear hgk hlt hk
   go_wp2_with fail
   go_loopg [73] s.length (fun gk i wr => ∃ k : Nat, i = .int .i64 k ∧ k ≤ s.length ∧ Hid (gk = s.length - k) ∧ Hid (∀ j, j < k → aftE s j = 0) ∧ Below w.heap.size w wr)
   case atStart => exact ⟨0, rfl, by omega, rfl, fun j hj => by omega, hb⟩
   case round =>
    clear hb
    obtain ⟨k, rfl, hk, hgk, hf2, hb⟩ := hrel
    by_cases hlt : k < s.length
    ·
     obtain ⟨b, off, ha, c0, c1, c2, c3, c4, c5, c6, c7, c8⟩ := (HS.out _ hb).1.ev hlt
     have HX := Lib.hid (aftE_is hlt)
     have HA1 := Lib.hid (fun (j : Nat) (hj : j < (s[k]'hlt).after.length) => aft1_is (l := s) (e := s[k]'hlt) (j := j) hj)
     have hmem := List.getElem_mem hlt
     have hln4 := (HOK.out _ hmem).len
     have HSA := Lib.hid (fun W (h : Below w.heap.size w W) => ((HS.out W h).2 _ hmem).1)
     have Hfe := Lib.hid (fun (e : Int) he he0 => evsRes_second (er := e) H15.out hf0.out hlt hf2.out he he0)
     have HFd := Lib.hid (fun W (h : Below w.heap.size w W) y => eventOf_any s a cap y W (HS.out W h).1 (by omega))
     have Ha := Lib.hid ha
     rw [ha] at HFd ⊢
     clear ha hmem
     generalize s[k] = x at *
     obtain ⟨x1, x2, x3, x4, x5, x6, x7, x8, x9, xa, xc⟩ := x
     simp only at c0 c1 c2 c3 c4 c5 c6 c7 c8 HX HA1 hln4 HSA
     have hz := hb.size
     have hbx := Box.new wr 53 #[.string x1, .string x2, .int .i64 x3, .slice xa x4.length xc, .int .i64 x5, .string x6, .string x7, .string x8, .string x9]
     have hb1 := hb.alloc (show w.heap.size ≤ wr.heap.size by omega) (.cells #[.string x1, .string x2, .int .i64 x3, .slice xa x4.length xc, .int .i64 x5, .string x6, .string x7, .string x8, .string x9] 53)
     go_upto_region 24 with (fail)
     generalize wr.alloc (.cells #[.string x1, .string x2, .int .i64 x3, .slice xa x4.length xc, .int .i64 x5, .string x6, .string x7, .string x8, .string x9] 53) = W at *
     generalize wr.heap.size = q at *
     clear c0 c1 c2 c3 c4 c5 c6 c7 c8 hb
     have hbxC := hbx
     have hbx_l := hbx.lt; have hbx_0 := hbx.cell 0; have hbx_1 := hbx.cell 1; have hbx_2 := hbx.cell 2; have hbx_3 := hbx.cell 3; have hbx_4 := hbx.cell 4; have hbx_5 := hbx.cell 5; have hbx_6 := hbx.cell 6; have hbx_7 := hbx.cell 7; have hbx_8 := hbx.cell 8; simp at hbx_0 hbx_1 hbx_2 hbx_3 hbx_4 hbx_5 hbx_6 hbx_7 hbx_8
     go_wp2_with fail
     clear hbx_l hbx_0 hbx_1 hbx_2 hbx_3 hbx_4 hbx_5 hbx_6 hbx_7 hbx_8
     clear hbx
     go_loopg [81] x4.length (fun gk i wr => ∃ j : Nat, i = .int .i64 j ∧ j ≤ x4.length ∧ Hid (gk = x4.length - j) ∧ Hid (∀ t, t < j → aft1 s ⟨x1, x2, x3, x4, x5, x6, x7, x8, x9, xa, xc⟩ t = 0) ∧ Box wr q 53 #[.string x1, .string x2, .int .i64 x3, .slice xa x4.length xc, .int .i64 x5, .string x6, .string x7, .string x8, .string x9] ∧ Below w.heap.size w wr)
     case atStart => exact ⟨0, rfl, by omega, rfl, fun j hj => by omega, hbxC, hb1⟩
     case round =>
      clear hbxC hb1
      obtain ⟨j, rfl, hj, hgj, hf3, hbx, hb⟩ := hrel
      by_cases hlj : j < x4.length
      ·
       obtain ⟨b2, off2, ha2, d0⟩ := (HSA.out _ hb).str hlj
       have HAj := Lib.hid (HA1.out j hlj)
       have Hfj := Lib.hid (fun (e : Int) (he : aft1 s ⟨x1, x2, x3, x4, x5, x6, x7, x8, x9, xa, xc⟩ j = e) (he0 : e ≠ 0) => Hfe.out e (by rw [HX.out]; exact firstErr_is hlj hf3.out he he0) he0)
       have Ha2 := Lib.hid ha2
       rw [ha2]
       clear ha2
       generalize x4[j] = y at *
       have HFy := Lib.hid (HFd.out wr hb y)
       rw [evAt_find] at HAj
       generalize findE s y = fz at *
       have Hbx := Lib.hid hbx
       have hbx_l := hbx.lt; have hbx_0 := hbx.cell 0; have hbx_1 := hbx.cell 1; have hbx_2 := hbx.cell 2; have hbx_3 := hbx.cell 3; have hbx_4 := hbx.cell 4; have hbx_5 := hbx.cell 5; have hbx_6 := hbx.cell 6; have hbx_7 := hbx.cell 7; have hbx_8 := hbx.cell 8; simp at hbx_0 hbx_1 hbx_2 hbx_3 hbx_4 hbx_5 hbx_6 hbx_7 hbx_8
       have Hb := Lib.hid hb
       clear hb
       rcases fz with _ | z
       ·
        replace HFy : Hid (Calls Tryz.prog 55 #[.slice (some ⟨b, off, none⟩) s.length cap, .string y] wr (Gives (.tuple #[(.agg #[.string ⟨#[]⟩, .string ⟨#[]⟩, .int .i64 0, .slice none 0 0, .int .i64 0, .string ⟨#[]⟩, .string ⟨#[]⟩, .string ⟨#[]⟩, .string ⟨#[]⟩]), .bool false]) wr)) := HFy
        go_wp2_with fail
        refine HFy.out.mono ?_
        rintro e w4 ⟨rfl, hb4⟩
        have HbN : Hid (Below w.heap.size w w4) := below_next Hb.out hb4
        have HbxN := Lib.hid (Hbx.out.below hb4)
        clear hbx_l hbx_0 hbx_1 hbx_2 hbx_3 hbx_4 hbx_5 hbx_6 hbx_7 hbx_8
        clear hbx Hb Hbx
        have Hb := HbN
        have Hbx := HbxN
        have hbx := Hbx.out
        clear HbN HbxN
        have hbx_l := hbx.lt; have hbx_0 := hbx.cell 0; have hbx_1 := hbx.cell 1; have hbx_2 := hbx.cell 2; have hbx_3 := hbx.cell 3; have hbx_4 := hbx.cell 4; have hbx_5 := hbx.cell 5; have hbx_6 := hbx.cell 6; have hbx_7 := hbx.cell 7; have hbx_8 := hbx.cell 8; simp at hbx_0 hbx_1 hbx_2 hbx_3 hbx_4 hbx_5 hbx_6 hbx_7 hbx_8
        clear d0 HFy
        have Hv := Lib.hid (show evsRes s = ((k : Int), 8) from Hfj.out 8 HAj.out (by decide))
        go_wp2_with fail
        go_ret2
        exact ⟨by rw [Hv.out] <;> rfl, Hb.out.alloc Hb.out.size _⟩
       ·
        replace HAj : Hid (aft1 s ⟨x1, x2, x3, x4, x5, x6, x7, x8, x9, xa, xc⟩ j = if x3 < z.at_ then 1 else 0) := HAj
        obtain ⟨z1, z2, z3, z4, z5, z6, z7, z8, z9, za, zc⟩ := z
        simp only at HAj
        replace HFy : Hid (Calls Tryz.prog 55 #[.slice (some ⟨b, off, none⟩) s.length cap, .string y] wr (Gives (.tuple #[(.agg #[.string z1, .string z2, .int .i64 z3, .slice za z4.length zc, .int .i64 z5, .string z6, .string z7, .string z8, .string z9]), .bool true]) wr)) := HFy
        go_wp2_with fail
        refine HFy.out.mono ?_
        rintro e w4 ⟨rfl, hb4⟩
        have HbN : Hid (Below w.heap.size w w4) := below_next Hb.out hb4
        have HbxN := Lib.hid (Hbx.out.below hb4)
        clear hbx_l hbx_0 hbx_1 hbx_2 hbx_3 hbx_4 hbx_5 hbx_6 hbx_7 hbx_8
        clear hbx Hb Hbx
        have Hb := HbN
        have Hbx := HbxN
        have hbx := Hbx.out
        clear HbN HbxN
        have hbx_l := hbx.lt; have hbx_0 := hbx.cell 0; have hbx_1 := hbx.cell 1; have hbx_2 := hbx.cell 2; have hbx_3 := hbx.cell 3; have hbx_4 := hbx.cell 4; have hbx_5 := hbx.cell 5; have hbx_6 := hbx.cell 6; have hbx_7 := hbx.cell 7; have hbx_8 := hbx.cell 8; simp at hbx_0 hbx_1 hbx_2 hbx_3 hbx_4 hbx_5 hbx_6 hbx_7 hbx_8
        clear d0 HFy
        have hbn := Hbx.out.alloc (.cells #[.string z1, .string z2, .int .i64 z3, .slice za z4.length zc, .int .i64 z5, .string z6, .string z7, .string z8, .string z9] 53)
        have hzw := Hb.out.size
        have hbm : Below w.heap.size w (w4.alloc (.cells #[.string z1, .string z2, .int .i64 z3, .slice za z4.length zc, .int .i64 z5, .string z6, .string z7, .string z8, .string z9] 53)) := Hb.out.alloc hzw _
        have Hbn := Lib.hid hbn
        have Hbm := Lib.hid hbm
        clear hbn hbm
        by_cases hc : x3 < z3
        ·
         rw [if_pos hc] at HAj
         have Hv := Lib.hid (show evsRes s = ((k : Int), 1) from Hfj.out 1 HAj.out (by decide))
         go_wp2_with fail
         go_ret2
         exact ⟨by rw [Hv.out] <;> rfl, Hbm.out⟩
        ·
         rw [if_neg hc] at HAj
         go_wp2_with fail
         rw [← Ha2.out]
         go_roundg (x4.length - (j + 1))
         case measure => have := hgj.out; omega
         case rel => exact ⟨j + 1, by go_num, by omega, rfl, zeros_succ hf3.out HAj.out, Hbn.out, Hbm.out⟩
      ·
       obtain rfl : j = x4.length := by omega
       have Hz := Lib.hid (zeros_succ hf2.out (show aftE s k = 0 by rw [HX.out]; exact firstErr_zero hf3.out))
       clear hbx
       go_wp2_with fail
       rw [← Ha.out]
       go_roundg (s.length - (k + 1))
       case measure => have := hgk.out; omega
       case rel => exact ⟨k + 1, by go_num, by omega, rfl, Hz.out, hb⟩
    ·
     obtain rfl : k = s.length := by omega
     have Hb := Lib.hid hb
     have Hv := Lib.hid (show evsRes s = (0, 0) from evsRes_none H15.out hf0.out hf2.out)
     go_wp2_with fail
     go_ret2
     exact ⟨by rw [Hv.out] <;> rfl, Hb.out⟩
end Go.Proofs.YtnocceilpnmbpaaGreatDoor
