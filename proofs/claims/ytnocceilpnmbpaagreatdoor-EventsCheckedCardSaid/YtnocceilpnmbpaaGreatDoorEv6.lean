/- CheckEvents of the program. -/
import Derived.Test.YtnocceilpnmbpaaGreatDoorEv4
import Derived.Test.YtnocceilpnmbpaaGreatDoorEv5
namespace Go.Proofs.YtnocceilpnmbpaaGreatDoor
open Go.RowKit
set_option linter.unusedVariables false
set_option linter.unusedSimpArgs false

theorem evE_is {l : List Ev} {k : Nat} (hk : k < l.length) : evE l k = if sumB l[k].sum = false then 3 else if ordB (l.map (·.sum)) k then 7 else if selfF l[k] ≠ 0 then selfF l[k] else if l[k].sum ≠ evSum l[k] then 15 else 0 := by
 unfold evE; rw [List.getElem?_eq_getElem hk]
theorem aftE_is {l : List Ev} {k : Nat} (hk : k < l.length) : aftE l k = firstErr (aft1 l l[k]) l[k].after.length := by
 unfold aftE; rw [List.getElem?_eq_getElem hk]
theorem aft1_is {l : List Ev} {e : Ev} {j : Nat} (hj : j < e.after.length) : aft1 l e j = match evAt l e.after[j] with | none => 8 | some t => if e.at_ < t then 1 else 0 := by
 unfold aft1; rw [List.getElem?_eq_getElem hj]; rfl
theorem ev9_later {W w w' : World} {b : Nat} {v0 v1 v2 v3 v4 v5 v6 v7 v8 : Value}
  (h : w.cell? ⟨b, 0, none⟩ = some v0 ∧ w.cell? ⟨b, 1, none⟩ = some v1 ∧ w.cell? ⟨b, 2, none⟩ = some v2 ∧ w.cell? ⟨b, 3, none⟩ = some v3 ∧ w.cell? ⟨b, 4, none⟩ = some v4 ∧ w.cell? ⟨b, 5, none⟩ = some v5 ∧ w.cell? ⟨b, 6, none⟩ = some v6 ∧ w.cell? ⟨b, 7, none⟩ = some v7 ∧ w.cell? ⟨b, 8, none⟩ = some v8 ∧ Below W.heap.size W w) (hb : Below w.heap.size w w') :
  w'.cell? ⟨b, 0, none⟩ = some v0 ∧ w'.cell? ⟨b, 1, none⟩ = some v1 ∧ w'.cell? ⟨b, 2, none⟩ = some v2 ∧ w'.cell? ⟨b, 3, none⟩ = some v3 ∧ w'.cell? ⟨b, 4, none⟩ = some v4 ∧ w'.cell? ⟨b, 5, none⟩ = some v5 ∧ w'.cell? ⟨b, 6, none⟩ = some v6 ∧ w'.cell? ⟨b, 7, none⟩ = some v7 ∧ w'.cell? ⟨b, 8, none⟩ = some v8 ∧ Below W.heap.size W w' :=
 ⟨cell_later hb h.1, ev_later h.2 hb⟩
set_option maxRecDepth 100000 in
set_option maxHeartbeats 8000000 in
theorem checkEvents_any (s : List Ev) (a : Option Addr) (cap : Nat) (w : World) (hE : EnvE w) (hs : EvsAt w a s) (hl : s.length ≤ 1000000) (hok : ∀ e ∈ s, EvOk e) :
  Calls Tryz.prog 9 #[.slice a s.length cap] w (Gives (.tuple #[.int .i64 (evsRes s).1, .int .i64 (evsRes s).2]) w) := by
 by_cases h15 : 1500 < s.length
 ·
  rw [evsRes_large h15]
  go_enter Tryz.func9, Tryz.ntmps9
  go_wp2_with fail
  go_ret2
  exact ⟨rfl, Below.refl _ _⟩
 have H15 := Lib.hid h15
 have hln : ¬ (1500 : Int) < (s.length : Int) := by omega
 clear h15
 have HS := Lib.hid (fun W (h : Below w.heap.size w W) => hs.below h)
 have HE := Lib.hid (fun W (h : Below w.heap.size w W) => hE.below h)
 have HOK := Lib.hid hok
 clear hs hE hok
 go_enter Tryz.func9, Tryz.ntmps9
 go_wp2_with fail
 go_loopg [18] s.length (fun gk i wr => ∃ k : Nat, i = .int .i64 k ∧ k ≤ s.length ∧ Hid (gk = s.length - k) ∧ Hid (∀ j, j < k → evE s j = 0) ∧ Below w.heap.size w wr)
 case atStart => exact ⟨0, rfl, by omega, rfl, fun j hj => by omega, Below.refl _ _⟩
 case round =>
  obtain ⟨k, rfl, hk, hgk, hf, hb⟩ := hrel
  by_cases hlt : k < s.length
  ·
   obtain ⟨b, off, ha, c0, c1, c2, c3, c4, c5, c6, c7, c8⟩ := (HS.out _ hb).1.ev hlt
   have HX := Lib.hid (evE_is hlt)
   have hmem := List.getElem_mem hlt
   have hxs := (HOK.out _ hmem).sum
   have HSelf := Lib.hid (fun W (h : Below w.heap.size w W) => selfFault_any s[k] W (HE.out _ h).1 (HOK.out _ hmem) ((HS.out _ h).2 _ hmem))
   have HSum := Lib.hid (fun W (h : Below w.heap.size w W) => sumOf_any s[k] W (HE.out _ h) (HOK.out _ hmem) ((HS.out _ h).2 _ hmem))
   have Hfe := Lib.hid (fun (e : Int) he he0 => evsRes_first (er := e) H15.out hlt hf.out he he0)
   clear hmem
   have Ha := Lib.hid ha
   rw [ha]
   clear ha
   generalize hx : s[k] = x at *
   have Hx := Lib.hid (congrArg Ev.sum hx)
   clear hx
   generalize evSum x = sm at *
   generalize selfF x = sf at *
   unfold Ev.agg at HSelf HSum
   obtain ⟨x1, x2, x3, x4, x5, x6, x7, x8, x9, xa, xc⟩ := x
   simp only at c0 c1 c2 c3 c4 c5 c6 c7 c8 HX HSelf HSum hxs Hx
   have hz := hb.size
   have hbx := Box.new wr 53 #[.string x1, .string x2, .int .i64 x3, .slice xa x4.length xc, .int .i64 x5, .string x6, .string x7, .string x8, .string x9]
   have Hb := Lib.hid (hb.alloc (show w.heap.size ≤ wr.heap.size by omega) (.cells #[.string x1, .string x2, .int .i64 x3, .slice xa x4.length xc, .int .i64 x5, .string x6, .string x7, .string x8, .string x9] 53))
   go_upto_region 6 with (fail)
   generalize wr.alloc (.cells #[.string x1, .string x2, .int .i64 x3, .slice xa x4.length xc, .int .i64 x5, .string x6, .string x7, .string x8, .string x9] 53) = W at *
   generalize wr.heap.size = q at *
   clear c0 c1 c2 c3 c4 c5 c6 c7 c8 hb
   have Hbx := Lib.hid hbx
   have hbx_l := hbx.lt; have hbx_0 := hbx.cell 0; have hbx_1 := hbx.cell 1; have hbx_2 := hbx.cell 2; have hbx_3 := hbx.cell 3; have hbx_4 := hbx.cell 4; have hbx_5 := hbx.cell 5; have hbx_6 := hbx.cell 6; have hbx_7 := hbx.cell 7; have hbx_8 := hbx.cell 8; simp at hbx_0 hbx_1 hbx_2 hbx_3 hbx_4 hbx_5 hbx_6 hbx_7 hbx_8
   go_wp2_with fail
   refine (isSum_any x1 _ (by omega)).mono ?_
   rintro e w1 ⟨rfl, hbq⟩
   have HbN : Hid (Below w.heap.size w w1) := below_next Hb.out hbq
   have HbxN := Lib.hid (Hbx.out.below hbq)
   clear hbx_l hbx_0 hbx_1 hbx_2 hbx_3 hbx_4 hbx_5 hbx_6 hbx_7 hbx_8
   clear hbx Hb Hbx
   have Hb := HbN
   have Hbx := HbxN
   have hbx := Hbx.out
   clear HbN HbxN
   have hbx_l := hbx.lt; have hbx_0 := hbx.cell 0; have hbx_1 := hbx.cell 1; have hbx_2 := hbx.cell 2; have hbx_3 := hbx.cell 3; have hbx_4 := hbx.cell 4; have hbx_5 := hbx.cell 5; have hbx_6 := hbx.cell 6; have hbx_7 := hbx.cell 7; have hbx_8 := hbx.cell 8; simp at hbx_0 hbx_1 hbx_2 hbx_3 hbx_4 hbx_5 hbx_6 hbx_7 hbx_8
   cases h1 : sumB x1
   ·
    rw [h1] at HX
    have Hv := Lib.hid (show evsRes s = ((k : Int), 3) from Hfe.out 3 (by rw [HX.out]; rfl) (by decide))
    go_wp2_with fail
    go_ret2
    exact ⟨by rw [Hv.out] <;> rfl, Hb.out⟩
   rw [h1, if_neg (by decide)] at HX
   go_upto_region 8 with (fail)
   go_cut [40] (fun v wx => v = .bool (ordB (s.map (·.sum)) k) ∧ ∃ n, wx = w1.drewN n)
   case first =>
    have ha := Ha.out
    by_cases hk0 : k = 0
    ·
     have hd : decide (0 < k) = false := by simp [hk0]
     have hd' : decide ((0 : Int) < (k : Int)) = false := by simp [hk0]
     have ho0 : ordB (s.map (·.sum)) k = false := by rw [hk0]; rfl
     have Ho := Lib.hid ho0
     clear hk0 ho0
     go_wp2_with fail
     go_quiet (fail); go_wp2_with fail
     go_meet
     exact ⟨by rw [Ho.out] <;> rfl, _, rfl⟩
    ·
     obtain ⟨p, hp⟩ : ∃ p, k = p + 1 := ⟨k - 1, by omega⟩
     have hpl : p < s.length := by omega
     obtain ⟨b', off', ha', d0, d1, d2, d3, d4, d5, d6, d7, d8⟩ := (HS.out _ Hb.out).1.ev hpl; generalize hy : s[p].sum = y at *; have Hy := Lib.hid hy; clear hy d1 d2 d3 d4 d5 d6 d7 d8
     rw [ha] at ha'
     cases ha'
     have Ho := Lib.hid (ordB_at (ks := (s.map (·.sum))) (k := k) (p := p) (x := x1) (y := y) hp (by have := Hx.out; simp [List.getElem?_eq_getElem hlt, this]) (by have := Hy.out; simp [List.getElem?_eq_getElem hpl, this]))
     have hwp : IntKind.i64.wrap ((k : Int) - 1) = (p : Int) := by rw [hp, IntWalk.i64_in _ (by omega)]; omega
     have hk1 : 0 < k := by omega
     have hk2 : (0 : Int) < (k : Int) := by omega
     have hp1 : (0 : Int) ≤ (p : Int) := by omega
     have hp2 : (p : Int) < (s.length : Int) := by omega
     have hp3 : (k : Int) - 1 = (p : Int) := by omega
     have Hp := Lib.hid hp
     clear hp hk0
     go_wp2_with fail
     go_quiet (fail); go_wp2_with fail
     go_meet
     exact ⟨by rw [Ho.out] <;> rfl, _, rfl⟩
   case rest =>
    obtain ⟨hso, n, rfl⟩ := hcut
    rw [hso]
    clear hso
    obtain ⟨w2, hw2⟩ : ∃ w2, w2 = w1.drewN n := ⟨_, rfl⟩
    have hbd : Below w1.heap.size w1 w2 := by rw [hw2]; exact below_drewN (Below.refl _ _) n
    rw [← hw2]
    clear hw2
    have HbN : Hid (Below w.heap.size w w2) := below_next Hb.out hbd
    have HbxN := Lib.hid (Hbx.out.below hbd)
    clear hbx_l hbx_0 hbx_1 hbx_2 hbx_3 hbx_4 hbx_5 hbx_6 hbx_7 hbx_8
    clear hbx Hb Hbx
    have Hb := HbN
    have Hbx := HbxN
    have hbx := Hbx.out
    clear HbN HbxN
    have hbx_l := hbx.lt; have hbx_0 := hbx.cell 0; have hbx_1 := hbx.cell 1; have hbx_2 := hbx.cell 2; have hbx_3 := hbx.cell 3; have hbx_4 := hbx.cell 4; have hbx_5 := hbx.cell 5; have hbx_6 := hbx.cell 6; have hbx_7 := hbx.cell 7; have hbx_8 := hbx.cell 8; simp at hbx_0 hbx_1 hbx_2 hbx_3 hbx_4 hbx_5 hbx_6 hbx_7 hbx_8
    cases hob : ordB (s.map (·.sum)) k
    ·
     rw [hob, if_neg (by decide)] at HX
     go_wp2_with fail
     refine (HSelf.out _ Hb.out).mono ?_
     rintro e w3 ⟨rfl, hbr⟩
     have HbN : Hid (Below w.heap.size w w3) := below_next Hb.out hbr
     have HbxN := Lib.hid (Hbx.out.below hbr)
     clear hbx_l hbx_0 hbx_1 hbx_2 hbx_3 hbx_4 hbx_5 hbx_6 hbx_7 hbx_8
     clear hbx Hb Hbx
     have Hb := HbN
     have Hbx := HbxN
     have hbx := Hbx.out
     clear HbN HbxN
     have hbx_l := hbx.lt; have hbx_0 := hbx.cell 0; have hbx_1 := hbx.cell 1; have hbx_2 := hbx.cell 2; have hbx_3 := hbx.cell 3; have hbx_4 := hbx.cell 4; have hbx_5 := hbx.cell 5; have hbx_6 := hbx.cell 6; have hbx_7 := hbx.cell 7; have hbx_8 := hbx.cell 8; simp at hbx_0 hbx_1 hbx_2 hbx_3 hbx_4 hbx_5 hbx_6 hbx_7 hbx_8
     clear hbd hbq hbr
     by_cases hsf : sf = 0
     ·
      rw [if_neg (fun h => h hsf)] at HX
      have hq : (sf != 0) = false := by simpa using hsf
      clear hsf
      go_upto_region 13 with (fail)
      have hbx0 := hbx_0
      by_cases hsm : x1 = sm
      ·
       rw [if_neg (fun h => h hsm)] at HX
       subst hsm
       refine wp_region_held_drew (S := (fun wx => wx.cell? ⟨q, 0, none⟩ = some (.string x1) ∧ wx.cell? ⟨q, 1, none⟩ = some (.string x2) ∧ wx.cell? ⟨q, 2, none⟩ = some (.int .i64 x3) ∧ wx.cell? ⟨q, 3, none⟩ = some (.slice xa x4.length xc) ∧ wx.cell? ⟨q, 4, none⟩ = some (.int .i64 x5) ∧ wx.cell? ⟨q, 5, none⟩ = some (.string x6) ∧ wx.cell? ⟨q, 6, none⟩ = some (.string x7) ∧ wx.cell? ⟨q, 7, none⟩ = some (.string x8) ∧ wx.cell? ⟨q, 8, none⟩ = some (.string x9) ∧ Below w.heap.size w wx)) (by kernel_rfl) ?hS (fun hHeld => ?_)
       case hS => exact ⟨hbx_0, hbx_1, hbx_2, hbx_3, hbx_4, hbx_5, hbx_6, hbx_7, hbx_8, Hb.out.drew⟩
       refine rt 0 (some 48) ?_
       refine rt 1 (some 49) ?_
       refine rt 2 (some 50) ?_
       refine rcall (i := 3) (d := (some 51)) (by kernel_rfl) rfl (by kernel_rfl) (fun K hK => ?_)
       go_simp
       go_at_call 50; refine (HSum.out _ hHeld.2.2.2.2.2.2.2.2.2).mono ?_; rintro e w' ⟨rfl, hbs⟩
       refine hK.out _ _ ?hS (fun hHeld => ?_)
       case hS => exact ev9_later hHeld hbs
       clear hK K
       simp only [Act.put, lsetA, lsetZ, lsetS]
       refine rt 4 (some 52) ?_
       refine wpAnyH_done (by kernel_rfl) ?_ _
       have Hb3 := Lib.hid hHeld.2.2.2.2.2.2.2.2.2
       clear hbx_l hbx_0 hbx_1 hbx_2 hbx_3 hbx_4 hbx_5 hbx_6 hbx_7 hbx_8
       clear hbx hHeld hbx0 Hbx Hb
       go_wp2_with fail
       rw [← Ha.out]
       go_roundg (s.length - (k + 1))
       case measure => have := hgk.out; omega
       case rel => exact ⟨k + 1, by go_num, by omega, rfl, zeros_succ hf.out HX.out, Hb3.out⟩
      ·
       rw [if_pos hsm] at HX
       have q1 := tl_ne hsm
       have q2 := tl_ne' hsm
       have q3 : ¬ x1.toList = sm.toList := fun h => hsm (toList_inj.1 h)
       clear hsm
       refine wp_region_held_drew (S := (fun wx => wx.cell? ⟨q, 0, none⟩ = some (.string x1) ∧ wx.cell? ⟨q, 1, none⟩ = some (.string x2) ∧ wx.cell? ⟨q, 2, none⟩ = some (.int .i64 x3) ∧ wx.cell? ⟨q, 3, none⟩ = some (.slice xa x4.length xc) ∧ wx.cell? ⟨q, 4, none⟩ = some (.int .i64 x5) ∧ wx.cell? ⟨q, 5, none⟩ = some (.string x6) ∧ wx.cell? ⟨q, 6, none⟩ = some (.string x7) ∧ wx.cell? ⟨q, 7, none⟩ = some (.string x8) ∧ wx.cell? ⟨q, 8, none⟩ = some (.string x9) ∧ Below w.heap.size w wx)) (by kernel_rfl) ?hS (fun hHeld => ?_)
       case hS => exact ⟨hbx_0, hbx_1, hbx_2, hbx_3, hbx_4, hbx_5, hbx_6, hbx_7, hbx_8, Hb.out.drew⟩
       refine rt 0 (some 48) ?_
       refine rt 1 (some 49) ?_
       refine rt 2 (some 50) ?_
       refine rcall (i := 3) (d := (some 51)) (by kernel_rfl) rfl (by kernel_rfl) (fun K hK => ?_)
       go_simp
       go_at_call 50; refine (HSum.out _ hHeld.2.2.2.2.2.2.2.2.2).mono ?_; rintro e w' ⟨rfl, hbs⟩
       refine hK.out _ _ ?hS (fun hHeld => ?_)
       case hS => exact ev9_later hHeld hbs
       clear hK K
       simp only [Act.put, lsetA, lsetZ, lsetS]
       refine rt 4 (some 52) ?_
       refine wpAnyH_done (by kernel_rfl) ?_ _
       have Hb := Lib.hid hHeld.2.2.2.2.2.2.2.2.2
       have Hv := Lib.hid (show evsRes s = ((k : Int), 15) from Hfe.out 15 HX.out (by decide))
       go_wp2_with fail
       go_ret2
       exact ⟨by rw [Hv.out] <;> rfl, Hb.out⟩
     ·
      rw [if_pos hsf] at HX
      have hq : (sf != 0) = true := by simpa using hsf
      have Hv := Lib.hid (show evsRes s = ((k : Int), sf) from Hfe.out sf HX.out hsf)
      clear hsf
      go_wp2_with fail
      go_ret2
      exact ⟨by rw [Hv.out] <;> rfl, Hb.out⟩
    ·
     rw [hob] at HX
     have Hv := Lib.hid (show evsRes s = ((k : Int), 7) from Hfe.out 7 (by rw [HX.out]; rfl) (by decide))
     go_wp2_with fail
     go_ret2
     exact ⟨by rw [Hv.out] <;> rfl, Hb.out⟩
  ·
   obtain rfl : k = s.length := by omega
   have HR := Lib.hid (evE_sorted hf.out)
   clear hgk hlt hk
   go_wp2_with fail
   go_loopg [57] s.length (fun gk i wr => ∃ k : Nat, i = .int .i64 k ∧ k ≤ s.length ∧ Hid (gk = s.length - k) ∧ Hid (∀ j, j < k → aftE s j = 0) ∧ Below w.heap.size w wr)
   case atStart => exact ⟨0, rfl, by omega, rfl, fun j hj => by omega, hb⟩
   case round =>
    clear hb
    obtain ⟨k, rfl, hk, hgk, hf2, hb⟩ := hrel
    by_cases hlt : k < s.length
    ·
     obtain ⟨b, off, ha, c0, c1, c2, c3, c4, c5, c6, c7, c8⟩ := (HS.out _ hb).1.ev hlt
     have HX := Lib.hid (aftE_is hlt)
     have HA1 := Lib.hid (fun (j : Nat) (hj : j < (s[k]'hlt).after.length) => aft1_is (l := s) (e := s[k]'hlt) (j := j) hj)
     have hmem := List.getElem_mem hlt
     have hln4 := (HOK.out _ hmem).len
     have HSA := Lib.hid (fun W (h : Below w.heap.size w W) => ((HS.out W h).2 _ hmem).1)
     have Hfe := Lib.hid (fun (e : Int) he he0 => evsRes_second (er := e) H15.out hf.out hlt hf2.out he he0)
     have HFd := Lib.hid (fun W (h : Below w.heap.size w W) y => findEv_pos s a cap y W (HS.out W h).1 HR.out (by omega))
     have HEN : Hid (∀ y, hasE s y = false → evAt s y = none) := fun y h => evAt_none h
     have HEP : Hid (∀ y, hasE s y = true → ∃ hp : posE s y < s.length, evAt s y = some (s[posE s y]'hp).at_) := fun y h => by
      obtain ⟨hp, h2⟩ := (hasE_pos HR.out y).1 h
      exact ⟨hp, evAt_pos HR.out hp h2⟩
     have Ha := Lib.hid ha
     rw [ha] at HFd ⊢
     clear ha hmem
     generalize s[k] = x at *
     obtain ⟨x1, x2, x3, x4, x5, x6, x7, x8, x9, xa, xc⟩ := x
     simp only at c0 c1 c2 c3 c4 c5 c6 c7 c8 HX HA1 hln4 HSA
     have hz := hb.size
     have hbx := Box.new wr 53 #[.string x1, .string x2, .int .i64 x3, .slice xa x4.length xc, .int .i64 x5, .string x6, .string x7, .string x8, .string x9]
     have hb1 := hb.alloc (show w.heap.size ≤ wr.heap.size by omega) (.cells #[.string x1, .string x2, .int .i64 x3, .slice xa x4.length xc, .int .i64 x5, .string x6, .string x7, .string x8, .string x9] 53)
     go_upto_region 19 with (fail)
     generalize wr.alloc (.cells #[.string x1, .string x2, .int .i64 x3, .slice xa x4.length xc, .int .i64 x5, .string x6, .string x7, .string x8, .string x9] 53) = W at *
     generalize wr.heap.size = q at *
     clear c0 c1 c2 c3 c4 c5 c6 c7 c8 hb
     have hbxC := hbx
     have hbx_l := hbx.lt; have hbx_0 := hbx.cell 0; have hbx_1 := hbx.cell 1; have hbx_2 := hbx.cell 2; have hbx_3 := hbx.cell 3; have hbx_4 := hbx.cell 4; have hbx_5 := hbx.cell 5; have hbx_6 := hbx.cell 6; have hbx_7 := hbx.cell 7; have hbx_8 := hbx.cell 8; simp at hbx_0 hbx_1 hbx_2 hbx_3 hbx_4 hbx_5 hbx_6 hbx_7 hbx_8
     go_wp2_with fail
     clear hbx_l hbx_0 hbx_1 hbx_2 hbx_3 hbx_4 hbx_5 hbx_6 hbx_7 hbx_8
     clear hbx
     go_loopg [65] x4.length (fun gk i wr => ∃ j : Nat, i = .int .i64 j ∧ j ≤ x4.length ∧ Hid (gk = x4.length - j) ∧ Hid (∀ t, t < j → aft1 s ⟨x1, x2, x3, x4, x5, x6, x7, x8, x9, xa, xc⟩ t = 0) ∧ Box wr q 53 #[.string x1, .string x2, .int .i64 x3, .slice xa x4.length xc, .int .i64 x5, .string x6, .string x7, .string x8, .string x9] ∧ Below w.heap.size w wr)
     case atStart => exact ⟨0, rfl, by omega, rfl, fun j hj => by omega, hbxC, hb1⟩
     case round =>
      clear hbxC hb1
      obtain ⟨j, rfl, hj, hgj, hf3, hbx, hb⟩ := hrel
      by_cases hlj : j < x4.length
      ·
       obtain ⟨b2, off2, ha2, d0⟩ := (HSA.out _ hb).str hlj
       have HAj := Lib.hid (HA1.out j hlj)
       have Hfj := Lib.hid (fun (e : Int) (he : aft1 s ⟨x1, x2, x3, x4, x5, x6, x7, x8, x9, xa, xc⟩ j = e) (he0 : e ≠ 0) => Hfe.out e (by rw [HX.out]; exact firstErr_is hlj hf3.out he he0) he0)
       have Ha2 := Lib.hid ha2
       rw [ha2]
       clear ha2
       generalize x4[j] = y at *
       have HFy := Lib.hid (HFd.out wr hb y)
       have HENy := Lib.hid (HEN.out y)
       have HEPy := Lib.hid (HEP.out y)
       have Hbx := Lib.hid hbx
       have hbx_l := hbx.lt; have hbx_0 := hbx.cell 0; have hbx_1 := hbx.cell 1; have hbx_2 := hbx.cell 2; have hbx_3 := hbx.cell 3; have hbx_4 := hbx.cell 4; have hbx_5 := hbx.cell 5; have hbx_6 := hbx.cell 6; have hbx_7 := hbx.cell 7; have hbx_8 := hbx.cell 8; simp at hbx_0 hbx_1 hbx_2 hbx_3 hbx_4 hbx_5 hbx_6 hbx_7 hbx_8
       have Hb := Lib.hid hb
       clear hb
       go_wp2_with fail
       refine HFy.out.mono ?_
       rintro e w4 ⟨rfl, hb4⟩
       have HbN : Hid (Below w.heap.size w w4) := below_next Hb.out hb4
       have HbxN := Lib.hid (Hbx.out.below hb4)
       clear hbx_l hbx_0 hbx_1 hbx_2 hbx_3 hbx_4 hbx_5 hbx_6 hbx_7 hbx_8
       clear hbx Hb Hbx
       have Hb := HbN
       have Hbx := HbxN
       have hbx := Hbx.out
       clear HbN HbxN
       have hbx_l := hbx.lt; have hbx_0 := hbx.cell 0; have hbx_1 := hbx.cell 1; have hbx_2 := hbx.cell 2; have hbx_3 := hbx.cell 3; have hbx_4 := hbx.cell 4; have hbx_5 := hbx.cell 5; have hbx_6 := hbx.cell 6; have hbx_7 := hbx.cell 7; have hbx_8 := hbx.cell 8; simp at hbx_0 hbx_1 hbx_2 hbx_3 hbx_4 hbx_5 hbx_6 hbx_7 hbx_8
       clear d0 HFy hb4
       cases hh : hasE s y
       ·
        have HA8 := Lib.hid (HENy.out hh)
        clear HENy HEPy
        have Hv := Lib.hid (show evsRes s = ((k : Int), 8) from Hfj.out 8 (by rw [HAj.out, HA8.out]) (by decide))
        go_wp2_with fail
        go_ret2
        exact ⟨by rw [Hv.out] <;> rfl, Hb.out⟩
       ·
        obtain ⟨hp, hat⟩ := HEPy.out hh
        rw [hat] at HAj
        clear hat HENy HEPy
        obtain ⟨b3, off3, ha3, e0, e1, e2, e3, e4, e5, e6, e7, e8⟩ := (HS.out _ Hb.out).1.ev hp
        rw [Ha.out] at ha3
        cases ha3
        clear e0 e1 e3 e4 e5 e6 e7 e8
        generalize posE s y = p at *
        generalize (s[p]'hp).at_ = z3 at *
        replace HAj : Hid (aft1 s ⟨x1, x2, x3, x4, x5, x6, x7, x8, x9, xa, xc⟩ j = if x3 < z3 then 1 else 0) := HAj
        have hp1 : (0 : Int) ≤ (p : Int) := by omega
        have hp2 : (p : Int) < (s.length : Int) := by omega
        by_cases hc : x3 < z3
        ·
         rw [if_pos hc] at HAj
         go_upto_region 25 with (fail)
         go_quiet (fail)
         have Hb : Hid (Below w.heap.size w (w4.drewN nq)) := below_drewN Hb.out nq
         have Hv := Lib.hid (show evsRes s = ((k : Int), 1) from Hfj.out 1 HAj.out (by decide))
         go_wp2_with fail
         go_ret2
         exact ⟨by rw [Hv.out] <;> rfl, Hb.out⟩
        ·
         rw [if_neg hc] at HAj
         go_upto_region 25 with (fail)
         go_quiet (fail)
         have Hb3 : Hid (Below w.heap.size w (w4.drewN nq)) := below_drewN Hb.out nq
         have Hbx3 := Lib.hid (Hbx.out.drewN nq)
         clear hbx_l hbx_0 hbx_1 hbx_2 hbx_3 hbx_4 hbx_5 hbx_6 hbx_7 hbx_8
         clear hbx Hbx Hb
         go_wp2_with fail
         rw [← Ha2.out]
         go_roundg (x4.length - (j + 1))
         case measure => have := hgj.out; omega
         case rel => exact ⟨j + 1, by go_num, by omega, rfl, zeros_succ hf3.out HAj.out, Hbx3.out, Hb3.out⟩
      ·
       obtain rfl : j = x4.length := by omega
       have Hz := Lib.hid (zeros_succ hf2.out (show aftE s k = 0 by rw [HX.out]; exact firstErr_zero hf3.out))
       clear hbx
       go_wp2_with fail
       rw [← Ha.out]
       go_roundg (s.length - (k + 1))
       case measure => have := hgk.out; omega
       case rel => exact ⟨k + 1, by go_num, by omega, rfl, Hz.out, hb⟩
    ·
     obtain rfl : k = s.length := by omega
     have Hb := Lib.hid hb
     have Hv := Lib.hid (show evsRes s = (0, 0) from evsRes_none H15.out hf.out hf2.out)
     go_wp2_with fail
     go_ret2
     exact ⟨by rw [Hv.out] <;> rfl, Hb.out⟩
end Go.Proofs.YtnocceilpnmbpaaGreatDoor
