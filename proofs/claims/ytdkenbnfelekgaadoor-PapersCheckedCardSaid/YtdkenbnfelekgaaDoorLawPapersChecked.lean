/- For every list of raw numbers, PapersChecked returns true. The walk. -/
import Derived.Test.YtdkenbnfelekgaaDoorMakePaper2
import Derived.Test.YtdkenbnfelekgaaDoorSubmits2
import Derived.Test.YtdkenbnfelekgaaDoorReg
namespace Go.Proofs.YtdkenbnfelekgaaDoor.papersChecked
open Go.RowKit
set_option linter.unusedVariables false
set_option linter.unusedSimpArgs false


set_option maxRecDepth 100000 in
set_option maxHeartbeats 8000000 in
theorem walk (a0 : Option Addr) (len0 cap0 : Nat) (z0 : List Int) (w : World) (w0 : IsRow .i64 w a0 len0 cap0 z0) (hE : Env w) :
    Calls Tryd.prog 3 #[.slice a0 len0 cap0] w fun e w' => e = .returned (.bool true) ∧ Below w.heap.size w w' := by
  have hs := strm_new w0
  have hES := hE.envS
  go_enter Tryd.func3, Tryd.ntmps3
  go_wp2_with fail
  refine (papers_any w.heap.size 0 5 _ hs (by omega) (by omega)).mono ?_
  rintro e w1 ⟨v, ps, rfl, hn5, hsz, hown, hrd, h1, s1⟩
  have hz1 := h1.size
  simp at hz1
  obtain ⟨a, cap, rfl, hsa, hbl, hcap⟩ := hown.sa
  have hst1 : Stp w.heap.size w w1 := ((Stp.refl _ w).alloc _).trans h1
  have hE1 : Env w1 := hE.stp hst1 hES
  have hnS : ∀ x : Addr, a = some x → x.block ≠ w.heap.size := fun x hx => by have := hbl x hx; simp at this; omega
  have Hsz := Lib.hid hsz
  have Hrd := Lib.hid hrd
  have HnS := Lib.hid hnS
  clear w0 hs hsz hown hrd hnS hbl h1
  go_wp2_with fail
  go_loopg [15] ps.length (fun gk i wr => ∃ k : Nat, i = .int .i64 k ∧ k ≤ ps.length ∧ Hid (gk = ps.length - k) ∧ Stp w.heap.size w1 wr ∧ Strm w.heap.size (0 + 50 * (5 : Nat) + 10 + 10 * k) wr)
  case atStart => exact ⟨0, rfl, by omega, rfl, Stp.refl _ _, by simpa using s1⟩
  case round =>
    clear s1
    obtain ⟨k, rfl, hk, hgk, hst, hs⟩ := hrel
    have hz := hst.size
    have hSr := hs.lt
    by_cases hlt : k < ps.length
    · obtain ⟨b, off, ha, c0, c1, c2, c3, c4⟩ := (hsa.stp hst HnS.out).paper hlt
      have hmem := List.getElem_mem hlt
      have hszx := Hsz.out ps[k] hmem
      have hrdx : PRd wr ps[k] ∧ LtP wr ps[k] := ⟨(Hrd.out ps[k] hmem).1.stp hst hszx.2, (Hrd.out ps[k] hmem).2.mono hz⟩
      have hrdx2 := hrdx
      rw [ha]
      generalize ps[k] = x at *
      obtain ⟨y1, y2, y3, yau, yto, ya1, yc1, ya2, yc2⟩ := x
      simp only at c0 c1 c2 c3 c4
      have HC0 := Lib.hid (fun (w : World) (h1 : Env w) (h2 : PRd w ⟨y1, y2, y3, yau, yto, ya1, yc1, ya2, yc2⟩) => checkPaper_any ⟨y1, y2, y3, yau, yto, ya1, yc1, ya2, yc2⟩ w h1 h2 (hszx.1.small (by omega)))
      have HF0 := Lib.hid (fun (w : World) (h1 : Env w) (h2 : PRd w ⟨y1, y2, y3, yau, yto, ya1, yc1, ya2, yc2⟩) => paperFault_any ⟨y1, y2, y3, yau, yto, ya1, yc1, ya2, yc2⟩ w h1 h2 (hszx.1.small (by omega)))
      unfold Paper.agg at HC0 HF0
      simp only at HC0 HF0
      clear hmem
      go_wp2_with fail
      refine (flip_any w.heap.size _ 2 _ ((hs.alloc _).alloc _) (by omega) (by omega) (by omega)).mono ?_
      rintro e w2 ⟨r, rfl, h2, s2⟩
      have hz2 := h2.size
      simp at hz2
      have hstr : Stp w.heap.size wr w2 := (((Stp.refl _ wr).alloc _).alloc _).trans h2
      have hst2 := hst.trans hstr
      have hX := ((Box.new wr 30 #[.string y1, .string y2, .string y3, .slice ya1 yau.length yc1, .slice ya2 yto.length yc2]).alloc (.cells #[.string y1, .string y2, .string y3, .slice ya1 yau.length yc1, .slice ya2 yto.length yc2] 30)).stp h2 (by omega)
      have hY := (Box.newAt (wr.alloc (.cells #[.string y1, .string y2, .string y3, .slice ya1 yau.length yc1, .slice ya2 yto.length yc2] 30)) (wr.heap.size + 1) 30 #[.string y1, .string y2, .string y3, .slice ya1 yau.length yc1, .slice ya2 yto.length yc2] (by simp)).stp h2 (by omega)
      have hE2 : Env w2 := hE1.stp hst2 hES
      have hrd2 := hrdx.1.stp hstr hszx.2
      clear h2 hrdx2
      cases r
      · have HC := HC0
        have HF := HF0
        have hEW := hE2
        have hRW := hrd2
        have hnn : (paperFault ⟨y1, y2, y3, yau, yto, ya1, yc1, ya2, yc2⟩ != paperFault ⟨y1, y2, y3, yau, yto, ya1, yc1, ya2, yc2⟩) = false := by simp
        have z0 : (w2).cell? ⟨wr.heap.size + 1, 0, none⟩ = some (.string y1) := hY.cell 0
        have z1 : (w2).cell? ⟨wr.heap.size + 1, 1, none⟩ = some (.string y2) := hY.cell 1
        have z2 : (w2).cell? ⟨wr.heap.size + 1, 2, none⟩ = some (.string y3) := hY.cell 2
        have z3 : (w2).cell? ⟨wr.heap.size + 1, 3, none⟩ = some (.slice ya1 yau.length yc1) := hY.cell 3
        have z4 : (w2).cell? ⟨wr.heap.size + 1, 4, none⟩ = some (.slice ya2 yto.length yc2) := hY.cell 4
        go_wp2_with fail
        refine wp_region_held_drew (S := (fun wx => wx.cell? ⟨wr.heap.size + 1, 0, none⟩ = some (.string y1) ∧ wx.cell? ⟨wr.heap.size + 1, 1, none⟩ = some (.string y2) ∧ wx.cell? ⟨wr.heap.size + 1, 2, none⟩ = some (.string y3) ∧ wx.cell? ⟨wr.heap.size + 1, 3, none⟩ = some (.slice ya1 yau.length yc1) ∧ wx.cell? ⟨wr.heap.size + 1, 4, none⟩ = some (.slice ya2 yto.length yc2) ∧ Below (w2).heap.size w2 wx)) (by kernel_rfl) ?hS (fun hHeld => ?_)
        case hS => exact ⟨z0, z1, z2, z3, z4, (Below.refl _ _).drew⟩
        refine rtake (i := 0) (d := (some 25)) (v := ?_) rfl (by kernel_rfl) (by kernel_rfl) (by kernel_rfl) (by kernel_rfl) (fun _ _ _ h => h) (by kernel_rfl) (by assumption) ?_ ?_
        rotate_left 1
        · (intro wI hSI; (try dsimp only at hSI); go_simp; (try with_reducible rfl))
        simp only [Act.put, List.setIfInBounds_toArray, List.set_cons_zero, List.set_cons_succ]
        refine rtake (i := 2) (d := (some 27)) (v := ?_) rfl (by kernel_rfl) (by kernel_rfl) (by kernel_rfl) (by kernel_rfl) (fun _ _ _ h => h) (by kernel_rfl) (by assumption) ?_ ?_
        rotate_left 1
        · (intro wI hSI; (try dsimp only at hSI); go_simp; (try with_reducible rfl))
        simp only [Act.put, List.setIfInBounds_toArray, List.set_cons_zero, List.set_cons_succ]
        refine rcall (i := 1) (d := (some 26)) (by kernel_rfl) rfl (by kernel_rfl) (fun K hK => ?_)
        go_simp
        go_at_call 8; refine (HC.out _ (hEW.below hHeld.2.2.2.2.2) (hRW.below hHeld.2.2.2.2.2)).mono ?_; rintro e w' ⟨rfl, hb3⟩
        refine hK.out _ _ ?hS (fun hHeld => ?_)
        case hS => exact ⟨cell_later hb3 hHeld.1, cell_later hb3 hHeld.2.1, cell_later hb3 hHeld.2.2.1, cell_later hb3 hHeld.2.2.2.1, cell_later hb3 hHeld.2.2.2.2.1, hHeld.2.2.2.2.2.trans (hb3.mono hHeld.2.2.2.2.2.size)⟩
        clear hK K
        simp only [Act.put, List.setIfInBounds_toArray, List.set_cons_zero, List.set_cons_succ]
        refine rcall (i := 3) (d := (some 28)) (by kernel_rfl) rfl (by kernel_rfl) (fun K hK => ?_)
        go_simp
        go_at_call 9; refine (HF.out _ (hEW.below hHeld.2.2.2.2.2) (hRW.below hHeld.2.2.2.2.2)).mono ?_; rintro e w' ⟨rfl, hb4⟩
        refine hK.out _ _ ?hS (fun hHeld => ?_)
        case hS => exact ⟨cell_later hb4 hHeld.1, cell_later hb4 hHeld.2.1, cell_later hb4 hHeld.2.2.1, cell_later hb4 hHeld.2.2.2.1, cell_later hb4 hHeld.2.2.2.2.1, hHeld.2.2.2.2.2.trans (hb4.mono hHeld.2.2.2.2.2.size)⟩
        clear hK K
        simp only [Act.put, List.setIfInBounds_toArray, List.set_cons_zero, List.set_cons_succ]
        refine rtake (i := 4) (d := (some 29)) (v := ?_) rfl (by kernel_rfl) (by kernel_rfl) (by kernel_rfl) (by kernel_rfl) (fun _ _ _ h => h) (by kernel_rfl) (by assumption) ?_ ?_
        rotate_left 1
        · (intro wI hSI; (try dsimp only at hSI); go_simp; (try with_reducible rfl))
        simp only [Act.put, List.setIfInBounds_toArray, List.set_cons_zero, List.set_cons_succ]
        refine wpAnyH_done (by kernel_rfl) ?_ _
        have hbF := hHeld.2.2.2.2.2
        go_wp2_with fail
        rw [← ha]
        go_roundg (ps.length - (k + 1))
        case measure => have := hgk.out; omega
        case rel => exact ⟨k + 1, by go_num, by omega, rfl, hst2.trans (Stp.of_below hbF), (s2.below hbF).mono (by omega)⟩
      · have hlx := hrdx.2.mono (w' := w2) (by omega)
        have HSp := Lib.hid (spoiled_any w.heap.size _ 8 ⟨y1, y2, y3, yau, yto, ya1, yc1, ya2, yc2⟩ w2 s2 (by omega) hrd2 hlx hszx.1 (by omega) hszx.2)
        unfold Paper.agg at HSp
        simp only at HSp
        have hX_l := hX.lt; have hX_0 := hX.cell 0; have hX_1 := hX.cell 1; have hX_2 := hX.cell 2; have hX_3 := hX.cell 3; have hX_4 := hX.cell 4; simp at hX_0 hX_1 hX_2 hX_3 hX_4
        go_wp2_with fail
        refine HSp.out.mono ?_
        rintro e w3 ⟨q, rfl, hqz, hqr, hqS, hqf, hql, h3, s3⟩
        obtain ⟨q1, q2, q3, qau, qto, qa1, qc1, qa2, qc2⟩ := q
        unfold Paper.agg
        simp only
        have hz3 := h3.size
        have hY3 := hY.stp h3 (by omega)
        have hY3_l := hY3.lt; have hY3_0 := hY3.cell 0; have hY3_1 := hY3.cell 1; have hY3_2 := hY3.cell 2; have hY3_3 := hY3.cell 3; have hY3_4 := hY3.cell 4; simp at hY3_0 hY3_1 hY3_2 hY3_3 hY3_4
        have hY3_f0 := hY3.frozen 0; have hY3_f1 := hY3.frozen 1; have hY3_f2 := hY3.frozen 2; have hY3_f3 := hY3.frozen 3; have hY3_f4 := hY3.frozen 4
        have HC := Lib.hid (fun (w : World) (h1 : Env w) (h2 : PRd w ⟨q1, q2, q3, qau, qto, qa1, qc1, qa2, qc2⟩) => checkPaper_any ⟨q1, q2, q3, qau, qto, qa1, qc1, qa2, qc2⟩ w h1 h2 (hqz.small (by omega)))
        have HF := Lib.hid (fun (w : World) (h1 : Env w) (h2 : PRd w ⟨q1, q2, q3, qau, qto, qa1, qc1, qa2, qc2⟩) => paperFault_any ⟨q1, q2, q3, qau, qto, qa1, qc1, qa2, qc2⟩ w h1 h2 (hqz.small (by omega)))
        unfold Paper.agg at HC HF
        simp only at HC HF
        have hnn : (paperFault ⟨q1, q2, q3, qau, qto, qa1, qc1, qa2, qc2⟩ != paperFault ⟨q1, q2, q3, qau, qto, qa1, qc1, qa2, qc2⟩) = false := by simp
        have hYW := ((((hY3.set 0 (.string q1)).set 1 (.string q2)).set 2 (.string q3)).set 3 (.slice qa1 qau.length qc1)).set 4 (.slice qa2 qto.length qc2)
        have hkp := (((((Kp.refl (fun b => b = wr.heap.size + 1) w3).setCell (p := ⟨wr.heap.size + 1, 0, none⟩) (.inl rfl) (.string q1)).setCell (p := ⟨wr.heap.size + 1, 1, none⟩) (.inl rfl) (.string q2)).setCell (p := ⟨wr.heap.size + 1, 2, none⟩) (.inl rfl) (.string q3)).setCell (p := ⟨wr.heap.size + 1, 3, none⟩) (.inl rfl) (.slice qa1 qau.length qc1)).setCell (p := ⟨wr.heap.size + 1, 4, none⟩) (.inl rfl) (.slice qa2 qto.length qc2)
        have hRW := hqr.kp hkp (fun x hx _ => by rcases hqf.1 x hx with h | h; (have := hrdx.2.1 x h; omega); omega) (fun x hx _ => by rcases hqf.2 x hx with h | h; (have := hrdx.2.2 x h; omega); omega)
        have hEW : Env _ := (hE1.stp (hst2.trans h3) hES).keep (fun b hb => hkp.block b (by have := (hE1.stp (hst2.trans h3) hES).lt b hb; exact this) (by obtain ⟨e1, e2, e3⟩ := hES; omega))
        have hstW := (((((hst2.trans h3).setCell (p := ⟨wr.heap.size + 1, 0, none⟩) (.inr (by show w1.heap.size ≤ wr.heap.size + 1; omega)) (.string q1)).setCell (p := ⟨wr.heap.size + 1, 1, none⟩) (.inr (by show w1.heap.size ≤ wr.heap.size + 1; omega)) (.string q2)).setCell (p := ⟨wr.heap.size + 1, 2, none⟩) (.inr (by show w1.heap.size ≤ wr.heap.size + 1; omega)) (.string q3)).setCell (p := ⟨wr.heap.size + 1, 3, none⟩) (.inr (by show w1.heap.size ≤ wr.heap.size + 1; omega)) (.slice qa1 qau.length qc1)).setCell (p := ⟨wr.heap.size + 1, 4, none⟩) (.inr (by show w1.heap.size ≤ wr.heap.size + 1; omega)) (.slice qa2 qto.length qc2)
        have sW := s3.kp hkp (fun b hb => by omega)
        have HYW := Lib.hid hYW
        have HRW := Lib.hid hRW
        have HEW := Lib.hid hEW
        have HstW := Lib.hid hstW
        have HsW := Lib.hid sW
        clear hYW hRW hEW hstW sW hkp
        clear hX_l hX_0 hX_1 hX_2 hX_3 hX_4
        clear hY HC0 HF0
        go_upto_region 9 with (fail)
        generalize (((((w3.setCell ⟨wr.heap.size + 1, 0, none⟩ (.string q1)).setCell ⟨wr.heap.size + 1, 1, none⟩ (.string q2)).setCell ⟨wr.heap.size + 1, 2, none⟩ (.string q3)).setCell ⟨wr.heap.size + 1, 3, none⟩ (.slice qa1 qau.length qc1)).setCell ⟨wr.heap.size + 1, 4, none⟩ (.slice qa2 qto.length qc2)) = W at *
        have hY := HYW.out
        have hRW := HRW.out
        have hEW := HEW.out
        have z0 : (W).cell? ⟨wr.heap.size + 1, 0, none⟩ = some (.string q1) := hY.cell 0
        have z1 : (W).cell? ⟨wr.heap.size + 1, 1, none⟩ = some (.string q2) := hY.cell 1
        have z2 : (W).cell? ⟨wr.heap.size + 1, 2, none⟩ = some (.string q3) := hY.cell 2
        have z3 : (W).cell? ⟨wr.heap.size + 1, 3, none⟩ = some (.slice qa1 qau.length qc1) := hY.cell 3
        have z4 : (W).cell? ⟨wr.heap.size + 1, 4, none⟩ = some (.slice qa2 qto.length qc2) := hY.cell 4
        go_wp2_with fail
        refine wp_region_held_drew (S := (fun wx => wx.cell? ⟨wr.heap.size + 1, 0, none⟩ = some (.string q1) ∧ wx.cell? ⟨wr.heap.size + 1, 1, none⟩ = some (.string q2) ∧ wx.cell? ⟨wr.heap.size + 1, 2, none⟩ = some (.string q3) ∧ wx.cell? ⟨wr.heap.size + 1, 3, none⟩ = some (.slice qa1 qau.length qc1) ∧ wx.cell? ⟨wr.heap.size + 1, 4, none⟩ = some (.slice qa2 qto.length qc2) ∧ Below (W).heap.size W wx)) (by kernel_rfl) ?hS (fun hHeld => ?_)
        case hS => exact ⟨z0, z1, z2, z3, z4, (Below.refl _ _).drew⟩
        refine rtake (i := 0) (d := (some 25)) (v := ?_) rfl (by kernel_rfl) (by kernel_rfl) (by kernel_rfl) (by kernel_rfl) (fun _ _ _ h => h) (by kernel_rfl) (by assumption) ?_ ?_
        rotate_left 1
        · (intro wI hSI; (try dsimp only at hSI); go_simp; (try with_reducible rfl))
        simp only [Act.put, List.setIfInBounds_toArray, List.set_cons_zero, List.set_cons_succ]
        refine rtake (i := 2) (d := (some 27)) (v := ?_) rfl (by kernel_rfl) (by kernel_rfl) (by kernel_rfl) (by kernel_rfl) (fun _ _ _ h => h) (by kernel_rfl) (by assumption) ?_ ?_
        rotate_left 1
        · (intro wI hSI; (try dsimp only at hSI); go_simp; (try with_reducible rfl))
        simp only [Act.put, List.setIfInBounds_toArray, List.set_cons_zero, List.set_cons_succ]
        refine rcall (i := 1) (d := (some 26)) (by kernel_rfl) rfl (by kernel_rfl) (fun K hK => ?_)
        go_simp
        go_at_call 8; refine (HC.out _ (hEW.below hHeld.2.2.2.2.2) (hRW.below hHeld.2.2.2.2.2)).mono ?_; rintro e w' ⟨rfl, hb3⟩
        refine hK.out _ _ ?hS (fun hHeld => ?_)
        case hS => exact ⟨cell_later hb3 hHeld.1, cell_later hb3 hHeld.2.1, cell_later hb3 hHeld.2.2.1, cell_later hb3 hHeld.2.2.2.1, cell_later hb3 hHeld.2.2.2.2.1, hHeld.2.2.2.2.2.trans (hb3.mono hHeld.2.2.2.2.2.size)⟩
        clear hK K
        simp only [Act.put, List.setIfInBounds_toArray, List.set_cons_zero, List.set_cons_succ]
        refine rcall (i := 3) (d := (some 28)) (by kernel_rfl) rfl (by kernel_rfl) (fun K hK => ?_)
        go_simp
        go_at_call 9; refine (HF.out _ (hEW.below hHeld.2.2.2.2.2) (hRW.below hHeld.2.2.2.2.2)).mono ?_; rintro e w' ⟨rfl, hb4⟩
        refine hK.out _ _ ?hS (fun hHeld => ?_)
        case hS => exact ⟨cell_later hb4 hHeld.1, cell_later hb4 hHeld.2.1, cell_later hb4 hHeld.2.2.1, cell_later hb4 hHeld.2.2.2.1, cell_later hb4 hHeld.2.2.2.2.1, hHeld.2.2.2.2.2.trans (hb4.mono hHeld.2.2.2.2.2.size)⟩
        clear hK K
        simp only [Act.put, List.setIfInBounds_toArray, List.set_cons_zero, List.set_cons_succ]
        refine rtake (i := 4) (d := (some 29)) (v := ?_) rfl (by kernel_rfl) (by kernel_rfl) (by kernel_rfl) (by kernel_rfl) (fun _ _ _ h => h) (by kernel_rfl) (by assumption) ?_ ?_
        rotate_left 1
        · (intro wI hSI; (try dsimp only at hSI); go_simp; (try with_reducible rfl))
        simp only [Act.put, List.setIfInBounds_toArray, List.set_cons_zero, List.set_cons_succ]
        refine wpAnyH_done (by kernel_rfl) ?_ _
        have hbF := hHeld.2.2.2.2.2
        go_wp2_with fail
        rw [← ha]
        go_roundg (ps.length - (k + 1))
        case measure => have := hgk.out; omega
        case rel => exact ⟨k + 1, by go_num, by omega, rfl, HstW.out.trans (Stp.of_below hbF), (HsW.out.below hbF).mono (by omega)⟩
    · have hEW : Env wr := hE1.stp hst hES
      have hpa : PapersAt wr a ps := ⟨hsa.stp hst HnS.out, fun p hp => (Hrd.out p hp).1.stp hst (Hsz.out p hp).2⟩
      have HCP := Lib.hid (fun (w : World) (h1 : Env w) (h2 : PapersAt w a ps) => checkPapers_any ps a cap w h1 h2 (by omega) (fun p hp => (Hsz.out p hp).1.small (by omega)))
      have HPF := Lib.hid (fun (w : World) (h1 : Env w) (h2 : PapersAt w a ps) => papersFault_any ps a cap w h1 h2 (by omega) (fun p hp => (Hsz.out p hp).1.small (by omega)))
      have hnn : (papersFault ps == papersFault ps) = true := by simp
      have hbw : Below w.heap.size w wr := by
        have := (hst1.trans hst).below
        rwa [Nat.min_self] at this
      generalize papersFault ps = pf at *
      go_wp2_with fail
      refine (submits_any _ hEW).mono ?_
      rintro e w2 ⟨rfl, hb2⟩
      go_wp2_with fail
      refine (HCP.out _ (hEW.below hb2) (hpa.below hb2)).mono ?_
      rintro e w3 ⟨rfl, hb3⟩
      have hb3' := below_next hb2 hb3
      go_wp2_with fail
      refine (HPF.out _ (hEW.below hb3') (hpa.below hb3')).mono ?_
      rintro e w4 ⟨rfl, hb4⟩
      go_wp2_with fail
      go_ret
      exact ⟨rfl, below_next (below_next hbw hb3') hb4⟩
end Go.Proofs.YtdkenbnfelekgaaDoor.papersChecked
