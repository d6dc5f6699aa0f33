/- For every list of raw numbers, GridsChecked returns true. The walk. -/
import Derived.Test.YthnbcdgbpofnjaaGreatDoorMakeProg2
import Derived.Test.YthnbcdgbpofnjaaGreatDoorCost0
namespace Go.Proofs.YthnbcdgbpofnjaaGreatDoor.gridsChecked
open Go.RowKit
set_option linter.unusedVariables false
set_option linter.unusedSimpArgs false

set_option maxRecDepth 100000 in
set_option maxHeartbeats 16000000 in
theorem walk (a0 : Option Addr) (len0 cap0 : Nat) (z0 : List Int) (w : World) (w0 : IsRow .i64 w a0 len0 cap0 z0) :
    Calls Tryz.prog 3 #[.slice a0 len0 cap0] w fun e w' => e = .returned (.bool true) ∧ Below w.heap.size w w' := by
  have hs := strm_new w0
  go_enter Tryz.func3, Tryz.ntmps3
  go_wp2_with fail
  refine (grid_any w.heap.size 0 5 3 3 _ hs (by omega) (by omega) (by omega) (by omega)).mono ?_
  rintro e w1 ⟨gb, vr, vs, vt, vw, vb, lr, ls, lt, lw, lb, rfl, hGW, hn, hr1, hs1, ht1, hw1, hb1, h1, s1⟩
  obtain ⟨g, rfl, rfl, rfl, rfl, rfl, hz, hnt, -, -, -, -, HGS⟩ := hGW.grdS hn hr1 hs1 ht1 hw1 hb1
  have HG := Lib.hid HGS
  have hz1 := h1.size
  simp at hz1
  have hst1 := ((Stp.refl w.heap.size w).alloc (.cells #[.slice a0 len0 cap0, .int .i64 0] 25)).trans h1
  clear hGW hn hr1 hs1 ht1 hw1 hb1 w0 hs h1 HGS
  go_upto_region 3 with (fail)
  have hBx := Box.new w1 32 #[.slice g.ra g.rooms.length g.rc, .slice g.sa g.slots.length g.sc, .slice g.ta g.talks.length g.tc, .slice g.wa g.wishes.length g.wc, .slice g.ba g.bans.length g.bc]
  have s2 := s1.alloc (.cells #[.slice g.ra g.rooms.length g.rc, .slice g.sa g.slots.length g.sc, .slice g.ta g.talks.length g.tc, .slice g.wa g.wishes.length g.wc, .slice g.ba g.bans.length g.bc] 32)
  have hst2 := hst1.alloc (.cells #[.slice g.ra g.rooms.length g.rc, .slice g.sa g.slots.length g.sc, .slice g.ta g.talks.length g.tc, .slice g.wa g.wishes.length g.wc, .slice g.ba g.bans.length g.bc] 32)
  have HG2 : Hid (∀ W : World, (∀ k, k < (w1.alloc (.cells #[.slice g.ra g.rooms.length g.rc, .slice g.sa g.slots.length g.sc, .slice g.ta g.talks.length g.tc, .slice g.wa g.wishes.length g.wc, .slice g.ba g.bans.length g.bc] 32)).heap.size → k ≠ w.heap.size → W.heap[k]? = (w1.alloc (.cells #[.slice g.ra g.rooms.length g.rc, .slice g.sa g.slots.length g.sc, .slice g.ta g.talks.length g.tc, .slice g.wa g.wishes.length g.wc, .slice g.ba g.bans.length g.bc] 32)).heap[k]?) → GRd W g) := fun W hW => HG.out W (fun k hk1 hk2 => by
    simp at hk1
    rw [hW k (by simp; omega) (by omega), Below.heap_alloc _ _ _ hk2])
  have hzz : (w1.alloc (.cells #[.slice g.ra g.rooms.length g.rc, .slice g.sa g.slots.length g.sc, .slice g.ta g.talks.length g.tc, .slice g.wa g.wishes.length g.wc, .slice g.ba g.bans.length g.bc] 32)).heap.size = w1.heap.size + 1 := by simp
  clear hst1 s1 HG
  generalize w1.alloc (.cells #[.slice g.ra g.rooms.length g.rc, .slice g.sa g.slots.length g.sc, .slice g.ta g.talks.length g.tc, .slice g.wa g.wishes.length g.wc, .slice g.ba g.bans.length g.bc] 32) = w2 at *
  generalize w1.heap.size = n1 at *
  have HPG := Lib.hid (programme_any w.heap.size _ g w2 s2 (by omega) HG2.out hz (by omega))
  rw [Grd.agg_eq] at HPG
  have hBx_l := hBx.lt; have hBx_0 := hBx.cell 0; have hBx_1 := hBx.cell 1; have hBx_2 := hBx.cell 2; have hBx_3 := hBx.cell 3; have hBx_4 := hBx.cell 4; simp at hBx_0 hBx_1 hBx_2 hBx_3 hBx_4
  go_wp2_with fail
  clear hBx_l hBx_0 hBx_1 hBx_2 hBx_3 hBx_4
  refine HPG.out.mono ?_
  rintro e w3 ⟨pa, pc, p, rfl, HPR, hpc, hpl, hpn, h3, s3⟩
  have hz3 := h3.size
  have hBx3 := hBx.stp h3 (by omega)
  have hst3 := hst2.trans h3
  have H23 : Hid (∀ k, k < w2.heap.size → k ≠ w.heap.size → w3.heap[k]? = w2.heap[k]?) := fun k hk hkS => h3.block k hk hkS
  have HP3 : Hid (∀ W : World, Stp w.heap.size w3 W → PRg W pa p) := HPR
  have hsesok : ∀ s ∈ p, SesOk s := fun s hs => ⟨(hpn s hs).1, (hpn s hs).2.1, by have := (hpn s hs).2.2.1; omega, (hpn s hs).2.2.2⟩
  clear hst2 s2 HPG h3 HPR hBx hpn
  go_wp2_with fail
  refine (pick_box w.heap.size _ _ 3 7 [0, 20, 40, -1, 5761440, 5761441, 9223372036854775807] _ (s3.alloc _) (by omega) (Box.new _ _ _) (by omega) (by decide) (by decide)).mono ?_
  rintro e w4 ⟨x1, hx1, rfl, h4, s4⟩
  have hz4 := h4.size
  simp at hz4
  go_wp2_with fail
  refine (pick_box w.heap.size _ _ 3 6 [0, 20, 40, 1440, 1441, -1] _ (s4.alloc _) (by omega) (Box.new _ _ _) (by omega) (by decide) (by decide)).mono ?_
  rintro e w5 ⟨x2, hx2, rfl, h5, s5⟩
  have hz5 := h5.size
  simp at hz5
  go_wp2_with fail
  refine (pick_box w.heap.size _ _ 3 4 [0, 20, 39, 60] _ (s5.alloc _) (by omega) (Box.new _ _ _) (by omega) (by decide) (by decide)).mono ?_
  rintro e w6 ⟨x3, hx3, rfl, h6, s6⟩
  have hz6 := h6.size
  simp at hz6
  go_wp2_with fail
  refine (pick_box w.heap.size _ _ 3 4 [0, 1, 20, 9223372036854775807] _ (s6.alloc _) (by omega) (Box.new _ _ _) (by omega) (by decide) (by decide)).mono ?_
  rintro e w7 ⟨x4, hx4, rfl, h7, s7⟩
  have hz7 := h7.size
  simp at hz7
  go_upto_region 5 with (fail)
  have hst37 := (((((((Stp.refl w.heap.size w3).alloc (.cells #[.int .i64 0, .int .i64 20, .int .i64 40, .int .i64 (-1), .int .i64 5761440, .int .i64 5761441, .int .i64 9223372036854775807] 3)).trans h4).alloc (.cells #[.int .i64 0, .int .i64 20, .int .i64 40, .int .i64 1440, .int .i64 1441, .int .i64 (-1)] 3)).trans h5).alloc (.cells #[.int .i64 0, .int .i64 20, .int .i64 39, .int .i64 60] 3)).trans h6)
  replace hst37 := (hst37.alloc (.cells #[.int .i64 0, .int .i64 1, .int .i64 20, .int .i64 9223372036854775807] 3)).trans h7
  have hst38 := (hst37.alloc (.cells #[.string ⟨#[]⟩, .int .i64 x1, .int .i64 x2] 38)).alloc (.cells #[.string ⟨#[]⟩, .int .i64 x3, .int .i64 x4] 38)
  have hBA := (Box.new w7 38 #[.string ⟨#[]⟩, .int .i64 x1, .int .i64 x2]).alloc (.cells #[.string ⟨#[]⟩, .int .i64 x3, .int .i64 x4] 38)
  have hBB := Box.newAt (w7.alloc (.cells #[.string ⟨#[]⟩, .int .i64 x1, .int .i64 x2] 38)) (w7.heap.size + 1) 38 #[.string ⟨#[]⟩, .int .i64 x3, .int .i64 x4] (by simp)
  have hBx8 := hBx3.stp hst38 (by omega)
  have hst8 := hst3.trans hst38
  have hb8 : Below w.heap.size w ((w7.alloc (.cells #[.string ⟨#[]⟩, .int .i64 x1, .int .i64 x2] 38)).alloc (.cells #[.string ⟨#[]⟩, .int .i64 x3, .int .i64 x4] 38)) := by have := hst8.below; rwa [Nat.min_self] at this
  have HG8 : Hid (∀ W : World, Below ((w7.alloc (.cells #[.string ⟨#[]⟩, .int .i64 x1, .int .i64 x2] 38)).alloc (.cells #[.string ⟨#[]⟩, .int .i64 x3, .int .i64 x4] 38)).heap.size ((w7.alloc (.cells #[.string ⟨#[]⟩, .int .i64 x1, .int .i64 x2] 38)).alloc (.cells #[.string ⟨#[]⟩, .int .i64 x3, .int .i64 x4] 38)) W → GRd W g) := fun W hW => HG2.out W (fun k hk hkS => by
    have hs := hst38.size
    rw [hW.block k (by omega), hst38.block k (by omega) hkS]
    exact H23.out k hk hkS)
  have HP8 : Hid (∀ W : World, Below ((w7.alloc (.cells #[.string ⟨#[]⟩, .int .i64 x1, .int .i64 x2] 38)).alloc (.cells #[.string ⟨#[]⟩, .int .i64 x3, .int .i64 x4] 38)).heap.size ((w7.alloc (.cells #[.string ⟨#[]⟩, .int .i64 x1, .int .i64 x2] 38)).alloc (.cells #[.string ⟨#[]⟩, .int .i64 x3, .int .i64 x4] 38)) W → PRg W pa p) := fun W hW => HP3.out W (hst38.trans (Stp.of_below hW))
  clear hst37 hst38 h4 h5 h6 h7 s3 s4 s5 s6 s7 hBx3 hst3 HG2 H23 HP3 hst8 hx1 hx2 hx3 hx4 hz4 hz5 hz6 hz7 hz3
  generalize (w7.alloc (.cells #[.string ⟨#[]⟩, .int .i64 x1, .int .i64 x2] 38)).alloc (.cells #[.string ⟨#[]⟩, .int .i64 x3, .int .i64 x4] 38) = w8 at *
  generalize w7.heap.size = na at *
  have HCG := Lib.hid (fun W (h : Below w8.heap.size w8 W) => checkGrid_any g W (HG8.out W h) hz)
  have HGF := Lib.hid (fun W (h : Below w8.heap.size w8 W) => gridFaultR_any g W (HG8.out W h) hz)
  have HCK := Lib.hid (fun W (h : Below w8.heap.size w8 W) => checkP_any g p pa pc W (HG8.out W h) hz (HP8.out W h) (by omega) hsesok hpc)
  have HBO := Lib.hid (fun W (h : Below w8.heap.size w8 W) => both_any g p pa pc W (HG8.out W h) hz (HP8.out W h) (by omega) hsesok hpc)
  have HOP := Lib.hid (fun W => overlapsP_any (⟨#[]⟩, x1, x2) (⟨#[]⟩, x3, x4) W)
  have HOR := Lib.hid (fun W => overlapsOf_any (⟨#[]⟩, x1, x2) (⟨#[]⟩, x3, x4) W)
  have HPR := Lib.hid (fun W => programs_any W)
  rw [Grd.agg_eq] at HCG HGF HCK HBO
  unfold sltV at HOP HOR
  simp only at HOP HOR
  generalize gridFault g = gf at *
  generalize bothF g p = bf at *
  generalize overlapsB (⟨#[]⟩, x1, x2) (⟨#[]⟩, x3, x4) = ov at *
  clear hz hsesok HG8 HP8
  have hqg : (gf == gf) = true := by simp
  have hqb : (bf == bf) = true := by simp
  have hqo : (ov == ov) = true := by simp
  have hBx8_l := hBx8.lt; have hBx8_0 := hBx8.cell 0; have hBx8_1 := hBx8.cell 1; have hBx8_2 := hBx8.cell 2; have hBx8_3 := hBx8.cell 3; have hBx8_4 := hBx8.cell 4; simp at hBx8_0 hBx8_1 hBx8_2 hBx8_3 hBx8_4
  have hBA_l := hBA.lt; have hBA_0 := hBA.cell 0; have hBA_1 := hBA.cell 1; have hBA_2 := hBA.cell 2; simp at hBA_0 hBA_1 hBA_2
  have hBB_l := hBB.lt; have hBB_0 := hBB.cell 0; have hBB_1 := hBB.cell 1; have hBB_2 := hBB.cell 2; simp at hBB_0 hBB_1 hBB_2
  refine wp_region_held_drew (S := (fun wx => wx.cell? ⟨n1, 0, none⟩ = some (.slice g.ra g.rooms.length g.rc) ∧ wx.cell? ⟨n1, 1, none⟩ = some (.slice g.sa g.slots.length g.sc) ∧ wx.cell? ⟨n1, 2, none⟩ = some (.slice g.ta g.talks.length g.tc) ∧ wx.cell? ⟨n1, 3, none⟩ = some (.slice g.wa g.wishes.length g.wc) ∧ wx.cell? ⟨n1, 4, none⟩ = some (.slice g.ba g.bans.length g.bc) ∧ wx.cell? ⟨na, 0, none⟩ = some (.string ⟨#[]⟩) ∧ wx.cell? ⟨na, 1, none⟩ = some (.int .i64 x1) ∧ wx.cell? ⟨na, 2, none⟩ = some (.int .i64 x2) ∧ wx.cell? ⟨na + 1, 0, none⟩ = some (.string ⟨#[]⟩) ∧ wx.cell? ⟨na + 1, 1, none⟩ = some (.int .i64 x3) ∧ wx.cell? ⟨na + 1, 2, none⟩ = some (.int .i64 x4) ∧ Below w8.heap.size w8 wx)) (by kernel_rfl) ?hS (fun hHeld => ?_)
  case hS => exact ⟨hBx8_0, hBx8_1, hBx8_2, hBx8_3, hBx8_4, hBA_0, hBA_1, hBA_2, hBB_0, hBB_1, hBB_2, (Below.refl _ _).drew⟩
  refine rcall (i := 0) (d := (some 30)) (by kernel_rfl) rfl (by kernel_rfl) (fun K hK => ?_)
  go_simp
  go_at_call 10; refine (HPR.out _).mono ?_; rintro e wa ⟨rfl, hba⟩
  refine hK.out _ _ ?hS (fun hHeld => ?_)
  case hS => exact ⟨cell_later hba hHeld.1, cell_later hba hHeld.2.1, cell_later hba hHeld.2.2.1, cell_later hba hHeld.2.2.2.1, cell_later hba hHeld.2.2.2.2.1, cell_later hba hHeld.2.2.2.2.2.1, cell_later hba hHeld.2.2.2.2.2.2.1, cell_later hba hHeld.2.2.2.2.2.2.2.1, cell_later hba hHeld.2.2.2.2.2.2.2.2.1, cell_later hba hHeld.2.2.2.2.2.2.2.2.2.1, cell_later hba hHeld.2.2.2.2.2.2.2.2.2.2.1, below_next hHeld.2.2.2.2.2.2.2.2.2.2.2 hba⟩
  clear hK K
  simp only [Act.put, List.setIfInBounds_toArray, List.set_cons_zero, List.set_cons_succ]
  refine rtake (i := 1) (d := (some 31)) (v := ?_) rfl (by kernel_rfl) (by kernel_rfl) (by kernel_rfl) (by kernel_rfl) (fun _ _ _ h => h) (by kernel_rfl) (by assumption) ?_ ?_
  rotate_left 1
  · (intro wI hSI; (try dsimp only at hSI); go_simp; (try with_reducible rfl))
  simp only [Act.put, List.setIfInBounds_toArray, List.set_cons_zero, List.set_cons_succ]
  refine rtake (i := 2) (d := (some 32)) (v := ?_) rfl (by kernel_rfl) (by kernel_rfl) (by kernel_rfl) (by kernel_rfl) (fun _ _ _ h => h) (by kernel_rfl) (by assumption) ?_ ?_
  rotate_left 1
  · (intro wI hSI; (try dsimp only at hSI); go_simp; (try with_reducible rfl))
  simp only [Act.put, List.setIfInBounds_toArray, List.set_cons_zero, List.set_cons_succ]
  refine rtake (i := 4) (d := (some 34)) (v := ?_) rfl (by kernel_rfl) (by kernel_rfl) (by kernel_rfl) (by kernel_rfl) (fun _ _ _ h => h) (by kernel_rfl) (by assumption) ?_ ?_
  rotate_left 1
  · (intro wI hSI; (try dsimp only at hSI); go_simp; (try with_reducible rfl))
  simp only [Act.put, List.setIfInBounds_toArray, List.set_cons_zero, List.set_cons_succ]
  refine rcall (i := 3) (d := (some 33)) (by kernel_rfl) rfl (by kernel_rfl) (fun K hK => ?_)
  rw [if_pos (by kernel_rfl)]; go_simp; go_at_call 11; refine (HCG.out _ hHeld.2.2.2.2.2.2.2.2.2.2.2).mono ?_; rintro e wb ⟨rfl, hbb⟩
  refine hK.out _ _ ?hS (fun hHeld => ?_)
  case hS => exact ⟨cell_later hbb hHeld.1, cell_later hbb hHeld.2.1, cell_later hbb hHeld.2.2.1, cell_later hbb hHeld.2.2.2.1, cell_later hbb hHeld.2.2.2.2.1, cell_later hbb hHeld.2.2.2.2.2.1, cell_later hbb hHeld.2.2.2.2.2.2.1, cell_later hbb hHeld.2.2.2.2.2.2.2.1, cell_later hbb hHeld.2.2.2.2.2.2.2.2.1, cell_later hbb hHeld.2.2.2.2.2.2.2.2.2.1, cell_later hbb hHeld.2.2.2.2.2.2.2.2.2.2.1, below_next hHeld.2.2.2.2.2.2.2.2.2.2.2 hbb⟩
  clear hK K
  simp only [Act.put, List.setIfInBounds_toArray, List.set_cons_zero, List.set_cons_succ]
  refine rcall (i := 5) (d := (some 35)) (by kernel_rfl) rfl (by kernel_rfl) (fun K hK => ?_)
  rw [if_pos (by kernel_rfl)]; go_simp; go_at_call 12; refine (HGF.out _ hHeld.2.2.2.2.2.2.2.2.2.2.2).mono ?_; rintro e wc ⟨rfl, hbc⟩
  refine hK.out _ _ ?hS (fun hHeld => ?_)
  case hS => exact ⟨cell_later hbc hHeld.1, cell_later hbc hHeld.2.1, cell_later hbc hHeld.2.2.1, cell_later hbc hHeld.2.2.2.1, cell_later hbc hHeld.2.2.2.2.1, cell_later hbc hHeld.2.2.2.2.2.1, cell_later hbc hHeld.2.2.2.2.2.2.1, cell_later hbc hHeld.2.2.2.2.2.2.2.1, cell_later hbc hHeld.2.2.2.2.2.2.2.2.1, cell_later hbc hHeld.2.2.2.2.2.2.2.2.2.1, cell_later hbc hHeld.2.2.2.2.2.2.2.2.2.2.1, below_next hHeld.2.2.2.2.2.2.2.2.2.2.2 hbc⟩
  clear hK K
  simp only [Act.put, List.setIfInBounds_toArray, List.set_cons_zero, List.set_cons_succ]
  refine rtake (i := 6) (d := (some 36)) (v := ?_) rfl (by kernel_rfl) (by kernel_rfl) (by kernel_rfl) (by kernel_rfl) (fun _ _ _ h => h) (by kernel_rfl) (by assumption) ?_ ?_
  rotate_left 1
  · (intro wI hSI; (try dsimp only at hSI); go_simp; (try with_reducible rfl))
  simp only [Act.put, List.setIfInBounds_toArray, List.set_cons_zero, List.set_cons_succ]
  (try rw [hqg])
  refine rtake (i := 7) (d := (some 37)) (v := ?_) rfl (by kernel_rfl) (by kernel_rfl) (by kernel_rfl) (by kernel_rfl) (fun _ _ _ h => h) (by kernel_rfl) (by assumption) ?_ ?_
  rotate_left 1
  · (intro wI hSI; (try dsimp only at hSI); go_simp; (try with_reducible rfl))
  simp only [Act.put, List.setIfInBounds_toArray, List.set_cons_zero, List.set_cons_succ]
  refine rtake (i := 8) (d := (some 38)) (v := ?_) rfl (by kernel_rfl) (by kernel_rfl) (by kernel_rfl) (by kernel_rfl) (fun _ _ _ h => h) (by kernel_rfl) (by assumption) ?_ ?_
  rotate_left 1
  · (intro wI hSI; (try dsimp only at hSI); go_simp; (try with_reducible rfl))
  simp only [Act.put, List.setIfInBounds_toArray, List.set_cons_zero, List.set_cons_succ]
  refine rtake (i := 9) (d := (some 39)) (v := ?_) rfl (by kernel_rfl) (by kernel_rfl) (by kernel_rfl) (by kernel_rfl) (fun _ _ _ h => h) (by kernel_rfl) (by assumption) ?_ ?_
  rotate_left 1
  · (intro wI hSI; (try dsimp only at hSI); go_simp; (try with_reducible rfl))
  simp only [Act.put, List.setIfInBounds_toArray, List.set_cons_zero, List.set_cons_succ]
  refine rtake (i := 10) (d := (some 40)) (v := ?_) rfl (by kernel_rfl) (by kernel_rfl) (by kernel_rfl) (by kernel_rfl) (fun _ _ _ h => h) (by kernel_rfl) (by assumption) ?_ ?_
  rotate_left 1
  · (intro wI hSI; (try dsimp only at hSI); go_simp; (try with_reducible rfl))
  simp only [Act.put, List.setIfInBounds_toArray, List.set_cons_zero, List.set_cons_succ]
  refine rtake (i := 12) (d := (some 42)) (v := ?_) rfl (by kernel_rfl) (by kernel_rfl) (by kernel_rfl) (by kernel_rfl) (fun _ _ _ h => h) (by kernel_rfl) (by assumption) ?_ ?_
  rotate_left 1
  · (intro wI hSI; (try dsimp only at hSI); go_simp; (try with_reducible rfl))
  simp only [Act.put, List.setIfInBounds_toArray, List.set_cons_zero, List.set_cons_succ]
  refine rtake (i := 13) (d := (some 43)) (v := ?_) rfl (by kernel_rfl) (by kernel_rfl) (by kernel_rfl) (by kernel_rfl) (fun _ _ _ h => h) (by kernel_rfl) (by assumption) ?_ ?_
  rotate_left 1
  · (intro wI hSI; (try dsimp only at hSI); go_simp; (try with_reducible rfl))
  simp only [Act.put, List.setIfInBounds_toArray, List.set_cons_zero, List.set_cons_succ]
  refine rcall (i := 11) (d := (some 41)) (by kernel_rfl) rfl (by kernel_rfl) (fun K hK => ?_)
  rw [if_pos (by kernel_rfl)]; go_simp; go_at_call 13; refine (HCK.out _ hHeld.2.2.2.2.2.2.2.2.2.2.2).mono ?_; rintro e wd ⟨rfl, hbd⟩
  refine hK.out _ _ ?hS (fun hHeld => ?_)
  case hS => exact ⟨cell_later hbd hHeld.1, cell_later hbd hHeld.2.1, cell_later hbd hHeld.2.2.1, cell_later hbd hHeld.2.2.2.1, cell_later hbd hHeld.2.2.2.2.1, cell_later hbd hHeld.2.2.2.2.2.1, cell_later hbd hHeld.2.2.2.2.2.2.1, cell_later hbd hHeld.2.2.2.2.2.2.2.1, cell_later hbd hHeld.2.2.2.2.2.2.2.2.1, cell_later hbd hHeld.2.2.2.2.2.2.2.2.2.1, cell_later hbd hHeld.2.2.2.2.2.2.2.2.2.2.1, below_next hHeld.2.2.2.2.2.2.2.2.2.2.2 hbd⟩
  clear hK K
  simp only [Act.put, List.setIfInBounds_toArray, List.set_cons_zero, List.set_cons_succ]
  refine rcall (i := 14) (d := (some 44)) (by kernel_rfl) rfl (by kernel_rfl) (fun K hK => ?_)
  rw [if_pos (by kernel_rfl)]; go_simp; go_at_call 14; refine (HBO.out _ hHeld.2.2.2.2.2.2.2.2.2.2.2).mono ?_; rintro e we ⟨rfl, hbe⟩
  refine hK.out _ _ ?hS (fun hHeld => ?_)
  case hS => exact ⟨cell_later hbe hHeld.1, cell_later hbe hHeld.2.1, cell_later hbe hHeld.2.2.1, cell_later hbe hHeld.2.2.2.1, cell_later hbe hHeld.2.2.2.2.1, cell_later hbe hHeld.2.2.2.2.2.1, cell_later hbe hHeld.2.2.2.2.2.2.1, cell_later hbe hHeld.2.2.2.2.2.2.2.1, cell_later hbe hHeld.2.2.2.2.2.2.2.2.1, cell_later hbe hHeld.2.2.2.2.2.2.2.2.2.1, cell_later hbe hHeld.2.2.2.2.2.2.2.2.2.2.1, below_next hHeld.2.2.2.2.2.2.2.2.2.2.2 hbe⟩
  clear hK K
  simp only [Act.put, List.setIfInBounds_toArray, List.set_cons_zero, List.set_cons_succ]
  refine rtake (i := 15) (d := (some 45)) (v := ?_) rfl (by kernel_rfl) (by kernel_rfl) (by kernel_rfl) (by kernel_rfl) (fun _ _ _ h => h) (by kernel_rfl) (by assumption) ?_ ?_
  rotate_left 1
  · (intro wI hSI; (try dsimp only at hSI); go_simp; (try with_reducible rfl))
  simp only [Act.put, List.setIfInBounds_toArray, List.set_cons_zero, List.set_cons_succ]
  (try rw [hqb])
  refine rtake (i := 16) (d := (some 46)) (v := ?_) rfl (by kernel_rfl) (by kernel_rfl) (by kernel_rfl) (by kernel_rfl) (fun _ _ _ h => h) (by kernel_rfl) (by assumption) ?_ ?_
  rotate_left 1
  · (intro wI hSI; (try dsimp only at hSI); go_simp; (try with_reducible rfl))
  simp only [Act.put, List.setIfInBounds_toArray, List.set_cons_zero, List.set_cons_succ]
  refine rtake (i := 17) (d := (some 47)) (v := ?_) rfl (by kernel_rfl) (by kernel_rfl) (by kernel_rfl) (by kernel_rfl) (fun _ _ _ h => h) (by kernel_rfl) (by assumption) ?_ ?_
  rotate_left 1
  · (intro wI hSI; (try dsimp only at hSI); go_simp; (try with_reducible rfl))
  simp only [Act.put, List.setIfInBounds_toArray, List.set_cons_zero, List.set_cons_succ]
  refine rtake (i := 18) (d := (some 48)) (v := ?_) rfl (by kernel_rfl) (by kernel_rfl) (by kernel_rfl) (by kernel_rfl) (fun _ _ _ h => h) (by kernel_rfl) (by assumption) ?_ ?_
  rotate_left 1
  · (intro wI hSI; (try dsimp only at hSI); go_simp; (try with_reducible rfl))
  simp only [Act.put, List.setIfInBounds_toArray, List.set_cons_zero, List.set_cons_succ]
  refine rtake (i := 19) (d := (some 49)) (v := ?_) rfl (by kernel_rfl) (by kernel_rfl) (by kernel_rfl) (by kernel_rfl) (fun _ _ _ h => h) (by kernel_rfl) (by assumption) ?_ ?_
  rotate_left 1
  · (intro wI hSI; (try dsimp only at hSI); go_simp; (try with_reducible rfl))
  simp only [Act.put, List.setIfInBounds_toArray, List.set_cons_zero, List.set_cons_succ]
  refine rtake (i := 21) (d := (some 51)) (v := ?_) rfl (by kernel_rfl) (by kernel_rfl) (by kernel_rfl) (by kernel_rfl) (fun _ _ _ h => h) (by kernel_rfl) (by assumption) ?_ ?_
  rotate_left 1
  · (intro wI hSI; (try dsimp only at hSI); go_simp; (try with_reducible rfl))
  simp only [Act.put, List.setIfInBounds_toArray, List.set_cons_zero, List.set_cons_succ]
  refine rtake (i := 22) (d := (some 52)) (v := ?_) rfl (by kernel_rfl) (by kernel_rfl) (by kernel_rfl) (by kernel_rfl) (fun _ _ _ h => h) (by kernel_rfl) (by assumption) ?_ ?_
  rotate_left 1
  · (intro wI hSI; (try dsimp only at hSI); go_simp; (try with_reducible rfl))
  simp only [Act.put, List.setIfInBounds_toArray, List.set_cons_zero, List.set_cons_succ]
  refine rcall (i := 20) (d := (some 50)) (by kernel_rfl) rfl (by kernel_rfl) (fun K hK => ?_)
  rw [if_pos (by kernel_rfl)]; go_simp; go_at_call 15; refine (HOP.out _).mono ?_; rintro e wf ⟨rfl, hbf⟩
  refine hK.out _ _ ?hS (fun hHeld => ?_)
  case hS => exact ⟨cell_later hbf hHeld.1, cell_later hbf hHeld.2.1, cell_later hbf hHeld.2.2.1, cell_later hbf hHeld.2.2.2.1, cell_later hbf hHeld.2.2.2.2.1, cell_later hbf hHeld.2.2.2.2.2.1, cell_later hbf hHeld.2.2.2.2.2.2.1, cell_later hbf hHeld.2.2.2.2.2.2.2.1, cell_later hbf hHeld.2.2.2.2.2.2.2.2.1, cell_later hbf hHeld.2.2.2.2.2.2.2.2.2.1, cell_later hbf hHeld.2.2.2.2.2.2.2.2.2.2.1, below_next hHeld.2.2.2.2.2.2.2.2.2.2.2 hbf⟩
  clear hK K
  simp only [Act.put, List.setIfInBounds_toArray, List.set_cons_zero, List.set_cons_succ]
  refine rcall (i := 23) (d := (some 53)) (by kernel_rfl) rfl (by kernel_rfl) (fun K hK => ?_)
  rw [if_pos (by kernel_rfl)]; go_simp; go_at_call 16; refine (HOR.out _).mono ?_; rintro e wg ⟨rfl, hbg⟩
  refine hK.out _ _ ?hS (fun hHeld => ?_)
  case hS => exact ⟨cell_later hbg hHeld.1, cell_later hbg hHeld.2.1, cell_later hbg hHeld.2.2.1, cell_later hbg hHeld.2.2.2.1, cell_later hbg hHeld.2.2.2.2.1, cell_later hbg hHeld.2.2.2.2.2.1, cell_later hbg hHeld.2.2.2.2.2.2.1, cell_later hbg hHeld.2.2.2.2.2.2.2.1, cell_later hbg hHeld.2.2.2.2.2.2.2.2.1, cell_later hbg hHeld.2.2.2.2.2.2.2.2.2.1, cell_later hbg hHeld.2.2.2.2.2.2.2.2.2.2.1, below_next hHeld.2.2.2.2.2.2.2.2.2.2.2 hbg⟩
  clear hK K
  simp only [Act.put, List.setIfInBounds_toArray, List.set_cons_zero, List.set_cons_succ]
  refine rtake (i := 24) (d := (some 54)) (v := ?_) rfl (by kernel_rfl) (by kernel_rfl) (by kernel_rfl) (by kernel_rfl) (fun _ _ _ h => h) (by kernel_rfl) (by assumption) ?_ ?_
  rotate_left 1
  · (intro wI hSI; (try dsimp only at hSI); go_simp; (try with_reducible rfl))
  simp only [Act.put, List.setIfInBounds_toArray, List.set_cons_zero, List.set_cons_succ]
  (try rw [hqo])
  refine rtake (i := 25) (d := (some 55)) (v := ?_) rfl (by kernel_rfl) (by kernel_rfl) (by kernel_rfl) (by kernel_rfl) (fun _ _ _ h => h) (by kernel_rfl) (by assumption) ?_ ?_
  rotate_left 1
  · (intro wI hSI; (try dsimp only at hSI); go_simp; (try with_reducible rfl))
  simp only [Act.put, List.setIfInBounds_toArray, List.set_cons_zero, List.set_cons_succ]
  refine rtake (i := 26) (d := (some 2)) (v := ?_) rfl (by kernel_rfl) (by kernel_rfl) (by kernel_rfl) (by kernel_rfl) (fun _ _ _ h => h) (by kernel_rfl) (by assumption) ?_ ?_
  rotate_left 1
  · (intro wI hSI; (try dsimp only at hSI); go_simp; (try with_reducible rfl))
  simp only [Act.put, List.setIfInBounds_toArray, List.set_cons_zero, List.set_cons_succ]
  refine wpAnyH_done (by kernel_rfl) ?_ _
  have hbZ := hHeld.2.2.2.2.2.2.2.2.2.2.2
  clear hHeld
  go_wp2_with fail
  go_ret
  exact ⟨rfl, hb8.trans (hbZ.mono hb8.size)⟩
end Go.Proofs.YthnbcdgbpofnjaaGreatDoor.gridsChecked
