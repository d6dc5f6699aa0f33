/- For every list of raw numbers, TalksClash returns true. The walk. -/
import Derived.Test.YthnbcdgbpofnjaaGreatDoorMakeProg2
import Derived.Test.YthnbcdgbpofnjaaGreatDoorClash
import Derived.Test.YthnbcdgbpofnjaaGreatDoorCost0
namespace Go.Proofs.YthnbcdgbpofnjaaGreatDoor.talksClash
open Go.RowKit
set_option linter.unusedVariables false
set_option linter.unusedSimpArgs false

set_option maxRecDepth 100000 in
set_option maxHeartbeats 4000000 in
/-- Two slices that read alike are equal. -/
theorem eqClh_any (l : List Clh) (a a2 : Option Addr) (cap cap2 : Nat) (w : World) (h : SA w a l) (h2 : SA w a2 l) (hlen : l.length ≤ 1000000000) :
  Calls Tryz.prog 27 #[.slice a l.length cap, .slice a2 l.length cap2] w (Draws (.bool true) w) := by
 have hq0 : ((l.length : Int) != (l.length : Int)) = false := by simp
 go_enter Tryz.func27, Tryz.ntmps27
 go_wp2_with fail
 go_loopg [13] l.length (fun gk i wr => ∃ k : Nat, i = .int .i64 k ∧ k ≤ l.length ∧ Hid (gk = l.length - k) ∧ ∃ n, wr = w.drewN n)
 case atStart => exact ⟨0, rfl, by omega, rfl, 0, rfl⟩
 case round =>
  obtain ⟨k, rfl, hk, hgk, n, rfl⟩ := hrel
  by_cases hlt : k < l.length
  ·
   obtain ⟨b, off, ha, c0, c1, c2⟩ := h.clhC hlt
   obtain ⟨b', off', ha', d0, d1, d2⟩ := h2.clhC hlt
   rw [ha, ha']
   generalize l[k] = x at *
   obtain ⟨x1, x2, x3⟩ := x
   simp only at *
   have hk1 : (0 : Int) ≤ (k : Int) := by omega
   have hk2 : (k : Int) < (l.length : Int) := by omega
   go_wp2_with fail
   go_quiet (fail)
   go_wp2_with fail
   rw [← ha, ← ha']
   go_roundg (l.length - (k + 1))
   case measure => have := hgk.out; omega
   case rel => exact ⟨k + 1, by go_num, by omega, rfl, _, rfl⟩
  ·
   go_wp2_with fail
   go_ret
   exact ⟨rfl, _, rfl⟩
set_option maxRecDepth 100000 in
set_option maxHeartbeats 4000000 in
/-- Two slices that read alike are equal. -/
theorem eqCrd_any (l : List Crd) (a a2 : Option Addr) (cap cap2 : Nat) (w : World) (h : SA w a l) (h2 : SA w a2 l) (hlen : l.length ≤ 1000000000) :
  Calls Tryz.prog 30 #[.slice a l.length cap, .slice a2 l.length cap2] w (Draws (.bool true) w) := by
 have hq0 : ((l.length : Int) != (l.length : Int)) = false := by simp
 go_enter Tryz.func30, Tryz.ntmps30
 go_wp2_with fail
 go_loopg [13] l.length (fun gk i wr => ∃ k : Nat, i = .int .i64 k ∧ k ≤ l.length ∧ Hid (gk = l.length - k) ∧ ∃ n, wr = w.drewN n)
 case atStart => exact ⟨0, rfl, by omega, rfl, 0, rfl⟩
 case round =>
  obtain ⟨k, rfl, hk, hgk, n, rfl⟩ := hrel
  by_cases hlt : k < l.length
  ·
   obtain ⟨b, off, ha, c0, c1, c2, c3⟩ := h.crdC hlt
   obtain ⟨b', off', ha', d0, d1, d2, d3⟩ := h2.crdC hlt
   rw [ha, ha']
   generalize l[k] = x at *
   obtain ⟨x1, x2, x3, x4⟩ := x
   simp only at *
   have hk1 : (0 : Int) ≤ (k : Int) := by omega
   have hk2 : (k : Int) < (l.length : Int) := by omega
   go_wp2_with fail
   go_quiet (fail)
   go_wp2_with fail
   rw [← ha, ← ha']
   go_roundg (l.length - (k + 1))
   case measure => have := hgk.out; omega
   case rel => exact ⟨k + 1, by go_num, by omega, rfl, _, rfl⟩
  ·
   go_wp2_with fail
   go_ret
   exact ⟨rfl, _, rfl⟩
set_option maxRecDepth 100000 in
set_option maxHeartbeats 16000000 in
theorem walk (a0 : Option Addr) (len0 cap0 : Nat) (z0 : List Int) (w : World) (w0 : IsRow .i64 w a0 len0 cap0 z0) :
  Calls Tryz.prog 5 #[.slice a0 len0 cap0] w fun e w' => e = .returned (.bool true) ∧ Below w.heap.size w w' := by
 have hs := strm_new w0
 go_enter Tryz.func5, Tryz.ntmps5
 go_wp2_with fail
 refine (grid_any w.heap.size 0 6 3 3 _ hs (by omega) (by omega) (by omega) (by omega)).mono ?_
 rintro e w1 ⟨gb, vr, vs, vt, vw, vb, lr, ls, lt, lw, lb, rfl, hGW, hn, hr1, hs1, ht1, hw1, hb1, h1, s1⟩
 obtain ⟨g, rfl, rfl, rfl, rfl, rfl, hz, hnt, -, -, hwl, hext, HGS⟩ := hGW.grdS hn hr1 hs1 ht1 hw1 hb1
 have HG := Lib.hid HGS
 have hz1 := h1.size
 simp at hz1
 have hst1 := ((Stp.refl w.heap.size w).alloc (.cells #[.slice a0 len0 cap0, .int .i64 0] 25)).trans h1
 clear hGW hn hr1 hs1 ht1 hw1 hb1 w0 hs h1 HGS
 go_upto_region 3 with (fail)
 have hBx := Box.new w1 32 #[.slice g.ra g.rooms.length g.rc, .slice g.sa g.slots.length g.sc, .slice g.ta g.talks.length g.tc, .slice g.wa g.wishes.length g.wc, .slice g.ba g.bans.length g.bc]
 have s2 := s1.alloc (.cells #[.slice g.ra g.rooms.length g.rc, .slice g.sa g.slots.length g.sc, .slice g.ta g.talks.length g.tc, .slice g.wa g.wishes.length g.wc, .slice g.ba g.bans.length g.bc] 32)
 have hst2 := hst1.alloc (.cells #[.slice g.ra g.rooms.length g.rc, .slice g.sa g.slots.length g.sc, .slice g.ta g.talks.length g.tc, .slice g.wa g.wishes.length g.wc, .slice g.ba g.bans.length g.bc] 32)
 have HG2 : Hid (∀ W : World, (∀ k, k < (w1.alloc (.cells #[.slice g.ra g.rooms.length g.rc, .slice g.sa g.slots.length g.sc, .slice g.ta g.talks.length g.tc, .slice g.wa g.wishes.length g.wc, .slice g.ba g.bans.length g.bc] 32)).heap.size → k ≠ w.heap.size → W.heap[k]? = (w1.alloc (.cells #[.slice g.ra g.rooms.length g.rc, .slice g.sa g.slots.length g.sc, .slice g.ta g.talks.length g.tc, .slice g.wa g.wishes.length g.wc, .slice g.ba g.bans.length g.bc] 32)).heap[k]?) → GRd W g) := fun W hW => HG.out W (fun k hk1 hk2 => by
  simp at hk1
  rw [hW k (by simp; omega) (by omega), Below.heap_alloc _ _ _ hk2])
 have hzz : (w1.alloc (.cells #[.slice g.ra g.rooms.length g.rc, .slice g.sa g.slots.length g.sc, .slice g.ta g.talks.length g.tc, .slice g.wa g.wishes.length g.wc, .slice g.ba g.bans.length g.bc] 32)).heap.size = w1.heap.size + 1 := by simp
 clear hst1 s1 HG
 generalize w1.alloc (.cells #[.slice g.ra g.rooms.length g.rc, .slice g.sa g.slots.length g.sc, .slice g.ta g.talks.length g.tc, .slice g.wa g.wishes.length g.wc, .slice g.ba g.bans.length g.bc] 32) = w2 at *
 generalize w1.heap.size = n1 at *
 have HPG := Lib.hid (programme_any w.heap.size _ g w2 s2 (by omega) HG2.out hz (by omega))
 rw [Grd.agg_eq] at HPG
 have hBx_l := hBx.lt; have hBx_0 := hBx.cell 0; have hBx_1 := hBx.cell 1; have hBx_2 := hBx.cell 2; have hBx_3 := hBx.cell 3; have hBx_4 := hBx.cell 4; simp at hBx_0 hBx_1 hBx_2 hBx_3 hBx_4
 go_wp2_with fail
 clear hBx_l hBx_0 hBx_1 hBx_2 hBx_3 hBx_4
 refine HPG.out.mono ?_
 rintro e w3 ⟨pa, pc, p, rfl, HPR, hpc, hpl, hpn0, h3, s3⟩
 have hpn := fun s hs => (hpn0 s hs).1
 have hcaps := Lib.hid (fun s hs => (hpn0 s hs).2)
 clear hpn0
 have hz3 := h3.size
 have hBx3 := hBx.stp h3 (by omega)
 have hst3 := hst2.trans h3
 have H23 : Hid (∀ k, k < w2.heap.size → k ≠ w.heap.size → w3.heap[k]? = w2.heap[k]?) := fun k hk hkS => h3.block k hk hkS
 have HP3 : Hid (∀ W : World, Stp w.heap.size w3 W → PRg W pa p) := HPR
 have hsesok : ∀ s ∈ p, SesOk s := fun s hs => ⟨(hpn s hs).1, (hpn s hs).2.1, by have := (hpn s hs).2.2.1; omega, (hpn s hs).2.2.2⟩
 clear hst2 s2 HPG h3 HPR hBx hpn
 obtain ⟨hrm, hwc⟩ := hext
 have hcp : ∀ s ∈ p, s.papers.length ≤ s.c1 := hcaps.out
 have hb6 : Below w.heap.size w w3 := by have := hst3.below; rwa [Nat.min_self] at this
 have HG6 : Hid (∀ W : World, Below w3.heap.size w3 W → GRd W g) := fun W hW => HG2.out W (fun k hk hkS => by rw [hW.block k (by omega)]; exact H23.out k hk hkS)
 have HP6 : Hid (∀ W : World, Below w3.heap.size w3 W → PRg W pa p) := fun W hW => HP3.out W (Stp.of_below hW)
 clear hst3 s3 HG2 H23 HP3 hcaps
 have hp1 : p.length ≤ 1000 := by omega
 have hw1 : g.wishes.length ≤ 50 := by omega
 have HCL := Lib.hid (fun W (h : Below w3.heap.size w3 W) => clashesF_any g p pa pc W (HG6.out W h) hz hrm (HP6.out W h) hp1 hsesok hpc hcp hwc hw1)
 have HMX := Lib.hid (fun W (h : Below w3.heap.size w3 W) => mixedF_any g p pa pc W (HG6.out W h) hz hrm (HP6.out W h) hp1 hsesok hpc hcp hwc hw1)
 have HCR := Lib.hid (fun W (h : Below w3.heap.size w3 W) => crowdF_any g p pa pc W (HG6.out W h) hz hrm (HP6.out W h) hp1 hsesok hpc hcp hwc hw1)
 have HCO := Lib.hid (fun W (h : Below w3.heap.size w3 W) => costF_any g p pa pc W (HG6.out W h) hz hrm (HP6.out W h) hp1 hsesok hpc hcp hwc hw1)
 have HBO := Lib.hid (fun W (h : Below w3.heap.size w3 W) => both_any g p pa pc W (HG6.out W h) hz (HP6.out W h) (by omega) hsesok hpc)
 have HCLO : Hid (bothF g p = 0 → ∀ W, Below w3.heap.size w3 W → Calls Tryz.prog 28 #[g.agg, .slice pa p.length pc] W (GivesOwn 66 (sortClh (clP g p)) W)) := fun h0 W h => by
  have h1 := clashesOf_any g p pa pc W (HG6.out W h) hz (HP6.out W h) hp1 hsesok (form_of (both_ok h0).2)
  rw [clashes_same h0] at h1
  exact h1
 have HMXO := Lib.hid (fun W (h : Below w3.heap.size w3 W) => mixedOf_any g p pa pc W (HG6.out W h) hz (HP6.out W h) hp1 hsesok hcp)
 have HCRO := Lib.hid (fun W (h : Below w3.heap.size w3 W) => crowdsOf_any g p pa pc W (HG6.out W h) hz hrm (HP6.out W h) hp1 hsesok)
 have HCOO : Hid (bothF g p = 0 → ∀ W, Below w3.heap.size w3 W → Calls Tryz.prog 32 #[g.agg, .slice pa p.length pc] W (Gives (.int .i64 (costZ (missL g p).length (mixN g p : Nat) (sortClh (clP g p)) (crowdL g p))) W)) := fun h0 W h => by
  have h1 := costOf_any g p pa pc W (HG6.out W h) hz hrm (HP6.out W h) hp1 hsesok hpc hcp hwc hw1 h0
  rw [clashes_same h0] at h1
  exact h1
 have HPR := Lib.hid (fun W => programs_any W)
 have hcl := clP_len hz hw1 p
 have hrl := crowdL_len g p
 rw [Grd.agg_eq] at HCL HMX HCR HCO HBO HCLO HMXO HCRO HCOO
 unfold ListRes at HCL HCR
 unfold NumRes at HMX HCO
 generalize costZ (missL g p).length (mixN g p : Nat) (sortClh (clP g p)) (crowdL g p) = Z at *
 generalize sortClh (clP g p) = cl at *
 generalize crowdL g p = rl at *
 generalize hmq : ((mixN g p : Nat) : Int) = mx at *
 generalize bothF g p = R at *
 clear HG6 HP6 hz hsesok hrm hwc hcp hmq
 by_cases h0 : R = 0
 ·
  subst h0
  have HCLO2 := Lib.hid (HCLO.out rfl)
  have HCOO2 := Lib.hid (HCOO.out rfl)
  clear HCLO HCOO
  have hBx3_l := hBx3.lt; have hBx3_0 := hBx3.cell 0; have hBx3_1 := hBx3.cell 1; have hBx3_2 := hBx3.cell 2; have hBx3_3 := hBx3.cell 3; have hBx3_4 := hBx3.cell 4; simp at hBx3_0 hBx3_1 hBx3_2 hBx3_3 hBx3_4
  go_wp2_with fail
  clear hBx3_l hBx3_0 hBx3_1 hBx3_2 hBx3_3 hBx3_4
  refine (HCL.out _ (Below.refl _ _)).mono ?_
  rintro e w4 ⟨hb4, hc⟩
  obtain ⟨-, v4, rfl, hown⟩ := hc.resolve_left (fun h => h.1 rfl)
  obtain ⟨ac, cc, rfl, hsc, -, -⟩ := hown.form
  clear hc hown
  have hBx4 := hBx3.below hb4
  have hB4 := hb4
  clear hBx3 hb4
  have hBx4_l := hBx4.lt; have hBx4_0 := hBx4.cell 0; have hBx4_1 := hBx4.cell 1; have hBx4_2 := hBx4.cell 2; have hBx4_3 := hBx4.cell 3; have hBx4_4 := hBx4.cell 4; simp at hBx4_0 hBx4_1 hBx4_2 hBx4_3 hBx4_4
  go_wp2_with fail
  clear hBx4_l hBx4_0 hBx4_1 hBx4_2 hBx4_3 hBx4_4
  refine (HMX.out _ hB4).mono ?_
  rintro e w5 ⟨hb5, hc⟩
  obtain ⟨-, rfl⟩ := hc.resolve_left (fun h => h.1 rfl)
  clear hc
  have hBx5 := hBx4.below hb5
  replace hsc := hsc.below hb5
  have hB5 := below_next hB4 hb5
  clear hBx4 hb5 hB4
  have hBx5_l := hBx5.lt; have hBx5_0 := hBx5.cell 0; have hBx5_1 := hBx5.cell 1; have hBx5_2 := hBx5.cell 2; have hBx5_3 := hBx5.cell 3; have hBx5_4 := hBx5.cell 4; simp at hBx5_0 hBx5_1 hBx5_2 hBx5_3 hBx5_4
  go_wp2_with fail
  clear hBx5_l hBx5_0 hBx5_1 hBx5_2 hBx5_3 hBx5_4
  refine (HCR.out _ hB5).mono ?_
  rintro e w6 ⟨hb6, hc⟩
  obtain ⟨-, v6, rfl, hown⟩ := hc.resolve_left (fun h => h.1 rfl)
  obtain ⟨ar, cr, rfl, hsr, -, -⟩ := hown.form
  clear hc hown
  have hBx6 := hBx5.below hb6
  replace hsc := hsc.below hb6
  have hB6 := below_next hB5 hb6
  clear hBx5 hb6 hB5
  have hBx6_l := hBx6.lt; have hBx6_0 := hBx6.cell 0; have hBx6_1 := hBx6.cell 1; have hBx6_2 := hBx6.cell 2; have hBx6_3 := hBx6.cell 3; have hBx6_4 := hBx6.cell 4; simp at hBx6_0 hBx6_1 hBx6_2 hBx6_3 hBx6_4
  go_wp2_with fail
  clear hBx6_l hBx6_0 hBx6_1 hBx6_2 hBx6_3 hBx6_4
  refine (HCO.out _ hB6).mono ?_
  rintro e w7 ⟨hb7, hc⟩
  obtain ⟨-, rfl⟩ := hc.resolve_left (fun h => h.1 rfl)
  clear hc
  have hBx7 := hBx6.below hb7
  replace hsc := hsc.below hb7
  replace hsr := hsr.below hb7
  have hB7 := below_next hB6 hb7
  clear hBx6 hb7 hB6
  have hBx7_l := hBx7.lt; have hBx7_0 := hBx7.cell 0; have hBx7_1 := hBx7.cell 1; have hBx7_2 := hBx7.cell 2; have hBx7_3 := hBx7.cell 3; have hBx7_4 := hBx7.cell 4; simp at hBx7_0 hBx7_1 hBx7_2 hBx7_3 hBx7_4
  go_wp2_with fail
  clear hBx7_l hBx7_0 hBx7_1 hBx7_2 hBx7_3 hBx7_4
  refine (HBO.out _ hB7).mono ?_
  rintro e w8 ⟨rfl, hb8⟩
  have hBx8 := hBx7.below hb8
  replace hsc := hsc.below hb8
  replace hsr := hsr.below hb8
  have hB8 := below_next hB7 hb8
  clear hBx7 hb8 hB7
  have hBx8_l := hBx8.lt; have hBx8_0 := hBx8.cell 0; have hBx8_1 := hBx8.cell 1; have hBx8_2 := hBx8.cell 2; have hBx8_3 := hBx8.cell 3; have hBx8_4 := hBx8.cell 4; simp at hBx8_0 hBx8_1 hBx8_2 hBx8_3 hBx8_4
  go_wp2_with fail
  clear hBx8_l hBx8_0 hBx8_1 hBx8_2 hBx8_3 hBx8_4
  refine (HPR.out _).mono ?_
  rintro e w9 ⟨rfl, hb9⟩
  have hBx9 := hBx8.below hb9
  replace hsc := hsc.below hb9
  replace hsr := hsr.below hb9
  have hB9 := below_next hB8 hb9
  clear hBx8 hb9 hB8
  have hBx9_l := hBx9.lt; have hBx9_0 := hBx9.cell 0; have hBx9_1 := hBx9.cell 1; have hBx9_2 := hBx9.cell 2; have hBx9_3 := hBx9.cell 3; have hBx9_4 := hBx9.cell 4; simp at hBx9_0 hBx9_1 hBx9_2 hBx9_3 hBx9_4
  go_wp2_with fail
  clear hBx9_l hBx9_0 hBx9_1 hBx9_2 hBx9_3 hBx9_4
  refine (HCLO2.out _ hB9).mono ?_
  rintro e w10 ⟨v10, rfl, hown, hb10⟩
  obtain ⟨a9, c9, rfl, hs9, -, -⟩ := hown.form
  clear hown
  have hBx10 := hBx9.below hb10
  replace hsc := hsc.below hb10
  replace hsr := hsr.below hb10
  have hB10 := below_next hB9 hb10
  clear hBx9 hb10 hB9
  go_wp2_with fail
  refine (eqClh_any cl ac a9 cc c9 _ hsc hs9 (by omega)).mono ?_
  rintro e w11 ⟨rfl, n11, rfl⟩
  have hBx11 := hBx10.drewN n11
  replace hsr := hsr.drewN n11
  have hB11 := below_drewN hB10 n11
  clear hBx10 hB10 hs9 hsc
  generalize World.drewN w10 n11 = w11 at *
  have hBx11_l := hBx11.lt; have hBx11_0 := hBx11.cell 0; have hBx11_1 := hBx11.cell 1; have hBx11_2 := hBx11.cell 2; have hBx11_3 := hBx11.cell 3; have hBx11_4 := hBx11.cell 4; simp at hBx11_0 hBx11_1 hBx11_2 hBx11_3 hBx11_4
  go_wp2_with fail
  clear hBx11_l hBx11_0 hBx11_1 hBx11_2 hBx11_3 hBx11_4
  refine (HMXO.out _ hB11).mono ?_
  rintro e w12 ⟨rfl, hb12⟩
  have hBx12 := hBx11.below hb12
  replace hsr := hsr.below hb12
  have hB12 := below_next hB11 hb12
  clear hBx11 hb12 hB11
  have hBx12_l := hBx12.lt; have hBx12_0 := hBx12.cell 0; have hBx12_1 := hBx12.cell 1; have hBx12_2 := hBx12.cell 2; have hBx12_3 := hBx12.cell 3; have hBx12_4 := hBx12.cell 4; simp at hBx12_0 hBx12_1 hBx12_2 hBx12_3 hBx12_4
  go_wp2_with fail
  clear hBx12_l hBx12_0 hBx12_1 hBx12_2 hBx12_3 hBx12_4
  refine (HCRO.out _ hB12).mono ?_
  rintro e w13 ⟨v13, rfl, hown, hb13⟩
  obtain ⟨a9, c9, rfl, hs9, -, -⟩ := hown.form
  clear hown
  have hBx13 := hBx12.below hb13
  replace hsr := hsr.below hb13
  have hB13 := below_next hB12 hb13
  clear hBx12 hb13 hB12
  go_wp2_with fail
  refine (eqCrd_any rl ar a9 cr c9 _ hsr hs9 (by omega)).mono ?_
  rintro e w14 ⟨rfl, n14, rfl⟩
  have hBx14 := hBx13.drewN n14
  have hB14 := below_drewN hB13 n14
  clear hBx13 hB13 hs9 hsr
  generalize World.drewN w13 n14 = w14 at *
  have hBx14_l := hBx14.lt; have hBx14_0 := hBx14.cell 0; have hBx14_1 := hBx14.cell 1; have hBx14_2 := hBx14.cell 2; have hBx14_3 := hBx14.cell 3; have hBx14_4 := hBx14.cell 4; simp at hBx14_0 hBx14_1 hBx14_2 hBx14_3 hBx14_4
  go_wp2_with fail
  clear hBx14_l hBx14_0 hBx14_1 hBx14_2 hBx14_3 hBx14_4
  refine (HCOO2.out _ hB14).mono ?_
  rintro e w15 ⟨rfl, hb15⟩
  have hBx15 := hBx14.below hb15
  have hB15 := below_next hB14 hb15
  clear hBx14 hb15 hB14
  go_wp2_with fail
  go_ret
  exact ⟨rfl, hb6.trans (hB15.mono hb6.size)⟩
 ·
  have H0 := Lib.hid h0
  have hq : (R != 0) = true := by simpa using h0
  have hqq : (R == R) = true := by simp
  clear h0 HCLO HMXO HCRO HCOO
  have hBx3_l := hBx3.lt; have hBx3_0 := hBx3.cell 0; have hBx3_1 := hBx3.cell 1; have hBx3_2 := hBx3.cell 2; have hBx3_3 := hBx3.cell 3; have hBx3_4 := hBx3.cell 4; simp at hBx3_0 hBx3_1 hBx3_2 hBx3_3 hBx3_4
  go_wp2_with fail
  clear hBx3_l hBx3_0 hBx3_1 hBx3_2 hBx3_3 hBx3_4
  refine (HCL.out _ (Below.refl _ _)).mono ?_
  rintro e w4 ⟨hb4, hc⟩
  obtain ⟨-, rfl⟩ := hc.resolve_right (fun h => H0.out h.1)
  clear hc
  have hBx4 := hBx3.below hb4
  have hB4 := hb4
  clear hBx3 hb4
  have hBx4_l := hBx4.lt; have hBx4_0 := hBx4.cell 0; have hBx4_1 := hBx4.cell 1; have hBx4_2 := hBx4.cell 2; have hBx4_3 := hBx4.cell 3; have hBx4_4 := hBx4.cell 4; simp at hBx4_0 hBx4_1 hBx4_2 hBx4_3 hBx4_4
  go_wp2_with fail
  clear hBx4_l hBx4_0 hBx4_1 hBx4_2 hBx4_3 hBx4_4
  refine (HMX.out _ hB4).mono ?_
  rintro e w5 ⟨hb5, hc⟩
  obtain ⟨-, rfl⟩ := hc.resolve_right (fun h => H0.out h.1)
  clear hc
  have hBx5 := hBx4.below hb5
  have hB5 := below_next hB4 hb5
  clear hBx4 hb5 hB4
  have hBx5_l := hBx5.lt; have hBx5_0 := hBx5.cell 0; have hBx5_1 := hBx5.cell 1; have hBx5_2 := hBx5.cell 2; have hBx5_3 := hBx5.cell 3; have hBx5_4 := hBx5.cell 4; simp at hBx5_0 hBx5_1 hBx5_2 hBx5_3 hBx5_4
  go_wp2_with fail
  clear hBx5_l hBx5_0 hBx5_1 hBx5_2 hBx5_3 hBx5_4
  refine (HCR.out _ hB5).mono ?_
  rintro e w6 ⟨hb6, hc⟩
  obtain ⟨-, rfl⟩ := hc.resolve_right (fun h => H0.out h.1)
  clear hc
  have hBx6 := hBx5.below hb6
  have hB6 := below_next hB5 hb6
  clear hBx5 hb6 hB5
  have hBx6_l := hBx6.lt; have hBx6_0 := hBx6.cell 0; have hBx6_1 := hBx6.cell 1; have hBx6_2 := hBx6.cell 2; have hBx6_3 := hBx6.cell 3; have hBx6_4 := hBx6.cell 4; simp at hBx6_0 hBx6_1 hBx6_2 hBx6_3 hBx6_4
  go_wp2_with fail
  clear hBx6_l hBx6_0 hBx6_1 hBx6_2 hBx6_3 hBx6_4
  refine (HCO.out _ hB6).mono ?_
  rintro e w7 ⟨hb7, hc⟩
  obtain ⟨-, rfl⟩ := hc.resolve_right (fun h => H0.out h.1)
  clear hc
  have hBx7 := hBx6.below hb7
  have hB7 := below_next hB6 hb7
  clear hBx6 hb7 hB6
  have hBx7_l := hBx7.lt; have hBx7_0 := hBx7.cell 0; have hBx7_1 := hBx7.cell 1; have hBx7_2 := hBx7.cell 2; have hBx7_3 := hBx7.cell 3; have hBx7_4 := hBx7.cell 4; simp at hBx7_0 hBx7_1 hBx7_2 hBx7_3 hBx7_4
  go_wp2_with fail
  clear hBx7_l hBx7_0 hBx7_1 hBx7_2 hBx7_3 hBx7_4
  refine (HBO.out _ hB7).mono ?_
  rintro e w8 ⟨rfl, hb8⟩
  have hBx8 := hBx7.below hb8
  have hB8 := below_next hB7 hb8
  clear hBx7 hb8 hB7
  have hBx8_l := hBx8.lt; have hBx8_0 := hBx8.cell 0; have hBx8_1 := hBx8.cell 1; have hBx8_2 := hBx8.cell 2; have hBx8_3 := hBx8.cell 3; have hBx8_4 := hBx8.cell 4; simp at hBx8_0 hBx8_1 hBx8_2 hBx8_3 hBx8_4
  go_wp2_with fail
  clear hBx8_l hBx8_0 hBx8_1 hBx8_2 hBx8_3 hBx8_4
  refine (HPR.out _).mono ?_
  rintro e w9 ⟨rfl, hb9⟩
  have hBZ := below_next hB8 hb9
  go_wp2_with fail
  go_ret
  exact ⟨rfl, hb6.trans (hBZ.mono hb6.size)⟩
end Go.Proofs.YthnbcdgbpofnjaaGreatDoor.talksClash
