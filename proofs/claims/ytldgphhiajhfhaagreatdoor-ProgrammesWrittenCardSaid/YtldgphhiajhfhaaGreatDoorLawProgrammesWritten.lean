/- For every list of raw numbers, ProgrammesWritten returns true. The walk. -/
import Derived.Test.YtldgphhiajhfhaaGreatDoorPRdR
import Derived.Test.YtldgphhiajhfhaaGreatDoorPSz
import Derived.Test.YtldgphhiajhfhaaGreatDoorSame
import Derived.Test.YtldgphhiajhfhaaGreatDoorCost0
namespace Go.Proofs.YtldgphhiajhfhaaGreatDoor.programmesWritten
open Go.RowKit
set_option linter.unusedVariables false
set_option linter.unusedSimpArgs false

set_option maxRecDepth 100000 in
set_option maxHeartbeats 16000000 in
theorem walk (a0 : Option Addr) (len0 cap0 : Nat) (z0 : List Int) (w : World) (w0 : IsRow .i64 w a0 len0 cap0 z0) (hE : EnvM w) :
  Calls Tryz.prog 3 #[.slice a0 len0 cap0] w fun e w' => e = .returned (.bool true) ∧ Below w.heap.size w w' := by
 have HEV := Lib.hid hE
 have hEl := hE.lt
 clear hE
 have hs := strm_new w0
 go_enter Tryz.func3, Tryz.ntmps3
 go_wp2_with fail
 refine (gridV_any w.heap.size 0 5 3 3 _ hs (by omega) (by omega) (by omega) (by omega)).mono ?_
 rintro e w1 ⟨gb, vr, vs, vt, vw, vb, lr, ls, lt, lw, lb, rfl, hGW, hn, hr1, hs1, ht1, hw1, hb1, h1, s1⟩
 have hT6 : lt.length ≤ 6 := by have := hn.2.2.1; omega
 obtain ⟨fta, ftc, hft, -, -, -⟩ := hGW.ft.form
 obtain ⟨g, rfl, rfl, rfl, rfl, rfl, hz, hnt, -, -, hwl, hext, HGS⟩ := hGW.grdS ⟨hn.1, hn.2.1, by omega, hn.2.2.2⟩ hr1 hs1 ht1 hw1 hb1
 have hg6 : g.talks.length ≤ 6 := by simp only [Value.slice.injEq] at hft; omega
 clear hft hT6
 have HG := Lib.hid HGS
 have hz1 := h1.size
 simp at hz1
 have hst1 := ((Stp.refl w.heap.size w).alloc (.cells #[.slice a0 len0 cap0, .int .i64 0] 25)).trans h1
 clear hGW hn hr1 hs1 ht1 hw1 hb1 w0 hs h1 HGS
 go_upto_region 3 with (fail)
 have hBx := Box.new w1 32 #[.slice g.ra g.rooms.length g.rc, .slice g.sa g.slots.length g.sc, .slice g.ta g.talks.length g.tc, .slice g.wa g.wishes.length g.wc, .slice g.ba g.bans.length g.bc]
 have s2 := s1.alloc (.cells #[.slice g.ra g.rooms.length g.rc, .slice g.sa g.slots.length g.sc, .slice g.ta g.talks.length g.tc, .slice g.wa g.wishes.length g.wc, .slice g.ba g.bans.length g.bc] 32)
 have hst2 := hst1.alloc (.cells #[.slice g.ra g.rooms.length g.rc, .slice g.sa g.slots.length g.sc, .slice g.ta g.talks.length g.tc, .slice g.wa g.wishes.length g.wc, .slice g.ba g.bans.length g.bc] 32)
 have HG2 : Hid (∀ W : World, (∀ k, k < (w1.alloc (.cells #[.slice g.ra g.rooms.length g.rc, .slice g.sa g.slots.length g.sc, .slice g.ta g.talks.length g.tc, .slice g.wa g.wishes.length g.wc, .slice g.ba g.bans.length g.bc] 32)).heap.size → k ≠ w.heap.size → W.heap[k]? = (w1.alloc (.cells #[.slice g.ra g.rooms.length g.rc, .slice g.sa g.slots.length g.sc, .slice g.ta g.talks.length g.tc, .slice g.wa g.wishes.length g.wc, .slice g.ba g.bans.length g.bc] 32)).heap[k]?) → GRd W g) := fun W hW => HG.out W (fun k hk1 hk2 => by
  simp at hk1
  rw [hW k (by simp; omega) (by omega), Below.heap_alloc _ _ _ hk2])
 have hzz : (w1.alloc (.cells #[.slice g.ra g.rooms.length g.rc, .slice g.sa g.slots.length g.sc, .slice g.ta g.talks.length g.tc, .slice g.wa g.wishes.length g.wc, .slice g.ba g.bans.length g.bc] 32)).heap.size = w1.heap.size + 1 := by simp
 clear hst1 s1 HG
 generalize w1.alloc (.cells #[.slice g.ra g.rooms.length g.rc, .slice g.sa g.slots.length g.sc, .slice g.ta g.talks.length g.tc, .slice g.wa g.wishes.length g.wc, .slice g.ba g.bans.length g.bc] 32) = w2 at *
 generalize w1.heap.size = n1 at *
 have HPG := Lib.hid (programme_any w.heap.size _ g w2 s2 (by omega) HG2.out hz (by omega))
 rw [Grd.agg_eq] at HPG
 have hBx_l := hBx.lt; have hBx_0 := hBx.cell 0; have hBx_1 := hBx.cell 1; have hBx_2 := hBx.cell 2; have hBx_3 := hBx.cell 3; have hBx_4 := hBx.cell 4; simp at hBx_0 hBx_1 hBx_2 hBx_3 hBx_4
 go_wp2_with fail
 clear hBx_l hBx_0 hBx_1 hBx_2 hBx_3 hBx_4
 refine HPG.out.mono ?_
 rintro e w3 ⟨pa, pc, p, rfl, HPR, hpc, hpl, hpn0, h3, s3⟩
 have hpn := fun s hs => (hpn0 s hs).1
 have hcaps := Lib.hid (fun s hs => (hpn0 s hs).2)
 clear hpn0
 have hz3 := h3.size
 have hBx3 := hBx.stp h3 (by omega)
 have hst3 := hst2.trans h3
 have H23 : Hid (∀ k, k < w2.heap.size → k ≠ w.heap.size → w3.heap[k]? = w2.heap[k]?) := fun k hk hkS => h3.block k hk hkS
 have HP3 : Hid (∀ W : World, Stp w.heap.size w3 W → PRg W pa p) := HPR
 have hsesok : ∀ s ∈ p, SesOk s := fun s hs => ⟨(hpn s hs).1, (hpn s hs).2.1, by have := (hpn s hs).2.2.1; omega, (hpn s hs).2.2.2⟩
 clear hst2 s2 HPG h3 HPR hBx hpn
 have HGA : Hid (∀ W : World, Stp w.heap.size w3 W → GRd W g) := fun W hW => HG2.out W (fun k hk hkS => by rw [hW.block k (by omega) hkS]; exact H23.out k hk hkS)
 have HGB : Hid (∀ W : World, Stp w.heap.size w3 W → ∀ W' : World, (∀ k, k < W.heap.size → k ≠ w.heap.size → W'.heap[k]? = W.heap[k]?) → GRd W' g) := fun W hW W' hk' => HG2.out W' (fun k hk hkS => by rw [hk' k (by have := hW.size; omega) hkS, hW.block k (by omega) hkS]; exact H23.out k hk hkS)
 have HET : Hid (∀ W : World, Stp w.heap.size w3 W → EnvM W) := fun W hW => (HEV.out.stp hst3 (by omega)).stp hW (by omega)
 have hnn : bothF g p = 0 → (progT p).length ≤ 200000 := fun h => by
  unfold bothF at h
  split at h
  ·
   next h1 => exact absurd h h1
  ·
   next h1 =>
   have := progT_small (Classical.not_not.1 h1) h
   omega
 have HPN := Lib.hid (fun W (h : Stp w.heap.size w3 W) => print_any g p pa pc W (HGA.out W h) hz (HP3.out W h) (by omega) hsesok hpc hnn)
 have HBO := Lib.hid (fun W (h : Stp w.heap.size w3 W) => both_any g p pa pc W (HGA.out W h) hz (HP3.out W h) (by omega) hsesok hpc)
 have HPT : Hid (bothF g p = 0 → ∀ W, Stp w.heap.size w3 W → Calls Tryz.prog 9 #[.slice pa p.length pc] W (Gives (.string ⟨(progT p).toArray⟩) W)) := fun h0 W h => progText_any p pa pc W (HP3.out W h) (by omega) (by have := hnn h0; omega)
 have HPM := Lib.hid (fun B' W (h : Stp w.heap.size w3 W) (hs : Strm w.heap.size B' W) (hB : B' ≤ 999800000) => progTextM_any w.heap.size B' g W hs hB (HGB.out W h) hz hg6)
 have HRD := Lib.hid (fun text W (h : Stp w.heap.size w3 W) (ht : text.size ≤ 1000) => read_any g text W (HGA.out W h) hz (HET.out W h) ht)
 have HPF := Lib.hid (fun text W (h : Stp w.heap.size w3 W) (ht : text.size ≤ 1000) => progFrom_any g text W (HGA.out W h) hz (HET.out W h) ht)
 have HGF := Lib.hid (fun W (h : Stp w.heap.size w3 W) => gridFaultR_any g W (HGA.out W h) hz)
 have HPR := Lib.hid (fun W => programs_any W)
 have HV1 : Hid (bothF g p = 0 → (if bothF g p = 0 then (⟨(progT p).toArray⟩ : ByteArray) else ⟨#[]⟩) = ⟨(progT p).toArray⟩) := fun h => if_pos h
 rw [Grd.agg_eq] at HPN HBO HPM HRD HPF HGF
 unfold ReadRes at HRD
 unfold RdRes at HRD HPF
 clear hnn HGA HGB HET HP3 HG2 H23 hsesok hcaps hext hEl HEV
 generalize (if bothF g p = 0 then (⟨(progT p).toArray⟩ : ByteArray) else ⟨#[]⟩) = vs at *
 generalize bothF g p = bf at *
 generalize gridFault g = gf at *
 generalize (⟨(progT p).toArray⟩ : ByteArray) = st at *
 have hBx3_l := hBx3.lt; have hBx3_0 := hBx3.cell 0; have hBx3_1 := hBx3.cell 1; have hBx3_2 := hBx3.cell 2; have hBx3_3 := hBx3.cell 3; have hBx3_4 := hBx3.cell 4; simp at hBx3_0 hBx3_1 hBx3_2 hBx3_3 hBx3_4
 go_wp2_with fail
 clear hBx3_l hBx3_0 hBx3_1 hBx3_2 hBx3_3 hBx3_4
 refine (HPN.out _ (Stp.refl _ _)).mono ?_
 rintro e w4 ⟨rfl, hb4⟩
 have hst4 : Stp w.heap.size w3 w4 := Stp.of_below hb4
 have hBx4 := hBx3.below hb4
 have s4 := s3.below hb4
 clear hBx3 s3 hb4 HPN
 have hBx4_l := hBx4.lt; have hBx4_0 := hBx4.cell 0; have hBx4_1 := hBx4.cell 1; have hBx4_2 := hBx4.cell 2; have hBx4_3 := hBx4.cell 3; have hBx4_4 := hBx4.cell 4; simp at hBx4_0 hBx4_1 hBx4_2 hBx4_3 hBx4_4
 go_wp2_with fail
 clear hBx4_l hBx4_0 hBx4_1 hBx4_2 hBx4_3 hBx4_4
 refine (HBO.out _ hst4).mono ?_
 rintro e w5 ⟨rfl, hb5⟩
 have hst5 := hst4.trans (Stp.of_below hb5)
 have hBx5 := hBx4.below hb5
 have s5 := s4.below hb5
 clear hst4 hBx4 s4 hb5 HBO
 have hq1 : (bf != bf) = false := by simp
 by_cases h0 : bf = 0
 ·
  subst h0
  have hv := HV1.out rfl
  subst hv
  have e1 : (vs.toList == vs.toList) = true := by simp
  have e2 : (vs.toList != vs.toList) = false := by simp
  have HPT2 := Lib.hid (HPT.out rfl)
  clear HPT HV1
  go_wp2_with fail
  refine (HPT2.out _ hst5).mono ?_
  rintro e wA ⟨rfl, hbA⟩
  have hstA := hst5.trans (Stp.of_below hbA)
  have hBxA := hBx5.below hbA
  have sA := s5.below hbA
  clear hst5 hBx5 s5 hbA HPT2
  have hBxA_l := hBxA.lt; have hBxA_0 := hBxA.cell 0; have hBxA_1 := hBxA.cell 1; have hBxA_2 := hBxA.cell 2; have hBxA_3 := hBxA.cell 3; have hBxA_4 := hBxA.cell 4; simp at hBxA_0 hBxA_1 hBxA_2 hBxA_3 hBxA_4
  go_wp2_with fail
  clear hBxA_l hBxA_0 hBxA_1 hBxA_2 hBxA_3 hBxA_4
  refine (HPM.out _ _ hstA sA (by omega)).mono ?_
  rintro e wB ⟨text, ht, rfl, hB, sB⟩
  have hstB := hstA.trans hB
  have hBxB := hBxA.stp hB (by omega)
  clear hB hstA hBxA sA sB HPM
  have hBxB_l := hBxB.lt; have hBxB_0 := hBxB.cell 0; have hBxB_1 := hBxB.cell 1; have hBxB_2 := hBxB.cell 2; have hBxB_3 := hBxB.cell 3; have hBxB_4 := hBxB.cell 4; simp at hBxB_0 hBxB_1 hBxB_2 hBxB_3 hBxB_4
  go_wp2_with fail
  clear hBxB_l hBxB_0 hBxB_1 hBxB_2 hBxB_3 hBxB_4
  refine (HRD.out text _ hstB ht).mono ?_
  rintro e wC hC
  rcases hC with ⟨hgf, hbC, rfl⟩ | ⟨hgf, hbC, er, i, o, q, qa, qc, hcase, rfl, hq, hqo, hql, hqp⟩
  ·
   have hstC := hstB.trans (Stp.of_below hbC)
   have hBxC := hBxB.below hbC
   have hq0 : (gf != 0) = true := by simpa using hgf
   have hq1 : (gf == gf) = true := by simp
   clear hgf HRD HPF hBxB hstB hbC
   have hBxC_l := hBxC.lt; have hBxC_0 := hBxC.cell 0; have hBxC_1 := hBxC.cell 1; have hBxC_2 := hBxC.cell 2; have hBxC_3 := hBxC.cell 3; have hBxC_4 := hBxC.cell 4; simp at hBxC_0 hBxC_1 hBxC_2 hBxC_3 hBxC_4
   go_wp2_with fail
   clear hBxC_l hBxC_0 hBxC_1 hBxC_2 hBxC_3 hBxC_4
   refine (HGF.out _ hstC).mono ?_
   rintro e wD ⟨rfl, hbD⟩
   have hstD := hstC.trans (Stp.of_below hbD)
   go_wp2_with fail
   refine (HPR.out _).mono ?_
   rintro e wE ⟨rfl, hbE⟩
   have hstE := hst3.trans (hstD.trans (Stp.of_below hbE))
   have hfin := hstE.below
   rw [Nat.min_self] at hfin
   clear hstE hst3 hstD hstC
   go_wp2_with fail
   go_ret
   exact ⟨rfl, hfin⟩
  ·
   have hstC := hstB.trans (Stp.of_below hbC)
   have hBxC := hBxB.below hbC
   have HC1 := Lib.hid hcase
   have Hqo := Lib.hid hqo
   have Hqp := Lib.hid hqp
   have Hgf := Lib.hid hgf
   clear HRD hBxB hstB hbC hcase hqo hqp hgf
   have hBxC_l := hBxC.lt; have hBxC_0 := hBxC.cell 0; have hBxC_1 := hBxC.cell 1; have hBxC_2 := hBxC.cell 2; have hBxC_3 := hBxC.cell 3; have hBxC_4 := hBxC.cell 4; simp at hBxC_0 hBxC_1 hBxC_2 hBxC_3 hBxC_4
   go_wp2_with fail
   clear hBxC_l hBxC_0 hBxC_1 hBxC_2 hBxC_3 hBxC_4
   refine (HGF.out _ hstC).mono ?_
   rintro e wD ⟨rfl, hbD⟩
   have hstD := hstC.trans (Stp.of_below hbD)
   have hBxD := hBxC.below hbD
   have hqD := hq.below hbD
   have hg0 := Hgf.out
   subst hg0
   clear hstC hBxC hq hbD HGF Hgf
   have hBxD_l := hBxD.lt; have hBxD_0 := hBxD.cell 0; have hBxD_1 := hBxD.cell 1; have hBxD_2 := hBxD.cell 2; have hBxD_3 := hBxD.cell 3; have hBxD_4 := hBxD.cell 4; simp at hBxD_0 hBxD_1 hBxD_2 hBxD_3 hBxD_4
   go_wp2_with fail
   clear hBxD_l hBxD_0 hBxD_1 hBxD_2 hBxD_3 hBxD_4
   refine (HPF.out text _ hstD ht).mono ?_
   rintro e wE ⟨hbE, er2, i2, o2, q2, qa2, qc2, hcase2, rfl, hq2, hqo2, hql2, hqp2⟩
   obtain ⟨e1, e2, e3⟩ := HC1.out.one hcase2
   subst e1 e2 e3
   have hstE := hstD.trans (Stp.of_below hbE)
   have hqE := hqD.below hbE
   have hm : q.map keyOf3 = q2.map keyOf3 := Hqo.out.trans hqo2.symm
   have hq1 : (er == er) = true := by simp
   have hq2' : (i == i) = true := by simp
   have HSM := Lib.hid (fun W (h : Below wE.heap.size wE W) => same_any q q2 qa qa2 qc qc2 W (hqE.below h).list (hq2.below h).list (fun x hx => ⟨(hqE.below h).papers x hx, by have := Hqp.out x hx; omega⟩) (fun x hx => (hq2.below h).papers x hx) hm (by omega))
   clear HC1 Hqo hqo2 hqp2 hcase2 hstD hBxD hqD hbE hm HPF
   go_wp2_with fail
   refine (HPR.out _).mono ?_
   rintro e wF ⟨rfl, hbF⟩
   go_wp2_with fail
   refine (HSM.out _ hbF).mono ?_
   rintro e wG ⟨rfl, hbG⟩
   have hstG := hst3.trans ((hstE.trans (Stp.of_below hbF)).trans (Stp.of_below hbG))
   have hfin := hstG.below
   rw [Nat.min_self] at hfin
   clear hstG hst3 hstE HSM hqE hq2
   go_wp2_with fail
   go_ret
   exact ⟨rfl, hfin⟩
 ·
  have hq2 : (bf == 0) = false := by simpa using h0
  have hstA := hst5
  have hBxA := hBx5
  have sA := s5
  clear hst5 hBx5 s5 HPT h0 HV1
  have hBxA_l := hBxA.lt; have hBxA_0 := hBxA.cell 0; have hBxA_1 := hBxA.cell 1; have hBxA_2 := hBxA.cell 2; have hBxA_3 := hBxA.cell 3; have hBxA_4 := hBxA.cell 4; simp at hBxA_0 hBxA_1 hBxA_2 hBxA_3 hBxA_4
  go_wp2_with fail
  clear hBxA_l hBxA_0 hBxA_1 hBxA_2 hBxA_3 hBxA_4
  refine (HPM.out _ _ hstA sA (by omega)).mono ?_
  rintro e wB ⟨text, ht, rfl, hB, sB⟩
  have hstB := hstA.trans hB
  have hBxB := hBxA.stp hB (by omega)
  clear hB hstA hBxA sA sB HPM
  have hBxB_l := hBxB.lt; have hBxB_0 := hBxB.cell 0; have hBxB_1 := hBxB.cell 1; have hBxB_2 := hBxB.cell 2; have hBxB_3 := hBxB.cell 3; have hBxB_4 := hBxB.cell 4; simp at hBxB_0 hBxB_1 hBxB_2 hBxB_3 hBxB_4
  go_wp2_with fail
  clear hBxB_l hBxB_0 hBxB_1 hBxB_2 hBxB_3 hBxB_4
  refine (HRD.out text _ hstB ht).mono ?_
  rintro e wC hC
  rcases hC with ⟨hgf, hbC, rfl⟩ | ⟨hgf, hbC, er, i, o, q, qa, qc, hcase, rfl, hq, hqo, hql, hqp⟩
  ·
   have hstC := hstB.trans (Stp.of_below hbC)
   have hBxC := hBxB.below hbC
   have hq0 : (gf != 0) = true := by simpa using hgf
   have hq1 : (gf == gf) = true := by simp
   clear hgf HRD HPF hBxB hstB hbC
   have hBxC_l := hBxC.lt; have hBxC_0 := hBxC.cell 0; have hBxC_1 := hBxC.cell 1; have hBxC_2 := hBxC.cell 2; have hBxC_3 := hBxC.cell 3; have hBxC_4 := hBxC.cell 4; simp at hBxC_0 hBxC_1 hBxC_2 hBxC_3 hBxC_4
   go_wp2_with fail
   clear hBxC_l hBxC_0 hBxC_1 hBxC_2 hBxC_3 hBxC_4
   refine (HGF.out _ hstC).mono ?_
   rintro e wD ⟨rfl, hbD⟩
   have hstD := hstC.trans (Stp.of_below hbD)
   go_wp2_with fail
   refine (HPR.out _).mono ?_
   rintro e wE ⟨rfl, hbE⟩
   have hstE := hst3.trans (hstD.trans (Stp.of_below hbE))
   have hfin := hstE.below
   rw [Nat.min_self] at hfin
   clear hstE hst3 hstD hstC
   go_wp2_with fail
   go_ret
   exact ⟨rfl, hfin⟩
  ·
   have hstC := hstB.trans (Stp.of_below hbC)
   have hBxC := hBxB.below hbC
   have HC1 := Lib.hid hcase
   have Hqo := Lib.hid hqo
   have Hqp := Lib.hid hqp
   have Hgf := Lib.hid hgf
   clear HRD hBxB hstB hbC hcase hqo hqp hgf
   have hBxC_l := hBxC.lt; have hBxC_0 := hBxC.cell 0; have hBxC_1 := hBxC.cell 1; have hBxC_2 := hBxC.cell 2; have hBxC_3 := hBxC.cell 3; have hBxC_4 := hBxC.cell 4; simp at hBxC_0 hBxC_1 hBxC_2 hBxC_3 hBxC_4
   go_wp2_with fail
   clear hBxC_l hBxC_0 hBxC_1 hBxC_2 hBxC_3 hBxC_4
   refine (HGF.out _ hstC).mono ?_
   rintro e wD ⟨rfl, hbD⟩
   have hstD := hstC.trans (Stp.of_below hbD)
   have hBxD := hBxC.below hbD
   have hqD := hq.below hbD
   have hg0 := Hgf.out
   subst hg0
   clear hstC hBxC hq hbD HGF Hgf
   have hBxD_l := hBxD.lt; have hBxD_0 := hBxD.cell 0; have hBxD_1 := hBxD.cell 1; have hBxD_2 := hBxD.cell 2; have hBxD_3 := hBxD.cell 3; have hBxD_4 := hBxD.cell 4; simp at hBxD_0 hBxD_1 hBxD_2 hBxD_3 hBxD_4
   go_wp2_with fail
   clear hBxD_l hBxD_0 hBxD_1 hBxD_2 hBxD_3 hBxD_4
   refine (HPF.out text _ hstD ht).mono ?_
   rintro e wE ⟨hbE, er2, i2, o2, q2, qa2, qc2, hcase2, rfl, hq2, hqo2, hql2, hqp2⟩
   obtain ⟨e1, e2, e3⟩ := HC1.out.one hcase2
   subst e1 e2 e3
   have hstE := hstD.trans (Stp.of_below hbE)
   have hqE := hqD.below hbE
   have hm : q.map keyOf3 = q2.map keyOf3 := Hqo.out.trans hqo2.symm
   have hq1 : (er == er) = true := by simp
   have hq2' : (i == i) = true := by simp
   have HSM := Lib.hid (fun W (h : Below wE.heap.size wE W) => same_any q q2 qa qa2 qc qc2 W (hqE.below h).list (hq2.below h).list (fun x hx => ⟨(hqE.below h).papers x hx, by have := Hqp.out x hx; omega⟩) (fun x hx => (hq2.below h).papers x hx) hm (by omega))
   clear HC1 Hqo hqo2 hqp2 hcase2 hstD hBxD hqD hbE hm HPF
   go_wp2_with fail
   refine (HPR.out _).mono ?_
   rintro e wF ⟨rfl, hbF⟩
   go_wp2_with fail
   refine (HSM.out _ hbF).mono ?_
   rintro e wG ⟨rfl, hbG⟩
   have hstG := hst3.trans ((hstE.trans (Stp.of_below hbF)).trans (Stp.of_below hbG))
   have hfin := hstG.below
   rw [Nat.min_self] at hfin
   clear hstG hst3 hstE HSM hqE hq2
   go_wp2_with fail
   go_ret
   exact ⟨rfl, hfin⟩
end Go.Proofs.YtldgphhiajhfhaaGreatDoor.programmesWritten
