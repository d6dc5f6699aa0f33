/- For every list of raw numbers, ChairsGiven returns true. The walk. -/
import Derived.Test.YtbfhcdnchmddeaaGreatDoorMakeProg2
import Derived.Test.YtbfhcdnchmddeaaGreatDoorAble
import Derived.Test.YtbfhcdnchmddeaaGreatDoorChairs
import Derived.Test.YtbfhcdnchmddeaaGreatDoorCost0
namespace Go.Proofs.YtbfhcdnchmddeaaGreatDoor.chairsGiven
open Go.RowKit
set_option linter.unusedVariables false
set_option linter.unusedSimpArgs false

end Go.Proofs.YtbfhcdnchmddeaaGreatDoor.chairsGiven
namespace Go.Proofs.YtbfhcdnchmddeaaGreatDoor
open Go.RowKit
theorem SA.chdC {w : World} {a : Option Addr} {l : List Chd} (h : SA w a l) {i : Nat} (hi : i < l.length) :
  ∃ b off, a = some ⟨b, off, none⟩ ∧ w.cell? ⟨b, off + i * 3, none⟩ = some (.string l[i].1) ∧ w.cell? ⟨b, off + i * 3 + 1, none⟩ = some (.string l[i].2.1) ∧ w.cell? ⟨b, off + i * 3 + 2, none⟩ = some (.string l[i].2.2) := by
 obtain ⟨b, off, ha, hc⟩ := h.at hi
 exact ⟨b, off, ha, hc 0 (by decide), hc 1 (by decide), hc 2 (by decide)⟩
end Go.Proofs.YtbfhcdnchmddeaaGreatDoor
namespace Go.Proofs.YtbfhcdnchmddeaaGreatDoor.chairsGiven
open Go.RowKit
set_option linter.unusedVariables false
set_option linter.unusedSimpArgs false
set_option maxRecDepth 100000 in
set_option maxHeartbeats 4000000 in
/-- Two slices that read alike are equal. -/
theorem eqChd_any (l : List Chd) (a a2 : Option Addr) (cap cap2 : Nat) (w : World) (h : SA w a l) (h2 : SA w a2 l) (hlen : l.length ≤ 1000000000) :
  Calls Tryz.prog 15 #[.slice a l.length cap, .slice a2 l.length cap2] w (Draws (.bool true) w) := by
 have hq0 : ((l.length : Int) != (l.length : Int)) = false := by simp
 go_enter Tryz.func15, Tryz.ntmps15
 go_wp2_with fail
 go_loopg [13] l.length (fun gk i wr => ∃ k : Nat, i = .int .i64 k ∧ k ≤ l.length ∧ Hid (gk = l.length - k) ∧ ∃ n, wr = w.drewN n)
 case atStart => exact ⟨0, rfl, by omega, rfl, 0, rfl⟩
 case round =>
  obtain ⟨k, rfl, hk, hgk, n, rfl⟩ := hrel
  by_cases hlt : k < l.length
  ·
   obtain ⟨b, off, ha, c0, c1, c2⟩ := h.chdC hlt
   obtain ⟨b', off', ha', d0, d1, d2⟩ := h2.chdC hlt
   rw [ha, ha']
   generalize l[k] = x at *
   obtain ⟨x1, x2, x3⟩ := x
   simp only at *
   have hk1 : (0 : Int) ≤ (k : Int) := by omega
   have hk2 : (k : Int) < (l.length : Int) := by omega
   go_wp2_with fail
   go_quiet (fail)
   go_wp2_with fail
   rw [← ha, ← ha']
   go_roundg (l.length - (k + 1))
   case measure => have := hgk.out; omega
   case rel => exact ⟨k + 1, by go_num, by omega, rfl, _, rfl⟩
  ·
   go_wp2_with fail
   go_ret
   exact ⟨rfl, _, rfl⟩
theorem or_two (a b : Int) : (if a ≠ 0 then a else if b ≠ 0 then b else 0) = if a ≠ 0 then a else b := by
 by_cases h : a = 0 <;> by_cases h2 : b = 0 <;> simp [h, h2]
theorem chErr_or (g : Grd) (p : List Ses) (l : List Wsh) : firstOf [bothF g p, chairsF l] = chErr g p l := or_two _ _
theorem chairsL_len (g : Grd) (p : List Ses) (l : List Wsh) (mst : (Nat → Bool) → Nat → Nat) : (chairsL g p l mst).length ≤ p.length := by
 unfold chairsL
 rw [List.length_map]
 exact chTo_len _ _ _ _
set_option maxRecDepth 100000 in
set_option maxHeartbeats 4000000 in
theorem walk (a0 : Option Addr) (len0 cap0 : Nat) (z0 : List Int) (w : World) (w0 : IsRow .i64 w a0 len0 cap0 z0) :
  Calls Tryz.prog 3 #[.slice a0 len0 cap0] w fun e w' => e = .returned (.bool true) ∧ Below w.heap.size w w' := by
 have hs := strm_new w0
 go_enter Tryz.func3, Tryz.ntmps3
 go_wp2_with fail
 refine (grid_any w.heap.size 0 6 3 3 _ hs (by omega) (by omega) (by omega) (by omega)).mono ?_
 rintro e w1 ⟨gb, vr, vs, vt, vw, vb, lr, ls, lt, lw, lb, rfl, hGW, hn, hr1, hs1, ht1, hw1, hb1, h1, s1⟩
 obtain ⟨g, rfl, rfl, rfl, rfl, rfl, hz, hnt, -, -, hwl, hext, HGS⟩ := hGW.grdS hn hr1 hs1 ht1 hw1 hb1
 have HG := Lib.hid HGS
 have hz1 := h1.size
 simp at hz1
 have hst1 := ((Stp.refl w.heap.size w).alloc (.cells #[.slice a0 len0 cap0, .int .i64 0] 25)).trans h1
 clear hGW hn hr1 hs1 ht1 hw1 hb1 w0 hs h1 HGS
 go_upto_region 3 with (fail)
 have hBx := Box.new w1 32 #[.slice g.ra g.rooms.length g.rc, .slice g.sa g.slots.length g.sc, .slice g.ta g.talks.length g.tc, .slice g.wa g.wishes.length g.wc, .slice g.ba g.bans.length g.bc]
 have s2 := s1.alloc (.cells #[.slice g.ra g.rooms.length g.rc, .slice g.sa g.slots.length g.sc, .slice g.ta g.talks.length g.tc, .slice g.wa g.wishes.length g.wc, .slice g.ba g.bans.length g.bc] 32)
 have hst2 := hst1.alloc (.cells #[.slice g.ra g.rooms.length g.rc, .slice g.sa g.slots.length g.sc, .slice g.ta g.talks.length g.tc, .slice g.wa g.wishes.length g.wc, .slice g.ba g.bans.length g.bc] 32)
 have HG2 : Hid (∀ W : World, (∀ k, k < (w1.alloc (.cells #[.slice g.ra g.rooms.length g.rc, .slice g.sa g.slots.length g.sc, .slice g.ta g.talks.length g.tc, .slice g.wa g.wishes.length g.wc, .slice g.ba g.bans.length g.bc] 32)).heap.size → k ≠ w.heap.size → W.heap[k]? = (w1.alloc (.cells #[.slice g.ra g.rooms.length g.rc, .slice g.sa g.slots.length g.sc, .slice g.ta g.talks.length g.tc, .slice g.wa g.wishes.length g.wc, .slice g.ba g.bans.length g.bc] 32)).heap[k]?) → GRd W g) := fun W hW => HG.out W (fun k hk1 hk2 => by
  simp at hk1
  rw [hW k (by simp; omega) (by omega), Below.heap_alloc _ _ _ hk2])
 have hzz : (w1.alloc (.cells #[.slice g.ra g.rooms.length g.rc, .slice g.sa g.slots.length g.sc, .slice g.ta g.talks.length g.tc, .slice g.wa g.wishes.length g.wc, .slice g.ba g.bans.length g.bc] 32)).heap.size = w1.heap.size + 1 := by simp
 clear hst1 s1 HG
 generalize w1.alloc (.cells #[.slice g.ra g.rooms.length g.rc, .slice g.sa g.slots.length g.sc, .slice g.ta g.talks.length g.tc, .slice g.wa g.wishes.length g.wc, .slice g.ba g.bans.length g.bc] 32) = w2 at *
 generalize w1.heap.size = n1 at *
 have HPG := Lib.hid (programme_any w.heap.size _ g w2 s2 (by omega) HG2.out hz (by omega))
 rw [Grd.agg_eq] at HPG
 have hBx_l := hBx.lt; have hBx_0 := hBx.cell 0; have hBx_1 := hBx.cell 1; have hBx_2 := hBx.cell 2; have hBx_3 := hBx.cell 3; have hBx_4 := hBx.cell 4; simp at hBx_0 hBx_1 hBx_2 hBx_3 hBx_4
 go_wp2_with fail
 clear hBx_l hBx_0 hBx_1 hBx_2 hBx_3 hBx_4
 refine HPG.out.mono ?_
 rintro e w3 ⟨pa, pc, p, rfl, HPR, hpc, hpl, hpn0, h3, s3⟩
 have hpn := fun s hs => (hpn0 s hs).1
 have hcaps := Lib.hid (fun s hs => (hpn0 s hs).2)
 clear hpn0
 have hz3 := h3.size
 have hBx3 := hBx.stp h3 (by omega)
 have hst3 := hst2.trans h3
 have H23 : Hid (∀ k, k < w2.heap.size → k ≠ w.heap.size → w3.heap[k]? = w2.heap[k]?) := fun k hk hkS => h3.block k hk hkS
 have HP3 : Hid (∀ W : World, Stp w.heap.size w3 W → PRg W pa p) := HPR
 have hsesok : ∀ s ∈ p, SesOk s := fun s hs => ⟨(hpn s hs).1, (hpn s hs).2.1, by have := (hpn s hs).2.2.1; omega, (hpn s hs).2.2.2⟩
 clear hst2 s2 HPG h3 HPR hBx hpn
 have hSw3 := s3.lt
 go_wp2_with fail
 refine (chairsM_any w.heap.size _ w3 s3 (by omega)).mono ?_
 rintro e w4 ⟨v, l, rfl, hll, hlo, hnl, h4, -⟩
 have hst4 := hst3.trans h4
 have hb6 : Below w.heap.size w w4 := by have := hst4.below; rwa [Nat.min_self] at this
 have hz4 := h4.size
 have HG6 : Hid (∀ W : World, Below w4.heap.size w4 W → GRd W g) := fun W hW => HG2.out W (fun k hk hkS => by rw [hW.block k (by omega), h4.block k (by omega) hkS]; exact H23.out k hk hkS)
 have HP6 : Hid (∀ W : World, Below w4.heap.size w4 W → PRg W pa p) := fun W hW => HP3.out W (h4.trans (Stp.of_below hW))
 have hBx4 := hBx3.stp h4 (by omega)
 obtain ⟨la, lc, rfl, hsl, -, -⟩ := hnl.1.form
 have HLR : Hid (∀ W : World, Below w4.heap.size w4 W → ∀ x ∈ l, SA W x.a1 x.papers) := fun W hW x hx => SA.below (hnl.2 x hx).1 hW
 clear hst3 s3 HG2 H23 HP3 hcaps hnl h4 hBx3 hst4 hext
 have hp1 : p.length ≤ 1000 := by omega
 obtain ⟨mst, hmst⟩ := most_ex (canN g p l) l.length p.length
 have HCH := Lib.hid (fun W (h : Below w4.heap.size w4 W) => chairs_any g p pa pc l la lc mst hmst W (HG6.out W h) hz (HP6.out W h) hp1 hsesok hpc (hsl.below h) (by omega) hlo (HLR.out W h))
 have HBO := Lib.hid (fun W (h : Below w4.heap.size w4 W) => both_any g p pa pc W (HG6.out W h) hz (HP6.out W h) (by omega) hsesok hpc)
 have HCF := Lib.hid (fun W (h : Below w4.heap.size w4 W) => chairsR_any l la lc W (hsl.below h) (by omega) hlo (HLR.out W h))
 have HCO := Lib.hid (fun W (h : Below w4.heap.size w4 W) => chairsOf_any g p pa pc l la lc mst hmst W (HG6.out W h) hz (HP6.out W h) hp1 hsesok (hsl.below h) (by omega) hlo (HLR.out W h))
 have HPR := Lib.hid (fun W => programs_any W)
 have HOR := Lib.hid (fun W a (h : SA W a [bothF g p, chairsF l]) => orE_any [bothF g p, chairsF l] a 2 W h (by simp))
 rw [chErr_or] at HOR
 have hrl := chairsL_len g p l mst
 rw [Grd.agg_eq] at HCH HBO HCO
 unfold ErrRes at HCH
 unfold GivesOwn at HCO
 clear HG6 HP6 HLR hsl hmst hz hsesok hlo
 generalize chairsL g p l mst = R at *
 generalize chErr g p l = E at *
 generalize bothF g p = B at *
 generalize chairsF l = F at *
 have hBx4_l := hBx4.lt; have hBx4_0 := hBx4.cell 0; have hBx4_1 := hBx4.cell 1; have hBx4_2 := hBx4.cell 2; have hBx4_3 := hBx4.cell 3; have hBx4_4 := hBx4.cell 4; simp at hBx4_0 hBx4_1 hBx4_2 hBx4_3 hBx4_4
 go_wp2_with fail
 clear hBx4_l hBx4_0 hBx4_1 hBx4_2 hBx4_3 hBx4_4
 refine (HCH.out _ (Below.refl _ _)).mono ?_
 rintro e w5 ⟨hb5, hc⟩
 have hBx5 := hBx4.below hb5
 clear hBx4 HCH
 by_cases h0 : E = 0
 ·
  subst h0
  obtain ⟨-, v, rfl, hown⟩ := hc.resolve_left (fun h => h.1 rfl)
  obtain ⟨ac, cc, rfl, hsc, -, -⟩ := hown.form
  clear hc hown
  have hBx5_l := hBx5.lt; have hBx5_0 := hBx5.cell 0; have hBx5_1 := hBx5.cell 1; have hBx5_2 := hBx5.cell 2; have hBx5_3 := hBx5.cell 3; have hBx5_4 := hBx5.cell 4; simp at hBx5_0 hBx5_1 hBx5_2 hBx5_3 hBx5_4
  go_wp2_with fail
  clear hBx5_l hBx5_0 hBx5_1 hBx5_2 hBx5_3 hBx5_4
  refine (HBO.out _ hb5).mono ?_
  rintro e w6 ⟨rfl, hb6'⟩
  have hB6 := below_next hb5 hb6'
  have hBx6 := hBx5.below hb6'
  replace hsc := hsc.below hb6'
  clear hb5 hb6' hBx5
  go_wp2_with fail
  refine (HCF.out _ hB6).mono ?_
  rintro e w7 ⟨rfl, hb7⟩
  have hB7 := below_next hB6 hb7
  have hBx7 := hBx6.below hb7
  replace hsc := hsc.below hb7
  clear hB6 hb7 hBx6
  have hQ := (Box.new w7 39 #[.int .i64 B, .int .i64 F]).sa [B, F] rfl
  have hbQ : Below w7.heap.size w7 (w7.alloc (.cells #[.int .i64 B, .int .i64 F] 39)) := (Below.refl _ _).alloc (Nat.le_refl _) _
  have HO := Lib.hid (HOR.out _ _ hQ)
  have hB8 := below_next hB7 hbQ
  have hBx8 := hBx7.below hbQ
  replace hsc := hsc.below hbQ
  clear hB7 hBx7 hQ hbQ
  go_wp2_with fail
  generalize w7.alloc (.cells #[.int .i64 B, .int .i64 F] 39) = w8 at *
  refine HO.out.mono ?_
  rintro e w9 ⟨rfl, rfl⟩
  go_wp2_with fail
  refine (HPR.out _).mono ?_
  rintro e w10 ⟨rfl, hb10⟩
  have hB10 := below_next hB8 hb10
  have hBx10 := hBx8.below hb10
  replace hsc := hsc.below hb10
  clear hB8 hb10 hBx8 HO
  have hBx10_l := hBx10.lt; have hBx10_0 := hBx10.cell 0; have hBx10_1 := hBx10.cell 1; have hBx10_2 := hBx10.cell 2; have hBx10_3 := hBx10.cell 3; have hBx10_4 := hBx10.cell 4; simp at hBx10_0 hBx10_1 hBx10_2 hBx10_3 hBx10_4
  go_wp2_with fail
  clear hBx10_l hBx10_0 hBx10_1 hBx10_2 hBx10_3 hBx10_4
  refine (HCO.out _ hB10).mono ?_
  rintro e w11 ⟨v2, rfl, hown2, hb11⟩
  obtain ⟨a9, c9, rfl, hs9, -, -⟩ := hown2.form
  have hB11 := below_next hB10 hb11
  replace hsc := hsc.below hb11
  clear hB10 hb11 hBx10 hown2
  go_wp2_with fail
  refine (eqChd_any R ac a9 cc c9 _ hsc hs9 (by omega)).mono ?_
  rintro e w12 ⟨rfl, n12, rfl⟩
  have hB12 := below_drewN hB11 n12
  clear hsc hs9 hB11
  go_wp2_with fail
  go_ret
  exact ⟨rfl, hb6.trans (hB12.mono hb6.size)⟩
 ·
  obtain ⟨-, rfl⟩ := hc.resolve_right (fun h => h0 h.1)
  have hq : (E != 0) = true := by simpa using h0
  have hqq : (E == E) = true := by simp
  clear hc h0 HCO
  have hBx5_l := hBx5.lt; have hBx5_0 := hBx5.cell 0; have hBx5_1 := hBx5.cell 1; have hBx5_2 := hBx5.cell 2; have hBx5_3 := hBx5.cell 3; have hBx5_4 := hBx5.cell 4; simp at hBx5_0 hBx5_1 hBx5_2 hBx5_3 hBx5_4
  go_wp2_with fail
  clear hBx5_l hBx5_0 hBx5_1 hBx5_2 hBx5_3 hBx5_4
  refine (HBO.out _ hb5).mono ?_
  rintro e w6 ⟨rfl, hb6'⟩
  have hB6 := below_next hb5 hb6'
  clear hb5 hb6' hBx5
  go_wp2_with fail
  refine (HCF.out _ hB6).mono ?_
  rintro e w7 ⟨rfl, hb7⟩
  have hB7 := below_next hB6 hb7
  clear hB6 hb7
  have hQ := (Box.new w7 39 #[.int .i64 B, .int .i64 F]).sa [B, F] rfl
  have hbQ : Below w7.heap.size w7 (w7.alloc (.cells #[.int .i64 B, .int .i64 F] 39)) := (Below.refl _ _).alloc (Nat.le_refl _) _
  have HO := Lib.hid (HOR.out _ _ hQ)
  have hB8 := below_next hB7 hbQ
  clear hB7 hQ hbQ
  go_wp2_with fail
  generalize w7.alloc (.cells #[.int .i64 B, .int .i64 F] 39) = w8 at *
  refine HO.out.mono ?_
  rintro e w9 ⟨rfl, rfl⟩
  go_wp2_with fail
  refine (HPR.out _).mono ?_
  rintro e w10 ⟨rfl, hb10⟩
  have hBZ := below_next hB8 hb10
  clear HO
  go_wp2_with fail
  go_ret
  exact ⟨rfl, hb6.trans (hBZ.mono hb6.size)⟩
end Go.Proofs.YtbfhcdnchmddeaaGreatDoor.chairsGiven
