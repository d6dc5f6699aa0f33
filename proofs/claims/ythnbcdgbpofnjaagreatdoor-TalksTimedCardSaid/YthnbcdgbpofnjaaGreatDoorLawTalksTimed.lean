/- For every list of raw numbers, TalksTimed returns true. The walk. -/
import Derived.Test.YthnbcdgbpofnjaaGreatDoorMakeProg2
import Derived.Test.YthnbcdgbpofnjaaGreatDoorTimes
import Derived.Test.YthnbcdgbpofnjaaGreatDoorCost0
namespace Go.Proofs.YthnbcdgbpofnjaaGreatDoor.talksTimed
open Go.RowKit
set_option linter.unusedVariables false
set_option linter.unusedSimpArgs false

set_option maxHeartbeats 400000 in
theorem oneH_any (S : Nat) (B : Int) (b n cap T : Nat) (vs : Array Value) (Pr : ByteArray → Prop) (w : World) (hs : Strm S B w) (hB : B ≤ 1000000000) (hbox : Box w b T vs) (hbS : b ≠ S) (hn : vs.size = n) (hl1 : 1 ≤ n) (hl2 : n ≤ 1000)
  (hc : ∀ v ∈ vs.toList, ∃ s : ByteArray, v = .string s ∧ Pr s) :
  Calls Tryz.prog 50 #[.pointer (some ⟨S, 0, none⟩), .slice (some ⟨b, 0, none⟩) n cap] w (fun e w' => ∃ x : ByteArray, Pr x ∧ e = .returned (.string x) ∧ Stp S w w' ∧ Strm S (B + 1) w') := by
 have Hc := Lib.hid hc
 clear hc
 go_enter Tryz.func50, Tryz.ntmps50
 go_wp2_with fail
 refine (next_any S B _ _ hs hB (by omega) (by omega)).mono ?_
 rintro e w' ⟨r, ⟨hr, hr2⟩, rfl, h1, h2⟩
 obtain ⟨i, rfl⟩ := Int.eq_ofNat_of_zero_le hr
 have hi : i < n := by omega
 obtain ⟨s, hs1, hs2⟩ := Hc.out vs[i] (by simp)
 have hc : w'.cell? ⟨b, i, none⟩ = some (.string s) := by rw [(hbox.stp h1 hbS).cell i, Array.getElem?_eq_getElem (by omega), hs1]
 have Hs2 := Lib.hid hs2
 clear hs1 hs2
 go_wp2_with fail
 go_ret
 exact ⟨_, Hs2.out, rfl, h1, h2⟩
theorem oneP_any (S : Nat) (B : Int) (b n cap T : Nat) (vs : Array Value) (Pr : ByteArray → Prop) (w : World) (hs : Strm S B w) (hB : B ≤ 1000000000) (hbox : Box w b T vs) (hbS : b ≠ S) (hn : vs.size = n) (hl1 : 1 ≤ n) (hl2 : n ≤ 1000)
  (hc : ∀ v ∈ vs.toList, ∃ s : ByteArray, v = .string s ∧ Pr s) :
  Calls Tryz.prog 33 #[.pointer (some ⟨S, 0, none⟩), .slice (some ⟨b, 0, none⟩) n cap] w (fun e w' => ∃ x : ByteArray, Pr x ∧ e = .returned (.string x) ∧ Stp S w w' ∧ Strm S (B + 1) w') := by
 have HO := Lib.hid (oneH_any S B b n cap T vs Pr w hs hB hbox hbS hn hl1 hl2 hc)
 clear hs hbox hc
 go_enter Tryz.func33, Tryz.ntmps33
 go_wp2_with fail
 refine HO.out.mono ?_
 rintro e w1 ⟨x, hx, rfl, h1, s1⟩
 have Hx := Lib.hid hx
 clear hx
 go_wp2_with fail
 go_ret
 exact ⟨x, Hx.out, rfl, h1, s1⟩
set_option maxRecDepth 100000 in
set_option maxHeartbeats 4000000 in
/-- Two slices that read alike are equal. -/
theorem eqTmd_any (l : List Tmd) (a a2 : Option Addr) (cap cap2 : Nat) (w : World) (h : SA w a l) (h2 : SA w a2 l) (hlen : l.length ≤ 1000000000) :
  Calls Tryz.prog 40 #[.slice a l.length cap, .slice a2 l.length cap2] w (Draws (.bool true) w) := by
 have hq0 : ((l.length : Int) != (l.length : Int)) = false := by simp
 go_enter Tryz.func40, Tryz.ntmps40
 go_wp2_with fail
 go_loopg [13] l.length (fun gk i wr => ∃ k : Nat, i = .int .i64 k ∧ k ≤ l.length ∧ Hid (gk = l.length - k) ∧ ∃ n, wr = w.drewN n)
 case atStart => exact ⟨0, rfl, by omega, rfl, 0, rfl⟩
 case round =>
  obtain ⟨k, rfl, hk, hgk, n, rfl⟩ := hrel
  by_cases hlt : k < l.length
  ·
   obtain ⟨b, off, ha, c0, c1, c2, c3, c4⟩ := h.tmdC hlt
   obtain ⟨b', off', ha', d0, d1, d2, d3, d4⟩ := h2.tmdC hlt
   rw [ha, ha']
   generalize l[k] = x at *
   obtain ⟨x1, x2, x3, x4, x5⟩ := x
   simp only at *
   have hk1 : (0 : Int) ≤ (k : Int) := by omega
   have hk2 : (k : Int) < (l.length : Int) := by omega
   go_wp2_with fail
   go_quiet (fail)
   go_wp2_with fail
   rw [← ha, ← ha']
   go_roundg (l.length - (k + 1))
   case measure => have := hgk.out; omega
   case rel => exact ⟨k + 1, by go_num, by omega, rfl, _, rfl⟩
  ·
   go_wp2_with fail
   go_ret
   exact ⟨rfl, _, rfl⟩
set_option maxRecDepth 100000 in
theorem hasClo_any (s : Ses) (x : ByteArray) (bq : Nat) (w : World) (hc : w.cell? ⟨bq, 0, none⟩ = some (.string x)) (hs : SA w s.a1 s.papers) (hl : s.papers.length ≤ 1000000) :
  Calls Tryz.prog 44 #[s.agg, .pointer (some ⟨bq, 0, none⟩)] w (Gives (.bool (inB s.papers x)) w) := by
 have HT := Lib.hid (fun W (h : SA W s.a1 s.papers) => contains_any s.papers s.a1 s.c1 x W h (by omega))
 have hlt := cell_lt hc
 have HB : Hid (s.papers.any (fun y => decide (y = x)) = inB s.papers x) := rfl
 obtain ⟨s1, s2, s3, s4, s5⟩ := s
 simp only at HT hs hl HB
 unfold Ses.agg
 simp only
 have hE := Box.new w 91 #[.string s1, .string s2, .slice s4 s3.length s5]
 have hs1 := hs.alloc (.cells #[.string s1, .string s2, .slice s4 s3.length s5] 91)
 have hb1 : Below w.heap.size w (w.alloc (.cells #[.string s1, .string s2, .slice s4 s3.length s5] 91)) := (Below.refl _ _).alloc (Nat.le_refl _) _
 have hc1 : (w.alloc (.cells #[.string s1, .string s2, .slice s4 s3.length s5] 91)).cell? ⟨bq, 0, none⟩ = some (.string x) := cell_later hb1 hc
 clear hc hs
 go_enter Tryz.func44, Tryz.ntmps44
 go_upto_region 1 with (fail)
 generalize w.alloc (.cells #[.string s1, .string s2, .slice s4 s3.length s5] 91) = w1 at *
 have hE_l := hE.lt; have hE_0 := hE.cell 0; have hE_1 := hE.cell 1; have hE_2 := hE.cell 2; simp at hE_0 hE_1 hE_2
 go_wp2_with fail
 refine (HT.out _ hs1).mono ?_
 rintro e w2 ⟨rfl, rfl⟩
 go_wp2_with fail
 go_ret
 exact ⟨by rw [← HB.out] <;> rfl, hb1⟩
set_option maxRecDepth 100000 in
set_option maxHeartbeats 16000000 in
theorem walk (a0 : Option Addr) (len0 cap0 : Nat) (z0 : List Int) (w : World) (w0 : IsRow .i64 w a0 len0 cap0 z0) :
  Calls Tryz.prog 6 #[.slice a0 len0 cap0] w fun e w' => e = .returned (.bool true) ∧ Below w.heap.size w w' := by
 have hs := strm_new w0
 go_enter Tryz.func6, Tryz.ntmps6
 go_wp2_with fail
 refine (grid_any w.heap.size 0 5 3 3 _ hs (by omega) (by omega) (by omega) (by omega)).mono ?_
 rintro e w1 ⟨gb, vr, vs, vt, vw, vb, lr, ls, lt, lw, lb, rfl, hGW, hn, hr1, hs1, ht1, hw1, hb1, h1, s1⟩
 obtain ⟨g, rfl, rfl, rfl, rfl, rfl, hz, hnt, -, -, hwl, hext, HGS⟩ := hGW.grdS hn hr1 hs1 ht1 hw1 hb1
 have HG := Lib.hid HGS
 have hz1 := h1.size
 simp at hz1
 have hst1 := ((Stp.refl w.heap.size w).alloc (.cells #[.slice a0 len0 cap0, .int .i64 0] 25)).trans h1
 clear hGW hn hr1 hs1 ht1 hw1 hb1 w0 hs h1 HGS
 go_upto_region 3 with (fail)
 have hBx := Box.new w1 32 #[.slice g.ra g.rooms.length g.rc, .slice g.sa g.slots.length g.sc, .slice g.ta g.talks.length g.tc, .slice g.wa g.wishes.length g.wc, .slice g.ba g.bans.length g.bc]
 have s2 := s1.alloc (.cells #[.slice g.ra g.rooms.length g.rc, .slice g.sa g.slots.length g.sc, .slice g.ta g.talks.length g.tc, .slice g.wa g.wishes.length g.wc, .slice g.ba g.bans.length g.bc] 32)
 have hst2 := hst1.alloc (.cells #[.slice g.ra g.rooms.length g.rc, .slice g.sa g.slots.length g.sc, .slice g.ta g.talks.length g.tc, .slice g.wa g.wishes.length g.wc, .slice g.ba g.bans.length g.bc] 32)
 have HG2 : Hid (∀ W : World, (∀ k, k < (w1.alloc (.cells #[.slice g.ra g.rooms.length g.rc, .slice g.sa g.slots.length g.sc, .slice g.ta g.talks.length g.tc, .slice g.wa g.wishes.length g.wc, .slice g.ba g.bans.length g.bc] 32)).heap.size → k ≠ w.heap.size → W.heap[k]? = (w1.alloc (.cells #[.slice g.ra g.rooms.length g.rc, .slice g.sa g.slots.length g.sc, .slice g.ta g.talks.length g.tc, .slice g.wa g.wishes.length g.wc, .slice g.ba g.bans.length g.bc] 32)).heap[k]?) → GRd W g) := fun W hW => HG.out W (fun k hk1 hk2 => by
  simp at hk1
  rw [hW k (by simp; omega) (by omega), Below.heap_alloc _ _ _ hk2])
 have hzz : (w1.alloc (.cells #[.slice g.ra g.rooms.length g.rc, .slice g.sa g.slots.length g.sc, .slice g.ta g.talks.length g.tc, .slice g.wa g.wishes.length g.wc, .slice g.ba g.bans.length g.bc] 32)).heap.size = w1.heap.size + 1 := by simp
 clear hst1 s1 HG
 generalize w1.alloc (.cells #[.slice g.ra g.rooms.length g.rc, .slice g.sa g.slots.length g.sc, .slice g.ta g.talks.length g.tc, .slice g.wa g.wishes.length g.wc, .slice g.ba g.bans.length g.bc] 32) = w2 at *
 generalize w1.heap.size = n1 at *
 have HPG := Lib.hid (programme_any w.heap.size _ g w2 s2 (by omega) HG2.out hz (by omega))
 rw [Grd.agg_eq] at HPG
 have hBx_l := hBx.lt; have hBx_0 := hBx.cell 0; have hBx_1 := hBx.cell 1; have hBx_2 := hBx.cell 2; have hBx_3 := hBx.cell 3; have hBx_4 := hBx.cell 4; simp at hBx_0 hBx_1 hBx_2 hBx_3 hBx_4
 go_wp2_with fail
 clear hBx_l hBx_0 hBx_1 hBx_2 hBx_3 hBx_4
 refine HPG.out.mono ?_
 rintro e w3 ⟨pa, pc, p, rfl, HPR, hpc, hpl, hpn0, h3, s3⟩
 have hpn := fun s hs => (hpn0 s hs).1
 have hcaps := Lib.hid (fun s hs => (hpn0 s hs).2)
 clear hpn0
 have hz3 := h3.size
 have hBx3 := hBx.stp h3 (by omega)
 have hst3 := hst2.trans h3
 have H23 : Hid (∀ k, k < w2.heap.size → k ≠ w.heap.size → w3.heap[k]? = w2.heap[k]?) := fun k hk hkS => h3.block k hk hkS
 have HP3 : Hid (∀ W : World, Stp w.heap.size w3 W → PRg W pa p) := HPR
 have hsesok : ∀ s ∈ p, SesOk s := fun s hs => ⟨(hpn s hs).1, (hpn s hs).2.1, by have := (hpn s hs).2.2.1; omega, (hpn s hs).2.2.2⟩
 clear hst2 s2 HPG h3 HPR hBx hpn
 go_wp2_with fail
 refine (oneP_any w.heap.size _ w3.heap.size 3 3 9 _ (fun s => s = ⟨#[97, 110, 110]⟩ ∨ s = ⟨#[98, 111]⟩ ∨ s = ⟨#[65]⟩) _ (s3.alloc _) (by omega) (Box.new _ _ _) (by omega) rfl (by omega) (by omega) (by simp)).mono ?_
 rintro e w4 ⟨who, hwho, rfl, h4, s4⟩
 have Hwho := Lib.hid hwho
 clear hwho
 have hz4 := h4.size
 simp at hz4
 go_wp2_with fail
 refine (oneP_any w.heap.size _ w4.heap.size 4 4 9 _ (fun s => s.size ≤ 1000) _ (s4.alloc _) (by omega) (Box.new _ _ _) (by omega) rfl (by omega) (by omega) (by simp; decide)).mono ?_
 rintro e w5 ⟨paper, hpaper, rfl, h5, s5⟩
 have hz5 := h5.size
 simp at hz5
 go_upto_region 4 with (fail)
 have hst35 := ((((Stp.refl w.heap.size w3).alloc (.cells #[.string ⟨#[97, 110, 110]⟩, .string ⟨#[98, 111]⟩, .string ⟨#[65]⟩] 9)).trans h4).alloc (.cells #[.string ⟨#[112, 97]⟩, .string ⟨#[112, 98]⟩, .string ⟨#[112, 99]⟩, .string ⟨#[122, 122]⟩] 9)).trans h5
 have hst36 := hst35.alloc (.cells #[.string paper] 9)
 have hBQ := Box.new w5 9 #[.string paper]
 have hBx6 := hBx3.stp hst36 (by omega)
 have hst6 := hst3.trans hst36
 have hb6 : Below w.heap.size w (w5.alloc (.cells #[.string paper] 9)) := by have := hst6.below; rwa [Nat.min_self] at this
 have HG6 : Hid (∀ W : World, Below (w5.alloc (.cells #[.string paper] 9)).heap.size (w5.alloc (.cells #[.string paper] 9)) W → GRd W g) := fun W hW => HG2.out W (fun k hk hkS => by
  have hs := hst36.size
  rw [hW.block k (by omega), hst36.block k (by omega) hkS]
  exact H23.out k hk hkS)
 have HP6 : Hid (∀ W : World, Below (w5.alloc (.cells #[.string paper] 9)).heap.size (w5.alloc (.cells #[.string paper] 9)) W → PRg W pa p) := fun W hW => HP3.out W (hst36.trans (Stp.of_below hW))
 clear hst35 hst36 h4 h5 s3 s4 s5 hBx3 hst3 HG2 H23 HP3 hst6 hz4 hz5 hz3
 generalize w5.alloc (.cells #[.string paper] 9) = w6 at *
 generalize w5.heap.size = nq at *
 have hws : who.size ≤ 1000 := by rcases Hwho.out with rfl | rfl | rfl <;> decide
 have HMI := Lib.hid (fun W (h : Below w6.heap.size w6 W) => missingP_any g p pa pc W (HG6.out W h) hz (HP6.out W h) (by omega) hsesok hpc)
 have HTI := Lib.hid (fun W (h : Below w6.heap.size w6 W) => timesF_any g p pa pc W (HG6.out W h) hz (HP6.out W h) (by omega) hsesok hpc)
 have HBU := Lib.hid (fun W (h : Below w6.heap.size w6 W) => busyP_any g p pa pc who W (HG6.out W h) hz (HP6.out W h) (by omega) hsesok hpc hws)
 have HBE := Lib.hid (fun W (h : Below w6.heap.size w6 W) => besideL_any g p pa pc paper W (HG6.out W h) hz (HP6.out W h) (by omega) hsesok hpc)
 have HBO := Lib.hid (fun W (h : Below w6.heap.size w6 W) => both_any g p pa pc W (HG6.out W h) hz (HP6.out W h) (by omega) hsesok hpc)
 have HMO := Lib.hid (fun W (h : Below w6.heap.size w6 W) => missingOf_any g p pa pc W (HG6.out W h) hz (HP6.out W h) (by omega) hsesok)
 have HTO := Lib.hid (fun W (h : Below w6.heap.size w6 W) => timesOf_any g p pa pc W (HG6.out W h) hz (HP6.out W h) (by omega) hsesok)
 have HBUO := Lib.hid (fun W (h : Below w6.heap.size w6 W) => busyOf_any g p pa pc who W (HG6.out W h) hz (HP6.out W h) (by omega) hsesok)
 have HBEO := Lib.hid (fun i hi hpi W (h : Below w6.heap.size w6 W) => besideOf_any g p pa pc paper i hi W (HG6.out W h) hz (HP6.out W h) (by omega) hsesok hpi)
 have HPLC : Hid (bothF g p = 0 → ∀ i (hi : i < p.length), inB p[i].papers paper = true → placeI p paper = (i : Nat) ∧ keysS (besTo g p i p[i] p.length) = sortS (besTo g p i p[i] p.length)) := fun h0 i hi hx => ⟨placeI_at (form_of (both_ok h0).2) hi hx, bes_sort (form_of (both_ok h0).2) i _⟩
 have HFS : Hid (∀ W, Below w6.heap.size w6 W → W.cell? ⟨nq, 0, none⟩ = some (.string paper) → (∀ W', Below W.heap.size W W' → W'.cell? ⟨nq, 0, none⟩ = some (.string paper)) → Calls Tryz.prog 43 #[.slice pa p.length pc, .func (.func 44) #[] #[.pointer (some ⟨nq, 0, none⟩)]] W (Gives (.bool (inP p paper)) W)) := fun W h hc hcs =>
  findSes_any p pa pc 44 #[.pointer (some ⟨nq, 0, none⟩)] (fun s => inB s.papers paper) W (enters_of Tryz.func44 (by kernel_rfl) rfl) (HP6.out W h).list (by omega) (fun s hs W' hW' => hasClo_any s paper nq W' (hcs W' hW') ((HP6.out _ (below_next h hW')).papers s hs) (by have := (hsesok s hs).2.2.1; omega))
 have HPR := Lib.hid (fun W => programs_any W)
 have hlm : (missL g p).length ≤ 1000 := by
  have h1 := missTo_len g p g.talks.length
  have h2 := hz.talks
  unfold missTo at h1
  rw [List.take_length] at h1
  unfold missL
  omega
 have hlt : (sortTmd (timesL g p)).length ≤ 1000000 := by
  rw [sortTmd_len]
  have := timesTo_len (g := g) (fun s hs => (hsesok s hs).2.2.1) p.length (Nat.le_refl _)
  unfold timesL
  omega
 have hlb : (busyL g p who).length ≤ 1000000 := by
  unfold busyL
  exact Nat.le_trans (List.length_filter_le _ _) hlt
 have HLS : Hid (∀ i (hi : i < p.length), (sortS (besTo g p i p[i] p.length)).length ≤ 1000000) := fun i hi => by
  rw [sortS_length]
  have := besTo_len (g := g) (i := i) (y := p[i]) (fun s hs => (hsesok s hs).2.2.1) p.length (Nat.le_refl _)
  omega
 have HInP : Hid (∀ i (hi : i < p.length), inB p[i].papers paper = true → inP p paper = true) := fun i hi hx => List.any_eq_true.2 ⟨p[i], List.getElem_mem hi, hx⟩
 have hkA : keyB ⟨#[65]⟩ = false := by kernel_rfl
 have hkN : keyB ⟨#[97, 110, 110]⟩ = true := by kernel_rfl
 have hkB : keyB ⟨#[98, 111]⟩ = true := by kernel_rfl
 have HKY : Hid (keyB who = decide (who ≠ ⟨#[65]⟩)) := by
  show _ = _
  rcases Hwho.out with rfl | rfl | rfl
  ·
   rw [hkN]; decide
  ·
   rw [hkB]; decide
  ·
   rw [hkA]; decide
 clear hkA hkN hkB hws
 rw [Grd.agg_eq] at HMI HTI HBU HBE HBO HMO HTO HBUO HBEO
 unfold ListRes at HMI HTI
 unfold BusyRes at HBU
 unfold BesRes at HBE
 generalize missL g p = ml at *
 generalize sortTmd (timesL g p) = tl at *
 generalize busyL g p who = bl at *
 generalize bothF g p = R at *
 clear HG6 HP6 hz hsesok
 by_cases h0 : R = 0
 ·
  subst h0
  have HPLC2 := Lib.hid (HPLC.out rfl)
  clear HPLC
  have hBx6_l := hBx6.lt; have hBx6_0 := hBx6.cell 0; have hBx6_1 := hBx6.cell 1; have hBx6_2 := hBx6.cell 2; have hBx6_3 := hBx6.cell 3; have hBx6_4 := hBx6.cell 4; simp at hBx6_0 hBx6_1 hBx6_2 hBx6_3 hBx6_4
  go_wp2_with fail
  clear hBx6_l hBx6_0 hBx6_1 hBx6_2 hBx6_3 hBx6_4
  refine (HMI.out _ (Below.refl _ _)).mono ?_
  rintro e w7 ⟨hb7, hc⟩
  obtain ⟨-, vm, rfl, hom⟩ := hc.resolve_left (fun h => h.1 rfl)
  obtain ⟨am, cm, rfl, hsm, -, -⟩ := hom.form
  have hBx7 := hBx6.below hb7
  have hBQ7 := hBQ.below hb7
  clear hc hom hBx6 hBQ HMI
  have hBx7_l := hBx7.lt; have hBx7_0 := hBx7.cell 0; have hBx7_1 := hBx7.cell 1; have hBx7_2 := hBx7.cell 2; have hBx7_3 := hBx7.cell 3; have hBx7_4 := hBx7.cell 4; simp at hBx7_0 hBx7_1 hBx7_2 hBx7_3 hBx7_4
  go_wp2_with fail
  clear hBx7_l hBx7_0 hBx7_1 hBx7_2 hBx7_3 hBx7_4
  refine (HTI.out _ hb7).mono ?_
  rintro e w8 ⟨hb8, hc⟩
  obtain ⟨-, vt, rfl, hot⟩ := hc.resolve_left (fun h => h.1 rfl)
  obtain ⟨at_, ct, rfl, hst, -, -⟩ := hot.form
  have hBx8 := hBx7.below hb8
  have hBQ8 := hBQ7.below hb8
  have hsm8 := hsm.below hb8
  have hb78 := below_next hb7 hb8
  clear hc hot hBx7 hBQ7 HTI hsm hb7 hb8
  have hBx8_l := hBx8.lt; have hBx8_0 := hBx8.cell 0; have hBx8_1 := hBx8.cell 1; have hBx8_2 := hBx8.cell 2; have hBx8_3 := hBx8.cell 3; have hBx8_4 := hBx8.cell 4; simp at hBx8_0 hBx8_1 hBx8_2 hBx8_3 hBx8_4
  go_wp2_with fail
  clear hBx8_l hBx8_0 hBx8_1 hBx8_2 hBx8_3 hBx8_4
  refine (HBU.out _ hb78).mono ?_
  rintro e w9 ⟨hb9, hc⟩
  obtain ⟨ab, nb, cb, eb, rfl, Hab⟩ : ∃ ab nb cb eb, e = .returned (.tuple #[.slice ab nb cb, .int .i64 eb]) ∧ Hid ((keyB who = false ∧ eb = 5) ∨ (keyB who = true ∧ eb = 0 ∧ nb = bl.length ∧ SA w9 ab bl)) := by
   rcases hc.resolve_left (fun h => h.1 rfl) with ⟨-, hk, rfl⟩ | ⟨-, hk, vb, rfl, hob⟩
   ·
    exact ⟨_, _, _, _, rfl, .inl ⟨hk, rfl⟩⟩
   ·
    obtain ⟨ab, cb, rfl, hsb, -, -⟩ := hob.form
    exact ⟨_, _, _, _, rfl, .inr ⟨hk, rfl, rfl, hsb⟩⟩
  have hBx9 := hBx8.below hb9
  have hBQ9 := hBQ8.below hb9
  have hsm9 := hsm8.below hb9
  have hst9 := hst.below hb9
  have hb79 := below_next hb78 hb9
  clear hc hBx8 hBQ8 HBU hsm8 hst hb78 hb9
  have hBx9_l := hBx9.lt; have hBx9_0 := hBx9.cell 0; have hBx9_1 := hBx9.cell 1; have hBx9_2 := hBx9.cell 2; have hBx9_3 := hBx9.cell 3; have hBx9_4 := hBx9.cell 4; simp at hBx9_0 hBx9_1 hBx9_2 hBx9_3 hBx9_4
  have hBQ9_l := hBQ9.lt; have hBQ9_0 := hBQ9.cell 0; simp at hBQ9_0
  go_wp2_with fail
  clear hBx9_l hBx9_0 hBx9_1 hBx9_2 hBx9_3 hBx9_4
  clear hBQ9_l hBQ9_0
  refine (HBE.out _ hb79).mono ?_
  rintro e w10 ⟨hb10, hc⟩
  obtain ⟨ax, nx, cx, ex, rfl, Hax⟩ : ∃ ax nx cx ex, e = .returned (.tuple #[.slice ax nx cx, .int .i64 ex]) ∧ Hid ((inP p paper = false ∧ ex = 8) ∨ (inP p paper = true ∧ ex = 0 ∧ ∃ i, ∃ hi : i < p.length, inB p[i].papers paper = true ∧ nx = (sortS (besTo g p i p[i] p.length)).length ∧ SA w10 ax (sortS (besTo g p i p[i] p.length)))) := by
   rcases hc.resolve_left (fun h => h.1 rfl) with ⟨-, hk, rfl⟩ | ⟨-, hk, i, hi, hxi, vb, rfl, hob⟩
   ·
    exact ⟨_, _, _, _, rfl, .inl ⟨hk, rfl⟩⟩
   ·
    obtain ⟨ab, cb, rfl, hsb, -, -⟩ := hob.form
    exact ⟨_, _, _, _, rfl, .inr ⟨hk, rfl, i, hi, hxi, rfl, hsb⟩⟩
  have hBx10 := hBx9.below hb10
  have hBQ10 := hBQ9.below hb10
  have hsm10 := hsm9.below hb10
  have hst10 := hst9.below hb10
  have Hab10 : Hid ((keyB who = false ∧ eb = 5) ∨ (keyB who = true ∧ eb = 0 ∧ nb = bl.length ∧ SA w10 ab bl)) := Hab.out.imp id (fun ⟨h1, h2, h3, h4⟩ => ⟨h1, h2, h3, h4.below hb10⟩)
  have hb7x := below_next hb79 hb10
  clear hc hBx9 hBQ9 HBE hsm9 hst9 hb79 hb10 Hab
  have hBx10_l := hBx10.lt; have hBx10_0 := hBx10.cell 0; have hBx10_1 := hBx10.cell 1; have hBx10_2 := hBx10.cell 2; have hBx10_3 := hBx10.cell 3; have hBx10_4 := hBx10.cell 4; simp at hBx10_0 hBx10_1 hBx10_2 hBx10_3 hBx10_4
  go_wp2_with fail
  clear hBx10_l hBx10_0 hBx10_1 hBx10_2 hBx10_3 hBx10_4
  refine (HBO.out _ hb7x).mono ?_
  rintro e w11 ⟨rfl, hb11⟩
  have hBx11 := hBx10.below hb11
  have hBQ11 := hBQ10.below hb11
  have hsm11 := hsm10.below hb11
  have hst11 := hst10.below hb11
  have Hab11 : Hid ((keyB who = false ∧ eb = 5) ∨ (keyB who = true ∧ eb = 0 ∧ nb = bl.length ∧ SA w11 ab bl)) := Hab10.out.imp id (fun ⟨h1, h2, h3, h4⟩ => ⟨h1, h2, h3, h4.below hb11⟩)
  have Hax11 : Hid ((inP p paper = false ∧ ex = 8) ∨ (inP p paper = true ∧ ex = 0 ∧ ∃ i, ∃ hi : i < p.length, inB p[i].papers paper = true ∧ nx = (sortS (besTo g p i p[i] p.length)).length ∧ SA w11 ax (sortS (besTo g p i p[i] p.length)))) := Hax.out.imp id (fun ⟨h1, h2, i, hi, h3, h4, h5⟩ => ⟨h1, h2, i, hi, h3, h4, h5.below hb11⟩)
  have hbN := below_next hb7x hb11
  clear hBx10 hBQ10 HBO hsm10 hst10 hb7x hb11 Hab10 Hax
  have hBx11_l := hBx11.lt; have hBx11_0 := hBx11.cell 0; have hBx11_1 := hBx11.cell 1; have hBx11_2 := hBx11.cell 2; have hBx11_3 := hBx11.cell 3; have hBx11_4 := hBx11.cell 4; simp at hBx11_0 hBx11_1 hBx11_2 hBx11_3 hBx11_4
  go_wp2_with fail
  clear hBx11_l hBx11_0 hBx11_1 hBx11_2 hBx11_3 hBx11_4
  refine (HMO.out _ hbN).mono ?_
  rintro e w12 ⟨v12, rfl, hown12, hb12⟩
  obtain ⟨a12, c12, rfl, hs12, -, -⟩ := hown12.form
  have hsm12 := hsm11.below hb12
  have hst12 := hst11.below hb12
  have hBx12 := hBx11.below hb12
  have hBQ12 := hBQ11.below hb12
  have Hab12 : Hid ((keyB who = false ∧ eb = 5) ∨ (keyB who = true ∧ eb = 0 ∧ nb = bl.length ∧ SA w12 ab bl)) := Hab11.out.imp id (fun ⟨h1, h2, h3, h4⟩ => ⟨h1, h2, h3, h4.below hb12⟩)
  have Hax12 : Hid ((inP p paper = false ∧ ex = 8) ∨ (inP p paper = true ∧ ex = 0 ∧ ∃ i, ∃ hi : i < p.length, inB p[i].papers paper = true ∧ nx = (sortS (besTo g p i p[i] p.length)).length ∧ SA w12 ax (sortS (besTo g p i p[i] p.length)))) := Hax11.out.imp id (fun ⟨h1, h2, i, hi, h3, h4, h5⟩ => ⟨h1, h2, i, hi, h3, h4, h5.below hb12⟩)
  have hbN2 := below_next hbN hb12
  clear hsm11 hst11 hBx11 hBQ11 hbN hb12 hown12 Hab11 Hax11 HMO
  go_wp2_with fail
  refine (equal_any ml ml am a12 cm c12 _ hsm12 hs12 (by omega) (by omega)).mono ?_
  rintro e w13 ⟨rfl, n13, rfl⟩
  rw [show decide (ml = ml) = true from decide_eq_true rfl]
  have hst13 := hst12.drewN n13
  have hBx13 := hBx12.drewN n13
  have hBQ13 := hBQ12.drewN n13
  have Hab13 : Hid ((keyB who = false ∧ eb = 5) ∨ (keyB who = true ∧ eb = 0 ∧ nb = bl.length ∧ SA (w12.drewN n13) ab bl)) := Hab12.out.imp id (fun ⟨h1, h2, h3, h4⟩ => ⟨h1, h2, h3, h4.drewN n13⟩)
  have Hax13 : Hid ((inP p paper = false ∧ ex = 8) ∨ (inP p paper = true ∧ ex = 0 ∧ ∃ i, ∃ hi : i < p.length, inB p[i].papers paper = true ∧ nx = (sortS (besTo g p i p[i] p.length)).length ∧ SA (w12.drewN n13) ax (sortS (besTo g p i p[i] p.length)))) := Hax12.out.imp id (fun ⟨h1, h2, i, hi, h3, h4, h5⟩ => ⟨h1, h2, i, hi, h3, h4, h5.drewN n13⟩)
  have hb13 := below_drewN hbN2 n13
  clear hst12 hBx12 hBQ12 hbN2 hs12 hsm12 Hab12 Hax12
  generalize World.drewN w12 n13 = w13 at *
  have hBx13_l := hBx13.lt; have hBx13_0 := hBx13.cell 0; have hBx13_1 := hBx13.cell 1; have hBx13_2 := hBx13.cell 2; have hBx13_3 := hBx13.cell 3; have hBx13_4 := hBx13.cell 4; simp at hBx13_0 hBx13_1 hBx13_2 hBx13_3 hBx13_4
  go_wp2_with fail
  clear hBx13_l hBx13_0 hBx13_1 hBx13_2 hBx13_3 hBx13_4
  refine (HTO.out _ hb13).mono ?_
  rintro e w14 ⟨v14, rfl, hown14, hb14⟩
  obtain ⟨a14, c14, rfl, hs14, -, -⟩ := hown14.form
  have hst14 := hst13.below hb14
  have hBx14 := hBx13.below hb14
  have hBQ14 := hBQ13.below hb14
  have Hab14 : Hid ((keyB who = false ∧ eb = 5) ∨ (keyB who = true ∧ eb = 0 ∧ nb = bl.length ∧ SA w14 ab bl)) := Hab13.out.imp id (fun ⟨h1, h2, h3, h4⟩ => ⟨h1, h2, h3, h4.below hb14⟩)
  have Hax14 : Hid ((inP p paper = false ∧ ex = 8) ∨ (inP p paper = true ∧ ex = 0 ∧ ∃ i, ∃ hi : i < p.length, inB p[i].papers paper = true ∧ nx = (sortS (besTo g p i p[i] p.length)).length ∧ SA w14 ax (sortS (besTo g p i p[i] p.length)))) := Hax13.out.imp id (fun ⟨h1, h2, i, hi, h3, h4, h5⟩ => ⟨h1, h2, i, hi, h3, h4, h5.below hb14⟩)
  have hb614 := below_next hb13 hb14
  clear hst13 hBx13 hBQ13 hb13 hb14 hown14 Hab13 Hax13 HTO
  go_wp2_with fail
  refine (eqTmd_any tl at_ a14 ct c14 _ hst14 hs14 (by omega)).mono ?_
  rintro e w15 ⟨rfl, n15, rfl⟩
  have hBx15 := hBx14.drewN n15
  have hBQ15 := hBQ14.drewN n15
  have Hab15 : Hid ((keyB who = false ∧ eb = 5) ∨ (keyB who = true ∧ eb = 0 ∧ nb = bl.length ∧ SA (w14.drewN n15) ab bl)) := Hab14.out.imp id (fun ⟨h1, h2, h3, h4⟩ => ⟨h1, h2, h3, h4.drewN n15⟩)
  have Hax15 : Hid ((inP p paper = false ∧ ex = 8) ∨ (inP p paper = true ∧ ex = 0 ∧ ∃ i, ∃ hi : i < p.length, inB p[i].papers paper = true ∧ nx = (sortS (besTo g p i p[i] p.length)).length ∧ SA (w14.drewN n15) ax (sortS (besTo g p i p[i] p.length)))) := Hax14.out.imp id (fun ⟨h1, h2, i, hi, h3, h4, h5⟩ => ⟨h1, h2, i, hi, h3, h4, h5.drewN n15⟩)
  have hb15 := below_drewN hb614 n15
  clear hst14 hBx14 hBQ14 hb614 hs14 Hab14 Hax14
  generalize World.drewN w14 n15 = w15 at *
  go_upto_region 13 with (fail)
  by_cases hA : who = ⟨#[65]⟩
  ·
   have hkf : keyB who = false := by rw [HKY.out, hA]; decide
   obtain ⟨-, rfl⟩ := Hab15.out.resolve_right (fun h => by rw [hkf] at h; exact absurd h.1 (by decide))
   subst hA
   clear Hab15 HKY Hwho hkf HBUO
   have hBQ15_l := hBQ15.lt; have hBQ15_0 := hBQ15.cell 0; simp at hBQ15_0
   go_wp2_with fail
   clear hBQ15_l hBQ15_0
   refine (HFS.out _ hb15 (by have h0 := hBQ15.cell 0; simpa using h0) (fun W' h => by have h0 := (hBQ15.below h).cell 0; simpa using h0)).mono ?_
   rintro e wA ⟨rfl, hbA⟩
   have hbA' := below_next hb15 hbA
   have hBxA := hBx15.below hbA
   have hBQA := hBQ15.below hbA
   have HaxA : Hid ((inP p paper = false ∧ ex = 8) ∨ (inP p paper = true ∧ ex = 0 ∧ ∃ i, ∃ hi : i < p.length, inB p[i].papers paper = true ∧ nx = (sortS (besTo g p i p[i] p.length)).length ∧ SA wA ax (sortS (besTo g p i p[i] p.length)))) := Hax15.out.imp id (fun ⟨h1, h2, i, hi, h3, h4, h5⟩ => ⟨h1, h2, i, hi, h3, h4, h5.below hbA⟩)
   clear hb15 hBx15 hBQ15 Hax15 hbA HFS
   cases hin : inP p paper
   ·
    obtain ⟨-, rfl⟩ := HaxA.out.resolve_right (fun h => by rw [hin] at h; exact absurd h.1 (by decide))
    clear HaxA hBxA hBQA HBEO
    go_wp2_with fail
    refine (HPR.out _).mono ?_
    rintro e wB ⟨rfl, hbB⟩
    have hbZ := below_next hbA' hbB
    go_wp2_with fail
    go_ret
    exact ⟨rfl, hb6.trans (hbZ.mono hb6.size)⟩
   ·
    obtain ⟨-, rfl, i, hi, hxi, rfl, hsx⟩ := HaxA.out.resolve_left (fun h => by rw [hin] at h; exact absurd h.1 (by decide))
    obtain ⟨hpl2, hks⟩ := HPLC2.out i hi hxi
    have HBEi := Lib.hid (HBEO.out i hi hpl2)
    rw [hks] at HBEi
    have hls := HLS.out i hi
    clear HaxA HBEO HPLC2 HLS hks hxi hpl2
    generalize sortS (besTo g p i p[i] p.length) = sl at *
    go_wp2_with fail
    refine (HPR.out _).mono ?_
    rintro e wB ⟨rfl, hbB⟩
    have hbB' := below_next hbA' hbB
    have hBxB := hBxA.below hbB
    have hBQB := hBQA.below hbB
    have hsxB := hsx.below hbB
    clear hbA' hBxA hBQA hsx hbB
    have hBxB_l := hBxB.lt; have hBxB_0 := hBxB.cell 0; have hBxB_1 := hBxB.cell 1; have hBxB_2 := hBxB.cell 2; have hBxB_3 := hBxB.cell 3; have hBxB_4 := hBxB.cell 4; simp at hBxB_0 hBxB_1 hBxB_2 hBxB_3 hBxB_4
    have hBQB_l := hBQB.lt; have hBQB_0 := hBQB.cell 0; simp at hBQB_0
    go_wp2_with fail
    clear hBxB_l hBxB_0 hBxB_1 hBxB_2 hBxB_3 hBxB_4
    clear hBQB_l hBQB_0
    refine (HBEi.out _ hbB').mono ?_
    rintro e wC ⟨vC, rfl, hownC, hbC⟩
    obtain ⟨aC, cC, rfl, hsC, -, -⟩ := hownC.form
    have hsxC := hsxB.below hbC
    have hbC' := below_next hbB' hbC
    clear hownC hBxB hBQB hsxB hbB' hbC HBEi
    go_wp2_with fail
    refine (equal_any sl sl ax aC cx cC _ hsxC hsC (by omega) (by omega)).mono ?_
    rintro e wD ⟨rfl, nD, rfl⟩
    rw [show decide (sl = sl) = true from decide_eq_true rfl]
    have hbZ := below_drewN hbC' nD
    clear hsxC hsC hbC'
    go_wp2_with fail
    go_ret
    exact ⟨rfl, hb6.trans (hbZ.mono hb6.size)⟩
  ·
   have hkt : keyB who = true := by rw [HKY.out]; exact decide_eq_true hA
   obtain ⟨-, rfl, rfl, hsb⟩ := Hab15.out.resolve_left (fun h => by rw [hkt] at h; exact absurd h.1 (by decide))
   clear Hab15 HKY Hwho hkt
   have HA := Lib.hid hA
   have hA3 : (who.toList == [65]) = false := by
    have h := tl_ne hA
    rw [show (⟨#[65]⟩ : ByteArray).toList = [65] from by rw [ByteArray.toList_eq]] at h
    exact h
   clear hA
   have hBx15_l := hBx15.lt; have hBx15_0 := hBx15.cell 0; have hBx15_1 := hBx15.cell 1; have hBx15_2 := hBx15.cell 2; have hBx15_3 := hBx15.cell 3; have hBx15_4 := hBx15.cell 4; simp at hBx15_0 hBx15_1 hBx15_2 hBx15_3 hBx15_4
   go_wp2_with fail
   clear hBx15_l hBx15_0 hBx15_1 hBx15_2 hBx15_3 hBx15_4
   refine (HBUO.out _ hb15).mono ?_
   rintro e w16 ⟨v16, rfl, hown16, hb16⟩
   obtain ⟨a16, c16, rfl, hs16, -, -⟩ := hown16.form
   have hsb16 := hsb.below hb16
   have hBx16 := hBx15.below hb16
   have hBQ16 := hBQ15.below hb16
   have Hax16 : Hid ((inP p paper = false ∧ ex = 8) ∨ (inP p paper = true ∧ ex = 0 ∧ ∃ i, ∃ hi : i < p.length, inB p[i].papers paper = true ∧ nx = (sortS (besTo g p i p[i] p.length)).length ∧ SA w16 ax (sortS (besTo g p i p[i] p.length)))) := Hax15.out.imp id (fun ⟨h1, h2, i, hi, h3, h4, h5⟩ => ⟨h1, h2, i, hi, h3, h4, h5.below hb16⟩)
   have hb16' := below_next hb15 hb16
   clear hown16 hsb hBx15 hBQ15 Hax15 hb15 hb16 HBUO hA3
   go_wp2_with fail
   refine (eqTmd_any bl ab a16 cb c16 _ hsb16 hs16 (by omega)).mono ?_
   rintro e w17 ⟨rfl, n17, rfl⟩
   have hBx17 := hBx16.drewN n17
   have hBQ17 := hBQ16.drewN n17
   have Hax17 : Hid ((inP p paper = false ∧ ex = 8) ∨ (inP p paper = true ∧ ex = 0 ∧ ∃ i, ∃ hi : i < p.length, inB p[i].papers paper = true ∧ nx = (sortS (besTo g p i p[i] p.length)).length ∧ SA (w16.drewN n17) ax (sortS (besTo g p i p[i] p.length)))) := Hax16.out.imp id (fun ⟨h1, h2, i, hi, h3, h4, h5⟩ => ⟨h1, h2, i, hi, h3, h4, h5.drewN n17⟩)
   have hb17 := below_drewN hb16' n17
   clear hsb16 hs16 hBx16 hBQ16 Hax16 hb16'
   generalize World.drewN w16 n17 = w17 at *
   go_wp2_with fail
   refine (HFS.out _ hb17 (by have h0 := hBQ17.cell 0; simpa using h0) (fun W' h => by have h0 := (hBQ17.below h).cell 0; simpa using h0)).mono ?_
   rintro e wA ⟨rfl, hbA⟩
   have hbA' := below_next hb17 hbA
   have hBxA := hBx17.below hbA
   have hBQA := hBQ17.below hbA
   have HaxA : Hid ((inP p paper = false ∧ ex = 8) ∨ (inP p paper = true ∧ ex = 0 ∧ ∃ i, ∃ hi : i < p.length, inB p[i].papers paper = true ∧ nx = (sortS (besTo g p i p[i] p.length)).length ∧ SA wA ax (sortS (besTo g p i p[i] p.length)))) := Hax17.out.imp id (fun ⟨h1, h2, i, hi, h3, h4, h5⟩ => ⟨h1, h2, i, hi, h3, h4, h5.below hbA⟩)
   clear hb17 hBx17 hBQ17 Hax17 hbA HFS
   cases hin : inP p paper
   ·
    obtain ⟨-, rfl⟩ := HaxA.out.resolve_right (fun h => by rw [hin] at h; exact absurd h.1 (by decide))
    clear HaxA hBxA hBQA HBEO
    go_wp2_with fail
    refine (HPR.out _).mono ?_
    rintro e wB ⟨rfl, hbB⟩
    have hbZ := below_next hbA' hbB
    go_wp2_with fail
    go_ret
    exact ⟨rfl, hb6.trans (hbZ.mono hb6.size)⟩
   ·
    obtain ⟨-, rfl, i, hi, hxi, rfl, hsx⟩ := HaxA.out.resolve_left (fun h => by rw [hin] at h; exact absurd h.1 (by decide))
    obtain ⟨hpl2, hks⟩ := HPLC2.out i hi hxi
    have HBEi := Lib.hid (HBEO.out i hi hpl2)
    rw [hks] at HBEi
    have hls := HLS.out i hi
    clear HaxA HBEO HPLC2 HLS hks hxi hpl2
    generalize sortS (besTo g p i p[i] p.length) = sl at *
    go_wp2_with fail
    refine (HPR.out _).mono ?_
    rintro e wB ⟨rfl, hbB⟩
    have hbB' := below_next hbA' hbB
    have hBxB := hBxA.below hbB
    have hBQB := hBQA.below hbB
    have hsxB := hsx.below hbB
    clear hbA' hBxA hBQA hsx hbB
    have hBxB_l := hBxB.lt; have hBxB_0 := hBxB.cell 0; have hBxB_1 := hBxB.cell 1; have hBxB_2 := hBxB.cell 2; have hBxB_3 := hBxB.cell 3; have hBxB_4 := hBxB.cell 4; simp at hBxB_0 hBxB_1 hBxB_2 hBxB_3 hBxB_4
    have hBQB_l := hBQB.lt; have hBQB_0 := hBQB.cell 0; simp at hBQB_0
    go_wp2_with fail
    clear hBxB_l hBxB_0 hBxB_1 hBxB_2 hBxB_3 hBxB_4
    clear hBQB_l hBQB_0
    refine (HBEi.out _ hbB').mono ?_
    rintro e wC ⟨vC, rfl, hownC, hbC⟩
    obtain ⟨aC, cC, rfl, hsC, -, -⟩ := hownC.form
    have hsxC := hsxB.below hbC
    have hbC' := below_next hbB' hbC
    clear hownC hBxB hBQB hsxB hbB' hbC HBEi
    go_wp2_with fail
    refine (equal_any sl sl ax aC cx cC _ hsxC hsC (by omega) (by omega)).mono ?_
    rintro e wD ⟨rfl, nD, rfl⟩
    rw [show decide (sl = sl) = true from decide_eq_true rfl]
    have hbZ := below_drewN hbC' nD
    clear hsxC hsC hbC'
    go_wp2_with fail
    go_ret
    exact ⟨rfl, hb6.trans (hbZ.mono hb6.size)⟩
 ·
  have H0 := Lib.hid h0
  have hq : (R != 0) = true := by simpa using h0
  have hqq : (R == R) = true := by simp
  clear h0 HPLC HMO HTO HBUO HBEO
  have hBx6_l := hBx6.lt; have hBx6_0 := hBx6.cell 0; have hBx6_1 := hBx6.cell 1; have hBx6_2 := hBx6.cell 2; have hBx6_3 := hBx6.cell 3; have hBx6_4 := hBx6.cell 4; simp at hBx6_0 hBx6_1 hBx6_2 hBx6_3 hBx6_4
  go_wp2_with fail
  clear hBx6_l hBx6_0 hBx6_1 hBx6_2 hBx6_3 hBx6_4
  refine (HMI.out _ (Below.refl _ _)).mono ?_
  rintro e w7 ⟨hb7, hc⟩
  obtain ⟨-, rfl⟩ := hc.resolve_right (fun h => H0.out h.1)
  have hBx7 := hBx6.below hb7
  clear hc hBx6
  have hBx7_l := hBx7.lt; have hBx7_0 := hBx7.cell 0; have hBx7_1 := hBx7.cell 1; have hBx7_2 := hBx7.cell 2; have hBx7_3 := hBx7.cell 3; have hBx7_4 := hBx7.cell 4; simp at hBx7_0 hBx7_1 hBx7_2 hBx7_3 hBx7_4
  go_wp2_with fail
  clear hBx7_l hBx7_0 hBx7_1 hBx7_2 hBx7_3 hBx7_4
  refine (HTI.out _ hb7).mono ?_
  rintro e w8 ⟨hb8, hc⟩
  obtain ⟨-, rfl⟩ := hc.resolve_right (fun h => H0.out h.1)
  have hBx8 := hBx7.below hb8
  have hb78 := below_next hb7 hb8
  clear hc hBx7 hb7 hb8
  have hBx8_l := hBx8.lt; have hBx8_0 := hBx8.cell 0; have hBx8_1 := hBx8.cell 1; have hBx8_2 := hBx8.cell 2; have hBx8_3 := hBx8.cell 3; have hBx8_4 := hBx8.cell 4; simp at hBx8_0 hBx8_1 hBx8_2 hBx8_3 hBx8_4
  go_wp2_with fail
  clear hBx8_l hBx8_0 hBx8_1 hBx8_2 hBx8_3 hBx8_4
  refine (HBU.out _ hb78).mono ?_
  rintro e w9 ⟨hb9, hc⟩
  obtain ⟨-, rfl⟩ := hc.resolve_right (fun h => h.elim (fun h => H0.out h.1) (fun h => H0.out h.1))
  have hBx9 := hBx8.below hb9
  have hBQ9 := hBQ.below (below_next hb78 hb9)
  have hb79 := below_next hb78 hb9
  clear hc hBx8 hb78 hb9
  have hBx9_l := hBx9.lt; have hBx9_0 := hBx9.cell 0; have hBx9_1 := hBx9.cell 1; have hBx9_2 := hBx9.cell 2; have hBx9_3 := hBx9.cell 3; have hBx9_4 := hBx9.cell 4; simp at hBx9_0 hBx9_1 hBx9_2 hBx9_3 hBx9_4
  have hBQ9_l := hBQ9.lt; have hBQ9_0 := hBQ9.cell 0; simp at hBQ9_0
  go_wp2_with fail
  clear hBx9_l hBx9_0 hBx9_1 hBx9_2 hBx9_3 hBx9_4
  clear hBQ9_l hBQ9_0
  refine (HBE.out _ hb79).mono ?_
  rintro e w10 ⟨hb10, hc⟩
  obtain ⟨-, rfl⟩ := hc.resolve_right (fun h => h.elim (fun h => H0.out h.1) (fun h => H0.out h.1))
  have hBx10 := hBx9.below hb10
  have hb7x := below_next hb79 hb10
  clear hc hBx9 hb79 hb10
  have hBx10_l := hBx10.lt; have hBx10_0 := hBx10.cell 0; have hBx10_1 := hBx10.cell 1; have hBx10_2 := hBx10.cell 2; have hBx10_3 := hBx10.cell 3; have hBx10_4 := hBx10.cell 4; simp at hBx10_0 hBx10_1 hBx10_2 hBx10_3 hBx10_4
  go_wp2_with fail
  clear hBx10_l hBx10_0 hBx10_1 hBx10_2 hBx10_3 hBx10_4
  refine (HBO.out _ hb7x).mono ?_
  rintro e w11 ⟨rfl, hb11⟩
  have hbN := below_next hb7x hb11
  go_wp2_with fail
  refine (HPR.out _).mono ?_
  rintro e w12 ⟨rfl, hb12⟩
  have hbZ := below_next hbN hb12
  go_wp2_with fail
  go_ret
  exact ⟨rfl, hb6.trans (hbZ.mono hb6.size)⟩
end Go.Proofs.YthnbcdgbpofnjaaGreatDoor.talksTimed
