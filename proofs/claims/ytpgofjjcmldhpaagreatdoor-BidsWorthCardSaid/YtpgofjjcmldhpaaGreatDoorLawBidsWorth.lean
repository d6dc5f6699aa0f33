/- For every list of raw numbers, BidsWorth returns true. The walk. -/
import Derived.Test.YtpgofjjcmldhpaaGreatDoorMakePaper2
import Derived.Test.YtpgofjjcmldhpaaGreatDoorMakeReaders
import Derived.Test.YtpgofjjcmldhpaaGreatDoorMakeBids
import Derived.Test.YtpgofjjcmldhpaaGreatDoorFracMake
import Derived.Test.YtpgofjjcmldhpaaGreatDoorRange
import Derived.Test.YtpgofjjcmldhpaaGreatDoorBest
import Derived.Test.YtpgofjjcmldhpaaGreatDoorReg
namespace Go.Proofs.YtpgofjjcmldhpaaGreatDoor.bidsWorth
open Go.RowKit
set_option linter.unusedVariables false
set_option linter.unusedSimpArgs false

theorem One_any (S : Nat) (B : Int) (b n cap T : Nat) (vs : Array Value) (w : World) (hs : Strm S B w) (hB : B ≤ 1000000000) (hbox : Box w b T vs) (hbS : b ≠ S) (hn : vs.size = n) (hl1 : 1 ≤ n) (hl2 : n ≤ 1000)
    (hc : ∀ v ∈ vs.toList, ∃ s : ByteArray, v = .string s ∧ s.size ≤ 1000) :
    Calls Tryz.prog 22 #[.pointer (some ⟨S, 0, none⟩), .slice (some ⟨b, 0, none⟩) n cap] w (SomeStr S B w) := by
  have HO := Lib.hid (one_any S B b n cap T vs w hs hB hbox hbS hn hl1 hl2 hc)
  clear hs hbox hc
  go_enter Tryz.func22, Tryz.ntmps22
  go_wp2_with fail
  refine HO.out.mono ?_
  rintro e w1 ⟨x, hx, rfl, h1, s1⟩
  go_wp2_with fail
  go_ret
  exact ⟨x, hx, rfl, h1, s1⟩

theorem PRd.alloc {w : World} {p : Paper} (h : PRd w p) (o : Obj) : PRd (w.alloc o) p := h.below ((Below.refl _ _).alloc (Nat.le_refl _) o)
theorem bestO_len (l : List Topic) (ps : List Paper) (rs : List Reader) (bs : List Mark) (id : ByteArray) (n : Int) : (bestO l ps rs bs id n).length ≤ rs.length := by
  unfold bestO
  split
  · rw [bestK_length]
    have h1 := bestL_length (bestR l ps rs bs id)
    have h2 : (bestR l ps rs bs id).length ≤ rs.length := by
      unfold bestR worthsL
      rw [List.getD_eq_getElem?_getD, List.getElem?_map]
      generalize ps[(idxI (fun p : Paper => decide (p.id = id)) ps).toNat]? = o
      cases o with
      | none => simp
      | some p => simp [rowL]
    omega
  · simp
/-- Distinct keys of right readers. -/
theorem readers_nodup {l : List Topic} {rs : List Reader} (h : readersFault l rs = 0) : (rs.map (·.key)).Nodup := by
  have hstep : ∀ k, k + 1 < rs.length → ∀ (h0 : k < rs.length) (h1 : k + 1 < rs.length), ltS rs[k].key rs[k + 1].key := by
    intro k hk h0 h1
    unfold readersFault at h
    split at h
    · exact absurd h (by decide)
    have h2 := firstErr_all h (k + 1) h1
    unfold readerE at h2
    rw [List.getElem?_eq_getElem h1] at h2
    simp only at h2
    split at h2
    · exact absurd h2 (by decide)
    split at h2
    · exact absurd h2 (by decide)
    · next h3 =>
      rw [ordB_at (k := k + 1) (p := k) (x := rs[k + 1].key) (y := rs[k].key) rfl (by rw [List.getElem?_map, List.getElem?_eq_getElem h1]; rfl) (by rw [List.getElem?_map, List.getElem?_eq_getElem h0]; rfl)] at h3
      exact rise_lt (bl_total (by simpa [leB] using h3))
  have hall : ∀ (k j : Nat) (hk : k < rs.length) (hj : j < k), ltS (rs[j]'(by omega)).key rs[k].key := by
    intro k
    induction k with
    | zero => intro j _ hj; omega
    | succ k ih =>
      intro j hk hj
      have hs := hstep k hk (by omega) hk
      by_cases hjk : j = k
      · subst hjk; exact hs
      · exact ltS_trans (ih j (by omega) (by omega)) hs
  unfold List.Nodup
  rw [List.pairwise_map, List.pairwise_iff_getElem]
  intro i j hi hj hij e
  have := hall j i hj hij
  rw [e] at this
  exact ltS_irrefl _ this

set_option maxRecDepth 100000 in
set_option maxHeartbeats 16000000 in
theorem walk (a0 : Option Addr) (len0 cap0 : Nat) (z0 : List Int) (w : World) (w0 : IsRow .i64 w a0 len0 cap0 z0) (hE : Env w) :
    Calls Tryz.prog 3 #[.slice a0 len0 cap0] w fun e w' => e = .returned (.bool true) ∧ Below w.heap.size w w' := by
  have hs := strm_new w0
  have hES := hE.envS
  go_enter Tryz.func3, Tryz.ntmps3
  go_wp2_with fail
  refine (forest_any w.heap.size 0 _ hs (by omega)).mono ?_
  rintro e w1 ⟨a, cap, l, rfl, hl12, hcap, hsm, hsa, hp, h1, s1⟩
  have hpS : ∀ z : Addr, a = some z → z.block ≠ w.heap.size := fun z hz => by
    rcases hp with hp | ⟨b, off, hp, hS⟩ <;> rw [hp] at hz <;> cases hz
    exact hS
  have hz1 := h1.size
  simp at hz1
  go_wp2_with fail
  refine (papers_any w.heap.size (0 + 20) 4 _ s1 (by omega) (by omega)).mono ?_
  rintro e w2 ⟨v2, ps, rfl, hn4, hsz, hown2, hrd, h2, s2⟩
  have hz2 := h2.size
  go_wp2_with fail
  refine (readers_any w.heap.size _ 4 _ s2 (by omega) (by omega)).mono ?_
  rintro e w3 ⟨v3, rs, rfl, hr4, hrz, hown3, hrr, h3, s3⟩
  have hz3 := h3.size
  go_wp2_with fail
  refine (bids_any w.heap.size _ _ s3 (by omega)).mono ?_
  rintro e w4 ⟨v4, b1, rfl, hb13, hbz, hown4, h4, s4⟩
  have hz4 := h4.size
  go_wp2_with fail
  refine (flip_any w.heap.size _ 2 _ s4 (by omega) (by omega) (by omega)).mono ?_
  rintro e w5 ⟨fl, rfl, h5, s5⟩
  have hz5 := h5.size
  have hst5 : Stp w.heap.size w w5 := (((((Stp.refl w.heap.size w).alloc (.cells #[.slice a0 len0 cap0, .int .i64 0] 25)).trans h1).trans h2).trans h3 |>.trans h4).trans h5
  have hl5 : SA w5 a l := (((hsa.stp h2 hpS).stp h3 hpS).stp h4 hpS).stp h5 hpS
  obtain ⟨a2, cap2, rfl, hp5, hpl5, _⟩ := ((hown2.stp h3 (by omega)).stp h4 (by omega)).stp h5 (by omega) |>.sa
  obtain ⟨a3, cap3, rfl, hr5, hrl5, _⟩ := ((hown3.stp h4 (by omega)).stp h5 (by omega)).sa
  obtain ⟨a4, cap4, rfl, hb5, hbl5, _⟩ := (hown4.stp h5 (by omega)).sa
  have hP5 : PapersAt w5 a2 ps := ⟨hp5, fun p hp => by
    have g1 := (hrd p hp).1
    have g2 := (hsz p hp).2
    exact ((g1.stp h3 g2).stp h4 g2).stp h5 g2⟩
  have hR5 : ReadersAt w5 a3 rs := ⟨hr5, fun r hr => ((hrr r hr).stp h4 (hrz r hr).2).stp h5 (hrz r hr).2⟩
  have hnP : Hid (∀ p ∈ ps, NoS w.heap.size p) := fun p hp => (hsz p hp).2
  have hnR : Hid (∀ r ∈ rs, NoR w.heap.size r) := fun r hr => (hrz r hr).2
  have hn2 : Hid (∀ x : Addr, a2 = some x → x.block ≠ w.heap.size) := fun x hx => by have := hpl5 x hx; omega
  have hn3 : Hid (∀ x : Addr, a3 = some x → x.block ≠ w.heap.size) := fun x hx => by have := hrl5 x hx; omega
  have hn4' : ∀ x : Addr, a4 = some x → x.block ≠ w.heap.size := fun x hx => by have := hbl5 x hx; omega
  have Hps : Hid (∀ p ∈ ps, PSmall p) := fun p hp => (hsz p hp).1.small (by omega)
  have Hrs : Hid (∀ r ∈ rs, RSmall r) := fun r hr => (hrz r hr).1.small
  have Hsm := Lib.hid hsm
  have hid5 : ∀ p ∈ ps, p.id.size ≤ 1000 := fun p hp => (Hps.out p hp).1
  have hbw5 : Below w.heap.size w w5 := by have := hst5.below; rwa [Nat.min_self] at this
  have hbz' : Hid (∀ x ∈ b1, SmallB x) := hbz
  clear h1 h2 h3 h4 h5 s1 s2 s3 s4 hs w0 hsa hp hsm hown2 hown3 hown4 hrd hsz hrz hrr hp5 hr5 hpl5 hrl5 hbl5 hbz
  go_upto_if 36 with (fail)
  go_cut [7] (fun v wx => ∃ (bs : List Mark) (ba : Option Addr) (bc : Nat), v = .slice ba bs.length bc ∧ bs.length ≤ 400 ∧ Hid (∀ x ∈ bs, SmallB x) ∧ ∃ W', W' = wx ∧ SA W' ba bs ∧ Hid (∀ x : Addr, ba = some x → x.block ≠ w.heap.size) ∧ Stp w.heap.size w5 W' ∧ Strm w.heap.size 2000 W')
  case first =>
    cases fl
    · go_wp2_with fail
      go_meet
      exact ⟨b1, a4, cap4, rfl, by omega, hbz', _, rfl, hb5, hn4', Stp.refl _ _, s5.mono (by omega)⟩
    · go_wp2_with fail
      refine (bidsFor_any w.heap.size _ ps a2 cap2 rs a3 cap3 _ s5 (by omega) hP5.1 hn2.out hR5.1 hn3.out (by omega) (by omega) hid5 (fun r hr => (Hrs.out r hr).1)).mono ?_
      rintro e w6 ⟨v', b', rfl, hlen', hsm', hown', h6, s6⟩
      obtain ⟨a', cap', rfl, hsa', hbl', _⟩ := hown'.sa
      have Hsm' := Lib.hid hsm'
      clear hsm'
      go_wp2_with fail
      go_meet
      exact ⟨b', a', cap', rfl, by omega, Hsm', _, rfl, hsa', fun x hx => by have := hbl' x hx; omega, h6, s6.mono (by omega)⟩
  case rest =>
    clear hb5 hn4' hbz' s5 hid5 hb13
    obtain ⟨bs, ba, bc, rfl, hbl, Hbs, W6, rfl, hB6, hnB, hst6, s6⟩ := hcut
    have hz6 := hst6.size
    have hl6 := hl5.stp hst6 hpS
    have hP6 : PapersAt W6 a2 ps := ⟨hP5.1.stp hst6 hn2.out, fun p hp => (hP5.2 p hp).stp hst6 (hnP.out p hp)⟩
    have hR6 : ReadersAt W6 a3 rs := ⟨hR5.1.stp hst6 hn3.out, fun r hr => (hR5.2 r hr).stp hst6 (hnR.out r hr)⟩
    have hst06 := hst5.trans hst6
    clear hl5 hP5 hR5 hst6 hst5
    go_wp2_with fail
    refine (fraction_any w.heap.size 2000 _ s6 (by omega)).mono ?_
    rintro e w7 ⟨p, q, rfl, h7, s7⟩
    have hz7 := h7.size
    go_wp2_with fail
    refine (range_any w.heap.size _ (-1) 5 _ s7 (by omega) (by omega) (by omega) (by omega)).mono ?_
    rintro e w8 ⟨lv, hlv1, rfl, h8, s8⟩
    have hz8 := h8.size
    have hst8 := (hst06.trans h7).trans h8
    have hl8 := (hl6.stp h7 hpS).stp h8 hpS
    have hB8 := (hB6.stp h7 hnB.out).stp h8 hnB.out
    have hP8 : PapersAt w8 a2 ps := ⟨(hP6.1.stp h7 hn2.out).stp h8 hn2.out, fun p hp => ((hP6.2 p hp).stp h7 (hnP.out p hp)).stp h8 (hnP.out p hp)⟩
    have hR8 : ReadersAt w8 a3 rs := ⟨(hR6.1.stp h7 hn3.out).stp h8 hn3.out, fun r hr => ((hR6.2 r hr).stp h7 (hnR.out r hr)).stp h8 (hnR.out r hr)⟩
    have hBx := Box.new w8 37 #[.int .i64 p, .int .i64 q]
    have hb89 : Below w8.heap.size w8 (w8.alloc (.cells #[.int .i64 p, .int .i64 q] 37)) := by (repeat' (first | exact Below.refl _ _ | assumption | refine Below.setCell ?_ ?_ _ | refine below_drewN ?_ _ | refine Below.drew ?_ | refine Below.alloc ?_ ?_ _ | (with_reducible refine Below.trans ?_ (Below.mono hb ?_)) | (with_reducible refine Below.trans ?_ (Below.mono hb0 ?_)) | (with_reducible refine Below.trans ?_ (Below.mono hb1 ?_)) | (with_reducible refine Below.trans ?_ (Below.mono hb2 ?_)) | (with_reducible refine Below.trans ?_ (Below.mono hb3 ?_)) | (with_reducible refine Below.trans ?_ (Below.mono hb4 ?_)) | (with_reducible refine Below.trans ?_ (Below.mono hb5 ?_)) | (with_reducible refine Below.trans ?_ (Below.mono hb6 ?_)) | (with_reducible refine Below.trans ?_ (Below.mono hb7 ?_)) | (with_reducible refine Below.trans ?_ (Below.mono hb8 ?_)) | (with_reducible refine Below.trans ?_ (Below.mono hb9 ?_)) | (with_reducible refine Below.trans ?_ (Below.mono hb10 ?_)) | (with_reducible refine Below.trans ?_ (Below.mono hb11 ?_)) | (with_reducible refine Below.trans ?_ (Below.mono hb12 ?_)) | (with_reducible refine Below.trans ?_ (Below.mono hb13 ?_)) | (with_reducible refine Below.trans ?_ (Below.mono hb14 ?_)) | (with_reducible refine Below.trans ?_ (Below.mono hb15 ?_)) | omega | (simp; done) | (simp; omega)))
    have HWp := Lib.hid (fun W => worthX_any p q lv W)
    have HWr := Lib.hid (fun W => worthOf_any p q lv W)
    generalize worthV p q lv = wv at *
    generalize worthE p q lv = we at *
    have hq1 : (we != we) = false := by simp
    have hq2 : (wv != wv) = false := by simp
    have hb9x := hBx
    clear hl6 hB6 hP6 hR6 h7 h8 s6 s7 hst06
    have hBx_l := hBx.lt; have hBx_0 := hBx.cell 0; have hBx_1 := hBx.cell 1; simp at hBx_0 hBx_1
    go_wp2_with fail
    generalize w8.alloc (.cells #[.int .i64 p, .int .i64 q] 37) = W9 at *
    refine (HWp.out _).mono ?_
    rintro e w10 ⟨rfl, hb10⟩
    clear hBx_l hBx_0 hBx_1
    have hBx1 := hb9x.below hb10
    have hBx1_l := hBx1.lt; have hBx1_0 := hBx1.cell 0; have hBx1_1 := hBx1.cell 1; simp at hBx1_0 hBx1_1
    go_wp2_with fail
    refine (HWr.out _).mono ?_
    rintro e w11 ⟨rfl, hb11⟩
    clear hBx1_l hBx1_0 hBx1_1
    have hb811 := below_next hb89 (below_next hb10 hb11)
    have hst11 : Stp w.heap.size w w11 := hst8.trans (Stp.of_below hb811)
    have s11 := s8.below hb811
    have hl11 := hl8.below hb811
    have hB11 := hB8.below hb811
    have hP11 := hP8.below hb811
    have hR11 := hR8.below hb811
    have hE11 : Env w11 := hE.stp hst11 hES
    clear hl8 hB8 hP8 hR8 hst8 s8 hBx hBx1 hb9x hb10 hb11 hb89 hb811
    have HC := Lib.hid (fun W (h : SA W ba bs) => checkBids_any bs ba bc W h (by omega) (fun x hx => Hbs.out x hx))
    have HC2 := Lib.hid (fun W (h : SA W ba bs) => bidsFaultR_any bs ba bc W h (by omega) (fun x hx => Hbs.out x hx))
    have HF := Lib.hid (fun W (h : SA W a l) => forestFault_any l a cap W h (by omega) Hsm.out)
    have HRf := Lib.hid (fun W (h : SA W a l) (h2 : ReadersAt W a3 rs) => readersFaultR_any l a cap rs a3 cap3 W h h2 (by omega) (by omega) Hrs.out)
    have HRc := Lib.hid (fun W (h : SA W a l) (h2 : ReadersAt W a3 rs) => checkReaders_any l a cap rs a3 cap3 W h h2 (by omega) (by omega) Hsm.out Hrs.out)
    have HBA := Lib.hid (fun W (h0 : Env W) (h1 : SA W a l) (h2 : PapersAt W a2 ps) (h3 : ReadersAt W a3 rs) (h4 : SA W ba bs) => bidsAll_any l a cap ps a2 cap2 rs a3 cap3 bs ba bc W h0 h1 h2 h3 h4 (by omega) (by omega) Hps.out (by omega) Hrs.out (by omega) (fun x hx => Hbs.out x hx))
    have HWs := Lib.hid (fun W (h0 : Env W) (h1 : SA W a l) (h2 : PapersAt W a2 ps) (h3 : ReadersAt W a3 rs) (h4 : SA W ba bs) => worths_any l a cap ps a2 cap2 rs a3 cap3 bs ba bc W h0 h1 h2 h3 h4 (by omega) Hsm.out (by omega) Hps.out (by omega) Hrs.out (by omega) (fun x hx => Hbs.out x hx))
    have HBe := Lib.hid (fun id n W (h0 : Env W) (h1 : SA W a l) (h2 : PapersAt W a2 ps) (h3 : ReadersAt W a3 rs) (h4 : SA W ba bs) => bestT_any l a cap ps a2 cap2 rs a3 cap3 bs ba bc id n W h0 h1 h2 h3 h4 (by omega) Hsm.out (by omega) Hps.out (by omega) Hrs.out (by omega) (fun x hx => Hbs.out x hx))
    have HWo := Lib.hid (fun (hz : fieldE l ps rs bs = 0) W (h1 : SA W a l) (h2 : PapersAt W a2 ps) (h3 : ReadersAt W a3 rs) (h4 : SA W ba bs) => worthsOf_any l a cap ps a2 cap2 rs a3 cap3 bs ba bc W h1 h2 h3 h4 (by omega) (by omega) Hrs.out (by omega) hz)
    have HBo := Lib.hid (fun (hz : fieldE l ps rs bs = 0) id n W (h1 : SA W a l) (h2 : PapersAt W a2 ps) (h3 : ReadersAt W a3 rs) (h4 : SA W ba bs) => bestOf_any l a cap ps a2 cap2 rs a3 cap3 bs ba bc id n W h1 h2 h3 h4 (by omega) (by omega) Hrs.out (by omega) hz (readers_nodup (field_right hz).2.2.2.1))
    have HXe := Lib.hid (fun id n (h : fieldE l ps rs bs ≠ 0) => show bestX l ps rs bs id n = fieldE l ps rs bs by unfold bestX; rw [if_pos h])
    have HRl : Hid (∀ rows : List IRow, rows.map (·.xs) = worthsL l ps rs bs → ∀ r ∈ rows, r.xs.length ≤ 1000) := fun rows hm r hr => by
      have : r.xs ∈ worthsL l ps rs bs := by rw [← hm]; exact List.mem_map_of_mem hr
      unfold worthsL at this
      obtain ⟨p, _, hp⟩ := List.mem_map.1 this
      rw [← hp, rowL_length]; omega
    have HRn : Hid (∀ rows : List IRow, rows.map (·.xs) = worthsL l ps rs bs → rows.length ≤ 1000) := fun rows hm => by
      have := congrArg List.length hm
      simp [worthsL] at this; omega
    have HKl : Hid (∀ id n, (bestO l ps rs bs id n).length ≤ 1000000) := fun id n => by
      have := bestO_len l ps rs bs id n; omega
    generalize hbf : bidsFault bs = bf at *
    have hq3 : (bf != bf) = false := by simp
    clear hbf
    go_wp2_with fail
    refine (HC.out _ hB11).mono ?_
    rintro e w12 ⟨rfl, hb12⟩
    go_wp2_with fail
    refine (HC2.out _ (hB11.below hb12)).mono ?_
    rintro e w13 ⟨rfl, hb13⟩
    have hb1113 := below_next hb12 hb13
    have hl13 := hl11.below hb1113
    have hB13 := hB11.below hb1113
    have hP13 := hP11.below hb1113
    have hR13 := hR11.below hb1113
    have hE13 := hE11.below hb1113
    have hst13 := hst11.trans (Stp.of_below hb1113)
    have s13 := s11.below hb1113
    clear hl11 hB11 hP11 hR11 hE11 hst11 s11 hb12 hb13 hb1113 HC HC2 HWp HWr
    go_wp2_with fail
    refine (HF.out _ hl13).mono ?_
    rintro e w14 ⟨rfl, hb14⟩
    have hl14 := hl13.below hb14
    have hB14 := hB13.below hb14
    have hP14 := hP13.below hb14
    have hR14 := hR13.below hb14
    have hE14 := hE13.below hb14
    have hst14 := hst13.trans (Stp.of_below hb14)
    have s14 := s13.below hb14
    clear hl13 hB13 hP13 hR13 hE13 hst13 s13 hb14 HF
    have hzS : w.heap.size < w14.heap.size := s14.lt
    by_cases hff : forestFault l = 0
    · have HRx : readersX l rs = readersFault l rs := by unfold readersX; rw [if_neg (by simpa using hff)]
      have HEx : fieldE l ps rs bs = fieldX l ps rs bs := by unfold fieldE; rw [if_neg (by simpa using hff)]
      rw [HRx] at HRc
      rw [HEx] at HWs HWo HBo HXe
      rw [hff]
      clear hff HRx HEx
      generalize readersFault l rs = rf at *
      generalize fieldX l ps rs bs = er at *
      generalize worthsL l ps rs bs = ws at *
      have hq4 : (rf != rf) = false := by simp
      go_wp2_with fail
      refine (HRf.out _ hl14 hR14).mono ?_
      rintro e wr1 ⟨rfl, hbr1⟩
      go_wp2_with fail
      refine (HRc.out _ (hl14.below hbr1) (hR14.below hbr1)).mono ?_
      rintro e wr2 ⟨rfl, hbr2⟩
      have hbr12 := below_next hbr1 hbr2
      go_wp2_with fail
      refine (HBA.out _ (hE14.below hbr12) (hl14.below hbr12) (hP14.below hbr12) (hR14.below hbr12) (hB14.below hbr12)).mono ?_
      rintro e wr3 ⟨rfl, hbr3⟩
      have hbr13 := below_next hbr12 hbr3
      go_wp2_with fail
      refine (HWs.out _ (hE14.below hbr13) (hl14.below hbr13) (hP14.below hbr13) (hR14.below hbr13) (hB14.below hbr13)).mono ?_
      rintro e wa ⟨hba, hcase⟩
      have hb14a := below_next hbr13 hba
      have hla := hl14.below hb14a
      have hBa := hB14.below hb14a
      have hPa := hP14.below hb14a
      have hRa := hR14.below hb14a
      have hsta := hst14.trans (Stp.of_below hb14a)
      have sa := s14.below hb14a
      have hzr3 := hbr13.size
      rcases hcase with ⟨hne, rfl⟩ | ⟨h0, v, rfl, hrows⟩
      · have HXe1 := Lib.hid (fun id n => HXe.out id n hne)
        have hq5 : (er != 0) = true := by simpa using hne
        have hq6 : (er == er) = true := by simp
        clear hne hl14 hB14 hP14 hR14 hE14 hst14 s14 hbr1 hbr2 hbr3 hbr12 hbr13 hba hb14a HBo HWo HXe HRf HRc HBA HWs
        have hza := hsta.size
        go_wp2_with fail
        refine (One_any w.heap.size _ wa.heap.size 3 3 9 _ _ (sa.alloc _) (by omega) (Box.new _ _ _) (by have := sa.lt; omega) rfl (by omega) (by omega) (by simp; decide)).mono ?_
        rintro e w15 ⟨id, hid, rfl, h15, s15⟩
        have hz15 := h15.size
        simp at hz15
        go_wp2_with fail
        refine (pick_box w.heap.size _ _ 3 5 [1, 2, 5, 0, 101] _ (s15.alloc _) (by omega) (Box.new _ _ _) (by omega) (by decide) (by decide)).mono ?_
        rintro e w16 ⟨n, hn5, rfl, h16, s16⟩
        have hz16 := h16.size
        simp at hz16
        have hst16 := (((hsta.alloc _).trans h15).alloc _).trans h16
        have hl16 := (((hla.alloc _).stp h15 hpS).alloc _).stp h16 hpS
        have hB16 := (((hBa.alloc _).stp h15 hnB.out).alloc _).stp h16 hnB.out
        have hP16 : PapersAt w16 a2 ps := ⟨(((hPa.1.alloc _).stp h15 hn2.out).alloc _).stp h16 hn2.out, fun p hp => ((PRd.alloc ((PRd.alloc (hPa.2 p hp) _).stp h15 (hnP.out p hp)) _)).stp h16 (hnP.out p hp)⟩
        have hR16 : ReadersAt w16 a3 rs := ⟨(((hRa.1.alloc _).stp h15 hn3.out).alloc _).stp h16 hn3.out, fun r hr => ((((hRa.2 r hr).alloc _).stp h15 (hnR.out r hr)).alloc _).stp h16 (hnR.out r hr)⟩
        have hE16 : Env w16 := hE.stp hst16 hES
        have HBe1 := Lib.hid (HBe.out id n)
        have HKl1 := HKl.out id n
        clear hn5
        have hbx := HXe1.out id n
        rw [hbx] at HBe1
        generalize bestO l ps rs bs id n = out at *
        go_wp2_with fail
        refine (HBe1.out _ hE16 hl16 hP16 hR16 hB16).mono ?_
        rintro e w17 ⟨hb17, ya, yc, rfl, hy⟩
        go_wp2_with fail
        refine (topics_any _).mono ?_
        rintro e w18 ⟨rfl, hb18⟩
        go_wp2_with fail
        go_ret
        exact ⟨rfl, below_next (by have := hst16.below; rw [Nat.min_self] at this; exact this) (below_next hb17 hb18)⟩
      · subst h0
        have HBo1 := Lib.hid (HBo.out rfl)
        have HWo1 := Lib.hid (HWo.out rfl)
        have hzwa := hba.size
        clear hl14 hB14 hP14 hR14 hE14 hst14 s14 hbr1 hbr2 hbr3 hbr12 hbr13 hba hb14a HBo HWo HXe HRf HRc HBA HWs
        have hza := hsta.size
        go_wp2_with fail
        refine (One_any w.heap.size _ wa.heap.size 3 3 9 _ _ (sa.alloc _) (by omega) (Box.new _ _ _) (by have := sa.lt; omega) rfl (by omega) (by omega) (by simp; decide)).mono ?_
        rintro e w15 ⟨id, hid, rfl, h15, s15⟩
        have hz15 := h15.size
        simp at hz15
        go_wp2_with fail
        refine (pick_box w.heap.size _ _ 3 5 [1, 2, 5, 0, 101] _ (s15.alloc _) (by omega) (Box.new _ _ _) (by omega) (by decide) (by decide)).mono ?_
        rintro e w16 ⟨n, hn5, rfl, h16, s16⟩
        have hz16 := h16.size
        simp at hz16
        have hst16 := (((hsta.alloc _).trans h15).alloc _).trans h16
        have hl16 := (((hla.alloc _).stp h15 hpS).alloc _).stp h16 hpS
        have hB16 := (((hBa.alloc _).stp h15 hnB.out).alloc _).stp h16 hnB.out
        have hP16 : PapersAt w16 a2 ps := ⟨(((hPa.1.alloc _).stp h15 hn2.out).alloc _).stp h16 hn2.out, fun p hp => ((PRd.alloc ((PRd.alloc (hPa.2 p hp) _).stp h15 (hnP.out p hp)) _)).stp h16 (hnP.out p hp)⟩
        have hR16 : ReadersAt w16 a3 rs := ⟨(((hRa.1.alloc _).stp h15 hn3.out).alloc _).stp h16 hn3.out, fun r hr => ((((hRa.2 r hr).alloc _).stp h15 (hnR.out r hr)).alloc _).stp h16 (hnR.out r hr)⟩
        have hE16 : Env w16 := hE.stp hst16 hES
        have HBe1 := Lib.hid (HBe.out id n)
        have HKl1 := HKl.out id n
        clear hn5
        have HBo2 := Lib.hid (HBo1.out id n)
        have hrows16 := (((hrows.below (by (repeat' (first | exact Below.refl _ _ | assumption | refine Below.setCell ?_ ?_ _ | refine below_drewN ?_ _ | refine Below.drew ?_ | refine Below.alloc ?_ ?_ _ | (with_reducible refine Below.trans ?_ (Below.mono hb ?_)) | (with_reducible refine Below.trans ?_ (Below.mono hb0 ?_)) | (with_reducible refine Below.trans ?_ (Below.mono hb1 ?_)) | (with_reducible refine Below.trans ?_ (Below.mono hb2 ?_)) | (with_reducible refine Below.trans ?_ (Below.mono hb3 ?_)) | (with_reducible refine Below.trans ?_ (Below.mono hb4 ?_)) | (with_reducible refine Below.trans ?_ (Below.mono hb5 ?_)) | (with_reducible refine Below.trans ?_ (Below.mono hb6 ?_)) | (with_reducible refine Below.trans ?_ (Below.mono hb7 ?_)) | (with_reducible refine Below.trans ?_ (Below.mono hb8 ?_)) | (with_reducible refine Below.trans ?_ (Below.mono hb9 ?_)) | (with_reducible refine Below.trans ?_ (Below.mono hb10 ?_)) | (with_reducible refine Below.trans ?_ (Below.mono hb11 ?_)) | (with_reducible refine Below.trans ?_ (Below.mono hb12 ?_)) | (with_reducible refine Below.trans ?_ (Below.mono hb13 ?_)) | (with_reducible refine Below.trans ?_ (Below.mono hb14 ?_)) | (with_reducible refine Below.trans ?_ (Below.mono hb15 ?_)) | omega | (simp; done) | (simp; omega))))).stp h15 (by omega)).below (Below.alloc (Below.refl _ _) (Nat.le_refl _) _)).stp h16 (by omega)
        generalize bestX l ps rs bs id n = bx at *
        generalize bestO l ps rs bs id n = out at *
        have hq5 : (bx == bx) = true := by simp
        go_wp2_with fail
        refine (HBe1.out _ hE16 hl16 hP16 hR16 hB16).mono ?_
        rintro e w17 ⟨hb17, ya, yc, rfl, hy⟩
        go_wp2_with fail
        refine (HBo2.out _ (hl16.below hb17) (hP16.below hb17) (hR16.below hb17) (hB16.below hb17)).mono ?_
        rintro e w18 ⟨hb18, za, zc, rfl, hzz⟩
        have hb1618 := below_next hb17 hb18
        go_wp2_with fail
        refine (topics_any _).mono ?_
        rintro e w19 ⟨rfl, hb19⟩
        have hb1619 := below_next hb1618 hb19
        go_wp2_with fail
        refine (HWo1.out _ (hl16.below hb1619) (hP16.below hb1619) (hR16.below hb1619) (hB16.below hb1619)).mono ?_
        rintro e w20 ⟨v2, rfl, ⟨rows2, hown2, hmap2, hin2⟩, hb20⟩
        have hb1620 := below_next hb1619 hb20
        obtain ⟨rows1, hown1, hmap1, hin1⟩ := hrows16.below hb1620
        obtain ⟨va, vc, rfl, hva, _, _⟩ := hown1.sa
        obtain ⟨ua, uc, rfl, hua, _, _⟩ := hown2.sa
        go_wp2_with fail
        refine (equalRows_any rows1 rows2 va ua vc uc _ hva hua (fun r hr => ⟨(hin1 r hr).1, HRl.out rows1 hmap1 r hr⟩) (fun r hr => (hin2 r hr).1) (hmap1.trans hmap2.symm) (by have := HRn.out rows1 hmap1; omega)).mono ?_
        rintro e w21 ⟨rfl, hb21⟩
        have hy21 := hy.below (below_next (below_next (below_next hb18 hb19) hb20) hb21)
        have hz21 := hzz.below (below_next (below_next hb19 hb20) hb21)
        go_wp2_with fail
        refine (equal_any out out ya za yc zc _ hy21 hz21 (by omega) (by omega)).mono ?_
        rintro e w22 ⟨rfl, n22, rfl⟩
        go_wp2_with fail
        go_ret
        exact ⟨rfl, below_drewN (below_next (by have := hst16.below; rw [Nat.min_self] at this; exact this) (below_next hb1620 hb21)) _⟩
    · have HRx : readersX l rs = forestFault l := by unfold readersX; rw [if_pos hff]
      have HEx : fieldE l ps rs bs = forestFault l := by unfold fieldE; rw [if_pos hff]
      rw [HRx] at HRc
      rw [HEx] at HWs HXe
      clear HRx HEx HBo HWo
      generalize worthsL l ps rs bs = ws at *
      generalize forestFault l = er at *
      have HXe1 := Lib.hid (fun id n => HXe.out id n hff)
      have hq4 : (er != er) = false := by simp
      have hq5 : (er != 0) = true := by simpa using hff
      have hq6 : (er == er) = true := by simp
      have hq7 : (er == 0) = false := by simpa using hff
      go_wp2_with fail
      refine (HRc.out _ hl14 hR14).mono ?_
      rintro e wr2 ⟨rfl, hbr12⟩
      go_wp2_with fail
      refine (HWs.out _ (hE14.below hbr12) (hl14.below hbr12) (hP14.below hbr12) (hR14.below hbr12) (hB14.below hbr12)).mono ?_
      rintro e wa ⟨hba, hcase⟩
      have hb14a := below_next hbr12 hba
      have hla := hl14.below hb14a
      have hBa := hB14.below hb14a
      have hPa := hP14.below hb14a
      have hRa := hR14.below hb14a
      have hsta := hst14.trans (Stp.of_below hb14a)
      have sa := s14.below hb14a
      rcases hcase with ⟨hne, rfl⟩ | ⟨h0, _⟩
      · clear hne hff hl14 hB14 hP14 hR14 hE14 hst14 s14 hbr12 hba hb14a HXe HRf HRc HBA HWs
        have hza := hsta.size
        go_wp2_with fail
        refine (One_any w.heap.size _ wa.heap.size 3 3 9 _ _ (sa.alloc _) (by omega) (Box.new _ _ _) (by have := sa.lt; omega) rfl (by omega) (by omega) (by simp; decide)).mono ?_
        rintro e w15 ⟨id, hid, rfl, h15, s15⟩
        have hz15 := h15.size
        simp at hz15
        go_wp2_with fail
        refine (pick_box w.heap.size _ _ 3 5 [1, 2, 5, 0, 101] _ (s15.alloc _) (by omega) (Box.new _ _ _) (by omega) (by decide) (by decide)).mono ?_
        rintro e w16 ⟨n, hn5, rfl, h16, s16⟩
        have hz16 := h16.size
        simp at hz16
        have hst16 := (((hsta.alloc _).trans h15).alloc _).trans h16
        have hl16 := (((hla.alloc _).stp h15 hpS).alloc _).stp h16 hpS
        have hB16 := (((hBa.alloc _).stp h15 hnB.out).alloc _).stp h16 hnB.out
        have hP16 : PapersAt w16 a2 ps := ⟨(((hPa.1.alloc _).stp h15 hn2.out).alloc _).stp h16 hn2.out, fun p hp => ((PRd.alloc ((PRd.alloc (hPa.2 p hp) _).stp h15 (hnP.out p hp)) _)).stp h16 (hnP.out p hp)⟩
        have hR16 : ReadersAt w16 a3 rs := ⟨(((hRa.1.alloc _).stp h15 hn3.out).alloc _).stp h16 hn3.out, fun r hr => ((((hRa.2 r hr).alloc _).stp h15 (hnR.out r hr)).alloc _).stp h16 (hnR.out r hr)⟩
        have hE16 : Env w16 := hE.stp hst16 hES
        have HBe1 := Lib.hid (HBe.out id n)
        have HKl1 := HKl.out id n
        clear hn5
        have hbx := HXe1.out id n
        rw [hbx] at HBe1
        generalize bestO l ps rs bs id n = out at *
        go_wp2_with fail
        refine (HBe1.out _ hE16 hl16 hP16 hR16 hB16).mono ?_
        rintro e w17 ⟨hb17, ya, yc, rfl, hy⟩
        go_wp2_with fail
        refine (topics_any _).mono ?_
        rintro e w18 ⟨rfl, hb18⟩
        go_wp2_with fail
        go_ret
        exact ⟨rfl, below_next (by have := hst16.below; rw [Nat.min_self] at this; exact this) (below_next hb17 hb18)⟩
      · exact absurd h0 hff
end Go.Proofs.YtpgofjjcmldhpaaGreatDoor.bidsWorth
