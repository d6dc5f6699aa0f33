/- The closures of the reference's error of a programme. Written by gen/src/gridr5.py. -/
import Derived.Test.YtldgphhiajhfhaaGreatDoorGridR2
import Derived.Test.YtldgphhiajhfhaaGreatDoorGridR4
/-! The closures of the reference's error of a programme. Written by gen/src/gridr5.py. -/
namespace Go.Proofs.YtldgphhiajhfhaaGreatDoor
open Go.RowKit
set_option linter.unusedVariables false
set_option linter.unusedSimpArgs false

set_option maxRecDepth 100000 in
set_option maxHeartbeats 4000000 in
theorem pfClo1_any (g : Grd) (s o : Ses) (bs bg : Nat) (w : World) (hg : GRd w g) (hz : GSm g) (hsb : Box w bs 67 #[.string s.slot, .string s.room, .slice s.a1 s.papers.length s.c1]) (hgb : Box w bg 32 #[.slice g.ra g.rooms.length g.rc, .slice g.sa g.slots.length g.sc, .slice g.ta g.talks.length g.tc, .slice g.wa g.wishes.length g.wc, .slice g.ba g.bans.length g.bc]) :
  Calls Tryz.prog 74 #[o.agg, .pointer (some ⟨bs, 0, none⟩), .pointer (some ⟨bg, 0, none⟩)] w (Gives (.bool (decide (o.room = s.room) && meetsB g o s)) w) := by
 have HM := Lib.hid (fun W (h : GRd W g) => meets_any g o s W h hz)
 have HG := Lib.hid (fun W (h : Below w.heap.size w W) => hg.below h)
 generalize meetsB g o s = mb at *
 rw [Grd.agg_eq] at HM
 clear hz hg
 obtain ⟨s1, s2, s3, s4, s5⟩ := s
 obtain ⟨o1, o2, o3, o4, o5⟩ := o
 simp only at hsb ⊢
 unfold Ses.agg at *
 simp only at HM
 have hO := Box.new w 67 #[.string o1, .string o2, .slice o4 o3.length o5]
 have hS := hsb.alloc (.cells #[.string o1, .string o2, .slice o4 o3.length o5] 67)
 have hGb := hgb.alloc (.cells #[.string o1, .string o2, .slice o4 o3.length o5] 67)
 have hb0 : Below w.heap.size w (w.alloc (.cells #[.string o1, .string o2, .slice o4 o3.length o5] 67)) := (Below.refl _ _).alloc (Nat.le_refl _) _
 clear hsb hgb
 go_enter Tryz.func74, Tryz.ntmps74
 go_upto_region 1 with (fail)
 generalize w.alloc (.cells #[.string o1, .string o2, .slice o4 o3.length o5] 67) = w2 at *
 have hO_l := hO.lt; have hO_0 := hO.cell 0; have hO_1 := hO.cell 1; have hO_2 := hO.cell 2; simp at hO_0 hO_1 hO_2
 have hS_l := hS.lt; have hS_0 := hS.cell 0; have hS_1 := hS.cell 1; have hS_2 := hS.cell 2; simp at hS_0 hS_1 hS_2
 have hGb_l := hGb.lt; have hGb_0 := hGb.cell 0; have hGb_1 := hGb.cell 1; have hGb_2 := hGb.cell 2; have hGb_3 := hGb.cell 3; have hGb_4 := hGb.cell 4; simp at hGb_0 hGb_1 hGb_2 hGb_3 hGb_4
 by_cases h : o2 = s2
 ·
  have e1 := tl_eq h
  have Hd : Hid ((decide (o2 = s2) && mb) = mb) := by show _ = _; rw [decide_eq_true h]; rfl
  clear h
  go_wp2_with fail
  refine (HM.out _ (HG.out _ hb0)).mono ?_
  rintro e w3 ⟨rfl, hb3⟩
  go_wp2_with fail
  go_ret
  exact ⟨by rw [Hd.out] <;> rfl, below_next hb0 hb3⟩
 ·
  have e1 := tl_ne h
  have Hd : Hid ((decide (o2 = s2) && mb) = false) := by show _ = _; rw [decide_eq_false h]; rfl
  clear h
  go_wp2_with fail
  go_ret
  exact ⟨by rw [Hd.out] <;> rfl, hb0⟩
set_option maxRecDepth 100000 in
set_option maxHeartbeats 8000000 in
theorem pfClo2_any (g : Grd) (s o : Ses) (bs bg : Nat) (w : World) (hg : GRd w g) (hz : GSm g) (hsp : SA w s.a1 s.papers) (hop : SA w o.a1 o.papers) (hsl : s.papers.length ≤ 1000) (hol : o.papers.length ≤ 1000) (hsb : Box w bs 67 #[.string s.slot, .string s.room, .slice s.a1 s.papers.length s.c1]) (hgb : Box w bg 32 #[.slice g.ra g.rooms.length g.rc, .slice g.sa g.slots.length g.sc, .slice g.ta g.talks.length g.tc, .slice g.wa g.wishes.length g.wc, .slice g.ba g.bans.length g.bc]) :
  Calls Tryz.prog 76 #[o.agg, .pointer (some ⟨bg, 0, none⟩), .pointer (some ⟨bs, 0, none⟩)] w (Gives (.bool (meetsB g o s && sharesB (speakersOf g o) (speakersOf g s))) w) := by
 have HM := Lib.hid (fun W (h : GRd W g) => meets_any g o s W h hz)
 have HP1 := Lib.hid (fun W (h : GRd W g) (h2 : SA W o.a1 o.papers) => speakersOf_any g o W h hz h2 hol)
 have HP2 := Lib.hid (fun W (h : GRd W g) (h2 : SA W s.a1 s.papers) => speakersOf_any g s W h hz h2 hsl)
 have HG := Lib.hid (fun W (h : Below w.heap.size w W) => hg.below h)
 have HL1 : Hid ((speakersOf g o).length ≤ 1000000) := by have := speakers_len hz o.papers; show (o.papers.flatMap (talkSp g)).length ≤ _; omega
 have HL2 : Hid ((speakersOf g s).length ≤ 1000000) := by have := speakers_len hz s.papers; show (s.papers.flatMap (talkSp g)).length ≤ _; omega
 generalize meetsB g o s = mb at *
 generalize speakersOf g o = so at *
 generalize speakersOf g s = ss at *
 have HSH := Lib.hid (fun la lc ra rc W (h1 : SA W la so) (h2 : SA W ra ss) => shares_any so ss la ra lc rc W h1 h2 HL1.out HL2.out)
 generalize sharesB so ss = sh at *
 rw [Grd.agg_eq] at HM HP1 HP2
 clear hz hg
 obtain ⟨s1, s2, s3, s4, s5⟩ := s
 obtain ⟨o1, o2, o3, o4, o5⟩ := o
 simp only at hsb hsp hop HP1 HP2 ⊢
 unfold Ses.agg at *
 simp only at HM HP1 HP2
 have hO := Box.new w 67 #[.string o1, .string o2, .slice o4 o3.length o5]
 have hS := hsb.alloc (.cells #[.string o1, .string o2, .slice o4 o3.length o5] 67)
 have hGb := hgb.alloc (.cells #[.string o1, .string o2, .slice o4 o3.length o5] 67)
 have hb0 : Below w.heap.size w (w.alloc (.cells #[.string o1, .string o2, .slice o4 o3.length o5] 67)) := (Below.refl _ _).alloc (Nat.le_refl _) _
 have hs1 := hsp.below hb0
 have ho1 := hop.below hb0
 clear hsb hgb hsp hop
 go_enter Tryz.func76, Tryz.ntmps76
 go_upto_region 1 with (fail)
 generalize w.alloc (.cells #[.string o1, .string o2, .slice o4 o3.length o5] 67) = w2 at *
 have hg_0 := hGb.cell 0
 have hg_1 := hGb.cell 1
 have hg_2 := hGb.cell 2
 have hg_3 := hGb.cell 3
 have hg_4 := hGb.cell 4
 have hsb_0 := hS.cell 0
 have hsb_1 := hS.cell 1
 have hsb_2 := hS.cell 2
 have hO_0 := hO.cell 0
 have hO_1 := hO.cell 1
 have hO_2 := hO.cell 2
 simp at hg_0 hg_1 hg_2 hg_3 hg_4 hsb_0 hsb_1 hsb_2 hO_0 hO_1 hO_2
 refine wp_region_held_drew (S := (fun wx => wx.cell? ⟨bg, 0, none⟩ = some (.slice g.ra g.rooms.length g.rc) ∧ wx.cell? ⟨bg, 1, none⟩ = some (.slice g.sa g.slots.length g.sc) ∧ wx.cell? ⟨bg, 2, none⟩ = some (.slice g.ta g.talks.length g.tc) ∧ wx.cell? ⟨bg, 3, none⟩ = some (.slice g.wa g.wishes.length g.wc) ∧ wx.cell? ⟨bg, 4, none⟩ = some (.slice g.ba g.bans.length g.bc) ∧ wx.cell? ⟨bs, 0, none⟩ = some (.string s1) ∧ wx.cell? ⟨bs, 1, none⟩ = some (.string s2) ∧ wx.cell? ⟨bs, 2, none⟩ = some (.slice s4 s3.length s5) ∧ wx.cell? ⟨w.heap.size, 0, none⟩ = some (.string o1) ∧ wx.cell? ⟨w.heap.size, 1, none⟩ = some (.string o2) ∧ wx.cell? ⟨w.heap.size, 2, none⟩ = some (.slice o4 o3.length o5) ∧ Below w2.heap.size w2 wx)) (by kernel_rfl) ?hS (fun hHeld => ?_)
 case hS => exact ⟨hg_0, hg_1, hg_2, hg_3, hg_4, hsb_0, hsb_1, hsb_2, hO_0, hO_1, hO_2, (Below.refl _ _).drew⟩
 refine rt 0 (some 5) ?_
 refine rt 1 (some 6) ?_
 refine rt 2 (some 7) ?_
 refine rcall (i := 3) (d := (some 8)) (by kernel_rfl) rfl (by kernel_rfl) (fun K hK => ?_)
 go_simp
 go_at_call 75; refine (HM.out _ (HG.out _ (below_next hb0 hHeld.2.2.2.2.2.2.2.2.2.2.2))).mono ?_; rintro e w3 ⟨rfl, hb3⟩
 refine hK.out _ _ ?hS (fun hHeld => ?_)
 case hS => exact ⟨cell_later hb3 hHeld.1, cell_later hb3 hHeld.2.1, cell_later hb3 hHeld.2.2.1, cell_later hb3 hHeld.2.2.2.1, cell_later hb3 hHeld.2.2.2.2.1, cell_later hb3 hHeld.2.2.2.2.2.1, cell_later hb3 hHeld.2.2.2.2.2.2.1, cell_later hb3 hHeld.2.2.2.2.2.2.2.1, cell_later hb3 hHeld.2.2.2.2.2.2.2.2.1, cell_later hb3 hHeld.2.2.2.2.2.2.2.2.2.1, cell_later hb3 hHeld.2.2.2.2.2.2.2.2.2.2.1, below_next hHeld.2.2.2.2.2.2.2.2.2.2.2 hb3⟩
 clear hK K
 simp only [Act.put, lsetA, lsetZ, lsetS]
 refine rt 4 (some 9) ?_
 cases mb
 ·
  (try skip)
  refine rs 5 (some 10) ?_
  refine rs 6 (some 11) ?_
  refine rs 7 (some 12) ?_
  refine rs 8 (some 13) ?_
  refine rs 9 (some 14) ?_
  refine rs 10 (some 15) ?_
  refine rs 11 (some 16) ?_
  refine rt 12 (some 17) ?_
  refine rt 13 (some 4) ?_
  refine wpAnyH_done (by kernel_rfl) ?_ _
  have hbF := below_next hb0 hHeld.2.2.2.2.2.2.2.2.2.2.2
  go_wp2_with fail
  go_ret
  exact ⟨rfl, hbF⟩
 ·
  (try skip)
  refine rt 5 (some 10) ?_
  refine rt 6 (some 11) ?_
  refine rt 8 (some 13) ?_
  refine rt 9 (some 14) ?_
  refine rcall (i := 7) (d := (some 12)) (by kernel_rfl) rfl (by kernel_rfl) (fun K hK => ?_)
  go_simp
  go_at_call 78; refine (HP1.out _ (HG.out _ (below_next hb0 hHeld.2.2.2.2.2.2.2.2.2.2.2)) (ho1.below hHeld.2.2.2.2.2.2.2.2.2.2.2)).mono ?_; rintro e w3 ⟨v1, rfl, hv1, hb3⟩
  refine hK.out _ _ ?hS (fun hHeld => ?_)
  case hS => exact ⟨cell_later hb3 hHeld.1, cell_later hb3 hHeld.2.1, cell_later hb3 hHeld.2.2.1, cell_later hb3 hHeld.2.2.2.1, cell_later hb3 hHeld.2.2.2.2.1, cell_later hb3 hHeld.2.2.2.2.2.1, cell_later hb3 hHeld.2.2.2.2.2.2.1, cell_later hb3 hHeld.2.2.2.2.2.2.2.1, cell_later hb3 hHeld.2.2.2.2.2.2.2.2.1, cell_later hb3 hHeld.2.2.2.2.2.2.2.2.2.1, cell_later hb3 hHeld.2.2.2.2.2.2.2.2.2.2.1, below_next hHeld.2.2.2.2.2.2.2.2.2.2.2 hb3⟩
  clear hK K
  simp only [Act.put, lsetA, lsetZ, lsetS]
  obtain ⟨la1, lc1, rfl, hla1, -, -⟩ := hv1.sa
  refine rcall (i := 10) (d := (some 15)) (by kernel_rfl) rfl (by kernel_rfl) (fun K hK => ?_)
  go_simp
  go_at_call 78; refine (HP2.out _ (HG.out _ (below_next hb0 hHeld.2.2.2.2.2.2.2.2.2.2.2)) (hs1.below hHeld.2.2.2.2.2.2.2.2.2.2.2)).mono ?_; rintro e w4 ⟨v2, rfl, hv2, hb3⟩; have hla1 := hla1.below hb3
  refine hK.out _ _ ?hS (fun hHeld => ?_)
  case hS => exact ⟨cell_later hb3 hHeld.1, cell_later hb3 hHeld.2.1, cell_later hb3 hHeld.2.2.1, cell_later hb3 hHeld.2.2.2.1, cell_later hb3 hHeld.2.2.2.2.1, cell_later hb3 hHeld.2.2.2.2.2.1, cell_later hb3 hHeld.2.2.2.2.2.2.1, cell_later hb3 hHeld.2.2.2.2.2.2.2.1, cell_later hb3 hHeld.2.2.2.2.2.2.2.2.1, cell_later hb3 hHeld.2.2.2.2.2.2.2.2.2.1, cell_later hb3 hHeld.2.2.2.2.2.2.2.2.2.2.1, below_next hHeld.2.2.2.2.2.2.2.2.2.2.2 hb3⟩
  clear hK K
  simp only [Act.put, lsetA, lsetZ, lsetS]
  obtain ⟨la2, lc2, rfl, hla2, -, -⟩ := hv2.sa
  refine rcall (i := 11) (d := (some 16)) (by kernel_rfl) rfl (by kernel_rfl) (fun K hK => ?_)
  go_simp
  go_at_call 77; refine (HSH.out la1 lc1 la2 lc2 _ hla1 hla2).mono ?_; rintro e w5 ⟨rfl, hb3⟩
  refine hK.out _ _ ?hS (fun hHeld => ?_)
  case hS => exact ⟨cell_later hb3 hHeld.1, cell_later hb3 hHeld.2.1, cell_later hb3 hHeld.2.2.1, cell_later hb3 hHeld.2.2.2.1, cell_later hb3 hHeld.2.2.2.2.1, cell_later hb3 hHeld.2.2.2.2.2.1, cell_later hb3 hHeld.2.2.2.2.2.2.1, cell_later hb3 hHeld.2.2.2.2.2.2.2.1, cell_later hb3 hHeld.2.2.2.2.2.2.2.2.1, cell_later hb3 hHeld.2.2.2.2.2.2.2.2.2.1, cell_later hb3 hHeld.2.2.2.2.2.2.2.2.2.2.1, below_next hHeld.2.2.2.2.2.2.2.2.2.2.2 hb3⟩
  clear hK K
  simp only [Act.put, lsetA, lsetZ, lsetS]
  refine rt 12 (some 17) ?_
  refine rt 13 (some 4) ?_
  refine wpAnyH_done (by kernel_rfl) ?_ _
  have hbF := below_next hb0 hHeld.2.2.2.2.2.2.2.2.2.2.2
  go_wp2_with fail
  go_ret
  exact ⟨rfl, hbF⟩
set_option maxRecDepth 100000 in
set_option maxHeartbeats 8000000 in
theorem pfClo3_any (g : Grd) (s : Ses) (o : Ban2) (bs bg : Nat) (w : World) (hg : GRd w g) (hz : GSm g) (hsp : SA w s.a1 s.papers) (hsl : s.papers.length ≤ 1000) (hsb : Box w bs 67 #[.string s.slot, .string s.room, .slice s.a1 s.papers.length s.c1]) (hgb : Box w bg 32 #[.slice g.ra g.rooms.length g.rc, .slice g.sa g.slots.length g.sc, .slice g.ta g.talks.length g.tc, .slice g.wa g.wishes.length g.wc, .slice g.ba g.bans.length g.bc]) :
  Calls Tryz.prog 80 #[encBan o, .pointer (some ⟨bs, 0, none⟩), .pointer (some ⟨bg, 0, none⟩)] w (Gives (.bool (decide (o.2 = s.slot) && inB (speakersOf g s) o.1)) w) := by
 have HP2 := Lib.hid (fun W (h : GRd W g) (h2 : SA W s.a1 s.papers) => speakersOf_any g s W h hz h2 hsl)
 have HG := Lib.hid (fun W (h : Below w.heap.size w W) => hg.below h)
 have HL2 : Hid ((speakersOf g s).length ≤ 1000000) := by have := speakers_len hz s.papers; show (s.papers.flatMap (talkSp g)).length ≤ _; omega
 generalize speakersOf g s = ss at *
 have HCn := Lib.hid (fun la lc W (h : SA W la ss) => contains_any ss la lc o.1 W h (by have := HL2.out; omega))
 have HB : Hid (ss.any (fun y => decide (y = o.1)) = inB ss o.1) := rfl
 rw [HB.out] at HCn
 generalize inB ss o.1 = ib at *
 rw [Grd.agg_eq] at HP2
 clear hz hg
 obtain ⟨s1, s2, s3, s4, s5⟩ := s
 obtain ⟨o1, o2⟩ := o
 simp only at hsb hsp HP2 HCn ⊢
 unfold Ses.agg at *
 unfold encBan
 simp only at HP2 ⊢
 have hO := Box.new w 64 #[.string o1, .string o2]
 have hS := hsb.alloc (.cells #[.string o1, .string o2] 64)
 have hGb := hgb.alloc (.cells #[.string o1, .string o2] 64)
 have hb0 : Below w.heap.size w (w.alloc (.cells #[.string o1, .string o2] 64)) := (Below.refl _ _).alloc (Nat.le_refl _) _
 have hs1 := hsp.below hb0
 clear hsb hgb hsp
 go_enter Tryz.func80, Tryz.ntmps80
 go_upto_region 1 with (fail)
 generalize w.alloc (.cells #[.string o1, .string o2] 64) = w2 at *
 have hg_0 := hGb.cell 0
 have hg_1 := hGb.cell 1
 have hg_2 := hGb.cell 2
 have hg_3 := hGb.cell 3
 have hg_4 := hGb.cell 4
 have hsb_0 := hS.cell 0
 have hsb_1 := hS.cell 1
 have hsb_2 := hS.cell 2
 have hO_0 := hO.cell 0
 have hO_1 := hO.cell 1
 simp at hg_0 hg_1 hg_2 hg_3 hg_4 hsb_0 hsb_1 hsb_2 hO_0 hO_1
 by_cases h : o2 = s1
 ·
  have e1 := tl_eq h
  have Hd : Hid ((decide (o2 = s1) && ib) = ib) := by show _ = _; rw [decide_eq_true h]; rfl
  clear h
  refine wp_region_held_drew (S := (fun wx => wx.cell? ⟨bg, 0, none⟩ = some (.slice g.ra g.rooms.length g.rc) ∧ wx.cell? ⟨bg, 1, none⟩ = some (.slice g.sa g.slots.length g.sc) ∧ wx.cell? ⟨bg, 2, none⟩ = some (.slice g.ta g.talks.length g.tc) ∧ wx.cell? ⟨bg, 3, none⟩ = some (.slice g.wa g.wishes.length g.wc) ∧ wx.cell? ⟨bg, 4, none⟩ = some (.slice g.ba g.bans.length g.bc) ∧ wx.cell? ⟨bs, 0, none⟩ = some (.string s1) ∧ wx.cell? ⟨bs, 1, none⟩ = some (.string s2) ∧ wx.cell? ⟨bs, 2, none⟩ = some (.slice s4 s3.length s5) ∧ wx.cell? ⟨w.heap.size, 0, none⟩ = some (.string o1) ∧ wx.cell? ⟨w.heap.size, 1, none⟩ = some (.string o2) ∧ Below w2.heap.size w2 wx)) (by kernel_rfl) ?hS (fun hHeld => ?_)
  case hS => exact ⟨hg_0, hg_1, hg_2, hg_3, hg_4, hsb_0, hsb_1, hsb_2, hO_0, hO_1, (Below.refl _ _).drew⟩
  refine rt 0 (some 5) ?_
  refine rt 1 (some 6) ?_
  refine rt 2 (some 7) ?_
  refine rt 3 (some 8) ?_
  refine rt 4 (some 9) ?_
  refine rt 5 (some 10) ?_
  refine rt 6 (some 11) ?_
  refine rt 7 (some 12) ?_
  refine rt 9 (some 14) ?_
  refine rt 10 (some 15) ?_
  refine rcall (i := 8) (d := (some 13)) (by kernel_rfl) rfl (by kernel_rfl) (fun K hK => ?_)
  go_simp
  go_at_call 78; refine (HP2.out _ (HG.out _ (below_next hb0 hHeld.2.2.2.2.2.2.2.2.2.2)) (hs1.below hHeld.2.2.2.2.2.2.2.2.2.2)).mono ?_; rintro e w4 ⟨v2, rfl, hv2, hb3⟩
  refine hK.out _ _ ?hS (fun hHeld => ?_)
  case hS => exact ⟨cell_later hb3 hHeld.1, cell_later hb3 hHeld.2.1, cell_later hb3 hHeld.2.2.1, cell_later hb3 hHeld.2.2.2.1, cell_later hb3 hHeld.2.2.2.2.1, cell_later hb3 hHeld.2.2.2.2.2.1, cell_later hb3 hHeld.2.2.2.2.2.2.1, cell_later hb3 hHeld.2.2.2.2.2.2.2.1, cell_later hb3 hHeld.2.2.2.2.2.2.2.2.1, cell_later hb3 hHeld.2.2.2.2.2.2.2.2.2.1, below_next hHeld.2.2.2.2.2.2.2.2.2.2 hb3⟩
  clear hK K
  simp only [Act.put, lsetA, lsetZ, lsetS]
  obtain ⟨la2, lc2, rfl, hla2, -, -⟩ := hv2.sa
  refine rcall (i := 11) (d := (some 16)) (by kernel_rfl) rfl (by kernel_rfl) (fun K hK => ?_)
  go_simp
  go_at_call 72; refine (HCn.out la2 lc2 _ hla2).mono ?_; rintro e w5 ⟨rfl, rfl⟩
  refine hK.out _ _ ?hS (fun hHeld => ?_)
  case hS => exact hHeld
  clear hK K
  simp only [Act.put, lsetA, lsetZ, lsetS]
  refine rt 12 (some 17) ?_
  refine rt 13 (some 4) ?_
  refine wpAnyH_done (by kernel_rfl) ?_ _
  have hbF := below_next hb0 hHeld.2.2.2.2.2.2.2.2.2.2
  go_wp2_with fail
  go_ret
  exact ⟨by rw [Hd.out] <;> rfl, hbF⟩
 ·
  have e1 := tl_ne h
  have Hd : Hid ((decide (o2 = s1) && ib) = false) := by show _ = _; rw [decide_eq_false h]; rfl
  clear h
  go_quiet (fail)
  go_wp2_with fail
  go_ret
  exact ⟨by rw [Hd.out] <;> rfl, by (repeat' (first | exact Below.refl _ _ | assumption | refine Below.setCell ?_ ?_ _ | refine below_drewN ?_ _ | refine Below.drew ?_ | refine Below.alloc ?_ ?_ _ | (with_reducible refine Below.trans ?_ (Below.mono hb ?_)) | (with_reducible refine Below.trans ?_ (Below.mono hb0 ?_)) | (with_reducible refine Below.trans ?_ (Below.mono hb1 ?_)) | (with_reducible refine Below.trans ?_ (Below.mono hb2 ?_)) | (with_reducible refine Below.trans ?_ (Below.mono hb3 ?_)) | (with_reducible refine Below.trans ?_ (Below.mono hb4 ?_)) | (with_reducible refine Below.trans ?_ (Below.mono hb5 ?_)) | (with_reducible refine Below.trans ?_ (Below.mono hb6 ?_)) | (with_reducible refine Below.trans ?_ (Below.mono hb7 ?_)) | (with_reducible refine Below.trans ?_ (Below.mono hb8 ?_)) | (with_reducible refine Below.trans ?_ (Below.mono hb9 ?_)) | (with_reducible refine Below.trans ?_ (Below.mono hb10 ?_)) | (with_reducible refine Below.trans ?_ (Below.mono hb11 ?_)) | (with_reducible refine Below.trans ?_ (Below.mono hb12 ?_)) | (with_reducible refine Below.trans ?_ (Below.mono hb13 ?_)) | (with_reducible refine Below.trans ?_ (Below.mono hb14 ?_)) | (with_reducible refine Below.trans ?_ (Below.mono hb15 ?_)) | omega | (simp; done) | (simp; omega)))⟩
end Go.Proofs.YtldgphhiajhfhaaGreatDoor

/-! The reference's error of a programme. Written by gen/src/gridr6.py. -/
namespace Go.Proofs.YtldgphhiajhfhaaGreatDoor
open Go.RowKit
set_option linter.unusedVariables false
set_option linter.unusedSimpArgs false

theorem SA.takeG {α : Type} [Cel α] {w : World} {a : Option Addr} {l : List α} (h : SA w a l) (n : Nat) : SA w a (l.take n) := by
 rcases h with rfl | ⟨b, off, rfl, h⟩
 ·
  exact .inl (by simp)
 ·
  refine .inr ⟨b, off, rfl, fun i j x hx hj => h i j x ?_ hj⟩
  rw [List.getElem?_take] at hx
  split at hx
  ·
   exact hx
  ·
   cases hx
/-- The papers of the first sessions. -/
def seenTo (p : List Ses) (k : Nat) : List ByteArray := (p.take k).flatMap (·.papers)
theorem seenTo_succ {p : List Ses} {k : Nat} (h : k < p.length) : seenTo p (k + 1) = seenTo p k ++ p[k].papers := by
 unfold seenTo
 rw [List.take_succ_eq_append_getElem h, List.flatMap_append]
 simp
theorem flat_papers_len : ∀ {p : List Ses}, (∀ s ∈ p, s.papers.length ≤ 1000) → (p.flatMap (·.papers)).length ≤ 1000 * p.length
 | [], _ => by simp
 | x :: r, h => by
  rw [List.flatMap_cons, List.length_append, List.length_cons]
  have h1 := h x List.mem_cons_self
  have h2 := flat_papers_len (p := r) (fun s hs => h s (List.mem_cons_of_mem _ hs))
  omega
theorem seenTo_len {p : List Ses} (h : ∀ s ∈ p, s.papers.length ≤ 1000) (k : Nat) : (seenTo p k).length ≤ 1000 * k := by
 have h1 := flat_papers_len (p := p.take k) (fun s hs => h s (List.mem_of_mem_take hs))
 rw [List.length_take] at h1
 unfold seenTo
 omega
theorem longN_succ (g : Grd) {l : List ByteArray} {j : Nat} (h : j < l.length) : longN g (l.take (j + 1)) = longN g (l.take j) + (talkOr g l[j]).long := by
 unfold longN
 rw [List.take_succ_eq_append_getElem h, List.foldl_append]
 simp [talkLong_or]
theorem longN_bd {g : Grd} (hz : GSm g) (l : List ByteArray) : ∀ j, j ≤ l.length → -100000 * (j : Int) ≤ longN g (l.take j) ∧ longN g (l.take j) ≤ 100000 * (j : Int)
 | 0, _ => by simp [longN]
 | j + 1, h => by
  rw [longN_succ g (show j < l.length by omega)]
  have h1 := longN_bd hz l j (by omega)
  obtain ⟨-, -, -, -, -, h2, h3⟩ := talkOr_ok hz (l[j]'(by omega))
  omega
theorem sesE_at {g : Grd} {p : List Ses} {k : Nat} (hk : k < p.length) : sesE g p k = if (!(slotOf g p[k].slot).isSome || !(roomOf g p[k].room).isSome) = true then 8 else if (decide (0 < k) && decide (0 ≤ sesOrd (p[k - 1]'(by omega)) p[k])) = true then 7 else if p[k].papers.length = 0 then 3 else if firstErr (papE g (seenTo p k) p[k].papers) p[k].papers.length ≠ 0 then firstErr (papE g (seenTo p k) p[k].papers) p[k].papers.length else if (slotOr g p[k].slot).2.2 < longN g p[k].papers then 12 else 0 := by
 unfold sesE sesBehind seenTo
 rw [List.getElem?_eq_getElem hk]
 simp only
 cases k with
 | zero => simp
 | succ q =>
  have hp : q < p.length := by omega
  have e2 : (if 0 < q + 1 then p[q + 1 - 1]? else none) = some p[q] := by rw [if_pos (by omega)]; exact List.getElem?_eq_getElem hp
  have e3 : (p[q + 1 - 1]'(by omega)) = p[q] := rfl
  have e4 : decide (0 < q + 1) = true := by simp
  simp only [e2, e3, e4, Bool.true_and]
theorem papE_at {g : Grd} {seen l : List ByteArray} {j : Nat} (h : j < l.length) : papE g seen l j = if (talkOf g l[j]).isSome = false then 8 else if inB (seen ++ l.take j) l[j] = true then 6 else 0 := by
 unfold papE
 rw [List.getElem?_eq_getElem h]
theorem cflE_at {g : Grd} {p : List Ses} {k : Nat} (hk : k < p.length) : cflE g p k = if ((p.take k).any (fun o => decide (o.room = p[k].room) && meetsB g o p[k]) || (p.take k).any (fun o => meetsB g o p[k] && sharesB (speakersOf g o) (speakersOf g p[k]))) = true then 13 else if g.bans.any (fun b => decide (b.2 = p[k].slot) && inB (speakersOf g p[k]) b.1) = true then 11 else 0 := by
 unfold cflE
 rw [List.getElem?_eq_getElem hk]
/-- Sizes of a programme. -/
def SesOk (s : Ses) : Prop := s.slot.size ≤ 1000 ∧ s.room.size ≤ 1000 ∧ s.papers.length ≤ 1000 ∧ ∀ x ∈ s.papers, x.size ≤ 1000
set_option maxRecDepth 100000 in
set_option maxHeartbeats 16000000 in
theorem progFaultR_any (g : Grd) (p : List Ses) (pa : Option Addr) (pc : Nat) (w : World) (hg : GRd w g) (hz : GSm g) (hp : PRg w pa p) (hpl : p.length ≤ 1000000) (hpo : ∀ s ∈ p, SesOk s) (hpc : p.length ≤ pc) :
  Calls Tryz.prog 30 #[g.agg, .slice pa p.length pc] w (Gives (.int .i64 (progFault g p)) w) := by
 have HSL := Lib.hid (fun key W (h : GRd W g) => slotOf_any g key W h (by have := hz.slots; omega))
 have HRM := Lib.hid (fun key W (h : GRd W g) => roomOf_any g key W h (by have := hz.rooms; omega))
 have HTL := Lib.hid (fun key W (h : GRd W g) => talkOf_any g key W h (by have := hz.talks; omega))
 have HG := Lib.hid (fun W (h : Below w.heap.size w W) => hg.below h)
 have HP := Lib.hid (fun W (h : Below w.heap.size w W) => hp.below h)
 have HZM := Lib.hid hz
 have HPO := Lib.hid hpo
 have HSN := Lib.hid (fun k => seenTo_len (fun s hs => (hpo s hs).2.2.1) k)
 have HR : Hid (progFault g p = if 800 < p.length then 2 else if firstErr (sesE g p) p.length ≠ 0 then firstErr (sesE g p) p.length else firstErr (cflE g p) p.length) := rfl
 generalize progFault g p = R at *
 clear hz hg hp hpo
 have HC1 : Hid (∀ (s : Ses) (k bs : Nat) (W : World), k ≤ p.length → Below w.heap.size w W → Box W bs 67 #[.string s.slot, .string s.room, .slice s.a1 s.papers.length s.c1] → Box W w.heap.size 32 #[.slice g.ra g.rooms.length g.rc, .slice g.sa g.slots.length g.sc, .slice g.ta g.talks.length g.tc, .slice g.wa g.wishes.length g.wc, .slice g.ba g.bans.length g.bc] →
   Calls Tryz.prog 73 #[.slice pa k pc, .func (.func 74) #[] #[.pointer (some ⟨bs, 0, none⟩), .pointer (some ⟨w.heap.size, 0, none⟩)]] W (Gives (.bool ((p.take k).any (fun o => decide (o.room = s.room) && meetsB g o s))) W)) := fun s k bs W hk hb hbs hgb => by
  have h := findSes_any (p.take k) pa pc 74 #[.pointer (some ⟨bs, 0, none⟩), .pointer (some ⟨w.heap.size, 0, none⟩)] (fun o => decide (o.room = s.room) && meetsB g o s) W (enters_of Tryz.func74 (by kernel_rfl) rfl) (SA.takeG (HP.out W hb).list k) (by rw [List.length_take]; omega) (fun o ho W' hW' => pfClo1_any g s o bs w.heap.size W' (HG.out _ (below_next hb hW')) HZM.out (hbs.below hW') (hgb.below hW'))
  rw [List.length_take, Nat.min_eq_left hk] at h
  exact h
 have HC2 : Hid (∀ (s : Ses) (k bs : Nat) (W : World), k ≤ p.length → s ∈ p → Below w.heap.size w W → Box W bs 67 #[.string s.slot, .string s.room, .slice s.a1 s.papers.length s.c1] → Box W w.heap.size 32 #[.slice g.ra g.rooms.length g.rc, .slice g.sa g.slots.length g.sc, .slice g.ta g.talks.length g.tc, .slice g.wa g.wishes.length g.wc, .slice g.ba g.bans.length g.bc] →
   Calls Tryz.prog 73 #[.slice pa k pc, .func (.func 76) #[] #[.pointer (some ⟨w.heap.size, 0, none⟩), .pointer (some ⟨bs, 0, none⟩)]] W (Gives (.bool ((p.take k).any (fun o => meetsB g o s && sharesB (speakersOf g o) (speakersOf g s)))) W)) := fun s k bs W hk hsp hb hbs hgb => by
  have h := findSes_any (p.take k) pa pc 76 #[.pointer (some ⟨w.heap.size, 0, none⟩), .pointer (some ⟨bs, 0, none⟩)] (fun o => meetsB g o s && sharesB (speakersOf g o) (speakersOf g s)) W (enters_of Tryz.func76 (by kernel_rfl) rfl) (SA.takeG (HP.out W hb).list k) (by rw [List.length_take]; omega) (fun o ho W' hW' => pfClo2_any g s o bs w.heap.size W' (HG.out _ (below_next hb hW')) HZM.out ((HP.out _ (below_next hb hW')).papers s hsp) ((HP.out _ (below_next hb hW')).papers o (List.mem_of_mem_take ho)) (HPO.out s hsp).2.2.1 (HPO.out o (List.mem_of_mem_take ho)).2.2.1 (hbs.below hW') (hgb.below hW'))
  rw [List.length_take, Nat.min_eq_left hk] at h
  exact h
 have HC3 : Hid (∀ (s : Ses) (bs : Nat) (W : World), s ∈ p → Below w.heap.size w W → Box W bs 67 #[.string s.slot, .string s.room, .slice s.a1 s.papers.length s.c1] → Box W w.heap.size 32 #[.slice g.ra g.rooms.length g.rc, .slice g.sa g.slots.length g.sc, .slice g.ta g.talks.length g.tc, .slice g.wa g.wishes.length g.wc, .slice g.ba g.bans.length g.bc] →
   Calls Tryz.prog 79 #[.slice g.ba g.bans.length g.bc, .func (.func 80) #[] #[.pointer (some ⟨bs, 0, none⟩), .pointer (some ⟨w.heap.size, 0, none⟩)]] W (Gives (.bool (g.bans.any (fun b => decide (b.2 = s.slot) && inB (speakersOf g s) b.1))) W)) := fun s bs W hsp hb hbs hgb =>
  findBan_any g.bans g.ba g.bc 80 #[.pointer (some ⟨bs, 0, none⟩), .pointer (some ⟨w.heap.size, 0, none⟩)] (fun b => decide (b.2 = s.slot) && inB (speakersOf g s) b.1) W (enters_of Tryz.func80 (by kernel_rfl) rfl) (HG.out W hb).bans (by have := HZM.out.bans; omega) (fun o ho W' hW' => pfClo3_any g s o bs w.heap.size W' (HG.out _ (below_next hb hW')) HZM.out ((HP.out _ (below_next hb hW')).papers s hsp) (HPO.out s hsp).2.2.1 (hbs.below hW') (hgb.below hW'))
 rw [Grd.agg_eq] at HSL HRM HTL ⊢
 have hX0 := Box.new w 32 #[.slice g.ra g.rooms.length g.rc, .slice g.sa g.slots.length g.sc, .slice g.ta g.talks.length g.tc, .slice g.wa g.wishes.length g.wc, .slice g.ba g.bans.length g.bc]
 have hb0 : Below w.heap.size w (w.alloc (.cells #[.slice g.ra g.rooms.length g.rc, .slice g.sa g.slots.length g.sc, .slice g.ta g.talks.length g.tc, .slice g.wa g.wishes.length g.wc, .slice g.ba g.bans.length g.bc] 32)) := (Below.refl _ _).alloc (Nat.le_refl _) _
 go_enter Tryz.func30, Tryz.ntmps30
 by_cases q1 : 800 < p.length
 ·
  have hd : decide ((800 : Int) < (p.length : Int)) = true := decide_eq_true (by omega)
  have He : Hid (R = 2) := by show _ = _; rw [HR.out, if_pos q1]
  clear HR q1
  go_wp2_with fail
  go_ret
  exact ⟨by rw [He.out] <;> rfl, hb0⟩
 ·
  have hd : decide ((800 : Int) < (p.length : Int)) = false := decide_eq_false (by omega)
  rw [if_neg q1] at HR
  have hp800 : p.length ≤ 800 := by omega
  clear q1
  go_wp2_with fail
  clear hd
  go_loopg [5, 26] p.length (fun gk v' iv wr => ∃ (k : Nat) (v : Value), v = v' ∧ iv = .int .i64 k ∧ k ≤ p.length ∧ Hid (gk = p.length - k) ∧ Hid (∀ j, j < k → sesE g p j = 0) ∧ Own (w.heap.size + 1) 9 wr v (seenTo p k) ∧ w.heap.size + 1 ≤ wr.heap.size ∧ Below w.heap.size w wr ∧ Box wr w.heap.size 32 #[.slice g.ra g.rooms.length g.rc, .slice g.sa g.slots.length g.sc, .slice g.ta g.talks.length g.tc, .slice g.wa g.wishes.length g.wc, .slice g.ba g.bans.length g.bc])
  case atStart => exact ⟨0, _, rfl, rfl, by omega, rfl, (fun j hj => by omega), Own.nil _ _ _, by simp, hb0, hX0⟩
  case round =>
   clear hX0 hb0
   obtain ⟨k, v, rfl, rfl, hk, hgk, hf, hown, hzr, hb, hX⟩ := hrel
   by_cases hlt : k < p.length
   ·
    have hpr := HP.out _ hb
    obtain ⟨b, off, ha, c0, c1, c2⟩ := hpr.list.sesC hlt
    have Hfe : Hid (∀ e, sesE g p k = e → e ≠ 0 → R = e) := fun e he he0 => by
     have h := firstErr_is hlt hf.out he he0
     rw [HR.out, h, if_pos he0]
    have HE := Lib.hid (sesE_at (g := g) hlt)
    have hplt : k - 1 < p.length := by omega
    obtain ⟨b', off', ha', d0, d1, d2⟩ := hpr.list.sesC hplt
    rw [ha] at ha'
    cases ha'
    have hxm : p[k] ∈ p := List.getElem_mem hlt
    have Hsu := Lib.hid (seenTo_succ hlt)
    have HRD := Lib.hid (fun W (h : Below w.heap.size w W) => (HP.out W h).papers _ hxm)
    have Hxm := Lib.hid hxm
    have hok := HPO.out _ hxm
    have hsn := HSN.out k
    clear hxm
    generalize p[k] = x at *
    generalize p[k - 1] = y at *
    generalize seenTo p k = seen at *
    obtain ⟨q, hq⟩ : ∃ q, q = k - 1 := ⟨_, rfl⟩
    rw [← hq] at d0 d1 d2 hplt
    have hq1 : (0 : Int) ≤ (q : Int) := by omega
    have hq2 : (q : Int) < (p.length : Int) := by omega
    have Hq := Lib.hid hq
    have Ha := Lib.hid ha
    clear hq hpr
    rw [ha]
    clear ha
    obtain ⟨s1, s2, s3, s4, s5⟩ := x
    obtain ⟨y1, y2, y3, y4, y5⟩ := y
    simp only at c0 c1 c2 d0 d1 d2 HE hok HRD Hsu
    obtain ⟨hs1, hs2, hs3, hs4⟩ := hok
    go_upto_region 7 with (fail)
    have hX1 := hX.alloc (.cells #[.string s1, .string s2, .slice s4 s3.length s5] 67)
    have hE1 := Box.new wr 67 #[.string s1, .string s2, .slice s4 s3.length s5]
    have hb1 := hb.alloc hb.size (.cells #[.string s1, .string s2, .slice s4 s3.length s5] 67)
    have hown1 := hown.alloc (.cells #[.string s1, .string s2, .slice s4 s3.length s5] 67)
    have hnew := (Below.refl wr.heap.size wr).alloc (Nat.le_refl _) (.cells #[.string s1, .string s2, .slice s4 s3.length s5] 67)
    have hD0 := cell_later hnew d0
    have hD1 := cell_later hnew d1
    have hD2 := cell_later hnew d2
    have hol := hown.lt
    clear hX hb hown c0 c1 c2 d0 d1 d2 hnew
    generalize wr.alloc (.cells #[.string s1, .string s2, .slice s4 s3.length s5] 67) = w2 at *
    generalize wr.heap.size = n2 at *
    have hX1_l := hX1.lt; have hX1_0 := hX1.cell 0; have hX1_1 := hX1.cell 1; have hX1_2 := hX1.cell 2; have hX1_3 := hX1.cell 3; have hX1_4 := hX1.cell 4; simp at hX1_0 hX1_1 hX1_2 hX1_3 hX1_4
    have hE1_l := hE1.lt; have hE1_0 := hE1.cell 0; have hE1_1 := hE1.cell 1; have hE1_2 := hE1.cell 2; simp at hE1_0 hE1_1 hE1_2
    go_wp2_with fail
    clear hX1_l hX1_0 hX1_1 hX1_2 hX1_3 hX1_4
    clear hE1_l hE1_0 hE1_1 hE1_2
    refine (HSL.out s1 _ (HG.out _ hb1)).mono ?_
    rintro e w3 ⟨rfl, hb3⟩
    unfold slotV sltV
    generalize slotOr g s1 = sx at *
    obtain ⟨q1, q2, q3⟩ := sx
    simp only at HE ⊢
    have hnew := ((hb3).alloc hb3.size (.cells #[.string q1, .int .i64 q2, .int .i64 q3] 56))
    have hX2 := hX1.below hnew
    have hE2 := hE1.below hnew
    have hb2 := below_next hb1 hnew
    have hown2 := hown1.below hnew
    have hA2 := hnew
    have hQ2 := Box.new w3 56 #[.string q1, .int .i64 q2, .int .i64 q3]
    have hn23 : n2 < w3.heap.size := by have := hE1.lt; have := hb3.size; omega
    go_upto_region 8 with (fail)
    clear hX1 hb1 hb3 hnew
    generalize w3.alloc (.cells #[.string q1, .int .i64 q2, .int .i64 q3] 56) = w4 at *
    generalize w3.heap.size = n3 at *
    have hX2_l := hX2.lt; have hX2_0 := hX2.cell 0; have hX2_1 := hX2.cell 1; have hX2_2 := hX2.cell 2; have hX2_3 := hX2.cell 3; have hX2_4 := hX2.cell 4; simp at hX2_0 hX2_1 hX2_2 hX2_3 hX2_4
    have hE2_l := hE2.lt; have hE2_0 := hE2.cell 0; have hE2_1 := hE2.cell 1; have hE2_2 := hE2.cell 2; simp at hE2_0 hE2_1 hE2_2
    go_wp2_with fail
    clear hX2_l hX2_0 hX2_1 hX2_2 hX2_3 hX2_4
    clear hE2_l hE2_0 hE2_1 hE2_2
    refine (HRM.out s2 _ (HG.out _ hb2)).mono ?_
    rintro e w5 ⟨rfl, hb5⟩
    unfold roomV romV
    generalize (roomOf g s2).getD (⟨#[]⟩, 0) = rx at *
    obtain ⟨r1, r2⟩ := rx
    simp only
    have hnew := ((hb5).alloc hb5.size (.cells #[.string r1, .int .i64 r2] 54))
    have hX3 := hX2.below hnew
    have hE3 := hE2.below hnew
    have hQ3 := hQ2.below hnew
    have hb4 := below_next hb2 hnew
    have hown3 := hown2.below hnew
    have hA3 := below_next hA2 hnew
    have hD03 := cell_later hA3 hD0
    have hD13 := cell_later hA3 hD1
    have hD23 := cell_later hA3 hD2
    go_upto_region 9 with (fail)
    clear hX2 hE2 hQ2 hb2 hown2 hA2 hown1 hE1 hb5 hnew hA3 hD0 hD1 hD2
    generalize w5.alloc (.cells #[.string r1, .int .i64 r2] 54) = w6 at *
    generalize (slotOf g s1).isSome = iss at *
    generalize (roomOf g s2).isSome = isr at *
    cases iss
    ·
     have He := Lib.hid (Hfe.out 8 (by rw [HE.out]; rfl) (by decide))
     clear Hfe HE HR hf
     go_wp2_with fail
     go_ret
     exact ⟨by rw [He.out] <;> rfl, hb4⟩
    ·
     cases isr
     ·
      have He := Lib.hid (Hfe.out 8 (by rw [HE.out]; rfl) (by decide))
      clear Hfe HE HR hf
      go_wp2_with fail
      go_ret
      exact ⟨by rw [He.out] <;> rfl, hb4⟩
     ·
      have HE2 : Hid (sesE g p k = if (decide (0 < k) && decide (0 ≤ sesOrd ⟨y1, y2, y3, y4, y5⟩ ⟨s1, s2, s3, s4, s5⟩)) = true then 7 else if s3.length = 0 then 3 else if firstErr (papE g seen s3) s3.length ≠ 0 then firstErr (papE g seen s3) s3.length else if q3 < longN g s3 then 12 else 0) := HE.out
      have HSO := Lib.hid (fun W => sessionOrder_any ⟨y1, y2, y3, y4, y5⟩ ⟨s1, s2, s3, s4, s5⟩ W)
      clear HE
      generalize sesOrd ⟨y1, y2, y3, y4, y5⟩ ⟨s1, s2, s3, s4, s5⟩ = so at *
      unfold Ses.agg at HSO
      simp only at HSO
      go_upto_region 11 with (fail)
      go_cut [52] (fun v wx => v = .bool (decide (0 < k) && decide (0 ≤ so)) ∧ Below w6.heap.size w6 wx)
      case first =>
       by_cases h0 : k = 0
       ·
        have hd : decide ((0 : Int) < (k : Int)) = false := decide_eq_false (by omega)
        have hdn : decide (0 < k) = false := decide_eq_false (by omega)
        have Hd : Hid ((decide (0 < k) && decide (0 ≤ so)) = false) := by show _ = _; rw [hdn]; rfl
        clear h0
        go_quiet (fail)
        go_wp2_with fail
        go_meet
        exact ⟨by rw [Hd.out] <;> rfl, by (repeat' (first | exact Below.refl _ _ | assumption | refine Below.setCell ?_ ?_ _ | refine below_drewN ?_ _ | refine Below.drew ?_ | refine Below.alloc ?_ ?_ _ | (with_reducible refine Below.trans ?_ (Below.mono hb ?_)) | (with_reducible refine Below.trans ?_ (Below.mono hb0 ?_)) | (with_reducible refine Below.trans ?_ (Below.mono hb1 ?_)) | (with_reducible refine Below.trans ?_ (Below.mono hb2 ?_)) | (with_reducible refine Below.trans ?_ (Below.mono hb3 ?_)) | (with_reducible refine Below.trans ?_ (Below.mono hb4 ?_)) | (with_reducible refine Below.trans ?_ (Below.mono hb5 ?_)) | (with_reducible refine Below.trans ?_ (Below.mono hb6 ?_)) | (with_reducible refine Below.trans ?_ (Below.mono hb7 ?_)) | (with_reducible refine Below.trans ?_ (Below.mono hb8 ?_)) | (with_reducible refine Below.trans ?_ (Below.mono hb9 ?_)) | (with_reducible refine Below.trans ?_ (Below.mono hb10 ?_)) | (with_reducible refine Below.trans ?_ (Below.mono hb11 ?_)) | (with_reducible refine Below.trans ?_ (Below.mono hb12 ?_)) | (with_reducible refine Below.trans ?_ (Below.mono hb13 ?_)) | (with_reducible refine Below.trans ?_ (Below.mono hb14 ?_)) | (with_reducible refine Below.trans ?_ (Below.mono hb15 ?_)) | omega | (simp; done) | (simp; omega)))⟩
       ·
        have hd : decide ((0 : Int) < (k : Int)) = true := decide_eq_true (by omega)
        have hk1 : 0 < k := by omega
        have hk2 : (0 : Int) < (k : Int) := by omega
        have Hd : Hid ((decide (0 < k) && decide (0 ≤ so)) = decide (0 ≤ so)) := by show _ = _; rw [decide_eq_true hk1]; rfl
        have hw2 : IntKind.i64.wrap ((k : Int) - 1) = (q : Int) := by rw [IntWalk.i64_in _ (by omega)]; have := Hq.out; omega
        have hw3 : IntKind.i64.wrap (q : Int) = (q : Int) := IntWalk.i64_in _ (by omega)
        have hp3 : (k : Int) - 1 = (q : Int) := by have := Hq.out; omega
        have hE_0 := hE3.cell 0
        have hE_1 := hE3.cell 1
        have hE_2 := hE3.cell 2
        simp at hE_0 hE_1 hE_2
        clear h0
        refine wp_region_held_drew (S := (fun wx => wx.cell? ⟨n2, 0, none⟩ = some (.string s1) ∧ wx.cell? ⟨n2, 1, none⟩ = some (.string s2) ∧ wx.cell? ⟨n2, 2, none⟩ = some (.slice s4 s3.length s5) ∧ wx.cell? ⟨b, off + q * 3, none⟩ = some (.string y1) ∧ wx.cell? ⟨b, off + q * 3 + 1, none⟩ = some (.string y2) ∧ wx.cell? ⟨b, off + q * 3 + 2, none⟩ = some (.slice y4 y3.length y5) ∧ Below w6.heap.size w6 wx)) (by kernel_rfl) ?hS (fun hHeld => ?_)
        case hS => exact ⟨hE_0, hE_1, hE_2, hD03, hD13, hD23, (Below.refl _ _).drew⟩
        refine rt 0 (some 53) ?_
        refine rt 1 (some 54) ?_
        refine rt 2 (some 55) ?_
        refine rt 3 (some 56) ?_
        refine rt 4 (some 57) ?_
        refine rt 5 (some 58) ?_
        refine rt 6 (some 59) ?_
        refine rt 7 (some 60) ?_
        refine rt 8 (some 61) ?_
        refine rcall (i := 9) (d := (some 62)) (by kernel_rfl) rfl (by kernel_rfl) (fun K hK => ?_)
        go_simp
        go_at_call 70; refine (HSO.out _).mono ?_; rintro e w3 ⟨rfl, hb3, -⟩
        refine hK.out _ _ ?hS (fun hHeld => ?_)
        case hS => exact ⟨cell_later hb3 hHeld.1, cell_later hb3 hHeld.2.1, cell_later hb3 hHeld.2.2.1, cell_later hb3 hHeld.2.2.2.1, cell_later hb3 hHeld.2.2.2.2.1, cell_later hb3 hHeld.2.2.2.2.2.1, below_next hHeld.2.2.2.2.2.2 hb3⟩
        clear hK K
        simp only [Act.put, lsetA, lsetZ, lsetS]
        refine rt 10 (some 63) ?_
        refine rt 11 (some 64) ?_
        refine rt 12 (some 52) ?_
        refine wpAnyH_done (by kernel_rfl) ?_ _
        (try go_wp2_with fail)
        go_meet
        exact ⟨by rw [Hd.out] <;> rfl, hHeld.2.2.2.2.2.2⟩
      case rest =>
       obtain ⟨hv, hb7⟩ := hcut
       rw [hv]
       have hX4 := hX3.below hb7
       have hE4 := hE3.below hb7
       have hQ4 := hQ3.below hb7
       have hb5 := below_next hb4 hb7
       have hown4 := hown3.below hb7
       have hzz : w.heap.size + 1 ≤ wc.heap.size := by have := hb7.size; have := hX3.lt; omega
       clear hX3 hE3 hQ3 hb4 hown3 hb7 hD03 hD13 hD23 HSO hv
       have hn3c := hQ4.lt
       have hvn0 : v.ownBlock ≠ some n3 := fun e => by have := (hol _ e).2; omega
       cases hbb : (decide (0 < k) && decide (0 ≤ so))
       ·
        rw [hbb] at HE2
        have HE3 : Hid (sesE g p k = if s3.length = 0 then 3 else if firstErr (papE g seen s3) s3.length ≠ 0 then firstErr (papE g seen s3) s3.length else if q3 < longN g s3 then 12 else 0) := HE2.out
        clear hbb HE2
        by_cases h3 : s3.length = 0
        ·
         have hd : ((s3.length : Int) == 0) = true := by rw [beq_iff_eq]; omega
         have He := Lib.hid (Hfe.out 3 (by rw [HE3.out, if_pos h3]) (by decide))
         clear Hfe HE3 HR hf h3
         have hE4_l := hE4.lt; have hE4_0 := hE4.cell 0; have hE4_1 := hE4.cell 1; have hE4_2 := hE4.cell 2; simp at hE4_0 hE4_1 hE4_2
         go_wp2_with fail
         go_ret
         exact ⟨by rw [He.out] <;> rfl, hb5⟩
        ·
         have hd : ((s3.length : Int) == 0) = false := by rw [beq_eq_false_iff_ne]; omega
         rw [if_neg h3] at HE3
         have hE4_l := hE4.lt; have hE4_0 := hE4.cell 0; have hE4_1 := hE4.cell 1; have hE4_2 := hE4.cell 2; simp at hE4_0 hE4_1 hE4_2
         go_wp2_with fail
         clear hE4_l hE4_0 hE4_1 hE4_2
         clear hd hE4 h3
         go_loopg [5, 12, 73] s3.length (fun gj v' lv jv wq => ∃ (j : Nat) (v : Value), v = v' ∧ jv = .int .i64 j ∧ lv = .int .i64 (longN g (s3.take j)) ∧ j ≤ s3.length ∧ Hid (gj = s3.length - j) ∧ Hid (∀ i, i < j → papE g seen s3 i = 0) ∧ Own (w.heap.size + 1) 9 wq v (seen ++ s3.take j) ∧ v.ownBlock ≠ some n3 ∧ w.heap.size + 1 ≤ wq.heap.size ∧ Below w.heap.size w wq ∧ Box wq w.heap.size 32 #[.slice g.ra g.rooms.length g.rc, .slice g.sa g.slots.length g.sc, .slice g.ta g.talks.length g.tc, .slice g.wa g.wishes.length g.wc, .slice g.ba g.bans.length g.bc] ∧ Box wq n3 56 #[.string q1, .int .i64 q2, .int .i64 q3])
         case atStart => exact ⟨0, _, rfl, rfl, rfl, by omega, rfl, (fun i hi => by omega), (by rw [List.take_zero, List.append_nil]; exact hown4), hvn0, hzz, hb5, hX4, hQ4⟩
         case round =>
          clear hX4 hQ4 hb5 hown4 hvn0 hzz hn3c hol
          obtain ⟨j, v2, rfl, rfl, rfl, hj, hgj, hfi, hownq, hvn, hzq, hbq, hXq, hQq⟩ := hrel
          by_cases hjl : j < s3.length
          ·
           obtain ⟨tb, toff, ha4, t0⟩ := (HRD.out _ hbq).str hjl
           have HPE := Lib.hid (papE_at (g := g) (seen := seen) hjl)
           have Hln := Lib.hid (longN_succ g hjl)
           have hlb := longN_bd HZM.out s3 j hj
           have Htk : Hid (seen ++ s3.take (j + 1) = (seen ++ s3.take j) ++ [s3[j]]) := by show _ = _; rw [List.take_succ_eq_append_getElem hjl, List.append_assoc]
           have HfI : Hid (∀ e, papE g seen s3 j = e → e ≠ 0 → R = e) := fun e he he0 => Hfe.out e (by rw [HE3.out, firstErr_is hjl hfi.out he he0, if_pos he0]) he0
           have hxs : s3[j].size ≤ 1000 := hs4 _ (List.getElem_mem hjl)
           have htok := talkOr_ok HZM.out s3[j]
           have Ha4 := Lib.hid ha4
           rw [ha4]
           clear ha4
           generalize s3[j] = x at *
           obtain ⟨la, lc, rfl, hla, -, -⟩ := hownq.form
           have htl : (s3.take j).length ≤ 1000 := by rw [List.length_take]; omega
           have hal : (seen ++ s3.take j).length ≤ 1000000 := by rw [List.length_append]; omega
           generalize seen ++ s3.take j = st at *
           generalize hln : longN g (s3.take j) = ln at *
           clear htl
           have hXq_l := hXq.lt; have hXq_0 := hXq.cell 0; have hXq_1 := hXq.cell 1; have hXq_2 := hXq.cell 2; have hXq_3 := hXq.cell 3; have hXq_4 := hXq.cell 4; simp at hXq_0 hXq_1 hXq_2 hXq_3 hXq_4
           go_wp2_with fail
           clear hXq_l hXq_0 hXq_1 hXq_2 hXq_3 hXq_4
           refine (HTL.out x _ (HG.out _ hbq)).mono ?_
           rintro e u1 ⟨rfl, hu1⟩
           unfold talkV
           generalize talkOr g x = t at *
           obtain ⟨t1, t2, t3, t4, t5, t6, t7, t8⟩ := t
           unfold Tlk.agg
           obtain ⟨-, -, -, -, -, hto1, hto2⟩ := htok
           simp only at Hln hto1 hto2 ⊢
           have hnew := hu1.alloc hu1.size (.cells #[.string t1, .slice t5 t2.length t6, .slice t7 t3.length t8, .int .i64 t4] 60)
           have hX1 := hXq.below hnew
           have hQ1 := hQq.below hnew
           have hb1 := below_next hbq hnew
           have hown1 := hownq.below hnew
           have hla1 := hla.below hnew
           have hT1 := Box.new u1 60 #[.string t1, .slice t5 t2.length t6, .slice t7 t3.length t8, .int .i64 t4]
           have hu1z : w.heap.size + 1 ≤ u1.heap.size := by have := hu1.size; omega
           have hqz := hu1.size
           have hol := hownq.lt
           go_upto_region 20 with (fail)
           have hz2 : u1.heap.size < (u1.alloc (.cells #[.string t1, .slice t5 t2.length t6, .slice t7 t3.length t8, .int .i64 t4] 60)).heap.size := by simp
           clear hXq hQq hownq hla hnew hu1
           generalize u1.alloc (.cells #[.string t1, .slice t5 t2.length t6, .slice t7 t3.length t8, .int .i64 t4] 60) = u2 at *
           generalize u1.heap.size = n4 at *
           generalize (talkOf g x).isSome = ist at *
           cases ist
           ·
            have He := Lib.hid (HfI.out 8 (by rw [HPE.out]; rfl) (by decide))
            clear HfI HPE Hfe HE3 HR hf hfi
            go_wp2_with fail
            go_ret
            exact ⟨by rw [He.out] <;> rfl, hb1⟩
           ·
            go_wp2_with fail
            refine (contains_any st la lc x _ hla1 (by omega)).mono ?_
            rintro e u3 ⟨rfl, rfl⟩
            have HPE2 : Hid (papE g seen s3 j = if st.any (fun y => decide (y = x)) = true then 6 else 0) := HPE.out
            clear HPE hla1
            generalize (st.any fun y => decide (y = x)) = ib at *
            cases ib
            ·
             have hw : IntKind.i64.wrap (ln + t4) = ln + t4 := IntWalk.i64_in _ (by omega)
             have hown3 := hown1.alloc (.cells #[.string x] 9)
             have hbo := Box.new u2 9 #[.string x]
             have hb3 := hb1.alloc hb1.size (.cells #[.string x] 9)
             have hX3 := hX1.alloc (.cells #[.string x] 9)
             have hQ3 := hQ1.alloc (.cells #[.string x] 9)
             have hT3 := hT1.alloc (.cells #[.string x] 9)
             have hol3 := hown3.lt
             have hT1l := hT1.lt
             have hQ1l := hQ1.lt
             have hvt : (Value.slice la st.length lc).ownBlock ≠ some n4 := fun e => by have := (hol _ e).2; have := hu1z; omega
             clear hown1 hb1 hX1 hQ1
             go_upto_region 25 with (at_builtin; refine wpList_append_lie (α := ByteArray) rfl _ _ 57 rfl 9 16 (.string ⟨#[]⟩) Tryz.underlying57 Tryz.infoString rfl _ st rfl hown3 x _ rfl hbo (by omega) (by omega) (by simp; omega) ?_; intro g9 cap9 w9 hown9 hg9 hat9)
             have hz9 := ((Kp.refl (fun j => (Value.slice la st.length lc).ownBlock = some j) _).grown hg9 (fun j hj => .inl hj)).size
             have hX9 := hX3.grown hg9 (fun e => by have := (hol3 _ e.symm).1; omega)
             have hQ9 := hQ3.grown hg9 (fun e => hvn e.symm)
             have hT9 := hT3.grown hg9 (fun e => hvt e.symm)
             have hb9 := hb3.grown hg9 (by have := hb3.size; omega) (fun j hj => by have := (hol3 j hj).1; omega)
             have hvn9 : (Value.slice (some ⟨g9, 0, none⟩) (st.length + 1) cap9).ownBlock ≠ some n3 := fun e => by
              obtain rfl : g9 = n3 := Option.some.inj e
              rcases hat9 with h | h
              ·
               exact hvn h
              ·
               simp at h; omega
             have hown10 : Own (w.heap.size + 1) 9 w9 (.slice (some ⟨g9, 0, none⟩) (st.length + 1) cap9) (seen ++ s3.take (j + 1)) := by rw [Htk.out]; exact hown9
             have hz10 : w.heap.size + 1 ≤ w9.heap.size := by simp at hz9; omega
             clear hX3 hQ3 hT3 hb3 hown3 hbo hg9 hown9 hat9 hol3 hz9
             have hT9_l := hT9.lt; have hT9_0 := hT9.cell 0; have hT9_1 := hT9.cell 1; have hT9_2 := hT9.cell 2; have hT9_3 := hT9.cell 3; simp at hT9_0 hT9_1 hT9_2 hT9_3
             go_wp2_with fail
             rw [← Ha4.out]
             go_roundg (s3.length - (j + 1))
             case measure => have := hgj.out; omega
             case rel => exact ⟨j + 1, _, rfl, by go_num, (by rw [Hln.out] <;> rfl), by omega, rfl, zeros_succ hfi.out HPE2.out, hown10, hvn9, hz10, hb9, hX9, hQ9⟩
            ·
             have He := Lib.hid (HfI.out 6 (by rw [HPE2.out]; rfl) (by decide))
             clear HfI HPE2 Hfe HE3 HR hf hfi
             go_wp2_with fail
             go_ret
             exact ⟨by rw [He.out] <;> rfl, hb1⟩
          ·
           obtain rfl : j = s3.length := by omega
           rw [List.take_length] at hownq
           have hlb := longN_bd HZM.out s3 s3.length (Nat.le_refl _)
           rw [List.take_length] at hlb ⊢
           have HE4 : Hid (sesE g p k = if q3 < longN g s3 then 12 else 0) := by
            show _ = _
            rw [HE3.out, firstErr_zero hfi.out]; rfl
           clear HE3 hfi
           generalize longN g s3 = ln at *
           have hQq_l := hQq.lt; have hQq_0 := hQq.cell 0; have hQq_1 := hQq.cell 1; have hQq_2 := hQq.cell 2; simp at hQq_0 hQq_1 hQq_2
           by_cases hl : q3 < ln
           ·
            have hd : decide (q3 < ln) = true := decide_eq_true hl
            have He := Lib.hid (Hfe.out 12 (by rw [HE4.out, if_pos hl]) (by decide))
            clear Hfe HE4 HR hf hl
            go_wp2_with fail
            go_ret
            exact ⟨by rw [He.out] <;> rfl, hbq⟩
           ·
            have hd : decide (q3 < ln) = false := decide_eq_false hl
            have Hz : Hid (sesE g p k = 0) := by show _ = _; rw [HE4.out, if_neg hl]
            clear Hfe HE4 hl
            go_wp2_with fail
            rw [← Ha.out]
            go_roundg (p.length - (k + 1))
            case measure => have := hgk.out; omega
            case rel => exact ⟨k + 1, _, rfl, by go_num, by omega, rfl, zeros_succ hf.out Hz.out, (by rw [Hsu.out]; exact hownq), hzq, hbq, hXq⟩
       ·
        have He := Lib.hid (Hfe.out 7 (by rw [HE2.out, hbb]; rfl) (by decide))
        clear Hfe HE2 HR hf hbb
        go_wp2_with fail
        go_ret
        exact ⟨by rw [He.out] <;> rfl, hb5⟩
   ·
    obtain rfl : k = p.length := by omega
    have HR2 : Hid (R = firstErr (cflE g p) p.length) := by show _ = _; rw [HR.out, firstErr_zero hf.out]; rfl
    have hb0 := hb
    have hX0 := hX
    clear HR hf hgk hown hb hX hzr
    go_wp2_with fail
    go_loopg [104] p.length (fun gk iv wr => ∃ k : Nat, iv = .int .i64 k ∧ k ≤ p.length ∧ Hid (gk = p.length - k) ∧ Hid (∀ j, j < k → cflE g p j = 0) ∧ Below w.heap.size w wr ∧ Box wr w.heap.size 32 #[.slice g.ra g.rooms.length g.rc, .slice g.sa g.slots.length g.sc, .slice g.ta g.talks.length g.tc, .slice g.wa g.wishes.length g.wc, .slice g.ba g.bans.length g.bc])
    case atStart => exact ⟨0, rfl, by omega, rfl, (fun j hj => by omega), hb0, hX0⟩
    case round =>
     clear hX0 hb0
     obtain ⟨k, rfl, hk, hgk, hf, hb, hX⟩ := hrel
     by_cases hlt : k < p.length
     ·
      obtain ⟨b, off, ha, c0, c1, c2⟩ := (HP.out _ hb).list.sesC hlt
      have Hfe : Hid (∀ e, cflE g p k = e → e ≠ 0 → R = e) := fun e he he0 => HR2.out.trans (firstErr_is hlt hf.out he he0)
      have HE := Lib.hid (cflE_at (g := g) hlt)
      have hxm : p[k] ∈ p := List.getElem_mem hlt
      generalize p[k] = x at *
      have H1 := Lib.hid (fun bs W => HC1.out x k bs W (by omega))
      have H2 := Lib.hid (fun bs W => HC2.out x k bs W (by omega) hxm)
      have H3 := Lib.hid (fun bs W => HC3.out x bs W hxm)
      generalize ((p.take k).any fun o => decide (o.room = x.room) && meetsB g o x) = a1 at *
      generalize ((p.take k).any fun o => meetsB g o x && sharesB (speakersOf g o) (speakersOf g x)) = a2 at *
      generalize (g.bans.any fun b => decide (b.2 = x.slot) && inB (speakersOf g x) b.1) = a3 at *
      have Ha := Lib.hid ha
      clear hxm HC1 HC2 HC3
      rw [ha]
      clear ha
      obtain ⟨s1, s2, s3, s4, s5⟩ := x
      simp only at c0 c1 c2 H1 H2 H3
      have hkc : (k : Int) ≤ (pc : Int) := by omega
      have hk0 : (0 : Int) ≤ (k : Int) := by omega
      go_upto_region 33 with (fail)
      have hX1 := hX.alloc (.cells #[.string s1, .string s2, .slice s4 s3.length s5] 67)
      have hE1 := Box.new wr 67 #[.string s1, .string s2, .slice s4 s3.length s5]
      have hb1 := hb.alloc hb.size (.cells #[.string s1, .string s2, .slice s4 s3.length s5] 67)
      clear hX hb c0 c1 c2
      generalize wr.alloc (.cells #[.string s1, .string s2, .slice s4 s3.length s5] 67) = w2 at *
      generalize wr.heap.size = n2 at *
      go_wp2_with fail
      rw [← Ha.out]
      refine (H1.out n2 _ hb1 hE1 hX1).mono ?_
      rintro e w3 ⟨rfl, hb3⟩
      have hX3 := hX1.below hb3
      have hE3 := hE1.below hb3
      have hb3' := below_next hb1 hb3
      clear hX1 hE1 hb1 hb3
      go_wp2_with fail
      (try rw [← Ha.out])
      refine (H2.out n2 _ hb3' hE3 hX3).mono ?_
      rintro e w4 ⟨rfl, hb4⟩
      have hX4 := hX3.below hb4
      have hE4 := hE3.below hb4
      have hb4' := below_next hb3' hb4
      clear hX3 hE3 hb3' hb4 H1 H2
      cases a1
      ·
       cases a2
       ·
        have hX4_l := hX4.lt; have hX4_0 := hX4.cell 0; have hX4_1 := hX4.cell 1; have hX4_2 := hX4.cell 2; have hX4_3 := hX4.cell 3; have hX4_4 := hX4.cell 4; simp at hX4_0 hX4_1 hX4_2 hX4_3 hX4_4
        go_wp2_with fail
        clear hX4_l hX4_0 hX4_1 hX4_2 hX4_3 hX4_4
        refine (H3.out n2 _ hb4' hE4 hX4).mono ?_
        rintro e w5 ⟨rfl, hb5⟩
        have hX5 := hX4.below hb5
        have hb5' := below_next hb4' hb5
        clear hX4 hE4 hb4' hb5 H3
        cases a3
        ·
         have Hz : Hid (cflE g p k = 0) := by show _ = _; rw [HE.out]; rfl
         clear Hfe HE
         go_wp2_with fail
         (try rw [← Ha.out])
         go_roundg (p.length - (k + 1))
         case measure => have := hgk.out; omega
         case rel => exact ⟨k + 1, by go_num, by omega, rfl, zeros_succ hf.out Hz.out, hb5', hX5⟩
        ·
         have He := Lib.hid (Hfe.out 11 (by rw [HE.out]; rfl) (by decide))
         clear Hfe HE HR2 hf
         go_wp2_with fail
         go_ret
         exact ⟨by rw [He.out] <;> rfl, hb5'⟩
       ·
        have He := Lib.hid (Hfe.out 13 (by rw [HE.out]; rfl) (by decide))
        clear Hfe HE HR2 hf
        go_wp2_with fail
        go_ret
        exact ⟨by rw [He.out] <;> rfl, hb4'⟩
      ·
       have He := Lib.hid (Hfe.out 13 (by rw [HE.out]; rfl) (by decide))
       clear Hfe HE HR2 hf
       go_wp2_with fail
       go_ret
       exact ⟨by rw [He.out] <;> rfl, hb4'⟩
     ·
      obtain rfl : k = p.length := by omega
      have He : Hid (R = 0) := by show _ = _; rw [HR2.out, firstErr_zero hf.out]
      clear HR2 hf
      go_wp2_with fail
      go_ret
      exact ⟨by rw [He.out] <;> rfl, hb⟩
end Go.Proofs.YtldgphhiajhfhaaGreatDoor
