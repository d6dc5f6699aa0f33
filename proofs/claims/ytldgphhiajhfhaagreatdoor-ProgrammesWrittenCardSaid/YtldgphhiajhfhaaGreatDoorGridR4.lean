/- The reference's error of a grid. -/
import Derived.Test.YtldgphhiajhfhaaGreatDoorGridR2
namespace Go.Proofs.YtldgphhiajhfhaaGreatDoor
open Go.RowKit
set_option linter.unusedVariables false
set_option linter.unusedSimpArgs false

theorem ordB_prev {ks : List ByteArray} {k : Nat} (hk : k < ks.length) : ordB ks k = (decide (0 < k) && leB ks[k] (ks[k - 1]'(by omega))) := by
 cases k with
 | zero => rfl
 | succ p => rw [ordB_at (k := p + 1) (p := p) rfl (List.getElem?_eq_getElem hk) (List.getElem?_eq_getElem (by omega))]; simp
theorem ordB_prevM {α : Type} (f : α → ByteArray) {l : List α} {k : Nat} (hk : k < l.length) : ordB (l.map f) k = (decide (0 < k) && leB (f l[k]) (f (l[k - 1]'(by omega)))) := by
 rw [ordB_prev (by simpa using hk)]; simp
theorem roomE_kf {l : List Rom} {k : Nat} (hk : k < l.length) : roomE l k = if kfN k l[k].1 (l[k - 1]'(by omega)).1 ≠ 0 then kfN k l[k].1 (l[k - 1]'(by omega)).1 else if (decide (l[k].2 < 1) || decide (10000 < l[k].2)) = true then 1 else 0 := by
 unfold roomE kfN
 rw [List.getElem?_eq_getElem hk]
 simp only [ordB_prevM (fun x : Rom => x.1) hk]
 split <;> (try split) <;> simp_all
theorem slotE_kf {l : List Slt} {k : Nat} (hk : k < l.length) : slotE l k = if kfN k l[k].1 (l[k - 1]'(by omega)).1 ≠ 0 then kfN k l[k].1 (l[k - 1]'(by omega)).1 else if ((!momB l[k].2.1) || (decide (l[k].2.2 < 1) || decide (1440 < l[k].2.2))) = true then 1 else 0 := by
 unfold slotE kfN
 rw [List.getElem?_eq_getElem hk]
 simp only [ordB_prevM (fun x : Slt => x.1) hk]
 split <;> (try split) <;> simp_all
theorem talkE_kf {l : List Tlk} {k : Nat} (hk : k < l.length) : talkE l k = firstOf [kfN k l[k].paper (l[k - 1]'(by omega)).paper, talkFault l[k]] := by
 unfold talkE kfN
 rw [List.getElem?_eq_getElem hk]
 simp only [ordB_prevM (fun x : Tlk => x.paper) hk]
 split <;> (try split) <;> simp_all [firstOf]
theorem wishE_kf {g : Grd} {k : Nat} (hk : k < g.wishes.length) : wishE g k = firstOf [kfN k g.wishes[k].person (g.wishes[k - 1]'(by omega)).person, firstErr (wpE g g.wishes[k].papers) g.wishes[k].papers.length] := by
 unfold wishE kfN
 rw [List.getElem?_eq_getElem hk]
 simp only [ordB_prevM (fun x : Wsh => x.person) hk]
 split <;> (try split) <;> simp_all [firstOf]
theorem banE_at {g : Grd} {k : Nat} (hk : k < g.bans.length) : banE g k = if keyB g.bans[k].1 = false then 5 else if (slotOf g g.bans[k].2).isSome = false then 8 else if (decide (0 < k) && decide (0 ≤ firstOf [cmpS (g.bans[k - 1]'(by omega)).1 g.bans[k].1, cmpS (g.bans[k - 1]'(by omega)).2 g.bans[k].2])) = true then 7 else 0 := by
 unfold banE banOrd
 rw [List.getElem?_eq_getElem hk]
 simp only
 cases k with
 | zero => simp
 | succ p =>
  have hp : p < g.bans.length := by omega
  have e2 : (if 0 < p + 1 then g.bans[p + 1 - 1]? else none) = some g.bans[p] := by rw [if_pos (by omega)]; exact List.getElem?_eq_getElem hp
  have e3 : (g.bans[p + 1 - 1]'(by omega)) = g.bans[p] := rfl
  have e4 : decide (0 < p + 1) = true := by simp
  simp only [e2, e3, e4, Bool.true_and]
  have e : decide (firstOf [cmpS g.bans[p + 1].1 g.bans[p].1, cmpS g.bans[p + 1].2 g.bans[p].2] ≤ 0) = decide (0 ≤ firstOf [cmpS g.bans[p].1 g.bans[p + 1].1, cmpS g.bans[p].2 g.bans[p + 1].2]) := by
   have h1 := totC_S.neg g.bans[p + 1].1 g.bans[p].1
   have h2 := totC_S.neg g.bans[p].1 g.bans[p + 1].1
   have h3 := totC_S.neg g.bans[p + 1].2 g.bans[p].2
   have h4 := totC_S.neg g.bans[p].2 g.bans[p + 1].2
   generalize cmpS g.bans[p].1 g.bans[p + 1].1 = u at *
   generalize cmpS g.bans[p].2 g.bans[p + 1].2 = v at *
   generalize cmpS g.bans[p + 1].1 g.bans[p].1 = u2 at *
   generalize cmpS g.bans[p + 1].2 g.bans[p].2 = v2 at *
   apply decide_eq_decide.2
   show (if u2 ≠ 0 then u2 else if v2 ≠ 0 then v2 else 0) ≤ 0 ↔ 0 ≤ (if u ≠ 0 then u else if v ≠ 0 then v else 0)
   repeat' split
   all_goals omega
  simp only [e]
def wbFault (g : Grd) : Int := if wishesFault g ≠ 0 then wishesFault g else bansFault g
set_option maxRecDepth 100000 in
set_option maxHeartbeats 16000000 in
theorem wishesFaultR_any (g : Grd) (w : World) (hg : GRd w g) (hz : GSm g) : Calls Tryz.prog 43 #[g.agg] w (Gives (.int .i64 (wbFault g)) w) := by
 have HK := Lib.hid (fun i x y W => keyFault_any i x y W)
 have HRP := Lib.hid (fun l a c W (h : GRd W g) => risingPapers_any g l a c W h hz)
 have HSL := Lib.hid (fun key W (h : GRd W g) => slotOf_any g key W h (by have := hz.slots; omega))
 have HG := Lib.hid (fun W (h : Below w.heap.size w W) => hg.below h)
 have HZM := Lib.hid hz
 have hn1 := hz.wishes
 have hn2 := hz.bans
 have HR : Hid (wbFault g = if wishesFault g ≠ 0 then wishesFault g else bansFault g) := rfl
 generalize wbFault g = R at *
 clear hz hg
 have HA : Hid (∀ e, e ≠ 0 → wishesFault g = e → R = e) := fun e he h => by rw [HR.out, h, if_pos he]
 rw [Grd.agg_eq] at HRP HSL ⊢
 have hX0 := Box.new w 32 #[.slice g.ra g.rooms.length g.rc, .slice g.sa g.slots.length g.sc, .slice g.ta g.talks.length g.tc, .slice g.wa g.wishes.length g.wc, .slice g.ba g.bans.length g.bc]
 have hb0 : Below w.heap.size w (w.alloc (.cells #[.slice g.ra g.rooms.length g.rc, .slice g.sa g.slots.length g.sc, .slice g.ta g.talks.length g.tc, .slice g.wa g.wishes.length g.wc, .slice g.ba g.bans.length g.bc] 32)) := (Below.refl _ _).alloc (Nat.le_refl _) _
 go_enter Tryz.func43, Tryz.ntmps43
 have HFE := Lib.hid (show wishesFault g = if 500 < g.wishes.length then 2 else firstErr (wishE g) g.wishes.length from rfl)
 have hX0_l := hX0.lt; have hX0_0 := hX0.cell 0; have hX0_1 := hX0.cell 1; have hX0_2 := hX0.cell 2; have hX0_3 := hX0.cell 3; have hX0_4 := hX0.cell 4; simp at hX0_0 hX0_1 hX0_2 hX0_3 hX0_4
 by_cases q1 : 500 < g.wishes.length
 ·
  have hd : decide ((500 : Int) < (g.wishes.length : Int)) = true := decide_eq_true (by omega)
  have He := Lib.hid (HA.out 2 (by decide) (by rw [HFE.out, if_pos q1]))
  clear HA HFE q1
  go_wp2_with fail
  go_ret
  exact ⟨by rw [He.out] <;> rfl, hb0⟩
 ·
  have hd : decide ((500 : Int) < (g.wishes.length : Int)) = false := decide_eq_false (by omega)
  have HF := HFE
  rw [if_neg q1] at HF
  clear q1 HFE
  go_wp2_with fail
  clear hX0_l hX0_0 hX0_1 hX0_2 hX0_3 hX0_4
  clear hd
  go_loopg [17] g.wishes.length (fun gk iv wr => ∃ k : Nat, iv = .int .i64 k ∧ k ≤ g.wishes.length ∧ Hid (gk = g.wishes.length - k) ∧ Hid (∀ j, j < k → wishE g j = 0) ∧ Below w.heap.size w wr ∧ Box wr w.heap.size 32 #[.slice g.ra g.rooms.length g.rc, .slice g.sa g.slots.length g.sc, .slice g.ta g.talks.length g.tc, .slice g.wa g.wishes.length g.wc, .slice g.ba g.bans.length g.bc])
  case atStart => exact ⟨0, rfl, by omega, rfl, fun j hj => by omega, hb0, hX0⟩
  case round =>
   clear hX0 hb0
   obtain ⟨k, rfl, hk, hgk, hf, hb, hX⟩ := hrel
   by_cases hlt : k < g.wishes.length
   ·
    have hgr := HG.out _ hb
    obtain ⟨b, off, ha, c0, c1⟩ := hgr.wishes.wshC hlt
    have Hfe : Hid (∀ e, wishE g k = e → e ≠ 0 → R = e) := fun e he he0 => HA.out e he0 (HF.out.trans (firstErr_is hlt hf.out he he0))
    have Hkf := Lib.hid (wishE_kf hlt)
    have hpl : k - 1 < g.wishes.length := by omega
    obtain ⟨b', off', ha', d0, d1⟩ := hgr.wishes.wshC hpl
    rw [ha] at ha'
    cases ha'
    have hxm : g.wishes[k] ∈ g.wishes := List.getElem_mem hlt
    have hok := HZM.out.wish _ hxm
    have hr1 := hgr.papers _ hxm
    clear d1 hxm
    generalize g.wishes[k] = x at *
    generalize g.wishes[k - 1] = y at *
    obtain ⟨p, hp⟩ : ∃ p, p = k - 1 := ⟨_, rfl⟩
    rw [← hp] at d0 hpl
    have hp1 : (0 : Int) ≤ (p : Int) := by omega
    have hp2 : (p : Int) < (g.wishes.length : Int) := by omega
    have hw : IntKind.i64.wrap ((k : Int) - 1) = (k : Int) - 1 := IntWalk.i64_in _ (by omega)
    have hmx : max ((k : Int) - 1) 0 = (p : Int) := by omega
    have Ha := Lib.hid ha
    rw [ha]
    clear ha
    obtain ⟨x1, x2, x3, x4⟩ := x
    simp only at c0 c1 Hkf hok hr1
    obtain ⟨f, hff⟩ : ∃ f, firstOf [kfN k x1 y.person, (firstErr (wpE g x2) x2.length)] = f := ⟨_, rfl⟩
    have Hff := Lib.hid hff
    clear hff
    go_upto_region 6 with (fail)
    have hX1 := hX.alloc (.cells #[.string x1, .slice x3 x2.length x4] 62)
    have hE1 := Box.new wr 62 #[.string x1, .slice x3 x2.length x4]
    have hb1 := hb.alloc hb.size (.cells #[.string x1, .slice x3 x2.length x4] 62)
    have hd1 : (wr.alloc (.cells #[.string x1, .slice x3 x2.length x4] 62)).cell? ⟨b, off + p * 2, none⟩ = some (.string (y.person)) := cell_later ((Below.refl _ _).alloc (Nat.le_refl _) _) d0
    have hs1 := hr1.alloc (.cells #[.string x1, .slice x3 x2.length x4] 62)
    clear hr1
    have hg1 := HG.out _ hb1
    have hzr := hb.size
    clear hX hb c0 c1 d0 hgr
    generalize wr.alloc (.cells #[.string x1, .slice x3 x2.length x4] 62) = w2 at *
    generalize wr.heap.size = n2 at *
    generalize y.person = y1 at *
    have hG_0 := hX1.cell 0
    simp at hG_0
    have hG_1 := hX1.cell 1
    simp at hG_1
    have hG_2 := hX1.cell 2
    simp at hG_2
    have hG_3 := hX1.cell 3
    simp at hG_3
    rw [Ha.out] at hG_3
    have hG_4 := hX1.cell 4
    simp at hG_4
    have hE_0 := hE1.cell 0
    simp at hE_0
    have hE_1 := hE1.cell 1
    simp at hE_1
    have Hp := Lib.hid hp
    clear hp
    refine wp_region_held_drew (S := (fun wx => wx.cell? ⟨w.heap.size, 0, none⟩ = some (.slice g.ra g.rooms.length g.rc) ∧ wx.cell? ⟨w.heap.size, 1, none⟩ = some (.slice g.sa g.slots.length g.sc) ∧ wx.cell? ⟨w.heap.size, 2, none⟩ = some (.slice g.ta g.talks.length g.tc) ∧ wx.cell? ⟨w.heap.size, 3, none⟩ = some (.slice (some ⟨b, off, none⟩) g.wishes.length g.wc) ∧ wx.cell? ⟨w.heap.size, 4, none⟩ = some (.slice g.ba g.bans.length g.bc) ∧ wx.cell? ⟨n2, 0, none⟩ = some (.string x1) ∧ wx.cell? ⟨n2, 1, none⟩ = some (.slice x3 x2.length x4) ∧ wx.cell? ⟨b, off + p * 2, none⟩ = some (.string y1) ∧ Below w2.heap.size w2 wx)) (by kernel_rfl) ?hS (fun hHeld => ?_)
    case hS => exact ⟨hG_0, hG_1, hG_2, hG_3, hG_4, hE_0, hE_1, hd1, (Below.refl _ _).drew⟩
    refine rt 0 (some 22) ?_
    refine rt 1 (some 23) ?_
    refine rt 2 (some 24) ?_
    refine rt 3 (some 25) ?_
    refine rt 4 (some 26) ?_
    refine rt 5 (some 27) ?_
    refine rt 6 (some 28) ?_
    refine rt 7 (some 29) ?_
    refine rt 8 (some 30) ?_
    refine rt 9 (some 31) ?_
    refine rt 10 (some 32) ?_
    refine rt 12 (some 34) ?_
    refine rt 13 (some 35) ?_
    refine rt 14 (some 36) ?_
    refine rcall (i := 11) (d := (some 33)) (by kernel_rfl) rfl (by kernel_rfl) (fun K hK => ?_)
    go_simp
    go_at_call 39; refine (HK.out k x1 y1 _ (by omega) (by have : x1.size ≤ 1000 := hok.1; omega)).mono ?_; rintro e w3 ⟨rfl, hb3⟩
    refine hK.out _ _ ?hS (fun hHeld => ?_)
    case hS => exact ⟨cell_later hb3 hHeld.1, cell_later hb3 hHeld.2.1, cell_later hb3 hHeld.2.2.1, cell_later hb3 hHeld.2.2.2.1, cell_later hb3 hHeld.2.2.2.2.1, cell_later hb3 hHeld.2.2.2.2.2.1, cell_later hb3 hHeld.2.2.2.2.2.2.1, cell_later hb3 hHeld.2.2.2.2.2.2.2.1, below_next hHeld.2.2.2.2.2.2.2.2 hb3⟩
    clear hK K
    simp only [Act.put, lsetA, lsetZ, lsetS]
    refine rcall (i := 15) (d := (some 37)) (by kernel_rfl) rfl (by kernel_rfl) (fun K hK => ?_)
    go_simp
    go_at_call 94; rw [← Ha.out]; refine (HRP.out x2 x3 x4 _ (hg1.below hHeld.2.2.2.2.2.2.2.2) (hs1.below hHeld.2.2.2.2.2.2.2.2) (by have := hok.2.1; omega)).mono ?_; rintro e w3 ⟨rfl, hb3⟩; rw [Ha.out]
    refine hK.out _ _ ?hS (fun hHeld => ?_)
    case hS => exact ⟨cell_later hb3 hHeld.1, cell_later hb3 hHeld.2.1, cell_later hb3 hHeld.2.2.1, cell_later hb3 hHeld.2.2.2.1, cell_later hb3 hHeld.2.2.2.2.1, cell_later hb3 hHeld.2.2.2.2.2.1, cell_later hb3 hHeld.2.2.2.2.2.2.1, cell_later hb3 hHeld.2.2.2.2.2.2.2.1, below_next hHeld.2.2.2.2.2.2.2.2 hb3⟩
    clear hK K
    simp only [Act.put, lsetA, lsetZ, lsetS]
    refine rcall (i := 16) (d := (some 38)) (by kernel_rfl) rfl (by kernel_rfl) (fun K hK => ?_)
    go_simp
    skip
    refine hK.out _ _ ?hS (fun hHeld => ?_)
    case hS => exact (have hA : ∀ (w : World) (o : Obj), Below w.heap.size w (w.alloc o) := fun w o => (Below.refl _ _).alloc (Nat.le_refl _) o; ⟨cell_later (hA _ _) hHeld.1, cell_later (hA _ _) hHeld.2.1, cell_later (hA _ _) hHeld.2.2.1, cell_later (hA _ _) hHeld.2.2.2.1, cell_later (hA _ _) hHeld.2.2.2.2.1, cell_later (hA _ _) hHeld.2.2.2.2.2.1, cell_later (hA _ _) hHeld.2.2.2.2.2.2.1, cell_later (hA _ _) hHeld.2.2.2.2.2.2.2.1, below_next hHeld.2.2.2.2.2.2.2.2 (hA _ _)⟩)
    clear hK K
    simp only [Act.put, lsetA, lsetZ, lsetS]
    refine rcall (i := 17) (d := (some 39)) (by kernel_rfl) rfl (by kernel_rfl) (fun K hK => ?_)
    go_simp
    go_at_call 41; refine (orE_any [kfN k x1 y1, (firstErr (wpE g x2) x2.length)] _ 2 _ (Box.sa (by first | exact Box.new _ _ _ | exact (Box.new _ _ _).drew) [kfN k x1 y1, (firstErr (wpE g x2) x2.length)] rfl) (by simp)).mono ?_; rintro e w3 ⟨rfl, rfl⟩
    refine hK.out _ _ ?hS (fun hHeld => ?_)
    case hS => exact hHeld
    clear hK K
    simp only [Act.put, lsetA, lsetZ, lsetS]
    refine rt 18 (some 5) ?_
    refine wpAnyH_done (by kernel_rfl) ?_ _
    have hb2 := hHeld.2.2.2.2.2.2.2.2
    clear hHeld hG_0 hG_1 hG_2 hG_3 hG_4 hE_0 hE_1 hd1 hg1
    have hXF := hX1.below hb2
    have hEF := hE1.below hb2
    have hbF := below_next hb1 hb2
    clear hX1 hE1 hb1 hb2
    rw [show firstOf [kfN k x1 y1, (firstErr (wpE g x2) x2.length)] = f from Hff.out]
    by_cases q : f = 0
    ·
     subst q
     have Hz : Hid (wishE g k = 0) := by show _ = _; exact Hkf.out.trans Hff.out
     clear Hfe Hkf
     go_wp2_with fail
     rw [← Ha.out]
     go_roundg (g.wishes.length - (k + 1))
     case measure => have := hgk.out; omega
     case rel => exact ⟨k + 1, by go_num, by omega, rfl, zeros_succ hf.out Hz.out, hbF, hXF⟩
    ·
     have hq : (f != 0) = true := by simpa using q
     have He := Lib.hid (Hfe.out f (by exact Hkf.out.trans Hff.out) (by assumption))
     clear Hfe Hkf hf
     go_wp2_with fail
     go_ret
     exact ⟨by rw [He.out] <;> rfl, hbF⟩
   ·
    obtain rfl : k = g.wishes.length := by omega
    have HZ := Lib.hid (firstErr_zero (f := wishE g) hf.out)
    have hb0 := hb
    have hX0 := hX
    clear hb hX hf hgk
    have HQ : Hid (wishesFault g = 0) := HF.out.trans HZ.out
    have HR2 : Hid (R = bansFault g) := by show _ = _; rw [HR.out, if_neg (fun h => h HQ.out)]
    clear HR HA HF HZ HQ
    have HR := HR2
    clear HR2
    have HA : Hid (∀ e, e ≠ 0 → bansFault g = e → R = e) := fun e he h => by rw [HR.out, h]
    have HFE := Lib.hid (show bansFault g = if 500 < g.bans.length then 2 else firstErr (banE g) g.bans.length from rfl)
    have hX0_l := hX0.lt; have hX0_0 := hX0.cell 0; have hX0_1 := hX0.cell 1; have hX0_2 := hX0.cell 2; have hX0_3 := hX0.cell 3; have hX0_4 := hX0.cell 4; simp at hX0_0 hX0_1 hX0_2 hX0_3 hX0_4
    by_cases q1 : 500 < g.bans.length
    ·
     have hd : decide ((500 : Int) < (g.bans.length : Int)) = true := decide_eq_true (by omega)
     have He := Lib.hid (HA.out 2 (by decide) (by rw [HFE.out, if_pos q1]))
     clear HA HFE q1
     go_wp2_with fail
     go_ret
     exact ⟨by rw [He.out] <;> rfl, hb0⟩
    ·
     have hd : decide ((500 : Int) < (g.bans.length : Int)) = false := decide_eq_false (by omega)
     have HF := HFE
     rw [if_neg q1] at HF
     clear q1 HFE
     go_wp2_with fail
     clear hX0_l hX0_0 hX0_1 hX0_2 hX0_3 hX0_4
     clear hd
     go_loopg [51] g.bans.length (fun gk iv wr => ∃ k : Nat, iv = .int .i64 k ∧ k ≤ g.bans.length ∧ Hid (gk = g.bans.length - k) ∧ Hid (∀ j, j < k → banE g j = 0) ∧ Below w.heap.size w wr ∧ Box wr w.heap.size 32 #[.slice g.ra g.rooms.length g.rc, .slice g.sa g.slots.length g.sc, .slice g.ta g.talks.length g.tc, .slice g.wa g.wishes.length g.wc, .slice g.ba g.bans.length g.bc])
     case atStart => exact ⟨0, rfl, by omega, rfl, fun j hj => by omega, hb0, hX0⟩
     case round =>
      clear hX0 hb0
      obtain ⟨k, rfl, hk, hgk, hf, hb, hX⟩ := hrel
      by_cases hlt : k < g.bans.length
      ·
       have hgr := HG.out _ hb
       obtain ⟨b, off, ha, c0, c1⟩ := hgr.bans.banC hlt
       have Hfe : Hid (∀ e, banE g k = e → e ≠ 0 → R = e) := fun e he he0 => HA.out e he0 (HF.out.trans (firstErr_is hlt hf.out he he0))
       have HE := Lib.hid (banE_at hlt)
       have hpl : k - 1 < g.bans.length := by omega
       obtain ⟨b', off', ha', d0, d1⟩ := hgr.bans.banC hpl
       rw [ha] at ha'
       cases ha'
       have hxm : g.bans[k] ∈ g.bans := List.getElem_mem hlt
       have hok := HZM.out.ban _ hxm
       clear hxm
       generalize g.bans[k] = x at *
       generalize g.bans[k - 1] = y at *
       obtain ⟨p, hp⟩ : ∃ p, p = k - 1 := ⟨_, rfl⟩
       rw [← hp] at d0 d1 hpl
       have hp1 : (0 : Int) ≤ (p : Int) := by omega
       have hp2 : (p : Int) < (g.bans.length : Int) := by omega
       have hw : IntKind.i64.wrap ((k : Int) - 1) = (k : Int) - 1 := IntWalk.i64_in _ (by omega)
       have hmx : max ((k : Int) - 1) 0 = (p : Int) := by omega
       have Ha := Lib.hid ha
       rw [ha]
       clear ha
       obtain ⟨x1, x2⟩ := x
       simp only at c0 c1 HE hok
       go_upto_region 15 with (fail)
       have hX1 := hX.alloc (.cells #[.string x1, .string x2] 64)
       have hE1 := Box.new wr 64 #[.string x1, .string x2]
       have hb1 := hb.alloc hb.size (.cells #[.string x1, .string x2] 64)
       have hd1 : (wr.alloc (.cells #[.string x1, .string x2] 64)).cell? ⟨b, off + p * 2, none⟩ = some (.string (y.1)) := cell_later ((Below.refl _ _).alloc (Nat.le_refl _) _) d0
       have hd2 : (wr.alloc (.cells #[.string x1, .string x2] 64)).cell? ⟨b, off + p * 2 + 1, none⟩ = some (.string y.2) := cell_later ((Below.refl _ _).alloc (Nat.le_refl _) _) d1
       have hg1 := HG.out _ hb1
       have hzr := hb.size
       clear hX hb c0 c1 d0 hgr
       generalize wr.alloc (.cells #[.string x1, .string x2] 64) = w2 at *
       generalize wr.heap.size = n2 at *
       generalize y.1 = y1 at *
       have Hp := Lib.hid hp
       clear hp
       generalize y.2 = y2 at *
       have hX1_l := hX1.lt; have hX1_0 := hX1.cell 0; have hX1_1 := hX1.cell 1; have hX1_2 := hX1.cell 2; have hX1_3 := hX1.cell 3; have hX1_4 := hX1.cell 4; simp at hX1_0 hX1_1 hX1_2 hX1_3 hX1_4
       have hE1_l := hE1.lt; have hE1_0 := hE1.cell 0; have hE1_1 := hE1.cell 1; simp at hE1_0 hE1_1
       rw [Ha.out] at hX1_4
       go_wp2_with fail
       rw [← Ha.out]
       refine (HSL.out x2 _ hg1).mono ?_
       rintro e w3 ⟨rfl, hb3⟩
       rw [Ha.out]
       unfold slotV sltV
       generalize slotOr g x2 = sx at *
       obtain ⟨s1, s2, s3⟩ := sx
       simp only
       have hn3 := (below_next hb1 hb3).size
       have hb4 := (below_next hb1 hb3).alloc hn3 (.cells #[.string s1, .int .i64 s2, .int .i64 s3] 56)
       have hX4 := (hX1.below hb3).alloc (.cells #[.string s1, .int .i64 s2, .int .i64 s3] 56)
       have hE4 := (hE1.below hb3).alloc (.cells #[.string s1, .int .i64 s2, .int .i64 s3] 56)
       have hd14 := cell_later ((Below.refl _ _).alloc (Nat.le_refl _) (.cells #[.string s1, .int .i64 s2, .int .i64 s3] 56)) (cell_later hb3 hd1)
       have hd24 := cell_later ((Below.refl _ _).alloc (Nat.le_refl _) (.cells #[.string s1, .int .i64 s2, .int .i64 s3] 56)) (cell_later hb3 hd2)
       clear hX1_l hX1_0 hX1_1 hX1_2 hX1_3 hX1_4
       clear hE1_l hE1_0 hE1_1
       go_upto_region 16 with (fail)
       clear hX1 hE1 hd1 hd2 hb1 hg1 hb3
       generalize w3.alloc (.cells #[.string s1, .int .i64 s2, .int .i64 s3] 56) = w4 at *
       have hE4_l := hE4.lt; have hE4_0 := hE4.cell 0; have hE4_1 := hE4.cell 1; simp at hE4_0 hE4_1
       go_wp2_with fail
       clear hE4_l hE4_0 hE4_1
       refine (keyOf_any x1 _ (by have := hok.1; omega)).mono ?_
       rintro e w5 ⟨rfl, hb5⟩
       have hX5 := hX4.below hb5
       have hE5 := hE4.below hb5
       have hd15 := cell_later hb5 hd14
       have hd25 := cell_later hb5 hd24
       have hbF := below_next hb4 hb5
       clear hX4 hE4 hd14 hd24 hb4 hb5
       generalize keyB x1 = kb at *
       generalize (slotOf g x2).isSome = sb at *
       cases kb
       ·
        have He := Lib.hid (Hfe.out 5 (by rw [HE.out]; rfl) (by decide))
        clear Hfe HE hf
        go_wp2_with fail
        go_ret
        exact ⟨by rw [He.out] <;> rfl, hbF⟩
       ·
        cases sb
        ·
         have He := Lib.hid (Hfe.out 8 (by rw [HE.out]; rfl) (by decide))
         clear Hfe HE hf
         go_wp2_with fail
         go_ret
         exact ⟨by rw [He.out] <;> rfl, hbF⟩
        ·
         by_cases h0 : k = 0
         ·
          have Hz0 : Hid (banE g k = 0) := by show _ = _; rw [HE.out, decide_eq_false (show ¬ 0 < k by omega)]; rfl
          have hd : decide ((0 : Int) < (k : Int)) = false := decide_eq_false (by omega)
          have hdn : decide (0 < k) = false := decide_eq_false (by omega)
          clear h0
          go_upto_region 20 with (fail)
          go_quiet (fail)
          clear Hfe HE
          go_wp2_with fail
          rw [← Ha.out]
          go_roundg (g.bans.length - (k + 1))
          case measure => have := hgk.out; omega
          case rel => exact ⟨k + 1, by go_num, by omega, rfl, zeros_succ hf.out Hz0.out, below_drewN hbF _, hX5.drewN _⟩
         ·
          have Hz0 : Hid (banE g k = if decide (0 ≤ firstOf [cmpS y1 x1, cmpS y2 x2]) = true then 7 else 0) := by show _ = _; rw [HE.out, decide_eq_true (show 0 < k by omega)]; rfl
          have hd : decide ((0 : Int) < (k : Int)) = true := decide_eq_true (by omega)
          have hk1 : 0 < k := by omega
          have hk2 : (0 : Int) < (k : Int) := by omega
          have hw2 : IntKind.i64.wrap ((k : Int) - 1) = (p : Int) := by rw [hw]; have := Hp.out; omega
          have hp3 : (k : Int) - 1 = (p : Int) := by have := Hp.out; omega
          have hw3 : IntKind.i64.wrap (p : Int) = (p : Int) := IntWalk.i64_in _ (by omega)
          have HS1 := Lib.hid (fun W => Tryz.strings_Compare y1 x1 W)
          have HS2 := Lib.hid (fun W => Tryz.strings_Compare y2 x2 W)
          clear h0 hmx hw
          go_upto_region 20 with (fail)
          have hG_4 := hX5.cell 4
          simp at hG_4
          rw [Ha.out] at hG_4
          have hE_0 := hE5.cell 0
          have hE_1 := hE5.cell 1
          simp at hE_0 hE_1
          refine wp_region_held_drew (S := (fun wx => wx.cell? ⟨w.heap.size, 4, none⟩ = some (.slice (some ⟨b, off, none⟩) g.bans.length g.bc) ∧ wx.cell? ⟨n2, 0, none⟩ = some (.string x1) ∧ wx.cell? ⟨n2, 1, none⟩ = some (.string x2) ∧ wx.cell? ⟨b, off + p * 2, none⟩ = some (.string y1) ∧ wx.cell? ⟨b, off + p * 2 + 1, none⟩ = some (.string y2) ∧ Below w5.heap.size w5 wx)) (by kernel_rfl) ?hS (fun hHeld => ?_)
          case hS => exact ⟨hG_4, hE_0, hE_1, hd15, hd25, (Below.refl _ _).drew⟩
          refine rt 0 (some 72) ?_
          refine rt 1 (some 73) ?_
          refine rt 2 (some 74) ?_
          refine rt 3 (some 75) ?_
          refine rt 4 (some 76) ?_
          refine rt 5 (some 77) ?_
          refine rt 6 (some 78) ?_
          refine rt 7 (some 79) ?_
          refine rt 8 (some 80) ?_
          refine rt 9 (some 81) ?_
          refine rt 10 (some 82) ?_
          refine rt 11 (some 83) ?_
          refine rt 13 (some 85) ?_
          refine rt 14 (some 86) ?_
          refine rt 15 (some 87) ?_
          refine rt 16 (some 88) ?_
          refine rt 17 (some 89) ?_
          refine rt 18 (some 90) ?_
          refine rt 19 (some 91) ?_
          refine rt 20 (some 92) ?_
          refine rt 21 (some 93) ?_
          refine rcall (i := 12) (d := (some 84)) (by kernel_rfl) rfl (by kernel_rfl) (fun K hK => ?_)
          go_simp
          go_at_call 96; refine (HS1.out _).mono ?_; rintro e w' ⟨rfl, rfl⟩
          refine hK.out _ _ ?hS (fun hHeld => ?_)
          case hS => exact hHeld
          clear hK K
          simp only [Act.put, lsetA, lsetZ, lsetS]
          refine rcall (i := 22) (d := (some 94)) (by kernel_rfl) rfl (by kernel_rfl) (fun K hK => ?_)
          go_simp
          go_at_call 96; refine (HS2.out _).mono ?_; rintro e w' ⟨rfl, rfl⟩
          refine hK.out _ _ ?hS (fun hHeld => ?_)
          case hS => exact hHeld
          clear hK K
          simp only [Act.put, lsetA, lsetZ, lsetS]
          refine rcall (i := 23) (d := (some 95)) (by kernel_rfl) rfl (by kernel_rfl) (fun K hK => ?_)
          go_simp
          skip
          refine hK.out _ _ ?hS (fun hHeld => ?_)
          case hS => exact (have hA : ∀ (w : World) (o : Obj), Below w.heap.size w (w.alloc o) := fun w o => (Below.refl _ _).alloc (Nat.le_refl _) o; ⟨cell_later (hA _ _) hHeld.1, cell_later (hA _ _) hHeld.2.1, cell_later (hA _ _) hHeld.2.2.1, cell_later (hA _ _) hHeld.2.2.2.1, cell_later (hA _ _) hHeld.2.2.2.2.1, below_next hHeld.2.2.2.2.2 (hA _ _)⟩)
          clear hK K
          simp only [Act.put, lsetA, lsetZ, lsetS]
          refine rcall (i := 24) (d := (some 96)) (by kernel_rfl) rfl (by kernel_rfl) (fun K hK => ?_)
          go_simp
          go_at_call 95; refine (orI_any [cmpS y1 x1, cmpS y2 x2] _ 2 _ (Box.sa (by first | exact Box.new _ _ _ | exact (Box.new _ _ _).drew) [cmpS y1 x1, cmpS y2 x2] rfl) (by simp)).mono ?_; rintro e w' ⟨rfl, rfl⟩
          refine hK.out _ _ ?hS (fun hHeld => ?_)
          case hS => exact hHeld
          clear hK K
          simp only [Act.put, lsetA, lsetZ, lsetS]
          generalize firstOf [cmpS y1 x1, cmpS y2 x2] = c at *
          refine rt 25 (some 97) ?_
          refine rt 26 (some 98) ?_
          refine rt 27 (some 71) ?_
          refine wpAnyH_done (by kernel_rfl) ?_ _
          have hb6 := hHeld.2.2.2.2.2
          have hXF := hX5.below hb6
          have hbG := hbF
          have hbF := below_next hbG hb6
          clear hHeld hG_4 hE_0 hE_1 hd15 hd25 hb6 hbG hX5 hE5 HE
          have HE := Hz0
          cases hcc : decide (0 ≤ c)
          ·
           rw [hcc] at HE
           have Hz : Hid (banE g k = 0) := by show _ = _; exact HE.out
           clear Hfe HE
           go_wp2_with fail
           rw [← Ha.out]
           go_roundg (g.bans.length - (k + 1))
           case measure => have := hgk.out; omega
           case rel => exact ⟨k + 1, by go_num, by omega, rfl, zeros_succ hf.out Hz.out, hbF, hXF⟩
          ·
           rw [hcc] at HE
           have He := Lib.hid (Hfe.out 7 (by exact HE.out) (by decide))
           clear Hfe HE hf
           go_wp2_with fail
           go_ret
           exact ⟨by rw [He.out] <;> rfl, hbF⟩
      ·
       obtain rfl : k = g.bans.length := by omega
       have HZ := Lib.hid (firstErr_zero (f := banE g) hf.out)
       have hb0 := hb
       have hX0 := hX
       clear hb hX hf hgk
       have He : Hid (R = 0) := by show _ = _; rw [HR.out, HF.out, HZ.out]
       clear HR HA HF HZ
       go_wp2_with fail
       go_ret
       exact ⟨by rw [He.out] <;> rfl, hb0⟩
set_option maxRecDepth 100000 in
set_option maxHeartbeats 16000000 in
theorem gridFaultR_any (g : Grd) (w : World) (hg : GRd w g) (hz : GSm g) : Calls Tryz.prog 12 #[g.agg] w (Gives (.int .i64 (gridFault g)) w) := by
 have HK := Lib.hid (fun i x y W => keyFault_any i x y W)
 have HTF := Lib.hid (fun t W => talkFault_any t W)
 have HWF := Lib.hid (fun W (h : GRd W g) => wishesFaultR_any g W h hz)
 have HG := Lib.hid (fun W (h : Below w.heap.size w W) => hg.below h)
 have HZM := Lib.hid hz
 have hn1 := hz.rooms
 have hn2 := hz.slots
 have hn3 := hz.talks
 have HR : Hid (gridFault g = if roomsFault g.rooms ≠ 0 then roomsFault g.rooms else if slotsFault g.slots ≠ 0 then slotsFault g.slots else if talksFault g.talks ≠ 0 then talksFault g.talks else wbFault g) := rfl
 generalize gridFault g = R at *
 clear hz hg
 have HA : Hid (∀ e, e ≠ 0 → roomsFault g.rooms = e → R = e) := fun e he h => by rw [HR.out, h, if_pos he]
 rw [Grd.agg_eq] at HWF ⊢
 have hX0 := Box.new w 32 #[.slice g.ra g.rooms.length g.rc, .slice g.sa g.slots.length g.sc, .slice g.ta g.talks.length g.tc, .slice g.wa g.wishes.length g.wc, .slice g.ba g.bans.length g.bc]
 have hb0 : Below w.heap.size w (w.alloc (.cells #[.slice g.ra g.rooms.length g.rc, .slice g.sa g.slots.length g.sc, .slice g.ta g.talks.length g.tc, .slice g.wa g.wishes.length g.wc, .slice g.ba g.bans.length g.bc] 32)) := (Below.refl _ _).alloc (Nat.le_refl _) _
 go_enter Tryz.func12, Tryz.ntmps12
 have HFE := Lib.hid (show roomsFault g.rooms = if 20 < g.rooms.length then 2 else firstErr (roomE g.rooms) g.rooms.length from rfl)
 have hX0_l := hX0.lt; have hX0_0 := hX0.cell 0; have hX0_1 := hX0.cell 1; have hX0_2 := hX0.cell 2; have hX0_3 := hX0.cell 3; have hX0_4 := hX0.cell 4; simp at hX0_0 hX0_1 hX0_2 hX0_3 hX0_4
 by_cases q1 : 20 < g.rooms.length
 ·
  have hd : decide ((20 : Int) < (g.rooms.length : Int)) = true := decide_eq_true (by omega)
  have He := Lib.hid (HA.out 2 (by decide) (by rw [HFE.out, if_pos q1]))
  clear HA HFE q1
  go_wp2_with fail
  go_ret
  exact ⟨by rw [He.out] <;> rfl, hb0⟩
 ·
  have hd : decide ((20 : Int) < (g.rooms.length : Int)) = false := decide_eq_false (by omega)
  have HF := HFE
  rw [if_neg q1] at HF
  clear q1 HFE
  go_wp2_with fail
  clear hX0_l hX0_0 hX0_1 hX0_2 hX0_3 hX0_4
  clear hd
  go_loopg [19] g.rooms.length (fun gk iv wr => ∃ k : Nat, iv = .int .i64 k ∧ k ≤ g.rooms.length ∧ Hid (gk = g.rooms.length - k) ∧ Hid (∀ j, j < k → roomE g.rooms j = 0) ∧ Below w.heap.size w wr ∧ Box wr w.heap.size 32 #[.slice g.ra g.rooms.length g.rc, .slice g.sa g.slots.length g.sc, .slice g.ta g.talks.length g.tc, .slice g.wa g.wishes.length g.wc, .slice g.ba g.bans.length g.bc])
  case atStart => exact ⟨0, rfl, by omega, rfl, fun j hj => by omega, hb0, hX0⟩
  case round =>
   clear hX0 hb0
   obtain ⟨k, rfl, hk, hgk, hf, hb, hX⟩ := hrel
   by_cases hlt : k < g.rooms.length
   ·
    have hgr := HG.out _ hb
    obtain ⟨b, off, ha, c0, c1⟩ := hgr.rooms.romC hlt
    have Hfe : Hid (∀ e, roomE g.rooms k = e → e ≠ 0 → R = e) := fun e he he0 => HA.out e he0 (HF.out.trans (firstErr_is hlt hf.out he he0))
    have Hkf := Lib.hid (roomE_kf hlt)
    have hpl : k - 1 < g.rooms.length := by omega
    obtain ⟨b', off', ha', d0, d1⟩ := hgr.rooms.romC hpl
    rw [ha] at ha'
    cases ha'
    have hxm : g.rooms[k] ∈ g.rooms := List.getElem_mem hlt
    have hok := HZM.out.room _ hxm
    clear d1 hxm
    generalize g.rooms[k] = x at *
    generalize g.rooms[k - 1] = y at *
    obtain ⟨p, hp⟩ : ∃ p, p = k - 1 := ⟨_, rfl⟩
    rw [← hp] at d0 hpl
    have hp1 : (0 : Int) ≤ (p : Int) := by omega
    have hp2 : (p : Int) < (g.rooms.length : Int) := by omega
    have hw : IntKind.i64.wrap ((k : Int) - 1) = (k : Int) - 1 := IntWalk.i64_in _ (by omega)
    have hmx : max ((k : Int) - 1) 0 = (p : Int) := by omega
    have Ha := Lib.hid ha
    rw [ha]
    clear ha
    obtain ⟨x1, x2⟩ := x
    simp only at c0 c1 Hkf hok
    go_upto_region 6 with (fail)
    have hX1 := hX.alloc (.cells #[.string x1, .int .i64 x2] 54)
    have hE1 := Box.new wr 54 #[.string x1, .int .i64 x2]
    have hb1 := hb.alloc hb.size (.cells #[.string x1, .int .i64 x2] 54)
    have hd1 : (wr.alloc (.cells #[.string x1, .int .i64 x2] 54)).cell? ⟨b, off + p * 2, none⟩ = some (.string (y.1)) := cell_later ((Below.refl _ _).alloc (Nat.le_refl _) _) d0
    have hg1 := HG.out _ hb1
    have hzr := hb.size
    clear hX hb c0 c1 d0 hgr
    generalize wr.alloc (.cells #[.string x1, .int .i64 x2] 54) = w2 at *
    generalize wr.heap.size = n2 at *
    generalize y.1 = y1 at *
    have hG_0 := hX1.cell 0
    simp at hG_0
    rw [Ha.out] at hG_0
    have hE_0 := hE1.cell 0
    simp at hE_0
    have Hp := Lib.hid hp
    clear hp
    refine wp_region_held_drew (S := (fun wx => wx.cell? ⟨w.heap.size, 0, none⟩ = some (.slice (some ⟨b, off, none⟩) g.rooms.length g.rc) ∧ wx.cell? ⟨n2, 0, none⟩ = some (.string x1) ∧ wx.cell? ⟨b, off + p * 2, none⟩ = some (.string y1) ∧ Below w2.heap.size w2 wx)) (by kernel_rfl) ?hS (fun hHeld => ?_)
    case hS => exact ⟨hG_0, hE_0, hd1, (Below.refl _ _).drew⟩
    refine rt 0 (some 24) ?_
    refine rt 1 (some 25) ?_
    refine rt 2 (some 26) ?_
    refine rt 3 (some 27) ?_
    refine rt 4 (some 28) ?_
    refine rt 5 (some 29) ?_
    refine rt 6 (some 30) ?_
    refine rt 7 (some 31) ?_
    refine rt 8 (some 32) ?_
    refine rt 9 (some 33) ?_
    refine rt 10 (some 34) ?_
    refine rcall (i := 11) (d := (some 35)) (by kernel_rfl) rfl (by kernel_rfl) (fun K hK => ?_)
    go_simp
    go_at_call 39; refine (HK.out k x1 y1 _ (by omega) (by have : x1.size ≤ 1000 := hok; omega)).mono ?_; rintro e w3 ⟨rfl, hb3⟩
    refine hK.out _ _ ?hS (fun hHeld => ?_)
    case hS => exact ⟨cell_later hb3 hHeld.1, cell_later hb3 hHeld.2.1, cell_later hb3 hHeld.2.2.1, below_next hHeld.2.2.2 hb3⟩
    clear hK K
    simp only [Act.put, lsetA, lsetZ, lsetS]
    refine rt 12 (some 5) ?_
    refine wpAnyH_done (by kernel_rfl) ?_ _
    have hb2 := hHeld.2.2.2
    clear hHeld hG_0 hE_0 hd1 hg1
    have hXF := hX1.below hb2
    have hEF := hE1.below hb2
    have hbF := below_next hb1 hb2
    clear hX1 hE1 hb1 hb2
    generalize kfN k x1 y1 = f at *
    by_cases q : f = 0
    ·
     subst q
     rw [if_neg (fun h => h rfl)] at Hkf
     have hEF_l := hEF.lt; have hEF_0 := hEF.cell 0; have hEF_1 := hEF.cell 1; simp at hEF_0 hEF_1
     by_cases q1 : x2 < 1
     ·
      have hd1 : decide (x2 < 1) = true := decide_eq_true q1
      have He := Lib.hid (Hfe.out 1 (by rw [Hkf.out, hd1]; rfl) (by decide))
      clear Hfe Hkf hf
      go_wp2_with fail
      go_ret
      exact ⟨by rw [He.out] <;> rfl, hbF⟩
     ·
      have hd1 : decide (x2 < 1) = false := decide_eq_false q1
      by_cases q2 : 10000 < x2
      ·
       have hd2 : decide (10000 < x2) = true := decide_eq_true q2
       have He := Lib.hid (Hfe.out 1 (by rw [Hkf.out, hd1, hd2]; rfl) (by decide))
       clear Hfe Hkf hf
       go_wp2_with fail
       go_ret
       exact ⟨by rw [He.out] <;> rfl, hbF⟩
      ·
       have hd2 : decide (10000 < x2) = false := decide_eq_false q2
       have Hz : Hid (roomE g.rooms k = 0) := by show _ = _; rw [Hkf.out, hd1, hd2]; rfl
       clear Hfe Hkf
       go_wp2_with fail
       rw [← Ha.out]
       go_roundg (g.rooms.length - (k + 1))
       case measure => have := hgk.out; omega
       case rel => exact ⟨k + 1, by go_num, by omega, rfl, zeros_succ hf.out Hz.out, hbF, hXF⟩
    ·
     have hq : (f != 0) = true := by simpa using q
     have He := Lib.hid (Hfe.out f (by rw [Hkf.out, if_pos q]) (by assumption))
     clear Hfe Hkf hf
     go_wp2_with fail
     go_ret
     exact ⟨by rw [He.out] <;> rfl, hbF⟩
   ·
    obtain rfl : k = g.rooms.length := by omega
    have HZ := Lib.hid (firstErr_zero (f := roomE g.rooms) hf.out)
    have hb0 := hb
    have hX0 := hX
    clear hb hX hf hgk
    have HQ : Hid (roomsFault g.rooms = 0) := HF.out.trans HZ.out
    have HR2 : Hid (R = if slotsFault g.slots ≠ 0 then slotsFault g.slots else if talksFault g.talks ≠ 0 then talksFault g.talks else wbFault g) := by show _ = _; rw [HR.out, if_neg (fun h => h HQ.out)]
    clear HR HA HF HZ HQ
    have HR := HR2
    clear HR2
    have HA : Hid (∀ e, e ≠ 0 → slotsFault g.slots = e → R = e) := fun e he h => by rw [HR.out, h, if_pos he]
    have HFE := Lib.hid (show slotsFault g.slots = if 40 < g.slots.length then 2 else firstErr (slotE g.slots) g.slots.length from rfl)
    have hX0_l := hX0.lt; have hX0_0 := hX0.cell 0; have hX0_1 := hX0.cell 1; have hX0_2 := hX0.cell 2; have hX0_3 := hX0.cell 3; have hX0_4 := hX0.cell 4; simp at hX0_0 hX0_1 hX0_2 hX0_3 hX0_4
    by_cases q1 : 40 < g.slots.length
    ·
     have hd : decide ((40 : Int) < (g.slots.length : Int)) = true := decide_eq_true (by omega)
     have He := Lib.hid (HA.out 2 (by decide) (by rw [HFE.out, if_pos q1]))
     clear HA HFE q1
     go_wp2_with fail
     go_ret
     exact ⟨by rw [He.out] <;> rfl, hb0⟩
    ·
     have hd : decide ((40 : Int) < (g.slots.length : Int)) = false := decide_eq_false (by omega)
     have HF := HFE
     rw [if_neg q1] at HF
     clear q1 HFE
     go_wp2_with fail
     clear hX0_l hX0_0 hX0_1 hX0_2 hX0_3 hX0_4
     clear hd
     go_loopg [55] g.slots.length (fun gk iv wr => ∃ k : Nat, iv = .int .i64 k ∧ k ≤ g.slots.length ∧ Hid (gk = g.slots.length - k) ∧ Hid (∀ j, j < k → slotE g.slots j = 0) ∧ Below w.heap.size w wr ∧ Box wr w.heap.size 32 #[.slice g.ra g.rooms.length g.rc, .slice g.sa g.slots.length g.sc, .slice g.ta g.talks.length g.tc, .slice g.wa g.wishes.length g.wc, .slice g.ba g.bans.length g.bc])
     case atStart => exact ⟨0, rfl, by omega, rfl, fun j hj => by omega, hb0, hX0⟩
     case round =>
      clear hX0 hb0
      obtain ⟨k, rfl, hk, hgk, hf, hb, hX⟩ := hrel
      by_cases hlt : k < g.slots.length
      ·
       have hgr := HG.out _ hb
       obtain ⟨b, off, ha, c0, c1, c2⟩ := hgr.slots.sltC hlt
       have Hfe : Hid (∀ e, slotE g.slots k = e → e ≠ 0 → R = e) := fun e he he0 => HA.out e he0 (HF.out.trans (firstErr_is hlt hf.out he he0))
       have Hkf := Lib.hid (slotE_kf hlt)
       have hpl : k - 1 < g.slots.length := by omega
       obtain ⟨b', off', ha', d0, d1, d2⟩ := hgr.slots.sltC hpl
       rw [ha] at ha'
       cases ha'
       have hxm : g.slots[k] ∈ g.slots := List.getElem_mem hlt
       have hok := HZM.out.slot _ hxm
       clear d1 d2 hxm
       generalize g.slots[k] = x at *
       generalize g.slots[k - 1] = y at *
       obtain ⟨p, hp⟩ : ∃ p, p = k - 1 := ⟨_, rfl⟩
       rw [← hp] at d0 hpl
       have hp1 : (0 : Int) ≤ (p : Int) := by omega
       have hp2 : (p : Int) < (g.slots.length : Int) := by omega
       have hw : IntKind.i64.wrap ((k : Int) - 1) = (k : Int) - 1 := IntWalk.i64_in _ (by omega)
       have hmx : max ((k : Int) - 1) 0 = (p : Int) := by omega
       have Ha := Lib.hid ha
       rw [ha]
       clear ha
       obtain ⟨x1, x2, x3⟩ := x
       simp only at c0 c1 c2 Hkf hok
       go_upto_region 17 with (fail)
       have hX1 := hX.alloc (.cells #[.string x1, .int .i64 x2, .int .i64 x3] 56)
       have hE1 := Box.new wr 56 #[.string x1, .int .i64 x2, .int .i64 x3]
       have hb1 := hb.alloc hb.size (.cells #[.string x1, .int .i64 x2, .int .i64 x3] 56)
       have hd1 : (wr.alloc (.cells #[.string x1, .int .i64 x2, .int .i64 x3] 56)).cell? ⟨b, off + p * 3, none⟩ = some (.string (y.1)) := cell_later ((Below.refl _ _).alloc (Nat.le_refl _) _) d0
       have hg1 := HG.out _ hb1
       have hzr := hb.size
       clear hX hb c0 c1 c2 d0 hgr
       generalize wr.alloc (.cells #[.string x1, .int .i64 x2, .int .i64 x3] 56) = w2 at *
       generalize wr.heap.size = n2 at *
       generalize y.1 = y1 at *
       have hG_1 := hX1.cell 1
       simp at hG_1
       rw [Ha.out] at hG_1
       have hE_0 := hE1.cell 0
       simp at hE_0
       have Hp := Lib.hid hp
       clear hp
       refine wp_region_held_drew (S := (fun wx => wx.cell? ⟨w.heap.size, 1, none⟩ = some (.slice (some ⟨b, off, none⟩) g.slots.length g.sc) ∧ wx.cell? ⟨n2, 0, none⟩ = some (.string x1) ∧ wx.cell? ⟨b, off + p * 3, none⟩ = some (.string y1) ∧ Below w2.heap.size w2 wx)) (by kernel_rfl) ?hS (fun hHeld => ?_)
       case hS => exact ⟨hG_1, hE_0, hd1, (Below.refl _ _).drew⟩
       refine rt 0 (some 60) ?_
       refine rt 1 (some 61) ?_
       refine rt 2 (some 62) ?_
       refine rt 3 (some 63) ?_
       refine rt 4 (some 64) ?_
       refine rt 5 (some 65) ?_
       refine rt 6 (some 66) ?_
       refine rt 7 (some 67) ?_
       refine rt 8 (some 68) ?_
       refine rt 9 (some 69) ?_
       refine rt 10 (some 70) ?_
       refine rcall (i := 11) (d := (some 71)) (by kernel_rfl) rfl (by kernel_rfl) (fun K hK => ?_)
       go_simp
       go_at_call 39; refine (HK.out k x1 y1 _ (by omega) (by have : x1.size ≤ 1000 := hok.1; omega)).mono ?_; rintro e w3 ⟨rfl, hb3⟩
       refine hK.out _ _ ?hS (fun hHeld => ?_)
       case hS => exact ⟨cell_later hb3 hHeld.1, cell_later hb3 hHeld.2.1, cell_later hb3 hHeld.2.2.1, below_next hHeld.2.2.2 hb3⟩
       clear hK K
       simp only [Act.put, lsetA, lsetZ, lsetS]
       refine rt 12 (some 8) ?_
       refine wpAnyH_done (by kernel_rfl) ?_ _
       have hb2 := hHeld.2.2.2
       clear hHeld hG_1 hE_0 hd1 hg1
       have hXF := hX1.below hb2
       have hEF := hE1.below hb2
       have hbF := below_next hb1 hb2
       clear hX1 hE1 hb1 hb2
       generalize kfN k x1 y1 = f at *
       by_cases q : f = 0
       ·
        subst q
        rw [if_neg (fun h => h rfl)] at Hkf
        have hEF_l := hEF.lt; have hEF_0 := hEF.cell 0; have hEF_1 := hEF.cell 1; have hEF_2 := hEF.cell 2; simp at hEF_0 hEF_1 hEF_2
        go_wp2_with fail
        refine (moment_any x2 _).mono ?_
        rintro e w4 ⟨rfl, rfl⟩
        generalize momB x2 = mm at *
        cases mm
        ·
         have He := Lib.hid (Hfe.out 1 (by rw [Hkf.out]; rfl) (by decide))
         clear Hfe Hkf hf
         go_wp2_with fail
         go_ret
         exact ⟨by rw [He.out] <;> rfl, hbF⟩
        ·
         by_cases q1 : x3 < 1
         ·
          have hd1 : decide (x3 < 1) = true := decide_eq_true q1
          have He := Lib.hid (Hfe.out 1 (by rw [Hkf.out, hd1]; rfl) (by decide))
          clear Hfe Hkf hf
          go_wp2_with fail
          go_ret
          exact ⟨by rw [He.out] <;> rfl, hbF⟩
         ·
          have hd1 : decide (x3 < 1) = false := decide_eq_false q1
          by_cases q2 : 1440 < x3
          ·
           have hd2 : decide (1440 < x3) = true := decide_eq_true q2
           have He := Lib.hid (Hfe.out 1 (by rw [Hkf.out, hd1, hd2]; rfl) (by decide))
           clear Hfe Hkf hf
           go_wp2_with fail
           go_ret
           exact ⟨by rw [He.out] <;> rfl, hbF⟩
          ·
           have hd2 : decide (1440 < x3) = false := decide_eq_false q2
           have Hz : Hid (slotE g.slots k = 0) := by show _ = _; rw [Hkf.out, hd1, hd2]; rfl
           clear Hfe Hkf
           go_wp2_with fail
           rw [← Ha.out]
           go_roundg (g.slots.length - (k + 1))
           case measure => have := hgk.out; omega
           case rel => exact ⟨k + 1, by go_num, by omega, rfl, zeros_succ hf.out Hz.out, hbF, hXF⟩
       ·
        have hq : (f != 0) = true := by simpa using q
        have He := Lib.hid (Hfe.out f (by rw [Hkf.out, if_pos q]) (by assumption))
        clear Hfe Hkf hf
        go_wp2_with fail
        go_ret
        exact ⟨by rw [He.out] <;> rfl, hbF⟩
      ·
       obtain rfl : k = g.slots.length := by omega
       have HZ := Lib.hid (firstErr_zero (f := slotE g.slots) hf.out)
       have hb0 := hb
       have hX0 := hX
       clear hb hX hf hgk
       have HQ : Hid (slotsFault g.slots = 0) := HF.out.trans HZ.out
       have HR2 : Hid (R = if talksFault g.talks ≠ 0 then talksFault g.talks else wbFault g) := by show _ = _; rw [HR.out, if_neg (fun h => h HQ.out)]
       clear HR HA HF HZ HQ
       have HR := HR2
       clear HR2
       have HA : Hid (∀ e, e ≠ 0 → talksFault g.talks = e → R = e) := fun e he h => by rw [HR.out, h, if_pos he]
       have HFE := Lib.hid (show talksFault g.talks = if 200 < g.talks.length then 2 else firstErr (talkE g.talks) g.talks.length from rfl)
       have hX0_l := hX0.lt; have hX0_0 := hX0.cell 0; have hX0_1 := hX0.cell 1; have hX0_2 := hX0.cell 2; have hX0_3 := hX0.cell 3; have hX0_4 := hX0.cell 4; simp at hX0_0 hX0_1 hX0_2 hX0_3 hX0_4
       by_cases q1 : 200 < g.talks.length
       ·
        have hd : decide ((200 : Int) < (g.talks.length : Int)) = true := decide_eq_true (by omega)
        have He := Lib.hid (HA.out 2 (by decide) (by rw [HFE.out, if_pos q1]))
        clear HA HFE q1
        go_wp2_with fail
        go_ret
        exact ⟨by rw [He.out] <;> rfl, hb0⟩
       ·
        have hd : decide ((200 : Int) < (g.talks.length : Int)) = false := decide_eq_false (by omega)
        have HF := HFE
        rw [if_neg q1] at HF
        clear q1 HFE
        go_wp2_with fail
        clear hX0_l hX0_0 hX0_1 hX0_2 hX0_3 hX0_4
        clear hd
        go_loopg [97] g.talks.length (fun gk iv wr => ∃ k : Nat, iv = .int .i64 k ∧ k ≤ g.talks.length ∧ Hid (gk = g.talks.length - k) ∧ Hid (∀ j, j < k → talkE g.talks j = 0) ∧ Below w.heap.size w wr ∧ Box wr w.heap.size 32 #[.slice g.ra g.rooms.length g.rc, .slice g.sa g.slots.length g.sc, .slice g.ta g.talks.length g.tc, .slice g.wa g.wishes.length g.wc, .slice g.ba g.bans.length g.bc])
        case atStart => exact ⟨0, rfl, by omega, rfl, fun j hj => by omega, hb0, hX0⟩
        case round =>
         clear hX0 hb0
         obtain ⟨k, rfl, hk, hgk, hf, hb, hX⟩ := hrel
         by_cases hlt : k < g.talks.length
         ·
          have hgr := HG.out _ hb
          obtain ⟨b, off, ha, c0, c1, c2, c3⟩ := hgr.talks.tlkC hlt
          have Hfe : Hid (∀ e, talkE g.talks k = e → e ≠ 0 → R = e) := fun e he he0 => HA.out e he0 (HF.out.trans (firstErr_is hlt hf.out he he0))
          have Hkf := Lib.hid (talkE_kf hlt)
          have hpl : k - 1 < g.talks.length := by omega
          obtain ⟨b', off', ha', d0, d1, d2, d3⟩ := hgr.talks.tlkC hpl
          rw [ha] at ha'
          cases ha'
          have hxm : g.talks[k] ∈ g.talks := List.getElem_mem hlt
          have hok := HZM.out.talk _ hxm
          have hr1 := hgr.speakers _ hxm
          have hr2 := hgr.topics _ hxm
          clear d1 d2 d3 hxm
          generalize g.talks[k] = x at *
          generalize g.talks[k - 1] = y at *
          obtain ⟨p, hp⟩ : ∃ p, p = k - 1 := ⟨_, rfl⟩
          rw [← hp] at d0 hpl
          have hp1 : (0 : Int) ≤ (p : Int) := by omega
          have hp2 : (p : Int) < (g.talks.length : Int) := by omega
          have hw : IntKind.i64.wrap ((k : Int) - 1) = (k : Int) - 1 := IntWalk.i64_in _ (by omega)
          have hmx : max ((k : Int) - 1) 0 = (p : Int) := by omega
          have Ha := Lib.hid ha
          rw [ha]
          clear ha
          obtain ⟨x1, x2, x3, x4, x5, x6, x7, x8⟩ := x
          simp only at c0 c1 c2 c3 Hkf hok hr1 hr2
          obtain ⟨f, hff⟩ : ∃ f, firstOf [kfN k x1 y.paper, (talkFault ⟨x1, x2, x3, x4, x5, x6, x7, x8⟩)] = f := ⟨_, rfl⟩
          have Hff := Lib.hid hff
          clear hff
          go_upto_region 28 with (fail)
          have hX1 := hX.alloc (.cells #[.string x1, .slice x5 x2.length x6, .slice x7 x3.length x8, .int .i64 x4] 60)
          have hE1 := Box.new wr 60 #[.string x1, .slice x5 x2.length x6, .slice x7 x3.length x8, .int .i64 x4]
          have hb1 := hb.alloc hb.size (.cells #[.string x1, .slice x5 x2.length x6, .slice x7 x3.length x8, .int .i64 x4] 60)
          have hd1 : (wr.alloc (.cells #[.string x1, .slice x5 x2.length x6, .slice x7 x3.length x8, .int .i64 x4] 60)).cell? ⟨b, off + p * 4, none⟩ = some (.string (y.paper)) := cell_later ((Below.refl _ _).alloc (Nat.le_refl _) _) d0
          have hs1 := hr1.alloc (.cells #[.string x1, .slice x5 x2.length x6, .slice x7 x3.length x8, .int .i64 x4] 60)
          have hs2 := hr2.alloc (.cells #[.string x1, .slice x5 x2.length x6, .slice x7 x3.length x8, .int .i64 x4] 60)
          clear hr1 hr2
          have hg1 := HG.out _ hb1
          have hzr := hb.size
          clear hX hb c0 c1 c2 c3 d0 hgr
          generalize wr.alloc (.cells #[.string x1, .slice x5 x2.length x6, .slice x7 x3.length x8, .int .i64 x4] 60) = w2 at *
          generalize wr.heap.size = n2 at *
          generalize y.paper = y1 at *
          have hG_2 := hX1.cell 2
          simp at hG_2
          rw [Ha.out] at hG_2
          have hE_0 := hE1.cell 0
          simp at hE_0
          have hE_1 := hE1.cell 1
          simp at hE_1
          have hE_2 := hE1.cell 2
          simp at hE_2
          have hE_3 := hE1.cell 3
          simp at hE_3
          have Hp := Lib.hid hp
          clear hp
          refine wp_region_held_drew (S := (fun wx => wx.cell? ⟨w.heap.size, 2, none⟩ = some (.slice (some ⟨b, off, none⟩) g.talks.length g.tc) ∧ wx.cell? ⟨n2, 0, none⟩ = some (.string x1) ∧ wx.cell? ⟨n2, 1, none⟩ = some (.slice x5 x2.length x6) ∧ wx.cell? ⟨n2, 2, none⟩ = some (.slice x7 x3.length x8) ∧ wx.cell? ⟨n2, 3, none⟩ = some (.int .i64 x4) ∧ wx.cell? ⟨b, off + p * 4, none⟩ = some (.string y1) ∧ Below w2.heap.size w2 wx)) (by kernel_rfl) ?hS (fun hHeld => ?_)
          case hS => exact ⟨hG_2, hE_0, hE_1, hE_2, hE_3, hd1, (Below.refl _ _).drew⟩
          refine rt 0 (some 102) ?_
          refine rt 1 (some 103) ?_
          refine rt 2 (some 104) ?_
          refine rt 3 (some 105) ?_
          refine rt 4 (some 106) ?_
          refine rt 5 (some 107) ?_
          refine rt 6 (some 108) ?_
          refine rt 7 (some 109) ?_
          refine rt 8 (some 110) ?_
          refine rt 9 (some 111) ?_
          refine rt 10 (some 112) ?_
          refine rt 12 (some 114) ?_
          refine rcall (i := 11) (d := (some 113)) (by kernel_rfl) rfl (by kernel_rfl) (fun K hK => ?_)
          go_simp
          go_at_call 39; refine (HK.out k x1 y1 _ (by omega) (by have : x1.size ≤ 1000 := hok.1; omega)).mono ?_; rintro e w3 ⟨rfl, hb3⟩
          refine hK.out _ _ ?hS (fun hHeld => ?_)
          case hS => exact ⟨cell_later hb3 hHeld.1, cell_later hb3 hHeld.2.1, cell_later hb3 hHeld.2.2.1, cell_later hb3 hHeld.2.2.2.1, cell_later hb3 hHeld.2.2.2.2.1, cell_later hb3 hHeld.2.2.2.2.2.1, below_next hHeld.2.2.2.2.2.2 hb3⟩
          clear hK K
          simp only [Act.put, lsetA, lsetZ, lsetS]
          refine rcall (i := 13) (d := (some 115)) (by kernel_rfl) rfl (by kernel_rfl) (fun K hK => ?_)
          go_simp
          go_at_call 42; refine (HTF.out ⟨x1, x2, x3, x4, x5, x6, x7, x8⟩ _ (hs1.below hHeld.2.2.2.2.2.2) (hs2.below hHeld.2.2.2.2.2.2) hok).mono ?_; rintro e w3 ⟨rfl, hb3⟩
          refine hK.out _ _ ?hS (fun hHeld => ?_)
          case hS => exact ⟨cell_later hb3 hHeld.1, cell_later hb3 hHeld.2.1, cell_later hb3 hHeld.2.2.1, cell_later hb3 hHeld.2.2.2.1, cell_later hb3 hHeld.2.2.2.2.1, cell_later hb3 hHeld.2.2.2.2.2.1, below_next hHeld.2.2.2.2.2.2 hb3⟩
          clear hK K
          simp only [Act.put, lsetA, lsetZ, lsetS]
          refine rcall (i := 14) (d := (some 116)) (by kernel_rfl) rfl (by kernel_rfl) (fun K hK => ?_)
          go_simp
          skip
          refine hK.out _ _ ?hS (fun hHeld => ?_)
          case hS => exact (have hA : ∀ (w : World) (o : Obj), Below w.heap.size w (w.alloc o) := fun w o => (Below.refl _ _).alloc (Nat.le_refl _) o; ⟨cell_later (hA _ _) hHeld.1, cell_later (hA _ _) hHeld.2.1, cell_later (hA _ _) hHeld.2.2.1, cell_later (hA _ _) hHeld.2.2.2.1, cell_later (hA _ _) hHeld.2.2.2.2.1, cell_later (hA _ _) hHeld.2.2.2.2.2.1, below_next hHeld.2.2.2.2.2.2 (hA _ _)⟩)
          clear hK K
          simp only [Act.put, lsetA, lsetZ, lsetS]
          refine rcall (i := 15) (d := (some 117)) (by kernel_rfl) rfl (by kernel_rfl) (fun K hK => ?_)
          go_simp
          go_at_call 41; refine (orE_any [kfN k x1 y1, (talkFault ⟨x1, x2, x3, x4, x5, x6, x7, x8⟩)] _ 2 _ (Box.sa (by first | exact Box.new _ _ _ | exact (Box.new _ _ _).drew) [kfN k x1 y1, (talkFault ⟨x1, x2, x3, x4, x5, x6, x7, x8⟩)] rfl) (by simp)).mono ?_; rintro e w3 ⟨rfl, rfl⟩
          refine hK.out _ _ ?hS (fun hHeld => ?_)
          case hS => exact hHeld
          clear hK K
          simp only [Act.put, lsetA, lsetZ, lsetS]
          refine rt 16 (some 11) ?_
          refine wpAnyH_done (by kernel_rfl) ?_ _
          have hb2 := hHeld.2.2.2.2.2.2
          clear hHeld hG_2 hE_0 hE_1 hE_2 hE_3 hd1 hg1
          have hXF := hX1.below hb2
          have hEF := hE1.below hb2
          have hbF := below_next hb1 hb2
          clear hX1 hE1 hb1 hb2
          rw [show firstOf [kfN k x1 y1, (talkFault ⟨x1, x2, x3, x4, x5, x6, x7, x8⟩)] = f from Hff.out]
          by_cases q : f = 0
          ·
           subst q
           have Hz : Hid (talkE g.talks k = 0) := by show _ = _; exact Hkf.out.trans Hff.out
           clear Hfe Hkf
           go_wp2_with fail
           rw [← Ha.out]
           go_roundg (g.talks.length - (k + 1))
           case measure => have := hgk.out; omega
           case rel => exact ⟨k + 1, by go_num, by omega, rfl, zeros_succ hf.out Hz.out, hbF, hXF⟩
          ·
           have hq : (f != 0) = true := by simpa using q
           have He := Lib.hid (Hfe.out f (by exact Hkf.out.trans Hff.out) (by assumption))
           clear Hfe Hkf hf
           go_wp2_with fail
           go_ret
           exact ⟨by rw [He.out] <;> rfl, hbF⟩
         ·
          obtain rfl : k = g.talks.length := by omega
          have HZ := Lib.hid (firstErr_zero (f := talkE g.talks) hf.out)
          have hb0 := hb
          have hX0 := hX
          clear hb hX hf hgk
          have HQ : Hid (talksFault g.talks = 0) := HF.out.trans HZ.out
          have HR2 : Hid (R = wbFault g) := by show _ = _; rw [HR.out, if_neg (fun h => h HQ.out)]
          clear HR HA HF HZ HQ
          have hX0_l := hX0.lt; have hX0_0 := hX0.cell 0; have hX0_1 := hX0.cell 1; have hX0_2 := hX0.cell 2; have hX0_3 := hX0.cell 3; have hX0_4 := hX0.cell 4; simp at hX0_0 hX0_1 hX0_2 hX0_3 hX0_4
          go_wp2_with fail
          refine (HWF.out _ (HG.out _ hb0)).mono ?_
          rintro e w9 ⟨rfl, hb9⟩
          go_wp2_with fail
          go_ret
          exact ⟨by rw [HR2.out] <;> rfl, below_next hb0 hb9⟩
end Go.Proofs.YtldgphhiajhfhaaGreatDoor
