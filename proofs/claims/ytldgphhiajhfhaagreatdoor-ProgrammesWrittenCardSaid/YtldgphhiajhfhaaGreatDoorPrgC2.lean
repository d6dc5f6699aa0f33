/- The program's errors of wishes and bans, CheckGrid. Written by gen/src/progc2.py. -/
import Derived.Test.YtldgphhiajhfhaaGreatDoorField1
namespace Go.Proofs.YtldgphhiajhfhaaGreatDoor
open Go.RowKit
set_option linter.unusedVariables false
set_option linter.unusedSimpArgs false

theorem lookT {g : Grd} {b : Nat} {w : World} (h : MBox w b (idxL (g.talks.map (·.paper)))) (x : ByteArray) : ∃ v, (Instr.lookup 140 (.map (some b)) (.string x) true).run Tryz.prog w = .ok (.tuple #[v, .bool (talkOf g x).isSome]) w := by
 have h1 := MBox.look h Tryz.underlying140 Tryz.underlying9 _ Tryz.zeroValue3 x true
 refine ⟨(mget (idxL (g.talks.map (·.paper))) x).getD (.int .i64 0), ?_⟩
 rw [h1]
 unfold looked talkOf
 rw [if_pos rfl, idxL_has, find_any]
theorem lookS {g : Grd} {b : Nat} {w : World} (h : MBox w b (idxL (g.slots.map (·.1)))) (x : ByteArray) : ∃ v, (Instr.lookup 140 (.map (some b)) (.string x) true).run Tryz.prog w = .ok (.tuple #[v, .bool (slotOf g x).isSome]) w := by
 have h1 := MBox.look h Tryz.underlying140 Tryz.underlying9 _ Tryz.zeroValue3 x true
 refine ⟨(mget (idxL (g.slots.map (·.1))) x).getD (.int .i64 0), ?_⟩
 rw [h1]
 unfold looked slotOf
 rw [if_pos rfl, idxL_has, find_any]
set_option maxRecDepth 100000 in
set_option maxHeartbeats 8000000 in
theorem wishesP_any (g : Grd) (fb br bs bt bb : Nat) (w : World) (hF : FieldAt g fb br bs bt bb w) (hg : GRd w g) (hz : GSm g) : Calls Tryz.prog 84 #[.pointer (some ⟨fb, 0, none⟩), .slice g.wa g.wishes.length g.wc] w (Gives (.int .i64 (wishesFault g)) w) := by
 have HR : Hid (wishesFault g = if 500 < g.wishes.length then 2 else firstErr (wishE g) g.wishes.length) := rfl
 have HZM := Lib.hid hz
 have hn := hz.wishes
 have HG := Lib.hid (fun W (h : Below w.heap.size w W) => hg.below h)
 have HF := Lib.hid (fun W (h : Below w.heap.size w W) => hF.below h)
 generalize wishesFault g = R at *
 clear hz hg hF
 go_enter Tryz.func84, Tryz.ntmps84
 by_cases q1 : 500 < g.wishes.length
 ·
  have hd : decide ((500 : Int) < (g.wishes.length : Int)) = true := decide_eq_true (by omega)
  have He : Hid (R = 2) := by show _ = _; rw [HR.out, if_pos q1]
  clear HR q1
  go_wp2_with fail
  go_ret
  exact ⟨by rw [He.out] <;> rfl, Below.refl _ _⟩
 ·
  have hd : decide ((500 : Int) < (g.wishes.length : Int)) = false := decide_eq_false (by omega)
  rw [if_neg q1] at HR
  clear q1
  go_wp2_with fail
  clear hd
  go_loopg [16] g.wishes.length (fun gk iv wr => ∃ k : Nat, iv = .int .i64 k ∧ k ≤ g.wishes.length ∧ Hid (gk = g.wishes.length - k) ∧ Hid (∀ j, j < k → wishE g j = 0) ∧ Below w.heap.size w wr)
  case atStart => exact ⟨0, rfl, by omega, rfl, fun j hj => by omega, Below.refl _ _⟩
  case round =>
   obtain ⟨k, rfl, hk, hgk, hf, hb⟩ := hrel
   by_cases hlt : k < g.wishes.length
   ·
    obtain ⟨b, off, ha, c0, c1⟩ := (HG.out _ hb).wishes.wshC hlt
    have Hfe : Hid (∀ e, wishE g k = e → e ≠ 0 → R = e) := fun e he he0 => HR.out.trans (firstErr_is hlt hf.out he he0)
    have hpl : k - 1 < g.wishes.length := by omega
    obtain ⟨b', off', ha', d0, d1⟩ := (HG.out _ hb).wishes.wshC hpl
    rw [ha] at ha'
    cases ha'
    have hxm : g.wishes[k] ∈ g.wishes := List.getElem_mem hlt
    have hok := HZM.out.wish _ hxm
    have HRD := Lib.hid (fun W (h : Below w.heap.size w W) => (HG.out W h).papers _ hxm)
    have HO := Lib.hid (ordB_prevM Wsh.person hlt)
    have HX : Hid (g.wishes[k]? = some g.wishes[k]) := List.getElem?_eq_getElem hlt
    clear d1 hxm
    generalize g.wishes[k] = x at *
    generalize g.wishes[k - 1] = y at *
    obtain ⟨p, hp⟩ : ∃ p, p = k - 1 := ⟨_, rfl⟩
    rw [← hp] at d0 hpl
    have hp1 : (0 : Int) ≤ (p : Int) := by omega
    have hp2 : (p : Int) < (g.wishes.length : Int) := by omega
    have Ha := Lib.hid ha
    have Hp := Lib.hid hp
    clear hp
    rw [ha]
    clear ha
    obtain ⟨x1, x2, x3, x4⟩ := x
    generalize y.person = y1 at *
    simp only at c0 c1 hok HO HRD
    have HE : Hid (wishE g k = if keyB x1 = false then 5 else if (decide (0 < k) && leB x1 y1) = true then 7 else firstErr (wpE g x2) x2.length) := by
     show _ = _
     unfold wishE
     rw [HX.out]
     simp only [HO.out]
     (try rfl)
    obtain ⟨hok1, hok2, hok3⟩ := hok
    clear HX HO
    go_upto_region 6 with (fail)
    have hE1 := Box.new wr 62 #[.string x1, .slice x3 x2.length x4]
    have hb1 := hb.alloc hb.size (.cells #[.string x1, .slice x3 x2.length x4] 62)
    have hd1 : (wr.alloc (.cells #[.string x1, .slice x3 x2.length x4] 62)).cell? ⟨b, off + p * 2, none⟩ = some (.string y1) := cell_later ((Below.refl _ _).alloc (Nat.le_refl _) _) d0
    clear hb c0 c1 d0
    generalize wr.alloc (.cells #[.string x1, .slice x3 x2.length x4] 62) = w2 at *
    generalize wr.heap.size = n2 at *
    have hE1_l := hE1.lt; have hE1_0 := hE1.cell 0; have hE1_1 := hE1.cell 1; simp at hE1_0 hE1_1
    go_wp2_with fail
    clear hE1_l hE1_0 hE1_1
    refine (isKey_any x1 _ (by omega)).mono ?_
    rintro e w3 ⟨rfl, rfl⟩
    generalize keyB x1 = kb at *
    cases kb
    ·
     have He := Lib.hid (Hfe.out 5 (by rw [HE.out]; rfl) (by decide))
     clear Hfe HE hf
     go_wp2_with fail
     go_ret
     exact ⟨by rw [He.out] <;> rfl, hb1⟩
    ·
     go_upto_region 8 with (fail)
     have hc0 := hE1.cell 0
     simp at hc0
     go_cut [37] (fun v wx => v = .bool (decide (0 < k) && leB x1 y1) ∧ ∃ m, wx = w2.drewN m)
     case first =>
      by_cases h0 : k = 0
      ·
       have hd : decide ((0 : Int) < (k : Int)) = false := decide_eq_false (by omega)
       have hdn : decide (0 < k) = false := decide_eq_false (by omega)
       have Hd : Hid ((decide (0 < k) && leB x1 y1) = false) := by show _ = _; rw [hdn]; rfl
       clear h0
       (try skip); go_quiet (fail)
       go_wp2_with fail
       go_meet
       exact ⟨by rw [Hd.out] <;> rfl, _, rfl⟩
      ·
       have hd : decide ((0 : Int) < (k : Int)) = true := decide_eq_true (by omega)
       have hk1 : 0 < k := by omega
       have hk2 : (0 : Int) < (k : Int) := by omega
       have Hd : Hid ((decide (0 < k) && leB x1 y1) = leB x1 y1) := by show _ = _; rw [decide_eq_true hk1]; rfl
       have hw2 : IntKind.i64.wrap ((k : Int) - 1) = (p : Int) := by rw [IntWalk.i64_in _ (by omega)]; have := Hp.out; omega
       have hw3 : IntKind.i64.wrap (p : Int) = (p : Int) := IntWalk.i64_in _ (by omega)
       have hp3 : (k : Int) - 1 = (p : Int) := by have := Hp.out; omega
       clear h0
       (try skip); go_quiet (fail)
       go_wp2_with fail
       go_meet
       exact ⟨by rw [Hd.out] <;> rfl, _, rfl⟩
     case rest =>
      obtain ⟨hv, m, rfl⟩ := hcut
      rw [hv]
      have hEF : Box (w2.drewN m) n2 62 #[.string x1, .slice x3 x2.length x4] := hE1
      have hbF : Below w.heap.size w (w2.drewN m) := below_drewN hb1 _
      clear hE1 hb1 hd1 hc0 hv
      cases hbb : (decide (0 < k) && leB x1 y1)
      ·
       rw [hbb] at HE
       have HE2 : Hid (wishE g k = firstErr (wpE g x2) x2.length) := HE.out
       clear hbb HE
       have hEF_l := hEF.lt; have hEF_0 := hEF.cell 0; have hEF_1 := hEF.cell 1; simp at hEF_0 hEF_1
       go_wp2_with fail
       clear hEF_l hEF_0 hEF_1
       go_loopg [41] x2.length (fun gj jv wq => ∃ j : Nat, jv = .int .i64 j ∧ j ≤ x2.length ∧ Hid (gj = x2.length - j) ∧ Hid (∀ i, i < j → wpE g x2 i = 0) ∧ Box wq n2 62 #[.string x1, .slice x3 x2.length x4] ∧ Below w.heap.size w wq)
       case atStart => exact ⟨0, rfl, by omega, rfl, (fun i hi => by omega), hEF, hbF⟩
       case round =>
        clear hEF hbF
        obtain ⟨j, rfl, hj, hgj, hfj, hEF, hbF⟩ := hrel
        by_cases hjl : j < x2.length
        ·
         obtain ⟨tb, tof, hta, t0⟩ := (HRD.out _ hbF).str hjl
         have HfI : Hid (∀ e, wpE g x2 j = e → e ≠ 0 → R = e) := fun e he he0 => Hfe.out e (HE2.out.trans (firstErr_is hjl hfj.out he he0)) he0
         have hjp : j - 1 < x2.length := by omega
         obtain ⟨tb', tof', hta', s0⟩ := (HRD.out _ hbF).str hjp
         rw [hta] at hta'
         cases hta'
         have HO := Lib.hid (ordB_prev hjl)
         have HX : Hid (x2[j]? = some x2[j]) := List.getElem?_eq_getElem hjl
         have HPE : Hid (wpE g x2 j = if (talkOf g x2[j]).isSome = false then 8 else if (decide (0 < j) && leB x2[j] (x2[j - 1]'(by omega))) = true then 7 else 0) := by
          show _ = _
          unfold wpE
          rw [HX.out]
          simp only [HO.out]
         clear HO HX
         generalize x2[j] = z at *
         generalize x2[j - 1] = z1 at *
         obtain ⟨q, hq⟩ : ∃ q, q = j - 1 := ⟨_, rfl⟩
         rw [← hq] at s0 hjp
         have hq1 : (0 : Int) ≤ (q : Int) := by omega
         have hq2 : (q : Int) < (x2.length : Int) := by omega
         have Hq := Lib.hid hq
         have Hta := Lib.hid hta
         clear hq
         obtain ⟨lv, hlk⟩ := lookT (g := g) (HF.out _ hbF).t z
         have hfc := (HF.out _ hbF).box.cell 7
         simp at hfc
         have he1 := hEF.cell 1
         simp at he1
         rw [hta] at he1
         rw [hta]
         clear hta
         generalize (talkOf g z).isSome = ist at *
         cases ist
         ·
          have He := Lib.hid (HfI.out 8 (by rw [HPE.out]; rfl) (by decide))
          clear HfI HPE Hfe HE2 hf hfj
          go_wp2_with fail
          go_ret
          exact ⟨by rw [He.out] <;> rfl, hbF⟩
         ·
          go_upto_region 16 with (fail)
          go_cut [68] (fun v wx => v = .bool (decide (0 < j) && leB z z1) ∧ ∃ m, wx = wr.drewN m)
          case first =>
           by_cases h0 : j = 0
           ·
            have hd : decide ((0 : Int) < (j : Int)) = false := decide_eq_false (by omega)
            have hdn : decide (0 < j) = false := decide_eq_false (by omega)
            have Hd : Hid ((decide (0 < j) && leB z z1) = false) := by show _ = _; rw [hdn]; rfl
            clear h0
            skip
            go_wp2_with fail
            go_meet
            exact ⟨by rw [Hd.out] <;> rfl, 0, rfl⟩
           ·
            have hd : decide ((0 : Int) < (j : Int)) = true := decide_eq_true (by omega)
            have hk1 : 0 < j := by omega
            have hk2 : (0 : Int) < (j : Int) := by omega
            have Hd : Hid ((decide (0 < j) && leB z z1) = leB z z1) := by show _ = _; rw [decide_eq_true hk1]; rfl
            have hw2 : IntKind.i64.wrap ((j : Int) - 1) = (q : Int) := by rw [IntWalk.i64_in _ (by omega)]; have := Hq.out; omega
            have hw3 : IntKind.i64.wrap (q : Int) = (q : Int) := IntWalk.i64_in _ (by omega)
            have hp3 : (j : Int) - 1 = (q : Int) := by have := Hq.out; omega
            clear h0
            skip
            go_wp2_with fail
            go_meet
            exact ⟨by rw [Hd.out] <;> rfl, 0, rfl⟩
          case rest =>
           obtain ⟨hv, m2, rfl⟩ := hcut
           rw [hv]
           clear hv hlk hfc he1 t0 s0
           cases hbb : (decide (0 < j) && leB z z1)
           ·
            have Hz : Hid (wpE g x2 j = 0) := by show _ = _; rw [HPE.out, hbb]; rfl
            clear HfI HPE hbb
            go_wp2_with fail
            rw [← Hta.out]
            go_roundg (x2.length - (j + 1))
            case measure => have := hgj.out; omega
            case rel => exact ⟨j + 1, by go_num, by omega, rfl, zeros_succ hfj.out Hz.out, hEF.drewN _, below_drewN hbF _⟩
           ·
            have He := Lib.hid (HfI.out 7 (by rw [HPE.out, hbb]; rfl) (by decide))
            clear HfI HPE Hfe HE2 hf hfj hbb
            go_wp2_with fail
            go_ret
            exact ⟨by rw [He.out] <;> rfl, below_drewN hbF _⟩
        ·
         obtain rfl : j = x2.length := by omega
         have Hz : Hid (wishE g k = 0) := by show _ = _; rw [HE2.out, firstErr_zero hfj.out]
         clear Hfe HE2 hfj
         go_wp2_with fail
         rw [← Ha.out]
         go_roundg (g.wishes.length - (k + 1))
         case measure => have := hgk.out; omega
         case rel => exact ⟨k + 1, by go_num, by omega, rfl, zeros_succ hf.out Hz.out, hbF⟩
      ·
       have He := Lib.hid (Hfe.out 7 (by rw [HE.out, hbb]; rfl) (by decide))
       clear Hfe HE hf hbb
       go_wp2_with fail
       go_ret
       exact ⟨by rw [He.out] <;> rfl, hbF⟩
   ·
    obtain rfl : k = g.wishes.length := by omega
    have He : Hid (R = 0) := by show _ = _; rw [HR.out, firstErr_zero hf.out]
    clear HR hf
    go_wp2_with fail
    go_ret
    exact ⟨by rw [He.out] <;> rfl, hb⟩
def slotAtV (g : Grd) (x : ByteArray) : Value := (mget (idxL (g.slots.map (·.1))) x).getD (.int .i64 0)
theorem lookSv {g : Grd} {b : Nat} {w : World} (h : MBox w b (idxL (g.slots.map (·.1)))) (x : ByteArray) : (Instr.lookup 140 (.map (some b)) (.string x) true).run Tryz.prog w = .ok (.tuple #[slotAtV g x, .bool (slotOf g x).isSome]) w := by
 have h1 := MBox.look h Tryz.underlying140 Tryz.underlying9 _ Tryz.zeroValue3 x true
 rw [h1]
 unfold looked slotOf
 rw [if_pos rfl, idxL_has, find_any]
 rfl
theorem banE_p {g : Grd} {k : Nat} (hk : k < g.bans.length) : banE g k = if keyB g.bans[k].1 = false then 5 else if (slotOf g g.bans[k].2).isSome = false then 8 else if (decide (0 < k) && decide (firstOf [cmpS g.bans[k].1 (g.bans[k - 1]'(by omega)).1, cmpS g.bans[k].2 (g.bans[k - 1]'(by omega)).2] ≤ 0)) = true then 7 else 0 := by
 unfold banE banOrd
 rw [List.getElem?_eq_getElem hk]
 simp only
 cases k with
 | zero => simp
 | succ p =>
  have hp : p < g.bans.length := by omega
  have e2 : (if 0 < p + 1 then g.bans[p + 1 - 1]? else none) = some g.bans[p] := by rw [if_pos (by omega)]; exact List.getElem?_eq_getElem hp
  have e3 : (g.bans[p + 1 - 1]'(by omega)) = g.bans[p] := rfl
  have e4 : decide (0 < p + 1) = true := by simp
  simp only [e2, e3, e4, Bool.true_and]
set_option maxRecDepth 100000 in
set_option maxHeartbeats 8000000 in
theorem bansP_any (g : Grd) (fb br bs bt bb : Nat) (w : World) (hF : FieldAt g fb br bs bt bb w) (hg : GRd w g) (hz : GSm g) : Calls Tryz.prog 85 #[.pointer (some ⟨fb, 0, none⟩), .slice g.ba g.bans.length g.bc] w (Gives (.int .i64 (bansFault g)) w) := by
 have HR : Hid (bansFault g = if 500 < g.bans.length then 2 else firstErr (banE g) g.bans.length) := rfl
 have HZM := Lib.hid hz
 have hn := hz.bans
 have HG := Lib.hid (fun W (h : Below w.heap.size w W) => hg.below h)
 have HF := Lib.hid (fun W (h : Below w.heap.size w W) => hF.below h)
 generalize bansFault g = R at *
 clear hz hg hF
 go_enter Tryz.func85, Tryz.ntmps85
 by_cases q1 : 500 < g.bans.length
 ·
  have hd : decide ((500 : Int) < (g.bans.length : Int)) = true := decide_eq_true (by omega)
  have He : Hid (R = 2) := by show _ = _; rw [HR.out, if_pos q1]
  clear HR q1
  go_wp2_with fail
  go_ret
  exact ⟨by rw [He.out] <;> rfl, Below.refl _ _⟩
 ·
  have hd : decide ((500 : Int) < (g.bans.length : Int)) = false := decide_eq_false (by omega)
  rw [if_neg q1] at HR
  clear q1
  go_wp2_with fail
  clear hd
  go_loopg [14] g.bans.length (fun gk iv wr => ∃ k : Nat, iv = .int .i64 k ∧ k ≤ g.bans.length ∧ Hid (gk = g.bans.length - k) ∧ Hid (∀ j, j < k → banE g j = 0) ∧ Below w.heap.size w wr)
  case atStart => exact ⟨0, rfl, by omega, rfl, fun j hj => by omega, Below.refl _ _⟩
  case round =>
   obtain ⟨k, rfl, hk, hgk, hf, hb⟩ := hrel
   by_cases hlt : k < g.bans.length
   ·
    obtain ⟨b, off, ha, c0, c1⟩ := (HG.out _ hb).bans.banC hlt
    have Hfe : Hid (∀ e, banE g k = e → e ≠ 0 → R = e) := fun e he he0 => HR.out.trans (firstErr_is hlt hf.out he he0)
    have hpl : k - 1 < g.bans.length := by omega
    obtain ⟨b', off', ha', d0, d1⟩ := (HG.out _ hb).bans.banC hpl
    rw [ha] at ha'
    cases ha'
    have hok := HZM.out.ban _ (List.getElem_mem hlt)
    have HE := Lib.hid (banE_p hlt)
    generalize g.bans[k] = x at *
    generalize g.bans[k - 1] = y at *
    obtain ⟨p, hp⟩ : ∃ p, p = k - 1 := ⟨_, rfl⟩
    rw [← hp] at d0 d1 hpl
    have hp1 : (0 : Int) ≤ (p : Int) := by omega
    have hp2 : (p : Int) < (g.bans.length : Int) := by omega
    have Ha := Lib.hid ha
    have Hp := Lib.hid hp
    clear hp
    rw [ha]
    clear ha
    obtain ⟨x1, x2⟩ := x
    obtain ⟨y1, y2⟩ := y
    simp only at c0 c1 d0 d1 hok HE
    obtain ⟨hok1, hok2⟩ := hok
    go_upto_region 6 with (fail)
    have hE1 := Box.new wr 64 #[.string x1, .string x2]
    have hb1 := hb.alloc hb.size (.cells #[.string x1, .string x2] 64)
    have hnew := (Below.refl wr.heap.size wr).alloc (Nat.le_refl _) (.cells #[.string x1, .string x2] 64)
    have hd1 := cell_later hnew d0
    have hd2 := cell_later hnew d1
    clear hb c0 c1 d0 d1 hnew
    generalize wr.alloc (.cells #[.string x1, .string x2] 64) = w2 at *
    generalize wr.heap.size = n2 at *
    have hE1_l := hE1.lt; have hE1_0 := hE1.cell 0; have hE1_1 := hE1.cell 1; simp at hE1_0 hE1_1
    go_wp2_with fail
    clear hE1_l hE1_0 hE1_1
    refine (isKey_any x1 _ (by omega)).mono ?_
    rintro e w3 ⟨rfl, rfl⟩
    generalize keyB x1 = kb at *
    cases kb
    ·
     have He := Lib.hid (Hfe.out 5 (by rw [HE.out]; rfl) (by decide))
     clear Hfe HE hf
     go_wp2_with fail
     go_ret
     exact ⟨by rw [He.out] <;> rfl, hb1⟩
    ·
     go_upto_region 8 with (fail)
     have hc0 := hE1.cell 0
     have hc1 := hE1.cell 1
     have hfc := (HF.out _ hb1).box.cell 6
     simp at hc0 hc1 hfc
     have hms := (HF.out _ hb1).s
     refine wp_region_held_drew (S := (fun wx => wx.cell? ⟨fb, 6, none⟩ = some (.map (some bs)) ∧ wx.cell? ⟨n2, 0, none⟩ = some (.string x1) ∧ wx.cell? ⟨n2, 1, none⟩ = some (.string x2) ∧ wx.cell? ⟨b, off + p * 2, none⟩ = some (.string y1) ∧ wx.cell? ⟨b, off + p * 2 + 1, none⟩ = some (.string y2) ∧ MBox wx bs (idxL (g.slots.map (·.1))))) (by kernel_rfl) ?hS (fun hHeld => ?_)
     case hS => exact ⟨hfc, hc0, hc1, hd1, hd2, hms.drew⟩
     refine rt 0 (some 24) ?_
     refine rt 1 (some 25) ?_
     refine rt 2 (some 26) ?_
     refine rt 3 (some 27) ?_
     refine rt 4 (some 28) ?_
     refine rt 5 (some 29) ?_
     refine rtake (i := 6) (d := (some 30)) (v := ?_) rfl (by kernel_rfl) (by kernel_rfl) (by kernel_rfl) (by kernel_rfl) (fun _ _ _ h => h) (by kernel_rfl) (by assumption) ?_ ?_
     rotate_left 1
     ·
      (intro wI hSI; have hlk := lookSv hSI.2.2.2.2.2 x2; go_simp; (try with_reducible rfl))
     simp only [Act.put, lsetA, lsetZ, lsetS]
     refine rt 7 (some 23) ?_
     refine rt 8 (some 31) ?_
     refine rt 9 (some 32) ?_
     refine rt 10 (some 7) ?_
     refine rt 11 (some 8) ?_
     refine wpAnyH_done (by kernel_rfl) ?_ _
     have hb2 := hb1.drew
     clear hb1 hfc hms hc0 hc1 hd1 hd2 hE1
     obtain ⟨-, hc0, hc1, hd1, hd2, -⟩ := hHeld
     generalize w2.drew = w4 at *
     generalize (slotOf g x2).isSome = iss at *
     cases iss
     ·
      have He := Lib.hid (Hfe.out 8 (by rw [HE.out]; rfl) (by decide))
      clear Hfe HE hf
      go_wp2_with fail
      go_ret
      exact ⟨by rw [He.out] <;> rfl, hb2⟩
     ·
      have HE2 : Hid (banE g k = if (decide (0 < k) && decide (firstOf [cmpS x1 y1, cmpS x2 y2] ≤ 0)) = true then 7 else 0) := HE.out
      have HS1 := Lib.hid (fun W => Tryz.strings_Compare x1 y1 W)
      have HS2 := Lib.hid (fun W => Tryz.strings_Compare x2 y2 W)
      clear HE
      go_upto_region 11 with (fail)
      go_cut [59] (fun v wx => v = .bool (decide (0 < k) && decide (firstOf [cmpS x1 y1, cmpS x2 y2] ≤ 0)) ∧ Below w4.heap.size w4 wx)
      case first =>
       by_cases h0 : k = 0
       ·
        have hd : decide ((0 : Int) < (k : Int)) = false := decide_eq_false (by omega)
        have hdn : decide (0 < k) = false := decide_eq_false (by omega)
        have Hd : Hid ((decide (0 < k) && decide (firstOf [cmpS x1 y1, cmpS x2 y2] ≤ 0)) = false) := by show _ = _; rw [hdn]; rfl
        clear h0
        go_quiet (fail)
        go_wp2_with fail
        go_meet
        exact ⟨by rw [Hd.out] <;> rfl, by (repeat' (first | exact Below.refl _ _ | assumption | refine Below.setCell ?_ ?_ _ | refine below_drewN ?_ _ | refine Below.drew ?_ | refine Below.alloc ?_ ?_ _ | (with_reducible refine Below.trans ?_ (Below.mono hb ?_)) | (with_reducible refine Below.trans ?_ (Below.mono hb0 ?_)) | (with_reducible refine Below.trans ?_ (Below.mono hb1 ?_)) | (with_reducible refine Below.trans ?_ (Below.mono hb2 ?_)) | (with_reducible refine Below.trans ?_ (Below.mono hb3 ?_)) | (with_reducible refine Below.trans ?_ (Below.mono hb4 ?_)) | (with_reducible refine Below.trans ?_ (Below.mono hb5 ?_)) | (with_reducible refine Below.trans ?_ (Below.mono hb6 ?_)) | (with_reducible refine Below.trans ?_ (Below.mono hb7 ?_)) | (with_reducible refine Below.trans ?_ (Below.mono hb8 ?_)) | (with_reducible refine Below.trans ?_ (Below.mono hb9 ?_)) | (with_reducible refine Below.trans ?_ (Below.mono hb10 ?_)) | (with_reducible refine Below.trans ?_ (Below.mono hb11 ?_)) | (with_reducible refine Below.trans ?_ (Below.mono hb12 ?_)) | (with_reducible refine Below.trans ?_ (Below.mono hb13 ?_)) | (with_reducible refine Below.trans ?_ (Below.mono hb14 ?_)) | (with_reducible refine Below.trans ?_ (Below.mono hb15 ?_)) | omega | (simp; done) | (simp; omega)))⟩
       ·
        have hd : decide ((0 : Int) < (k : Int)) = true := decide_eq_true (by omega)
        have hk1 : 0 < k := by omega
        have hk2 : (0 : Int) < (k : Int) := by omega
        have Hd : Hid ((decide (0 < k) && decide (firstOf [cmpS x1 y1, cmpS x2 y2] ≤ 0)) = decide (firstOf [cmpS x1 y1, cmpS x2 y2] ≤ 0)) := by show _ = _; rw [decide_eq_true hk1]; rfl
        have hw2 : IntKind.i64.wrap ((k : Int) - 1) = (p : Int) := by rw [IntWalk.i64_in _ (by omega)]; have := Hp.out; omega
        have hw3 : IntKind.i64.wrap (p : Int) = (p : Int) := IntWalk.i64_in _ (by omega)
        have hp3 : (k : Int) - 1 = (p : Int) := by have := Hp.out; omega
        clear h0
        refine wp_region_held_drew (S := (fun wx => wx.cell? ⟨n2, 0, none⟩ = some (.string x1) ∧ wx.cell? ⟨n2, 1, none⟩ = some (.string x2) ∧ wx.cell? ⟨b, off + p * 2, none⟩ = some (.string y1) ∧ wx.cell? ⟨b, off + p * 2 + 1, none⟩ = some (.string y2) ∧ Below w4.heap.size w4 wx)) (by kernel_rfl) ?hS (fun hHeld => ?_)
        case hS => exact ⟨hc0, hc1, hd1, hd2, (Below.refl _ _).drew⟩
        refine rt 0 (some 35) ?_
        refine rt 1 (some 36) ?_
        refine rt 2 (some 37) ?_
        refine rt 3 (some 38) ?_
        refine rt 4 (some 39) ?_
        refine rt 5 (some 40) ?_
        refine rt 6 (some 41) ?_
        refine rt 7 (some 42) ?_
        refine rt 8 (some 43) ?_
        refine rt 9 (some 44) ?_
        refine rt 10 (some 45) ?_
        refine rt 12 (some 47) ?_
        refine rt 13 (some 48) ?_
        refine rt 14 (some 49) ?_
        refine rt 15 (some 50) ?_
        refine rt 16 (some 51) ?_
        refine rt 17 (some 52) ?_
        refine rt 18 (some 53) ?_
        refine rt 19 (some 54) ?_
        refine rcall (i := 11) (d := (some 46)) (by kernel_rfl) rfl (by kernel_rfl) (fun K hK => ?_)
        go_simp
        go_at_call 96; refine (HS1.out _).mono ?_; rintro e w' ⟨rfl, rfl⟩
        refine hK.out _ _ ?hS (fun hHeld => ?_)
        case hS => exact hHeld
        clear hK K
        simp only [Act.put, lsetA, lsetZ, lsetS]
        refine rcall (i := 20) (d := (some 55)) (by kernel_rfl) rfl (by kernel_rfl) (fun K hK => ?_)
        go_simp
        go_at_call 96; refine (HS2.out _).mono ?_; rintro e w' ⟨rfl, rfl⟩
        refine hK.out _ _ ?hS (fun hHeld => ?_)
        case hS => exact hHeld
        clear hK K
        simp only [Act.put, lsetA, lsetZ, lsetS]
        refine rcall (i := 21) (d := (some 56)) (by kernel_rfl) rfl (by kernel_rfl) (fun K hK => ?_)
        go_simp
        skip
        refine hK.out _ _ ?hS (fun hHeld => ?_)
        case hS => exact (have hA : ∀ (w : World) (o : Obj), Below w.heap.size w (w.alloc o) := fun w o => (Below.refl _ _).alloc (Nat.le_refl _) o; ⟨cell_later (hA _ _) hHeld.1, cell_later (hA _ _) hHeld.2.1, cell_later (hA _ _) hHeld.2.2.1, cell_later (hA _ _) hHeld.2.2.2.1, below_next hHeld.2.2.2.2 (hA _ _)⟩)
        clear hK K
        simp only [Act.put, lsetA, lsetZ, lsetS]
        refine rcall (i := 22) (d := (some 57)) (by kernel_rfl) rfl (by kernel_rfl) (fun K hK => ?_)
        go_simp
        go_at_call 95; refine (orI_any [cmpS x1 y1, cmpS x2 y2] _ 2 _ (Box.sa (by first | exact Box.new _ _ _ | exact (Box.new _ _ _).drew) [cmpS x1 y1, cmpS x2 y2] rfl) (by simp)).mono ?_; rintro e w' ⟨rfl, rfl⟩
        refine hK.out _ _ ?hS (fun hHeld => ?_)
        case hS => exact hHeld
        clear hK K
        simp only [Act.put, lsetA, lsetZ, lsetS]
        refine rt 23 (some 58) ?_
        refine rt 24 (some 59) ?_
        refine wpAnyH_done (by kernel_rfl) ?_ _
        (try go_wp2_with fail)
        go_meet
        exact ⟨by rw [Hd.out] <;> rfl, hHeld.2.2.2.2⟩
      case rest =>
       obtain ⟨hv, hb5⟩ := hcut
       rw [hv]
       have hbF := below_next hb2 hb5
       clear hv hb5 hb2 hc0 hc1 hd1 hd2
       cases hbb : (decide (0 < k) && decide (firstOf [cmpS x1 y1, cmpS x2 y2] ≤ 0))
       ·
        have Hz : Hid (banE g k = 0) := by show _ = _; rw [HE2.out, hbb]; rfl
        clear Hfe HE2 hbb
        go_wp2_with fail
        rw [← Ha.out]
        go_roundg (g.bans.length - (k + 1))
        case measure => have := hgk.out; omega
        case rel => exact ⟨k + 1, by go_num, by omega, rfl, zeros_succ hf.out Hz.out, hbF⟩
       ·
        have He := Lib.hid (Hfe.out 7 (by rw [HE2.out, hbb]; rfl) (by decide))
        clear Hfe HE2 hf hbb
        go_wp2_with fail
        go_ret
        exact ⟨by rw [He.out] <;> rfl, hbF⟩
   ·
    obtain rfl : k = g.bans.length := by omega
    have He : Hid (R = 0) := by show _ = _; rw [HR.out, firstErr_zero hf.out]
    clear HR hf
    go_wp2_with fail
    go_ret
    exact ⟨by rw [He.out] <;> rfl, hb⟩
set_option maxRecDepth 100000 in
set_option maxHeartbeats 8000000 in
theorem checkGrid_any (g : Grd) (w : World) (hg : GRd w g) (hz : GSm g) : Calls Tryz.prog 32 #[g.agg] w (Gives (.int .i64 (gridFault g)) w) := by
 have HR : Hid (gridFault g = if roomsFault g.rooms ≠ 0 then roomsFault g.rooms else if slotsFault g.slots ≠ 0 then slotsFault g.slots else if talksFault g.talks ≠ 0 then talksFault g.talks else if wishesFault g ≠ 0 then wishesFault g else bansFault g) := rfl
 have HG := Lib.hid (fun W (h : Below w.heap.size w W) => hg.below h)
 have H1 := Lib.hid (fun W (h : GRd W g) => roomsP_any g.rooms g.ra g.rc W h.rooms hz.rooms hz.room)
 have H2 := Lib.hid (fun W (h : GRd W g) => slotsP_any g.slots g.sa g.sc W h.slots hz.slots (fun x hx => (hz.slot x hx).1))
 have H3 := Lib.hid (fun W (h : GRd W g) => talksP_any g.talks g.ta g.tc W h.talks hz.talks hz.talk (fun t ht => ⟨h.speakers t ht, h.topics t ht⟩))
 have H4 := Lib.hid (fun W (h : GRd W g) => fieldOf_any g W h hz)
 have H5 := Lib.hid (fun fb br bs bt bb W (hF : FieldAt g fb br bs bt bb W) (h : GRd W g) => wishesP_any g fb br bs bt bb W hF h hz)
 have H6 := Lib.hid (fun fb br bs bt bb W (hF : FieldAt g fb br bs bt bb W) (h : GRd W g) => bansP_any g fb br bs bt bb W hF h hz)
 generalize gridFault g = R at *
 generalize roomsFault g.rooms = f1 at *
 generalize slotsFault g.slots = f2 at *
 generalize talksFault g.talks = f3 at *
 generalize wishesFault g = f4 at *
 generalize bansFault g = f5 at *
 clear hg hz
 rw [Grd.agg_eq] at H4 ⊢
 have hX := Box.new w 32 #[.slice g.ra g.rooms.length g.rc, .slice g.sa g.slots.length g.sc, .slice g.ta g.talks.length g.tc, .slice g.wa g.wishes.length g.wc, .slice g.ba g.bans.length g.bc]
 have hb0 : Below w.heap.size w (w.alloc (.cells #[.slice g.ra g.rooms.length g.rc, .slice g.sa g.slots.length g.sc, .slice g.ta g.talks.length g.tc, .slice g.wa g.wishes.length g.wc, .slice g.ba g.bans.length g.bc] 32)) := (Below.refl _ _).alloc (Nat.le_refl _) _
 go_enter Tryz.func32, Tryz.ntmps32
 go_upto_region 1 with (fail)
 generalize w.alloc (.cells #[.slice g.ra g.rooms.length g.rc, .slice g.sa g.slots.length g.sc, .slice g.ta g.talks.length g.tc, .slice g.wa g.wishes.length g.wc, .slice g.ba g.bans.length g.bc] 32) = w1 at *
 have hc0 := hX.cell 0
 have hc1 := hX.cell 1
 have hc2 := hX.cell 2
 simp at hc0 hc1 hc2
 refine wp_region_held_drew (S := (fun wx => wx.cell? ⟨w.heap.size, 0, none⟩ = some (.slice g.ra g.rooms.length g.rc) ∧ wx.cell? ⟨w.heap.size, 1, none⟩ = some (.slice g.sa g.slots.length g.sc) ∧ wx.cell? ⟨w.heap.size, 2, none⟩ = some (.slice g.ta g.talks.length g.tc) ∧ Below w1.heap.size w1 wx)) (by kernel_rfl) ?hS (fun hHeld => ?_)
 case hS => exact ⟨hc0, hc1, hc2, (Below.refl _ _).drew⟩
 refine rt 0 (some 7) ?_
 refine rt 1 (some 8) ?_
 refine rt 3 (some 10) ?_
 refine rt 4 (some 11) ?_
 refine rt 6 (some 13) ?_
 refine rt 7 (some 14) ?_
 refine rt 10 (some 17) ?_
 refine rcall (i := 2) (d := (some 9)) (by kernel_rfl) rfl (by kernel_rfl) (fun K hK => ?_)
 go_simp
 go_at_call 81; refine (H1.out _ (HG.out _ (below_next hb0 hHeld.2.2.2))).mono ?_; rintro e w3 ⟨rfl, hb3⟩
 refine hK.out _ _ ?hS (fun hHeld => ?_)
 case hS => exact ⟨cell_later hb3 hHeld.1, cell_later hb3 hHeld.2.1, cell_later hb3 hHeld.2.2.1, below_next hHeld.2.2.2 hb3⟩
 clear hK K
 simp only [Act.put, lsetA, lsetZ, lsetS]
 refine rcall (i := 5) (d := (some 12)) (by kernel_rfl) rfl (by kernel_rfl) (fun K hK => ?_)
 go_simp
 go_at_call 82; refine (H2.out _ (HG.out _ (below_next hb0 hHeld.2.2.2))).mono ?_; rintro e w4 ⟨rfl, hb3⟩
 refine hK.out _ _ ?hS (fun hHeld => ?_)
 case hS => exact ⟨cell_later hb3 hHeld.1, cell_later hb3 hHeld.2.1, cell_later hb3 hHeld.2.2.1, below_next hHeld.2.2.2 hb3⟩
 clear hK K
 simp only [Act.put, lsetA, lsetZ, lsetS]
 refine rcall (i := 8) (d := (some 15)) (by kernel_rfl) rfl (by kernel_rfl) (fun K hK => ?_)
 go_simp
 go_at_call 83; refine (H3.out _ (HG.out _ (below_next hb0 hHeld.2.2.2))).mono ?_; rintro e w5 ⟨rfl, hb3⟩
 refine hK.out _ _ ?hS (fun hHeld => ?_)
 case hS => exact ⟨cell_later hb3 hHeld.1, cell_later hb3 hHeld.2.1, cell_later hb3 hHeld.2.2.1, below_next hHeld.2.2.2 hb3⟩
 clear hK K
 simp only [Act.put, lsetA, lsetZ, lsetS]
 refine rt 9 (some 16) ?_
 refine wpAnyH_done (by kernel_rfl) ?_ _
 have hbA := below_next hb0 hHeld.2.2.2
 have hXA := hX.below hHeld.2.2.2
 clear hHeld hX hb0 hc0 hc1 hc2 H1 H2 H3
 have hi0 : ∀ W, (Instr.index 136 (.agg #[.int .i64 f1, .int .i64 f2, .int .i64 f3]) (.int .i64 0)).run Tryz.prog W = .ok (.int .i64 f1) W := fun W => by
  simp [Instr.index, run_underlying Tryz.underlying136, asIntOf, part, go_sem, Tryz.sizeOf36, Tryz.isAgg36]
 have hi1 : ∀ W, (Instr.index 136 (.agg #[.int .i64 f1, .int .i64 f2, .int .i64 f3]) (.int .i64 1)).run Tryz.prog W = .ok (.int .i64 f2) W := fun W => by
  simp [Instr.index, run_underlying Tryz.underlying136, asIntOf, part, go_sem, Tryz.sizeOf36, Tryz.isAgg36]
 have hi2 : ∀ W, (Instr.index 136 (.agg #[.int .i64 f1, .int .i64 f2, .int .i64 f3]) (.int .i64 2)).run Tryz.prog W = .ok (.int .i64 f3) W := fun W => by
  simp [Instr.index, run_underlying Tryz.underlying136, asIntOf, part, go_sem, Tryz.sizeOf36, Tryz.isAgg36]
 go_wp2_with fail
 refine wp_loop_rounds 4 ?_
 by_cases q1 : f1 = 0
 ·
  subst q1
  rw [if_neg (fun h => h rfl)] at HR
  rw [rounds_succ]
  go_wp2_with fail
  by_cases q2 : f2 = 0
  ·
   subst q2
   rw [if_neg (fun h => h rfl)] at HR
   rw [rounds_succ]
   go_wp2_with fail
   by_cases q3 : f3 = 0
   ·
    subst q3
    rw [if_neg (fun h => h rfl)] at HR
    rw [rounds_succ]
    go_wp2_with fail
    rw [rounds_succ]
    have hXA_l := hXA.lt; have hXA_0 := hXA.cell 0; have hXA_1 := hXA.cell 1; have hXA_2 := hXA.cell 2; have hXA_3 := hXA.cell 3; have hXA_4 := hXA.cell 4; simp at hXA_0 hXA_1 hXA_2 hXA_3 hXA_4
    go_wp2_with fail
    clear hXA_l hXA_0 hXA_1 hXA_2 hXA_3 hXA_4
    refine (H4.out _ (HG.out _ hbA)).mono ?_
    rintro e w6 ⟨fb, br, bs, bt, bb, rfl, hF, -, hb6⟩
    have hXB := hXA.below hb6
    have hbB := below_next hbA hb6
    clear hXA hbA hb6
    have hXB_l := hXB.lt; have hXB_0 := hXB.cell 0; have hXB_1 := hXB.cell 1; have hXB_2 := hXB.cell 2; have hXB_3 := hXB.cell 3; have hXB_4 := hXB.cell 4; simp at hXB_0 hXB_1 hXB_2 hXB_3 hXB_4
    go_wp2_with fail
    clear hXB_l hXB_0 hXB_1 hXB_2 hXB_3 hXB_4
    refine (H5.out _ _ _ _ _ _ hF (HG.out _ hbB)).mono ?_
    rintro e w7 ⟨rfl, hb7⟩
    have hXC := hXB.below hb7
    have hbC := below_next hbB hb7
    have hFC := hF.below hb7
    clear hXB hbB hb7 hF
    by_cases q4 : f4 = 0
    ·
     subst q4
     rw [if_neg (fun h => h rfl)] at HR
     have hXC_l := hXC.lt; have hXC_0 := hXC.cell 0; have hXC_1 := hXC.cell 1; have hXC_2 := hXC.cell 2; have hXC_3 := hXC.cell 3; have hXC_4 := hXC.cell 4; simp at hXC_0 hXC_1 hXC_2 hXC_3 hXC_4
     go_wp2_with fail
     refine (H6.out _ _ _ _ _ _ hFC (HG.out _ hbC)).mono ?_
     rintro e w8 ⟨rfl, hb8⟩
     go_wp2_with fail
     go_ret
     exact ⟨by rw [HR.out] <;> rfl, below_next hbC hb8⟩
    ·
     have hq : (f4 != 0) = true := by simpa using q4
     have He : Hid (R = f4) := by show _ = _; rw [HR.out, if_pos q4]
     clear HR
     go_wp2_with fail
     go_ret
     exact ⟨by rw [He.out] <;> rfl, hbC⟩
   ·
    have hq : (f3 != 0) = true := by simpa using q3
    have He : Hid (R = f3) := by show _ = _; rw [HR.out, if_pos q3]
    clear HR
    rw [rounds_succ]
    go_wp2_with fail
    go_ret
    exact ⟨by rw [He.out] <;> rfl, hbA⟩
  ·
   have hq : (f2 != 0) = true := by simpa using q2
   have He : Hid (R = f2) := by show _ = _; rw [HR.out, if_pos q2]
   clear HR
   rw [rounds_succ]
   go_wp2_with fail
   go_ret
   exact ⟨by rw [He.out] <;> rfl, hbA⟩
 ·
  have hq : (f1 != 0) = true := by simpa using q1
  have He : Hid (R = f1) := by show _ = _; rw [HR.out, if_pos q1]
  clear HR
  rw [rounds_succ]
  go_wp2_with fail
  go_ret
  exact ⟨by rw [He.out] <;> rfl, hbA⟩
end Go.Proofs.YtldgphhiajhfhaaGreatDoor
