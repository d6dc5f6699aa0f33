/- What is wrong with chairs, and who can chair: program and reference. -/
import Derived.Test.YtbfhcdnchmddeaaGreatDoorMtc
import Derived.Test.YtbfhcdnchmddeaaGreatDoorPrgC1
import Derived.Test.YtbfhcdnchmddeaaGreatDoorGridR4
import Derived.Test.YtbfhcdnchmddeaaGreatDoorPrgC3
import Derived.Test.YtbfhcdnchmddeaaGreatDoorGridR2
namespace Go.Proofs.YtbfhcdnchmddeaaGreatDoor
open Go.RowKit
set_option linter.unusedVariables false
set_option linter.unusedSimpArgs false

theorem chrE_at {l : List Wsh} {k : Nat} (hlt : k < l.length) : chrE l k = if keyB l[k].person = false then 5 else if (decide (0 < k) && leB l[k].person (l[k - 1]'(by omega)).person) = true then 7 else if 8 < l[k].papers.length then 2 else riseFault l[k].papers := by
 unfold chrE
 rw [List.getElem?_eq_getElem hlt]
 simp only [ordB_prevM Wsh.person hlt]
set_option maxRecDepth 100000 in
set_option maxHeartbeats 4000000 in
theorem chairsP_any (l : List Wsh) (la : Option Addr) (lc : Nat) (w : World) (hl : SA w la l) (hn : l.length ≤ 1000) (hok : ∀ x ∈ l, WshOk x) (hrd : ∀ t ∈ l, SA w t.a1 t.papers) : Calls Tryz.prog 49 #[.slice la l.length lc] w (Gives (.int .i64 (chairsF l)) w) := by
 have HR : Hid (chairsF l = if 60 < l.length then 2 else firstErr (chrE l) l.length) := rfl
 have HOK := Lib.hid hok
 generalize chairsF l = R at *
 clear hok
 go_enter Tryz.func49, Tryz.ntmps49
 by_cases q1 : 60 < l.length
 ·
  have hd : decide ((60 : Int) < (l.length : Int)) = true := decide_eq_true (by omega)
  have He : Hid (R = 2) := by show _ = _; rw [HR.out, if_pos q1]
  clear HR q1
  go_wp2_with fail
  go_ret
  exact ⟨by rw [He.out] <;> rfl, Below.refl _ _⟩
 ·
  have hd : decide ((60 : Int) < (l.length : Int)) = false := decide_eq_false (by omega)
  rw [if_neg q1] at HR
  clear q1
  go_wp2_with fail
  clear hd
  go_loopg [11] l.length (fun gk iv wr => ∃ k : Nat, iv = .int .i64 k ∧ k ≤ l.length ∧ Hid (gk = l.length - k) ∧ Hid (∀ j, j < k → chrE l j = 0) ∧ Below w.heap.size w wr)
  case atStart => exact ⟨0, rfl, by omega, rfl, fun j hj => by omega, Below.refl _ _⟩
  case round =>
   obtain ⟨k, rfl, hk, hgk, hf, hb⟩ := hrel
   by_cases hlt : k < l.length
   ·
    obtain ⟨b, off, ha, c0, c1⟩ := (hl.below hb).wshC hlt
    have Hfe : Hid (∀ e, chrE l k = e → e ≠ 0 → R = e) := fun e he he0 => HR.out.trans (firstErr_is hlt hf.out he he0)
    have hpl : k - 1 < l.length := by omega
    obtain ⟨b', off', ha', d0, d1⟩ := (hl.below hb).wshC hpl
    rw [ha] at ha'
    cases ha'
    have hxm : l[k] ∈ l := List.getElem_mem hlt
    have hok := HOK.out _ hxm
    have hr1 := hrd _ hxm
    have HE := Lib.hid (chrE_at hlt)
    clear d1 hxm
    generalize l[k] = x at *
    generalize l[k - 1] = y at *
    obtain ⟨p, hp⟩ : ∃ p, p = k - 1 := ⟨_, rfl⟩
    rw [← hp] at d0 hpl
    have hp1 : (0 : Int) ≤ (p : Int) := by omega
    have hp2 : (p : Int) < (l.length : Int) := by omega
    have Ha := Lib.hid ha
    have Hp := Lib.hid hp
    clear hp
    rw [ha]
    clear ha
    obtain ⟨x1, x2, x3, x4⟩ := x
    generalize y.person = y1 at *
    simp only at c0 c1 hok hr1 HE
    have hok1 : x1.size ≤ 1000 := hok.1; have hok2 : x2.length ≤ 1000 := hok.2.1; have hok3 : ∀ y ∈ x2, y.size ≤ 1000 := hok.2.2.1
    clear hok
    go_upto_region 6 with (fail)
    have hE1 := Box.new wr 90 #[.string x1, .slice x3 x2.length x4]
    have hb1 := hb.alloc hb.size (.cells #[.string x1, .slice x3 x2.length x4] 90)
    have hd1 : (wr.alloc (.cells #[.string x1, .slice x3 x2.length x4] 90)).cell? ⟨b, off + p * 2, none⟩ = some (.string y1) := cell_later ((Below.refl _ _).alloc (Nat.le_refl _) _) d0
    clear hb c0 c1 d0
    generalize wr.alloc (.cells #[.string x1, .slice x3 x2.length x4] 90) = w2 at *
    generalize wr.heap.size = n2 at *
    have hE1_l := hE1.lt; have hE1_0 := hE1.cell 0; have hE1_1 := hE1.cell 1; simp at hE1_0 hE1_1
    go_wp2_with fail
    clear hE1_l hE1_0 hE1_1
    refine (isKey_any x1 _ (by omega)).mono ?_
    rintro e w3 ⟨rfl, rfl⟩
    have hb2 := hb1
    generalize keyB x1 = kb at *
    cases kb
    ·
     have He := Lib.hid (Hfe.out 5 (by rw [HE.out]; rfl) (by decide))
     clear Hfe HE hf
     go_wp2_with fail
     go_ret
     exact ⟨by rw [He.out] <;> rfl, hb2⟩
    ·
     go_upto_region 8 with (fail)
     have hc0 := hE1.cell 0
     simp at hc0
     go_cut [21] (fun v wx => v = .bool (decide (0 < k) && leB x1 y1) ∧ ∃ m, wx = w2.drewN m)
     case first =>
      by_cases h0 : k = 0
      ·
       have hd : decide ((0 : Int) < (k : Int)) = false := decide_eq_false (by omega)
       have hdn : decide (0 < k) = false := decide_eq_false (by omega)
       have Hd : Hid ((decide (0 < k) && leB x1 y1) = false) := by show _ = _; rw [hdn]; rfl
       clear h0
       go_quiet (fail)
       go_wp2_with fail
       go_meet
       exact ⟨by rw [Hd.out] <;> rfl, _, rfl⟩
      ·
       have hd : decide ((0 : Int) < (k : Int)) = true := decide_eq_true (by omega)
       have hk1 : 0 < k := by omega
       have hk2 : (0 : Int) < (k : Int) := by omega
       have Hd : Hid ((decide (0 < k) && leB x1 y1) = leB x1 y1) := by show _ = _; rw [decide_eq_true hk1]; rfl
       have hw2 : IntKind.i64.wrap ((k : Int) - 1) = (p : Int) := by rw [IntWalk.i64_in _ (by omega)]; have := Hp.out; omega
       have hw3 : IntKind.i64.wrap (p : Int) = (p : Int) := IntWalk.i64_in _ (by omega)
       have hp3 : (k : Int) - 1 = (p : Int) := by have := Hp.out; omega
       clear h0
       go_quiet (fail)
       go_wp2_with fail
       go_meet
       exact ⟨by rw [Hd.out] <;> rfl, _, rfl⟩
     case rest =>
      obtain ⟨hv, m, rfl⟩ := hcut
      rw [hv]
      have hEF : Box (w2.drewN m) n2 90 #[.string x1, .slice x3 x2.length x4] := hE1
      have hbF : Below w.heap.size w (w2.drewN m) := below_drewN hb1 _
      clear hE1 hb1 hb2 hd1 hc0 hv
      cases hbb : (decide (0 < k) && leB x1 y1)
      ·
       rw [hbb] at HE
       clear hbb
       rw [if_neg (show ¬ (true = false) by decide), if_neg (show ¬ (false = true) by decide)] at HE
       have hEF_l := hEF.lt; have hEF_0 := hEF.cell 0; have hEF_1 := hEF.cell 1; simp at hEF_0 hEF_1
       by_cases q8 : 8 < x2.length
       ·
        have hd : decide ((8 : Int) < (x2.length : Int)) = true := decide_eq_true (by omega)
        have He := Lib.hid (Hfe.out 2 (by rw [HE.out, if_pos q8]) (by decide))
        clear Hfe HE hf q8
        go_wp2_with fail
        go_ret
        exact ⟨by rw [He.out] <;> rfl, hbF⟩
       ·
        have hd : decide ((8 : Int) < (x2.length : Int)) = false := decide_eq_false (by omega)
        rw [if_neg q8] at HE
        go_wp2_with fail
        refine (risingFault_any x2 x3 x4 _ (hr1.below hbF) (by omega) hok3).mono ?_
        rintro e w9 ⟨rfl, hb9⟩
        have hbG := below_next hbF hb9
        clear hEF_l hEF_0 hEF_1
        clear hEF hbF hb9 hd
        generalize riseFault x2 = f1 at *
        by_cases qf1 : f1 = 0
        ·
         subst qf1
         have Hz : Hid (chrE l k = 0) := HE.out
         clear Hfe HE
         go_wp2_with fail
         rw [← Ha.out]
         go_roundg (l.length - (k + 1))
         case measure => have := hgk.out; omega
         case rel => exact ⟨k + 1, by go_num, by omega, rfl, zeros_succ hf.out Hz.out, hbG⟩
        ·
         have hq : (f1 != 0) = true := by simpa using qf1
         have He := Lib.hid (Hfe.out f1 HE.out (by assumption))
         clear Hfe HE hf
         go_wp2_with fail
         go_ret
         exact ⟨by rw [He.out] <;> rfl, hbG⟩
      ·
       rw [hbb] at HE
       have He := Lib.hid (Hfe.out 7 (by rw [HE.out]; rfl) (by decide))
       clear Hfe HE hf
       go_wp2_with fail
       go_ret
       exact ⟨by rw [He.out] <;> rfl, hbF⟩
   ·
    obtain rfl : k = l.length := by omega
    have He : Hid (R = 0) := by show _ = _; rw [HR.out, firstErr_zero hf.out]
    clear HR hf
    go_wp2_with fail
    go_ret
    exact ⟨by rw [He.out] <;> rfl, hb⟩
set_option maxRecDepth 100000 in
set_option maxHeartbeats 4000000 in
theorem chairsR_any (l : List Wsh) (la : Option Addr) (lc : Nat) (w : World) (hl : SA w la l) (hn : l.length ≤ 1000) (hok : ∀ x ∈ l, WshOk x) (hrd : ∀ t ∈ l, SA w t.a1 t.papers) : Calls Tryz.prog 13 #[.slice la l.length lc] w (Gives (.int .i64 (chairsF l)) w) := by
 have HK := Lib.hid (fun i x y W => keyFault_any i x y W)
 have HR : Hid (chairsF l = if 60 < l.length then 2 else firstErr (chrE l) l.length) := rfl
 have HOK := Lib.hid hok
 generalize chairsF l = R at *
 clear hok
 go_enter Tryz.func13, Tryz.ntmps13
 by_cases q1 : 60 < l.length
 ·
  have hd : decide ((60 : Int) < (l.length : Int)) = true := decide_eq_true (by omega)
  have He : Hid (R = 2) := by show _ = _; rw [HR.out, if_pos q1]
  clear HR q1
  go_wp2_with fail
  go_ret
  exact ⟨by rw [He.out] <;> rfl, Below.refl _ _⟩
 ·
  have hd : decide ((60 : Int) < (l.length : Int)) = false := decide_eq_false (by omega)
  rw [if_neg q1] at HR
  clear q1
  go_wp2_with fail
  clear hd
  go_loopg [12] l.length (fun gk iv wr => ∃ k : Nat, iv = .int .i64 k ∧ k ≤ l.length ∧ Hid (gk = l.length - k) ∧ Hid (∀ j, j < k → chrE l j = 0) ∧ Below w.heap.size w wr)
  case atStart => exact ⟨0, rfl, by omega, rfl, fun j hj => by omega, Below.refl _ _⟩
  case round =>
   obtain ⟨k, rfl, hk, hgk, hf, hb⟩ := hrel
   by_cases hlt : k < l.length
   ·
    obtain ⟨b, off, ha, c0, c1⟩ := (hl.below hb).wshC hlt
    have Hfe : Hid (∀ e, chrE l k = e → e ≠ 0 → R = e) := fun e he he0 => HR.out.trans (firstErr_is hlt hf.out he he0)
    have hpl : k - 1 < l.length := by omega
    obtain ⟨b', off', ha', d0, d1⟩ := (hl.below hb).wshC hpl
    rw [ha] at ha'
    cases ha'
    have hxm : l[k] ∈ l := List.getElem_mem hlt
    have hok := HOK.out _ hxm
    have hr1 := hrd _ hxm
    have HE0 := chrE_at hlt
    clear d1 hxm
    generalize l[k] = x at *
    generalize l[k - 1] = y at *
    obtain ⟨p, hp⟩ : ∃ p, p = k - 1 := ⟨_, rfl⟩
    rw [← hp] at d0 hpl
    have hp1 : (0 : Int) ≤ (p : Int) := by omega
    have hp2 : (p : Int) < (l.length : Int) := by omega
    have hw : IntKind.i64.wrap ((k : Int) - 1) = (k : Int) - 1 := IntWalk.i64_in _ (by omega)
    have hmx : max ((k : Int) - 1) 0 = (p : Int) := by omega
    have Ha := Lib.hid ha
    rw [ha]
    clear ha hp
    obtain ⟨x1, x2, x3, x4⟩ := x
    generalize y.person = y1 at *
    simp only at c0 c1 hok hr1 HE0
    have HE1 : Hid (kfN k x1 y1 ≠ 0 → chrE l k = kfN k x1 y1) := fun h => by
     unfold kfN at h ⊢
     rw [HE0]
     by_cases h1 : keyB x1 = false
     ·
      rw [if_pos h1, if_pos h1]
     ·
      rw [if_neg h1] at h ⊢
      rw [if_neg h1]
      by_cases h2 : (decide (0 < k) && leB x1 y1) = true
      ·
       rw [if_pos h2, if_pos h2]
      ·
       rw [if_neg h2] at h; exact absurd rfl h
    have HE2 : Hid (kfN k x1 y1 = 0 → chrE l k = if 8 < x2.length then 2 else riseFault x2) := fun h => by
     unfold kfN at h
     rw [HE0]
     by_cases h1 : keyB x1 = false
     ·
      rw [if_pos h1] at h; cases h
     ·
      rw [if_neg h1] at h ⊢
      by_cases h2 : (decide (0 < k) && leB x1 y1) = true
      ·
       rw [if_pos h2] at h; cases h
      ·
       rw [if_neg h2]
    clear HE0
    have hok1 : x1.size ≤ 1000 := hok.1; have hok2 : x2.length ≤ 1000 := hok.2.1; have hok3 : ∀ y ∈ x2, y.size ≤ 1000 := hok.2.2.1
    clear hok
    go_upto_region 6 with (fail)
    have hE1 := Box.new wr 90 #[.string x1, .slice x3 x2.length x4]
    have hb1 := hb.alloc hb.size (.cells #[.string x1, .slice x3 x2.length x4] 90)
    have hd1 : (wr.alloc (.cells #[.string x1, .slice x3 x2.length x4] 90)).cell? ⟨b, off + p * 2, none⟩ = some (.string y1) := cell_later ((Below.refl _ _).alloc (Nat.le_refl _) _) d0
    clear hb c0 c1 d0
    generalize wr.alloc (.cells #[.string x1, .slice x3 x2.length x4] 90) = w2 at *
    generalize wr.heap.size = n2 at *
    have hE_0 := hE1.cell 0
    simp at hE_0
    refine wp_region_held_drew (S := (fun wx => wx.cell? ⟨n2, 0, none⟩ = some (.string x1) ∧ wx.cell? ⟨b, off + p * 2, none⟩ = some (.string y1) ∧ Below w2.heap.size w2 wx)) (by kernel_rfl) ?hS (fun hHeld => ?_)
    case hS => exact ⟨hE_0, hd1, (Below.refl _ _).drew⟩
    refine rt 0 (some 17) ?_
    refine rt 1 (some 18) ?_
    refine rt 2 (some 19) ?_
    refine rt 3 (some 20) ?_
    refine rt 4 (some 21) ?_
    refine rt 5 (some 22) ?_
    refine rt 6 (some 23) ?_
    refine rt 7 (some 24) ?_
    refine rt 8 (some 25) ?_
    refine rt 9 (some 26) ?_
    refine rcall (i := 10) (d := (some 27)) (by kernel_rfl) rfl (by kernel_rfl) (fun K hK => ?_)
    go_simp
    go_at_call 53; refine (HK.out k x1 y1 _ (by omega) (by omega)).mono ?_; rintro e w3 ⟨rfl, hb3⟩
    refine hK.out _ _ ?hS (fun hHeld => ?_)
    case hS => exact ⟨cell_later hb3 hHeld.1, cell_later hb3 hHeld.2.1, below_next hHeld.2.2 hb3⟩
    clear hK K
    simp only [Act.put, lsetA, lsetZ, lsetS]
    refine rt 11 (some 5) ?_
    refine wpAnyH_done (by kernel_rfl) ?_ _
    have hEF := hE1.below hHeld.2.2
    have hbF := below_next hb1 hHeld.2.2
    clear hE1 hb1 hE_0 hd1 hHeld
    generalize kfN k x1 y1 = f at *
    by_cases q : f = 0
    ·
     subst q
     have HE := Lib.hid (HE2.out rfl)
     clear HE1 HE2
     have hEF_l := hEF.lt; have hEF_0 := hEF.cell 0; have hEF_1 := hEF.cell 1; simp at hEF_0 hEF_1
     by_cases q8 : 8 < x2.length
     ·
      have hd : decide ((8 : Int) < (x2.length : Int)) = true := decide_eq_true (by omega)
      have He := Lib.hid (Hfe.out 2 (by rw [HE.out, if_pos q8]) (by decide))
      clear Hfe HE hf q8
      go_wp2_with fail
      go_ret
      exact ⟨by rw [He.out] <;> rfl, hbF⟩
     ·
      have hd : decide ((8 : Int) < (x2.length : Int)) = false := decide_eq_false (by omega)
      rw [if_neg q8] at HE
      go_wp2_with fail
      refine (risingKeys_any x2 x3 x4 _ (hr1.below hbF) (by omega) hok3).mono ?_
      rintro e w9 ⟨rfl, hb9⟩
      have hbG := below_next hbF hb9
      clear hEF_l hEF_0 hEF_1
      clear hEF hbF hb9 hd
      generalize riseFault x2 = f1 at *
      by_cases qf1 : f1 = 0
      ·
       subst qf1
       have Hz : Hid (chrE l k = 0) := HE.out
       clear Hfe HE
       go_wp2_with fail
       rw [← Ha.out]
       go_roundg (l.length - (k + 1))
       case measure => have := hgk.out; omega
       case rel => exact ⟨k + 1, by go_num, by omega, rfl, zeros_succ hf.out Hz.out, hbG⟩
      ·
       have hq : (f1 != 0) = true := by simpa using qf1
       have He := Lib.hid (Hfe.out f1 HE.out (by assumption))
       clear Hfe HE hf
       go_wp2_with fail
       go_ret
       exact ⟨by rw [He.out] <;> rfl, hbG⟩
    ·
     have hq : (f != 0) = true := by simpa using q
     have He := Lib.hid (Hfe.out f (HE1.out q) (by assumption))
     clear Hfe HE1 HE2 hf
     go_wp2_with fail
     go_ret
     exact ⟨by rw [He.out] <;> rfl, hbF⟩
   ·
    obtain rfl : k = l.length := by omega
    have He : Hid (R = 0) := by show _ = _; rw [HR.out, firstErr_zero hf.out]
    clear HR hf
    go_wp2_with fail
    go_ret
    exact ⟨by rw [He.out] <;> rfl, hb⟩
theorem tlkf2 (a d e f : Value) (w : World) : (Instr.field 79 (.agg #[a, d, e, f]) 2).run Tryz.prog w = .ok e w := by kernel_rfl
/-- A chair lies in a block of its own. -/
def ChrBox (w : World) (b : Nat) (c : Wsh) : Prop := Box w b 90 #[.string c.person, .slice c.a1 c.papers.length c.c1]
def Wsh.aggC (c : Wsh) : Value := .agg #[.string c.person, .slice c.a1 c.papers.length c.c1]
set_option maxRecDepth 100000 in
theorem canClo2_any (c : Wsh) (bc : Nat) (t : ByteArray) (w : World) (hB : ChrBox w bc c) (hs : SA w c.a1 c.papers) (hl : c.papers.length ≤ 1000000) :
  Calls Tryz.prog 127 #[.string t, .pointer (some ⟨bc, 0, none⟩)] w (Gives (.bool (inB c.papers t)) w) := by
 obtain ⟨c1, c2, c3, c4⟩ := c
 unfold ChrBox at hB
 simp only at hB hs hl ⊢
 have HT := Lib.hid (contains_any c2 c3 c4 t w hs (by omega))
 have HB : Hid (c2.any (fun y => decide (y = t)) = inB c2 t) := rfl
 rw [HB.out] at HT
 generalize inB c2 t = q at *
 have h1 := hB.cell 1
 simp at h1
 clear hs hB
 go_enter Tryz.func127, Tryz.ntmps127
 go_wp2_with fail
 refine HT.out.mono ?_
 rintro e w2 ⟨rfl, rfl⟩
 go_wp2_with fail
 go_ret
 exact ⟨rfl, Below.refl _ _⟩
set_option maxRecDepth 100000 in
set_option maxHeartbeats 2000000 in
theorem canClo_any (g : Grd) (fb br bs bt bb : Nat) (c : Wsh) (bf bc : Nat) (x : ByteArray) (w : World) (hF : FieldAt g fb br bs bt bb w) (hg : GRd w g) (hz : GSm g) (hn : GNd g) (hB : ChrBox w bc c) (hs : SA w c.a1 c.papers) (hl : c.papers.length ≤ 1000000) (hfc : w.cell? ⟨bf, 0, none⟩ = some (.pointer (some ⟨fb, 0, none⟩))) (hx : (talkOf g x).isSome = true) :
  Calls Tryz.prog 125 #[.string x, .pointer (some ⟨bf, 0, none⟩), .pointer (some ⟨bc, 0, none⟩)] w (Gives (.bool (sharesB (talkOr g x).topics c.papers)) w) := by
 have HX := Lib.hid (talkP_any g fb br bs bt bb x w hF hg hz hn.talks hx)
 have HRX := Lib.hid (fun W (h : Below w.heap.size w W) => (talkOr_rd (hg.below h) x).2)
 have hkx := (talkOr_ok hz x).2.2.1
 have HCL := Lib.hid (fun W (h : Below w.heap.size w W) t => canClo2_any c bc t W (hB.below h) (hs.below h) hl)
 have HR : Hid ((talkOr g x).topics.any (fun t => inB c.papers t) = sharesB (talkOr g x).topics c.papers) := rfl
 generalize sharesB (talkOr g x).topics c.papers = R at *
 generalize talkOr g x = t at *
 clear hF hg hz hn hx hB hs
 obtain ⟨t1, t2, t3, t4, t5, t6, t7, t8⟩ := t
 unfold Tlk.agg at HX
 simp only at HX HRX HR hkx
 go_enter Tryz.func125, Tryz.ntmps125
 go_wp2_with fail
 refine HX.out.mono ?_
 rintro e w1 ⟨rfl, hb1⟩
 have hfd := tlkf2 (.string t1) (.slice t5 t2.length t6) (.slice t7 t3.length t8) (.int .i64 t4) w1
 have HC := Lib.hid (findGStr_any t3 t7 t8 127 #[.pointer (some ⟨bc, 0, none⟩)] (inB c.papers) w1 (enters_of Tryz.func127 (by kernel_rfl) rfl) (HRX.out _ hb1) (by omega) (fun z hz W hW => HCL.out W (below_next hb1 hW) z))
 clear HX HCL HRX
 go_wp2_with fail
 refine HC.out.mono ?_
 rintro e w4 ⟨rfl, hb4⟩
 have hbZ := below_next hb1 hb4
 clear HC hfd
 go_wp2_with fail
 go_ret
 exact ⟨by rw [← HR.out] <;> rfl, hbZ⟩
set_option maxRecDepth 100000 in
set_option maxHeartbeats 4000000 in
theorem can_any (g : Grd) (fb br bs bt bb : Nat) (p : List Ses) (pa : Option Addr) (pc : Nat) (s : Ses) (c : Wsh) (w : World) (hF : FieldAt g fb br bs bt bb w) (hg : GRd w g) (hz : GSm g) (hn : GNd g) (hp : PRg w pa p) (hpl : p.length ≤ 100000) (hpo : ∀ s ∈ p, s.papers.length ≤ 1000) (hok : ∀ s ∈ p, (slotOf g s.slot).isSome = true ∧ ∀ x ∈ s.papers, (talkOf g x).isSome = true) (hs : s ∈ p) (hc : SA w c.a1 c.papers) (hcl : c.papers.length ≤ 1000000) :
  Calls Tryz.prog 50 #[.pointer (some ⟨fb, 0, none⟩), .slice pa p.length pc, s.agg, c.aggC] w (Gives (.bool (canB g p s c)) w) := by
 have hsok := hok s hs
 have hsl := hpo s hs
 have HF := Lib.hid (fun W (h : Below w.heap.size w W) => hF.below h)
 have HP := Lib.hid (fun W (h : Below w.heap.size w W) => (hp.below h).list)
 have HPP := Lib.hid (fun W (h : Below w.heap.size w W) => (hp.below h).papers)
 have HB := Lib.hid (fun o (ho : o ∈ p) W (h : Below w.heap.size w W) => besideP_any g fb br bs bt bb o s W (hF.below h) (hg.below h) hz hn (hok o ho).1 hsok.1)
 have HSP := Lib.hid (fun o (ho : o ∈ p) W (h : Below w.heap.size w W) => speakersP_any g fb br bs bt bb o W (hF.below h) (hg.below h) hz hn ((hp.below h).papers o ho) (hpo o ho) (hok o ho).2)
 have HCL := Lib.hid (fun W (h : Below w.heap.size w W) bf bc (hB : ChrBox W bc c) (hf : W.cell? ⟨bf, 0, none⟩ = some (.pointer (some ⟨fb, 0, none⟩))) =>
  findGStr_any s.papers s.a1 s.c1 125 #[.pointer (some ⟨bf, 0, none⟩), .pointer (some ⟨bc, 0, none⟩)] (fun x => sharesB (talkOr g x).topics c.papers) W (enters_of Tryz.func125 (by kernel_rfl) rfl) ((hp.below h).papers s hs) (by omega) (fun x hx W' hW' => canClo_any g fb br bs bt bb c bf bc x W' (hF.below (below_next h hW')) (hg.below (below_next h hW')) hz hn (hB.below hW') (hc.below (below_next h hW')) hcl (cell_later hW' hf) (hsok.2 x hx)))
 have HR : Hid (canB g p s c = (!speaksB g p s c.person && knowsB g s c.papers)) := rfl
 have HSB : Hid (speaksB g p s c.person = p.any (fun o => meetsB g o s && inB (speakersOf g o) c.person)) := rfl
 have HK : Hid (s.papers.any (fun x => sharesB (talkOr g x).topics c.papers) = knowsB g s c.papers) := rfl
 generalize canB g p s c = R at *
 generalize speaksB g p s c.person = SB at *
 generalize knowsB g s c.papers = KB at *
 have HM := Lib.hid (fun o => (rfl : meetsB g o s = meetsB g o s))
 generalize hmt : (fun o => meetsB g o s) = mt at *
 have HMT : Hid (∀ o, meetsB g o s = mt o) := fun o => by rw [← hmt]
 clear hF hp hok hg hz hn hc HM hmt hsok
 have HB2 : Hid (∀ o, o ∈ p → ∀ W, Below w.heap.size w W → Calls Tryz.prog 102 #[.pointer (some ⟨fb, 0, none⟩), o.agg, s.agg] W (Gives (.bool (mt o)) W)) := fun o ho W h => by
  have h1 := HB.out o ho W h
  rwa [HMT.out o] at h1
 have HSB2 : Hid (SB = p.any (fun o => mt o && inB (speakersOf g o) c.person)) := by
  show _ = _
  rw [HSB.out]
  exact congrArg (fun f => p.any f) (funext fun o => by rw [HMT.out o])
 clear HB HSB HMT hs
 obtain ⟨s1, s2, s3, s4, s5⟩ := s
 obtain ⟨c1, c2, c3, c4⟩ := c
 unfold Ses.agg at *
 unfold ChrBox at *
 unfold Wsh.aggC
 simp only at hsl hcl HB2 HSB2 HCL HK ⊢
 obtain ⟨n, hnn⟩ : ∃ n, n = w.heap.size := ⟨_, rfl⟩
 have hf0 : ((w.alloc (.cells #[.pointer (some ⟨fb, 0, none⟩)] 91)).alloc (.cells #[.string s1, .string s2, .slice s4 s3.length s5] 86) |>.alloc (.cells #[.string c1, .slice c3 c2.length c4] 90)).cell? ⟨w.heap.size, 0, none⟩ = some (.pointer (some ⟨fb, 0, none⟩)) := by
  have h := ((Box.new w 91 #[.pointer (some ⟨fb, 0, none⟩)]).alloc (.cells #[.string s1, .string s2, .slice s4 s3.length s5] 86)).alloc (.cells #[.string c1, .slice c3 c2.length c4] 90)
  exact h.cell 0
 have hS0 : Box ((w.alloc (.cells #[.pointer (some ⟨fb, 0, none⟩)] 91)).alloc (.cells #[.string s1, .string s2, .slice s4 s3.length s5] 86) |>.alloc (.cells #[.string c1, .slice c3 c2.length c4] 90)) (w.heap.size + 1) 86 #[.string s1, .string s2, .slice s4 s3.length s5] := (Box.newAt _ _ _ _ (by simp)).alloc _
 have hC0 : Box ((w.alloc (.cells #[.pointer (some ⟨fb, 0, none⟩)] 91)).alloc (.cells #[.string s1, .string s2, .slice s4 s3.length s5] 86) |>.alloc (.cells #[.string c1, .slice c3 c2.length c4] 90)) (w.heap.size + 1 + 1) 90 #[.string c1, .slice c3 c2.length c4] := Box.newAt _ _ _ _ (by simp)
 have hb0 : Below w.heap.size w ((w.alloc (.cells #[.pointer (some ⟨fb, 0, none⟩)] 91)).alloc (.cells #[.string s1, .string s2, .slice s4 s3.length s5] 86) |>.alloc (.cells #[.string c1, .slice c3 c2.length c4] 90)) := by (repeat' (first | exact Below.refl _ _ | assumption | refine Below.setCell ?_ ?_ _ | refine below_drewN ?_ _ | refine Below.drew ?_ | refine Below.alloc ?_ ?_ _ | (with_reducible refine Below.trans ?_ (Below.mono hb ?_)) | (with_reducible refine Below.trans ?_ (Below.mono hb0 ?_)) | (with_reducible refine Below.trans ?_ (Below.mono hb1 ?_)) | (with_reducible refine Below.trans ?_ (Below.mono hb2 ?_)) | (with_reducible refine Below.trans ?_ (Below.mono hb3 ?_)) | (with_reducible refine Below.trans ?_ (Below.mono hb4 ?_)) | (with_reducible refine Below.trans ?_ (Below.mono hb5 ?_)) | (with_reducible refine Below.trans ?_ (Below.mono hb6 ?_)) | (with_reducible refine Below.trans ?_ (Below.mono hb7 ?_)) | (with_reducible refine Below.trans ?_ (Below.mono hb8 ?_)) | (with_reducible refine Below.trans ?_ (Below.mono hb9 ?_)) | (with_reducible refine Below.trans ?_ (Below.mono hb10 ?_)) | (with_reducible refine Below.trans ?_ (Below.mono hb11 ?_)) | (with_reducible refine Below.trans ?_ (Below.mono hb12 ?_)) | (with_reducible refine Below.trans ?_ (Below.mono hb13 ?_)) | (with_reducible refine Below.trans ?_ (Below.mono hb14 ?_)) | (with_reducible refine Below.trans ?_ (Below.mono hb15 ?_)) | omega | (simp; done) | (simp; omega)))
 go_enter Tryz.func50, Tryz.ntmps50
 go_wp2_with fail
 generalize ((w.alloc (.cells #[.pointer (some ⟨fb, 0, none⟩)] 91)).alloc (.cells #[.string s1, .string s2, .slice s4 s3.length s5] 86) |>.alloc (.cells #[.string c1, .slice c3 c2.length c4] 90)) = W0 at *
 rw [← hnn] at hf0 hS0 hC0 ⊢
 clear hnn
 generalize n + 1 = bS at *
 generalize bS + 1 = bC at *
 go_loopg [13] p.length (fun gk iv wr => ∃ k : Nat, iv = .int .i64 k ∧ k ≤ p.length ∧ Hid (gk = p.length - k) ∧ Hid (∀ o ∈ p.take k, (mt o && inB (speakersOf g o) c1) = false) ∧ Below W0.heap.size W0 wr)
 case atStart => exact ⟨0, rfl, by omega, rfl, (fun o ho => by cases ho), Below.refl _ _⟩
 case round =>
  obtain ⟨k, rfl, hk, hgk, hf, hb⟩ := hrel
  have hbw := below_next hb0 hb
  have hf1 := cell_later hb hf0
  have hS1 := hS0.below hb
  have hC1 := hC0.below hb
  by_cases hlt : k < p.length
  ·
   obtain ⟨b, off, ha, c0, c1', c2'⟩ := (HP.out _ hbw).sesC hlt
   have hxm : p[k] ∈ p := List.getElem_mem hlt
   have hB := HB2.out _ hxm
   have hS := HSP.out _ hxm
   have Htk := Lib.hid (List.take_succ_eq_append_getElem hlt)
   have Hany : Hid ((mt p[k] && inB (speakersOf g p[k]) c1) = true → R = false) := fun h => by
    show _ = _
    rw [HR.out, HSB2.out, any_at hlt h]; rfl
   have Ha := Lib.hid ha
   rw [ha]
   clear ha hxm
   generalize hsp : speakersOf g p[k] = sp at *
   generalize hmo : mt p[k] = mo at *
   generalize hpk : p[k] = o at *
   obtain ⟨o1, o2, o3, o4, o5⟩ := o
   simp only at c0 c1' c2' hB hS
   have HB3 := Lib.hid hB
   have HS3 := Lib.hid hS
   clear hB hS
   go_upto_region 4 with (fail)
   have hO := Box.new wr 86 #[.string o1, .string o2, .slice o4 o3.length o5]
   have hbO : Below wr.heap.size wr (wr.alloc (.cells #[.string o1, .string o2, .slice o4 o3.length o5] 86)) := (Below.refl _ _).alloc (Nat.le_refl _) _
   have hb1 := below_next hb hbO
   have hf2 := cell_later hbO hf1
   have hS2 := hS1.below hbO
   have hC2 := hC1.below hbO
   have hbw2 := below_next hbw hbO
   clear hb hbw hf1 hS1 hC1 hbO c0 c1' c2'
   generalize wr.alloc (.cells #[.string o1, .string o2, .slice o4 o3.length o5] 86) = w2 at *
   generalize wr.heap.size = bO at *
   have o_0 := hO.cell 0
   have o_1 := hO.cell 1
   have o_2 := hO.cell 2
   have s_0 := hS2.cell 0
   have s_1 := hS2.cell 1
   have s_2 := hS2.cell 2
   have c_0 := hC2.cell 0
   simp at o_0 o_1 o_2 s_0 s_1 s_2 c_0
   refine wp_region_held_drew (S := (fun wx => wx.cell? ⟨n, 0, none⟩ = some (.pointer (some ⟨fb, 0, none⟩)) ∧ wx.cell? ⟨bO, 0, none⟩ = some (.string o1) ∧ wx.cell? ⟨bO, 1, none⟩ = some (.string o2) ∧ wx.cell? ⟨bO, 2, none⟩ = some (.slice o4 o3.length o5) ∧ wx.cell? ⟨bS, 0, none⟩ = some (.string s1) ∧ wx.cell? ⟨bS, 1, none⟩ = some (.string s2) ∧ wx.cell? ⟨bS, 2, none⟩ = some (.slice s4 s3.length s5) ∧ wx.cell? ⟨bC, 0, none⟩ = some (.string c1) ∧ Below w2.heap.size w2 wx)) (by kernel_rfl) ?hS (fun hHeld => ?_)
   case hS => exact ⟨hf2, o_0, o_1, o_2, s_0, s_1, s_2, c_0, (Below.refl _ _).drew⟩
   refine rt 0 (some 17) ?_
   refine rt 1 (some 18) ?_
   refine rt 2 (some 19) ?_
   cases mo
   ·
    refine rcall (i := 3) (d := (some 20)) (by kernel_rfl) rfl (by kernel_rfl) (fun K hK => ?_)
    go_simp
    go_at_call 102; refine (HB3.out _ (below_next hbw2 hHeld.2.2.2.2.2.2.2.2)).mono ?_; rintro e w3 ⟨rfl, hb3⟩
    refine hK.out _ _ ?hS (fun hHeld => ?_)
    case hS => exact ⟨cell_later hb3 hHeld.1, cell_later hb3 hHeld.2.1, cell_later hb3 hHeld.2.2.1, cell_later hb3 hHeld.2.2.2.1, cell_later hb3 hHeld.2.2.2.2.1, cell_later hb3 hHeld.2.2.2.2.2.1, cell_later hb3 hHeld.2.2.2.2.2.2.1, cell_later hb3 hHeld.2.2.2.2.2.2.2.1, below_next hHeld.2.2.2.2.2.2.2.2 hb3⟩
    clear hK K
    simp only [Act.put, lsetA, lsetZ, lsetS]
    refine rt 4 (some 21) ?_
    refine rs 5 (some 22) ?_
    refine rs 6 (some 23) ?_
    refine rs 7 (some 24) ?_
    refine rs 8 (some 25) ?_
    refine rs 9 (some 26) ?_
    refine rs 10 (some 27) ?_
    refine rt 11 (some 28) ?_
    refine wpAnyH_done (by kernel_rfl) ?_ _
    have hbZ := below_next hb1 hHeld.2.2.2.2.2.2.2.2
    clear hHeld hb1 hf2 hS2 hC2 hbw2 hO o_0 o_1 o_2 s_0 s_1 s_2 c_0 HB3 HS3 Hany
    go_wp2_with fail
    rw [← Ha.out]
    go_roundg (p.length - (k + 1))
    case measure => have := hgk.out; omega
    case rel => exact ⟨k + 1, by go_num, by omega, rfl, by rw [Htk.out]; exact fun x hx => (List.mem_append.1 hx).elim (hf.out x) (fun h => by rw [List.mem_singleton.1 h, hmo]; rfl), hbZ⟩
   ·
    refine rcall (i := 3) (d := (some 20)) (by kernel_rfl) rfl (by kernel_rfl) (fun K hK => ?_)
    go_simp
    go_at_call 102; refine (HB3.out _ (below_next hbw2 hHeld.2.2.2.2.2.2.2.2)).mono ?_; rintro e w3 ⟨rfl, hb3⟩
    refine hK.out _ _ ?hS (fun hHeld => ?_)
    case hS => exact ⟨cell_later hb3 hHeld.1, cell_later hb3 hHeld.2.1, cell_later hb3 hHeld.2.2.1, cell_later hb3 hHeld.2.2.2.1, cell_later hb3 hHeld.2.2.2.2.1, cell_later hb3 hHeld.2.2.2.2.2.1, cell_later hb3 hHeld.2.2.2.2.2.2.1, cell_later hb3 hHeld.2.2.2.2.2.2.2.1, below_next hHeld.2.2.2.2.2.2.2.2 hb3⟩
    clear hK K
    simp only [Act.put, lsetA, lsetZ, lsetS]
    refine rt 4 (some 21) ?_
    refine rt 5 (some 22) ?_
    refine rt 6 (some 23) ?_
    refine rt 8 (some 25) ?_
    refine rt 9 (some 26) ?_
    refine rcall (i := 7) (d := (some 24)) (by kernel_rfl) rfl (by kernel_rfl) (fun K hK => ?_)
    go_simp
    go_at_call 124; refine (HS3.out _ (below_next hbw2 hHeld.2.2.2.2.2.2.2.2)).mono ?_; rintro e w4 ⟨bm, rfl, hlo, hM, hb4⟩
    refine hK.out _ _ ?hS (fun hHeld => ?_)
    case hS => exact ⟨cell_later hb4 hHeld.1, cell_later hb4 hHeld.2.1, cell_later hb4 hHeld.2.2.1, cell_later hb4 hHeld.2.2.2.1, cell_later hb4 hHeld.2.2.2.2.1, cell_later hb4 hHeld.2.2.2.2.2.1, cell_later hb4 hHeld.2.2.2.2.2.2.1, cell_later hb4 hHeld.2.2.2.2.2.2.2.1, below_next hHeld.2.2.2.2.2.2.2.2 hb4⟩
    clear hK K
    simp only [Act.put, lsetA, lsetZ, lsetS]
    have hlk := lookSet hM c1
    refine rcall (i := 10) (d := (some 27)) (by kernel_rfl) rfl (by kernel_rfl) (fun K hK => ?_)
    go_simp
    refine hK.out _ _ ?hS (fun hHeld => ?_)
    case hS => exact hHeld
    clear hK K
    simp only [Act.put, lsetA, lsetZ, lsetS]
    refine rt 11 (some 28) ?_
    refine wpAnyH_done (by kernel_rfl) ?_ _
    have hbZ := below_next hb1 hHeld.2.2.2.2.2.2.2.2
    clear hHeld hb1 hf2 hS2 hC2 hbw2 hO o_0 o_1 o_2 s_0 s_1 s_2 c_0 HB3 HS3 hlk hM hlo hb3 hb4
    generalize hq : inB sp c1 = q at *
    cases q
    ·
     clear Hany
     go_wp2_with fail
     rw [← Ha.out]
     go_roundg (p.length - (k + 1))
     case measure => have := hgk.out; omega
     case rel => exact ⟨k + 1, by go_num, by omega, rfl, by rw [Htk.out]; exact fun x hx => (List.mem_append.1 hx).elim (hf.out x) (fun h => by rw [List.mem_singleton.1 h, hsp, hq]; simp), hbZ⟩
    ·
     have He := Lib.hid (Hany.out rfl)
     clear Hany
     go_wp2_with fail
     go_ret
     exact ⟨by rw [He.out] <;> rfl, below_next hb0 hbZ⟩
  ·
   obtain rfl : k = p.length := by omega
   have Hno := Lib.hid (any_none (c := fun o => mt o && inB (speakersOf g o) c1) hf.out)
   have He : Hid (KB = R) := by show _ = _; rw [HR.out, HSB2.out, Hno.out]; rfl
   have HC := Lib.hid (HCL.out _ hbw n bC hC1 hf1)
   rw [HK.out] at HC
   have s_2 := hS1.cell 2
   simp at s_2
   clear hf Hno HCL HK
   go_wp2_with fail
   refine HC.out.mono ?_
   rintro e w5 ⟨rfl, hb5⟩
   have hbZ := below_next hbw hb5
   clear HC
   go_wp2_with fail
   go_ret
   exact ⟨by rw [He.out] <;> rfl, hbZ⟩
def GrdBox (w : World) (b : Nat) (g : Grd) : Prop := Box w b 32 #[.slice g.ra g.rooms.length g.rc, .slice g.sa g.slots.length g.sc, .slice g.ta g.talks.length g.tc, .slice g.wa g.wishes.length g.wc, .slice g.ba g.bans.length g.bc]
def SesBox (w : World) (b : Nat) (s : Ses) : Prop := Box w b 86 #[.string s.slot, .string s.room, .slice s.a1 s.papers.length s.c1]
set_option maxRecDepth 100000 in
set_option maxHeartbeats 4000000 in
theorem chairsOfClo1_any (g : Grd) (s o : Ses) (c : Wsh) (bs bg bc : Nat) (w : World) (hg : GRd w g) (hz : GSm g) (hop : SA w o.a1 o.papers) (hol : o.papers.length ≤ 1000) (hsb : SesBox w bs s) (hgb : GrdBox w bg g) (hcb : ChrBox w bc c) :
  Calls Tryz.prog 57 #[o.agg, .pointer (some ⟨bg, 0, none⟩), .pointer (some ⟨bs, 0, none⟩), .pointer (some ⟨bc, 0, none⟩)] w (Gives (.bool (meetsB g s o && inB (speakersOf g o) c.person)) w) := by
 unfold SesBox at hsb
 unfold GrdBox at hgb
 unfold ChrBox at hcb
 have HM := Lib.hid (fun W (h : GRd W g) => meets_any g s o W h hz)
 have HP1 := Lib.hid (fun W (h : GRd W g) (h2 : SA W o.a1 o.papers) => speakersOf_any g o W h hz h2 hol)
 have HG := Lib.hid (fun W (h : Below w.heap.size w W) => hg.below h)
 have HL1 : Hid ((speakersOf g o).length ≤ 1000000) := by have := speakers_len hz o.papers; show (o.papers.flatMap (talkSp g)).length ≤ _; omega
 generalize meetsB g s o = mb at *
 generalize speakersOf g o = so at *
 have HCN := Lib.hid (fun a cap W (h : SA W a so) => contains_any so a cap c.person W h (by have := HL1.out; omega))
 have HIB : Hid (so.any (fun y => decide (y = c.person)) = inB so c.person) := rfl
 rw [HIB.out] at HCN
 generalize inB so c.person = ib at *
 rw [Grd.agg_eq] at HM HP1
 clear hz hg HIB
 obtain ⟨s1, s2, s3, s4, s5⟩ := s
 obtain ⟨o1, o2, o3, o4, o5⟩ := o
 obtain ⟨c1, c2, c3, c4⟩ := c
 simp only at hsb hcb hop HP1 HCN ⊢
 unfold Ses.agg at *
 simp only at HM HP1
 have hO := Box.new w 86 #[.string o1, .string o2, .slice o4 o3.length o5]
 have hS := hsb.alloc (.cells #[.string o1, .string o2, .slice o4 o3.length o5] 86)
 have hGb := hgb.alloc (.cells #[.string o1, .string o2, .slice o4 o3.length o5] 86)
 have hC := hcb.alloc (.cells #[.string o1, .string o2, .slice o4 o3.length o5] 86)
 have hb0 : Below w.heap.size w (w.alloc (.cells #[.string o1, .string o2, .slice o4 o3.length o5] 86)) := (Below.refl _ _).alloc (Nat.le_refl _) _
 have ho1 := hop.below hb0
 clear hsb hgb hop hcb
 go_enter Tryz.func57, Tryz.ntmps57
 go_upto_region 1 with (fail)
 generalize w.alloc (.cells #[.string o1, .string o2, .slice o4 o3.length o5] 86) = w2 at *
 generalize hbO : w.heap.size = bO at hO ⊢
 have hg_0 := hGb.cell 0
 have hg_1 := hGb.cell 1
 have hg_2 := hGb.cell 2
 have hg_3 := hGb.cell 3
 have hg_4 := hGb.cell 4
 have s_0 := hS.cell 0
 have s_1 := hS.cell 1
 have s_2 := hS.cell 2
 have o_0 := hO.cell 0
 have o_1 := hO.cell 1
 have o_2 := hO.cell 2
 have c_0 := hC.cell 0
 simp at hg_0 hg_1 hg_2 hg_3 hg_4 s_0 s_1 s_2 o_0 o_1 o_2 c_0
 refine wp_region_held_drew (S := (fun wx => wx.cell? ⟨bg, 0, none⟩ = some (.slice g.ra g.rooms.length g.rc) ∧ wx.cell? ⟨bg, 1, none⟩ = some (.slice g.sa g.slots.length g.sc) ∧ wx.cell? ⟨bg, 2, none⟩ = some (.slice g.ta g.talks.length g.tc) ∧ wx.cell? ⟨bg, 3, none⟩ = some (.slice g.wa g.wishes.length g.wc) ∧ wx.cell? ⟨bg, 4, none⟩ = some (.slice g.ba g.bans.length g.bc) ∧ wx.cell? ⟨bs, 0, none⟩ = some (.string s1) ∧ wx.cell? ⟨bs, 1, none⟩ = some (.string s2) ∧ wx.cell? ⟨bs, 2, none⟩ = some (.slice s4 s3.length s5) ∧ wx.cell? ⟨bO, 0, none⟩ = some (.string o1) ∧ wx.cell? ⟨bO, 1, none⟩ = some (.string o2) ∧ wx.cell? ⟨bO, 2, none⟩ = some (.slice o4 o3.length o5) ∧ wx.cell? ⟨bc, 0, none⟩ = some (.string c1) ∧ Below w2.heap.size w2 wx)) (by kernel_rfl) ?hS (fun hHeld => ?_)
 case hS => exact ⟨hg_0, hg_1, hg_2, hg_3, hg_4, s_0, s_1, s_2, o_0, o_1, o_2, c_0, (Below.refl _ _).drew⟩
 refine rt 0 (some 6) ?_
 refine rt 1 (some 7) ?_
 refine rt 2 (some 8) ?_
 refine rcall (i := 3) (d := (some 9)) (by kernel_rfl) rfl (by kernel_rfl) (fun K hK => ?_)
 go_simp
 go_at_call 58; refine (HM.out _ (HG.out _ (below_next hb0 hHeld.2.2.2.2.2.2.2.2.2.2.2.2))).mono ?_; rintro e w3 ⟨rfl, hb3⟩
 refine hK.out _ _ ?hS (fun hHeld => ?_)
 case hS => exact ⟨cell_later hb3 hHeld.1, cell_later hb3 hHeld.2.1, cell_later hb3 hHeld.2.2.1, cell_later hb3 hHeld.2.2.2.1, cell_later hb3 hHeld.2.2.2.2.1, cell_later hb3 hHeld.2.2.2.2.2.1, cell_later hb3 hHeld.2.2.2.2.2.2.1, cell_later hb3 hHeld.2.2.2.2.2.2.2.1, cell_later hb3 hHeld.2.2.2.2.2.2.2.2.1, cell_later hb3 hHeld.2.2.2.2.2.2.2.2.2.1, cell_later hb3 hHeld.2.2.2.2.2.2.2.2.2.2.1, cell_later hb3 hHeld.2.2.2.2.2.2.2.2.2.2.2.1, below_next hHeld.2.2.2.2.2.2.2.2.2.2.2.2 hb3⟩
 clear hK K
 simp only [Act.put, lsetA, lsetZ, lsetS]
 refine rt 4 (some 10) ?_
 cases mb
 ·
  (try skip)
  refine rs 5 (some 11) ?_
  refine rs 6 (some 12) ?_
  refine rs 7 (some 13) ?_
  refine rs 8 (some 14) ?_
  refine rs 9 (some 15) ?_
  refine rs 10 (some 16) ?_
  refine rt 11 (some 17) ?_
  refine rt 12 (some 5) ?_
  refine wpAnyH_done (by kernel_rfl) ?_ _
  have hbF := below_next hb0 hHeld.2.2.2.2.2.2.2.2.2.2.2.2
  go_wp2_with fail
  go_ret
  exact ⟨rfl, hbF⟩
 ·
  (try skip)
  refine rt 5 (some 11) ?_
  refine rt 6 (some 12) ?_
  refine rt 8 (some 14) ?_
  refine rt 9 (some 15) ?_
  refine rcall (i := 7) (d := (some 13)) (by kernel_rfl) rfl (by kernel_rfl) (fun K hK => ?_)
  go_simp
  go_at_call 60; refine (HP1.out _ (HG.out _ (below_next hb0 hHeld.2.2.2.2.2.2.2.2.2.2.2.2)) (ho1.below hHeld.2.2.2.2.2.2.2.2.2.2.2.2)).mono ?_; rintro e w4 ⟨v1, rfl, hv1, hb4⟩
  refine hK.out _ _ ?hS (fun hHeld => ?_)
  case hS => exact ⟨cell_later hb4 hHeld.1, cell_later hb4 hHeld.2.1, cell_later hb4 hHeld.2.2.1, cell_later hb4 hHeld.2.2.2.1, cell_later hb4 hHeld.2.2.2.2.1, cell_later hb4 hHeld.2.2.2.2.2.1, cell_later hb4 hHeld.2.2.2.2.2.2.1, cell_later hb4 hHeld.2.2.2.2.2.2.2.1, cell_later hb4 hHeld.2.2.2.2.2.2.2.2.1, cell_later hb4 hHeld.2.2.2.2.2.2.2.2.2.1, cell_later hb4 hHeld.2.2.2.2.2.2.2.2.2.2.1, cell_later hb4 hHeld.2.2.2.2.2.2.2.2.2.2.2.1, below_next hHeld.2.2.2.2.2.2.2.2.2.2.2.2 hb4⟩
  clear hK K
  simp only [Act.put, lsetA, lsetZ, lsetS]
  obtain ⟨la1, lc1, rfl, hla1, -, -⟩ := hv1.sa
  refine rcall (i := 10) (d := (some 16)) (by kernel_rfl) rfl (by kernel_rfl) (fun K hK => ?_)
  go_simp
  go_at_call 59; refine (HCN.out la1 lc1 _ hla1).mono ?_; rintro e w5 ⟨rfl, rfl⟩
  refine hK.out _ _ ?hS (fun hHeld => ?_)
  case hS => exact hHeld
  clear hK K
  simp only [Act.put, lsetA, lsetZ, lsetS]
  refine rt 11 (some 17) ?_
  refine rt 12 (some 5) ?_
  refine wpAnyH_done (by kernel_rfl) ?_ _
  have hbF := below_next hb0 hHeld.2.2.2.2.2.2.2.2.2.2.2.2
  go_wp2_with fail
  go_ret
  exact ⟨rfl, hbF⟩
set_option maxRecDepth 100000 in
set_option maxHeartbeats 4000000 in
theorem chairsOfClo2_any (g : Grd) (c : Wsh) (x : ByteArray) (bg bc : Nat) (w : World) (hg : GRd w g) (hz : GSm g) (hc : SA w c.a1 c.papers) (hcl : c.papers.length ≤ 1000000) (hgb : GrdBox w bg g) (hcb : ChrBox w bc c) :
  Calls Tryz.prog 62 #[.string x, .pointer (some ⟨bg, 0, none⟩), .pointer (some ⟨bc, 0, none⟩)] w (Gives (.bool (sharesB (talkOr g x).topics c.papers)) w) := by
 unfold GrdBox at hgb
 unfold ChrBox at hcb
 have HT := Lib.hid (talkOf_any g x w hg (by have := hz.talks; omega))
 have HTR := Lib.hid (fun W (h : Below w.heap.size w W) => (talkOr_rd (hg.below h) x).2)
 have HTL := Lib.hid ((talkOr_ok hz x).2.2.1)
 rw [Grd.agg_eq] at HT
 unfold talkV at HT
 generalize talkOr g x = t at *
 clear hz hg
 obtain ⟨c1, c2, c3, c4⟩ := c
 obtain ⟨t1, t2, t3, t4, t5, t6, t7, t8⟩ := t
 unfold Tlk.agg at HT
 simp only at hcb hc hcl HT HTR HTL ⊢
 have HSH := Lib.hid (fun W (h1 : SA W t7 t3) (h2 : SA W c3 c2) => shares_any t3 c2 t7 c3 t8 c4 W h1 h2 (by have := HTL.out; omega) hcl)
 have hgb_l := hgb.lt; have hgb_0 := hgb.cell 0; have hgb_1 := hgb.cell 1; have hgb_2 := hgb.cell 2; have hgb_3 := hgb.cell 3; have hgb_4 := hgb.cell 4; simp at hgb_0 hgb_1 hgb_2 hgb_3 hgb_4
 go_enter Tryz.func62, Tryz.ntmps62
 go_wp2_with fail
 refine HT.out.mono ?_
 rintro e w1 ⟨rfl, hb1⟩
 clear hgb_l hgb_0 hgb_1 hgb_2 hgb_3 hgb_4
 go_upto_region 2 with (fail)
 have hT := Box.new w1 79 #[.string t1, .slice t5 t2.length t6, .slice t7 t3.length t8, .int .i64 t4]
 have hb2 := hb1.alloc hb1.size (.cells #[.string t1, .slice t5 t2.length t6, .slice t7 t3.length t8, .int .i64 t4] 79)
 have hC2 := hcb.below hb2
 clear hb1 hgb hcb HT
 generalize w1.alloc (.cells #[.string t1, .slice t5 t2.length t6, .slice t7 t3.length t8, .int .i64 t4] 79) = w2 at *
 generalize w1.heap.size = bT at *
 have HC := Lib.hid (HSH.out _ (HTR.out _ hb2) (hc.below hb2))
 clear HSH HTR hc
 have hT_l := hT.lt; have hT_0 := hT.cell 0; have hT_1 := hT.cell 1; have hT_2 := hT.cell 2; have hT_3 := hT.cell 3; simp at hT_0 hT_1 hT_2 hT_3
 have hC2_l := hC2.lt; have hC2_0 := hC2.cell 0; have hC2_1 := hC2.cell 1; simp at hC2_0 hC2_1
 go_wp2_with fail
 refine HC.out.mono ?_
 rintro e w3 ⟨rfl, hb3⟩
 have hbZ := below_next hb2 hb3
 clear HC
 go_wp2_with fail
 go_ret
 exact ⟨rfl, hbZ⟩
end Go.Proofs.YtbfhcdnchmddeaaGreatDoor
