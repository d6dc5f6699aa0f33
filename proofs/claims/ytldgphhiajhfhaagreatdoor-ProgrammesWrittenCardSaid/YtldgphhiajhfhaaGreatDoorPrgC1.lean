/- The program's errors of rooms, slots and talks. Written by gen/src/progc1.py. -/
import Derived.Test.YtldgphhiajhfhaaGreatDoorGridR4
import Derived.Test.YtldgphhiajhfhaaGreatDoorOutside
namespace Go.Proofs.YtldgphhiajhfhaaGreatDoor
open Go.RowKit
set_option linter.unusedVariables false
set_option linter.unusedSimpArgs false

set_option maxRecDepth 100000 in
set_option maxHeartbeats 8000000 in
theorem roomsP_any (l : List Rom) (la : Option Addr) (lc : Nat) (w : World) (hl : SA w la l) (hn : l.length ≤ 1000) (hok : (∀ x ∈ l, x.1.size ≤ 1000)) : Calls Tryz.prog 81 #[.slice la l.length lc] w (Gives (.int .i64 (roomsFault l)) w) := by
 have HR : Hid (roomsFault l = if 20 < l.length then 2 else firstErr (roomE l) l.length) := rfl
 have HOK := Lib.hid hok
 generalize roomsFault l = R at *
 clear hok
 go_enter Tryz.func81, Tryz.ntmps81
 by_cases q1 : 20 < l.length
 ·
  have hd : decide ((20 : Int) < (l.length : Int)) = true := decide_eq_true (by omega)
  have He : Hid (R = 2) := by show _ = _; rw [HR.out, if_pos q1]
  clear HR q1
  go_wp2_with fail
  go_ret
  exact ⟨by rw [He.out] <;> rfl, Below.refl _ _⟩
 ·
  have hd : decide ((20 : Int) < (l.length : Int)) = false := decide_eq_false (by omega)
  rw [if_neg q1] at HR
  clear q1
  go_wp2_with fail
  clear hd
  go_loopg [10] l.length (fun gk iv wr => ∃ k : Nat, iv = .int .i64 k ∧ k ≤ l.length ∧ Hid (gk = l.length - k) ∧ Hid (∀ j, j < k → roomE l j = 0) ∧ Below w.heap.size w wr)
  case atStart => exact ⟨0, rfl, by omega, rfl, fun j hj => by omega, Below.refl _ _⟩
  case round =>
   obtain ⟨k, rfl, hk, hgk, hf, hb⟩ := hrel
   by_cases hlt : k < l.length
   ·
    obtain ⟨b, off, ha, c0, c1⟩ := (hl.below hb).romC hlt
    have Hfe : Hid (∀ e, roomE l k = e → e ≠ 0 → R = e) := fun e he he0 => HR.out.trans (firstErr_is hlt hf.out he he0)
    have hpl : k - 1 < l.length := by omega
    obtain ⟨b', off', ha', d0, d1⟩ := (hl.below hb).romC hpl
    rw [ha] at ha'
    cases ha'
    have hxm : l[k] ∈ l := List.getElem_mem hlt
    have hok := HOK.out _ hxm
    have HE0 : Hid (roomE l k = roomE l k) := rfl
    have HO := Lib.hid (ordB_prevM (fun x : Rom => x.1) hlt)
    have HX : Hid (l[k]? = some l[k]) := List.getElem?_eq_getElem hlt
    clear d1 hxm
    generalize l[k] = x at *
    generalize l[k - 1] = y at *
    obtain ⟨p, hp⟩ : ∃ p, p = k - 1 := ⟨_, rfl⟩
    rw [← hp] at d0 hpl
    have hp1 : (0 : Int) ≤ (p : Int) := by omega
    have hp2 : (p : Int) < (l.length : Int) := by omega
    have Ha := Lib.hid ha
    have Hp := Lib.hid hp
    clear hp HE0
    rw [ha]
    clear ha
    obtain ⟨x1, x2⟩ := x
    generalize y.1 = y1 at *
    simp only at c0 c1 hok HO
    have HE : Hid (roomE l k = if keyB x1 = false then 5 else if (decide (0 < k) && leB x1 y1) = true then 7 else if (decide (x2 < 1) || decide (10000 < x2)) = true then 1 else 0) := by
     show _ = _
     unfold roomE
     rw [HX.out]
     simp only [HO.out]
     (try rfl)
     (try (split <;> (try split) <;> (try (simp only [talkFault]))))
    have hok1 := hok
    clear HX HO hok
    go_upto_region 6 with (fail)
    have hE1 := Box.new wr 54 #[.string x1, .int .i64 x2]
    have hb1 := hb.alloc hb.size (.cells #[.string x1, .int .i64 x2] 54)
    have hd1 : (wr.alloc (.cells #[.string x1, .int .i64 x2] 54)).cell? ⟨b, off + p * 2, none⟩ = some (.string y1) := cell_later ((Below.refl _ _).alloc (Nat.le_refl _) _) d0
    clear hb c0 c1 d0
    generalize wr.alloc (.cells #[.string x1, .int .i64 x2] 54) = w2 at *
    generalize wr.heap.size = n2 at *
    have hE1_l := hE1.lt; have hE1_0 := hE1.cell 0; have hE1_1 := hE1.cell 1; simp at hE1_0 hE1_1
    go_wp2_with fail
    clear hE1_l hE1_0 hE1_1
    refine (isKey_any x1 _ (by omega)).mono ?_
    rintro e w3 ⟨rfl, rfl⟩
    have hb2 := hb1
    generalize keyB x1 = kb at *
    cases kb
    ·
     have He := Lib.hid (Hfe.out 5 (by rw [HE.out]; rfl) (by decide))
     clear Hfe HE hf
     go_wp2_with fail
     go_ret
     exact ⟨by rw [He.out] <;> rfl, hb2⟩
    ·
     go_upto_region 8 with (fail)
     have hc0 := hE1.cell 0
     simp at hc0
     go_cut [20] (fun v wx => v = .bool (decide (0 < k) && leB x1 y1) ∧ ∃ m, wx = w2.drewN m)
     case first =>
      by_cases h0 : k = 0
      ·
       have hd : decide ((0 : Int) < (k : Int)) = false := decide_eq_false (by omega)
       have hdn : decide (0 < k) = false := decide_eq_false (by omega)
       have Hd : Hid ((decide (0 < k) && leB x1 y1) = false) := by show _ = _; rw [hdn]; rfl
       clear h0
       go_quiet (fail)
       go_wp2_with fail
       go_meet
       exact ⟨by rw [Hd.out] <;> rfl, _, rfl⟩
      ·
       have hd : decide ((0 : Int) < (k : Int)) = true := decide_eq_true (by omega)
       have hk1 : 0 < k := by omega
       have hk2 : (0 : Int) < (k : Int) := by omega
       have Hd : Hid ((decide (0 < k) && leB x1 y1) = leB x1 y1) := by show _ = _; rw [decide_eq_true hk1]; rfl
       have hw2 : IntKind.i64.wrap ((k : Int) - 1) = (p : Int) := by rw [IntWalk.i64_in _ (by omega)]; have := Hp.out; omega
       have hw3 : IntKind.i64.wrap (p : Int) = (p : Int) := IntWalk.i64_in _ (by omega)
       have hp3 : (k : Int) - 1 = (p : Int) := by have := Hp.out; omega
       clear h0
       go_quiet (fail)
       go_wp2_with fail
       go_meet
       exact ⟨by rw [Hd.out] <;> rfl, _, rfl⟩
     case rest =>
      obtain ⟨hv, m, rfl⟩ := hcut
      rw [hv]
      have hEF : Box (w2.drewN m) n2 54 #[.string x1, .int .i64 x2] := hE1
      have hbF : Below w.heap.size w (w2.drewN m) := below_drewN hb1 _
      clear hE1 hb1 hb2 hd1 hc0 hv
      cases hbb : (decide (0 < k) && leB x1 y1)
      ·
       rw [hbb] at HE
       clear hbb
       have hEF_l := hEF.lt; have hEF_0 := hEF.cell 0; have hEF_1 := hEF.cell 1; simp at hEF_0 hEF_1
       go_wp2_with fail
       refine (outside_any x2 1 10000 _).mono ?_
       rintro e w9 ⟨rfl, rfl⟩
       generalize (decide (x2 < 1) || decide (10000 < x2)) = ob at *
       cases ob
       ·
        have Hz : Hid (roomE l k = 0) := by show _ = _; rw [HE.out]; rfl
        clear Hfe HE
        go_wp2_with fail
        rw [← Ha.out]
        go_roundg (l.length - (k + 1))
        case measure => have := hgk.out; omega
        case rel => exact ⟨k + 1, by go_num, by omega, rfl, zeros_succ hf.out Hz.out, hbF⟩
       ·
        have He := Lib.hid (Hfe.out 1 (by rw [HE.out]; rfl) (by decide))
        clear Hfe HE hf
        go_wp2_with fail
        go_ret
        exact ⟨by rw [He.out] <;> rfl, hbF⟩
      ·
       rw [hbb] at HE
       have He := Lib.hid (Hfe.out 7 (by rw [HE.out]; rfl) (by decide))
       clear Hfe HE hf
       go_wp2_with fail
       go_ret
       exact ⟨by rw [He.out] <;> rfl, hbF⟩
   ·
    obtain rfl : k = l.length := by omega
    have He : Hid (R = 0) := by show _ = _; rw [HR.out, firstErr_zero hf.out]
    clear HR hf
    go_wp2_with fail
    go_ret
    exact ⟨by rw [He.out] <;> rfl, hb⟩

set_option maxRecDepth 100000 in
set_option maxHeartbeats 8000000 in
theorem slotsP_any (l : List Slt) (la : Option Addr) (lc : Nat) (w : World) (hl : SA w la l) (hn : l.length ≤ 1000) (hok : (∀ x ∈ l, x.1.size ≤ 1000)) : Calls Tryz.prog 82 #[.slice la l.length lc] w (Gives (.int .i64 (slotsFault l)) w) := by
 have HR : Hid (slotsFault l = if 40 < l.length then 2 else firstErr (slotE l) l.length) := rfl
 have HOK := Lib.hid hok
 generalize slotsFault l = R at *
 clear hok
 go_enter Tryz.func82, Tryz.ntmps82
 by_cases q1 : 40 < l.length
 ·
  have hd : decide ((40 : Int) < (l.length : Int)) = true := decide_eq_true (by omega)
  have He : Hid (R = 2) := by show _ = _; rw [HR.out, if_pos q1]
  clear HR q1
  go_wp2_with fail
  go_ret
  exact ⟨by rw [He.out] <;> rfl, Below.refl _ _⟩
 ·
  have hd : decide ((40 : Int) < (l.length : Int)) = false := decide_eq_false (by omega)
  rw [if_neg q1] at HR
  clear q1
  go_wp2_with fail
  clear hd
  go_loopg [10] l.length (fun gk iv wr => ∃ k : Nat, iv = .int .i64 k ∧ k ≤ l.length ∧ Hid (gk = l.length - k) ∧ Hid (∀ j, j < k → slotE l j = 0) ∧ Below w.heap.size w wr)
  case atStart => exact ⟨0, rfl, by omega, rfl, fun j hj => by omega, Below.refl _ _⟩
  case round =>
   obtain ⟨k, rfl, hk, hgk, hf, hb⟩ := hrel
   by_cases hlt : k < l.length
   ·
    obtain ⟨b, off, ha, c0, c1, c2⟩ := (hl.below hb).sltC hlt
    have Hfe : Hid (∀ e, slotE l k = e → e ≠ 0 → R = e) := fun e he he0 => HR.out.trans (firstErr_is hlt hf.out he he0)
    have hpl : k - 1 < l.length := by omega
    obtain ⟨b', off', ha', d0, d1, d2⟩ := (hl.below hb).sltC hpl
    rw [ha] at ha'
    cases ha'
    have hxm : l[k] ∈ l := List.getElem_mem hlt
    have hok := HOK.out _ hxm
    have HE0 : Hid (slotE l k = slotE l k) := rfl
    have HO := Lib.hid (ordB_prevM (fun x : Slt => x.1) hlt)
    have HX : Hid (l[k]? = some l[k]) := List.getElem?_eq_getElem hlt
    clear d1 d2 hxm
    generalize l[k] = x at *
    generalize l[k - 1] = y at *
    obtain ⟨p, hp⟩ : ∃ p, p = k - 1 := ⟨_, rfl⟩
    rw [← hp] at d0 hpl
    have hp1 : (0 : Int) ≤ (p : Int) := by omega
    have hp2 : (p : Int) < (l.length : Int) := by omega
    have Ha := Lib.hid ha
    have Hp := Lib.hid hp
    clear hp HE0
    rw [ha]
    clear ha
    obtain ⟨x1, x2, x3⟩ := x
    generalize y.1 = y1 at *
    simp only at c0 c1 c2 hok HO
    have HE : Hid (slotE l k = if keyB x1 = false then 5 else if (decide (0 < k) && leB x1 y1) = true then 7 else if ((!momB x2) || (decide (x3 < 1) || decide (1440 < x3))) = true then 1 else 0) := by
     show _ = _
     unfold slotE
     rw [HX.out]
     simp only [HO.out]
     (try rfl)
     (try (split <;> (try split) <;> (try (simp only [talkFault]))))
    have hok1 := hok
    clear HX HO hok
    go_upto_region 6 with (fail)
    have hE1 := Box.new wr 56 #[.string x1, .int .i64 x2, .int .i64 x3]
    have hb1 := hb.alloc hb.size (.cells #[.string x1, .int .i64 x2, .int .i64 x3] 56)
    have hd1 : (wr.alloc (.cells #[.string x1, .int .i64 x2, .int .i64 x3] 56)).cell? ⟨b, off + p * 3, none⟩ = some (.string y1) := cell_later ((Below.refl _ _).alloc (Nat.le_refl _) _) d0
    clear hb c0 c1 c2 d0
    generalize wr.alloc (.cells #[.string x1, .int .i64 x2, .int .i64 x3] 56) = w2 at *
    generalize wr.heap.size = n2 at *
    have hE1_l := hE1.lt; have hE1_0 := hE1.cell 0; have hE1_1 := hE1.cell 1; have hE1_2 := hE1.cell 2; simp at hE1_0 hE1_1 hE1_2
    go_wp2_with fail
    clear hE1_l hE1_0 hE1_1 hE1_2
    refine (isKey_any x1 _ (by omega)).mono ?_
    rintro e w3 ⟨rfl, rfl⟩
    have hb2 := hb1
    generalize keyB x1 = kb at *
    cases kb
    ·
     have He := Lib.hid (Hfe.out 5 (by rw [HE.out]; rfl) (by decide))
     clear Hfe HE hf
     go_wp2_with fail
     go_ret
     exact ⟨by rw [He.out] <;> rfl, hb2⟩
    ·
     go_upto_region 8 with (fail)
     have hc0 := hE1.cell 0
     simp at hc0
     go_cut [20] (fun v wx => v = .bool (decide (0 < k) && leB x1 y1) ∧ ∃ m, wx = w2.drewN m)
     case first =>
      by_cases h0 : k = 0
      ·
       have hd : decide ((0 : Int) < (k : Int)) = false := decide_eq_false (by omega)
       have hdn : decide (0 < k) = false := decide_eq_false (by omega)
       have Hd : Hid ((decide (0 < k) && leB x1 y1) = false) := by show _ = _; rw [hdn]; rfl
       clear h0
       go_quiet (fail)
       go_wp2_with fail
       go_meet
       exact ⟨by rw [Hd.out] <;> rfl, _, rfl⟩
      ·
       have hd : decide ((0 : Int) < (k : Int)) = true := decide_eq_true (by omega)
       have hk1 : 0 < k := by omega
       have hk2 : (0 : Int) < (k : Int) := by omega
       have Hd : Hid ((decide (0 < k) && leB x1 y1) = leB x1 y1) := by show _ = _; rw [decide_eq_true hk1]; rfl
       have hw2 : IntKind.i64.wrap ((k : Int) - 1) = (p : Int) := by rw [IntWalk.i64_in _ (by omega)]; have := Hp.out; omega
       have hw3 : IntKind.i64.wrap (p : Int) = (p : Int) := IntWalk.i64_in _ (by omega)
       have hp3 : (k : Int) - 1 = (p : Int) := by have := Hp.out; omega
       clear h0
       go_quiet (fail)
       go_wp2_with fail
       go_meet
       exact ⟨by rw [Hd.out] <;> rfl, _, rfl⟩
     case rest =>
      obtain ⟨hv, m, rfl⟩ := hcut
      rw [hv]
      have hEF : Box (w2.drewN m) n2 56 #[.string x1, .int .i64 x2, .int .i64 x3] := hE1
      have hbF : Below w.heap.size w (w2.drewN m) := below_drewN hb1 _
      clear hE1 hb1 hb2 hd1 hc0 hv
      cases hbb : (decide (0 < k) && leB x1 y1)
      ·
       rw [hbb] at HE
       clear hbb
       have hEF_l := hEF.lt; have hEF_0 := hEF.cell 0; have hEF_1 := hEF.cell 1; have hEF_2 := hEF.cell 2; simp at hEF_0 hEF_1 hEF_2
       go_wp2_with fail
       refine (isMoment_any x2 _).mono ?_
       rintro e w9 ⟨rfl, rfl⟩
       generalize momB x2 = mb at *
       cases mb
       ·
        have He := Lib.hid (Hfe.out 1 (by rw [HE.out]; rfl) (by decide))
        clear Hfe HE hf
        go_wp2_with fail
        go_ret
        exact ⟨by rw [He.out] <;> rfl, hbF⟩
       ·
        go_wp2_with fail
        refine (outside_any x3 1 1440 _).mono ?_
        rintro e w9 ⟨rfl, rfl⟩
        generalize (decide (x3 < 1) || decide (1440 < x3)) = ob at *
        cases ob
        ·
         have Hz : Hid (slotE l k = 0) := by show _ = _; rw [HE.out]; rfl
         clear Hfe HE
         go_wp2_with fail
         rw [← Ha.out]
         go_roundg (l.length - (k + 1))
         case measure => have := hgk.out; omega
         case rel => exact ⟨k + 1, by go_num, by omega, rfl, zeros_succ hf.out Hz.out, hbF⟩
        ·
         have He := Lib.hid (Hfe.out 1 (by rw [HE.out]; rfl) (by decide))
         clear Hfe HE hf
         go_wp2_with fail
         go_ret
         exact ⟨by rw [He.out] <;> rfl, hbF⟩
      ·
       rw [hbb] at HE
       have He := Lib.hid (Hfe.out 7 (by rw [HE.out]; rfl) (by decide))
       clear Hfe HE hf
       go_wp2_with fail
       go_ret
       exact ⟨by rw [He.out] <;> rfl, hbF⟩
   ·
    obtain rfl : k = l.length := by omega
    have He : Hid (R = 0) := by show _ = _; rw [HR.out, firstErr_zero hf.out]
    clear HR hf
    go_wp2_with fail
    go_ret
    exact ⟨by rw [He.out] <;> rfl, hb⟩

set_option maxRecDepth 100000 in
set_option maxHeartbeats 8000000 in
theorem talksP_any (l : List Tlk) (la : Option Addr) (lc : Nat) (w : World) (hl : SA w la l) (hn : l.length ≤ 1000) (hok : (∀ x ∈ l, TlkOk x)) (hrd : ∀ t ∈ l, SA w t.a1 t.speakers ∧ SA w t.a2 t.topics) : Calls Tryz.prog 83 #[.slice la l.length lc] w (Gives (.int .i64 (talksFault l)) w) := by
 have HR : Hid (talksFault l = if 200 < l.length then 2 else firstErr (talkE l) l.length) := rfl
 have HOK := Lib.hid hok
 generalize talksFault l = R at *
 clear hok
 go_enter Tryz.func83, Tryz.ntmps83
 by_cases q1 : 200 < l.length
 ·
  have hd : decide ((200 : Int) < (l.length : Int)) = true := decide_eq_true (by omega)
  have He : Hid (R = 2) := by show _ = _; rw [HR.out, if_pos q1]
  clear HR q1
  go_wp2_with fail
  go_ret
  exact ⟨by rw [He.out] <;> rfl, Below.refl _ _⟩
 ·
  have hd : decide ((200 : Int) < (l.length : Int)) = false := decide_eq_false (by omega)
  rw [if_neg q1] at HR
  clear q1
  go_wp2_with fail
  clear hd
  go_loopg [12] l.length (fun gk iv wr => ∃ k : Nat, iv = .int .i64 k ∧ k ≤ l.length ∧ Hid (gk = l.length - k) ∧ Hid (∀ j, j < k → talkE l j = 0) ∧ Below w.heap.size w wr)
  case atStart => exact ⟨0, rfl, by omega, rfl, fun j hj => by omega, Below.refl _ _⟩
  case round =>
   obtain ⟨k, rfl, hk, hgk, hf, hb⟩ := hrel
   by_cases hlt : k < l.length
   ·
    obtain ⟨b, off, ha, c0, c1, c2, c3⟩ := (hl.below hb).tlkC hlt
    have Hfe : Hid (∀ e, talkE l k = e → e ≠ 0 → R = e) := fun e he he0 => HR.out.trans (firstErr_is hlt hf.out he he0)
    have hpl : k - 1 < l.length := by omega
    obtain ⟨b', off', ha', d0, d1, d2, d3⟩ := (hl.below hb).tlkC hpl
    rw [ha] at ha'
    cases ha'
    have hxm : l[k] ∈ l := List.getElem_mem hlt
    have hok := HOK.out _ hxm
    have hr1 := (hrd _ hxm).1
    have hr2 := (hrd _ hxm).2
    have HE0 : Hid (talkE l k = talkE l k) := rfl
    have HO := Lib.hid (ordB_prevM Tlk.paper hlt)
    have HX : Hid (l[k]? = some l[k]) := List.getElem?_eq_getElem hlt
    clear d1 d2 d3 hxm
    generalize l[k] = x at *
    generalize l[k - 1] = y at *
    obtain ⟨p, hp⟩ : ∃ p, p = k - 1 := ⟨_, rfl⟩
    rw [← hp] at d0 hpl
    have hp1 : (0 : Int) ≤ (p : Int) := by omega
    have hp2 : (p : Int) < (l.length : Int) := by omega
    have Ha := Lib.hid ha
    have Hp := Lib.hid hp
    clear hp HE0
    rw [ha]
    clear ha
    obtain ⟨x1, x2, x3, x4, x5, x6, x7, x8⟩ := x
    generalize y.paper = y1 at *
    simp only at c0 c1 c2 c3 hok HO hr1 hr2
    have HE : Hid (talkE l k = if keyB x1 = false then 5 else if (decide (0 < k) && leB x1 y1) = true then 7 else if x2.length = 0 then 8 else if 20 < x2.length then 2 else if riseFault x2 ≠ 0 then riseFault x2 else if 8 < x3.length then 2 else if riseFault x3 ≠ 0 then riseFault x3 else if (decide (x4 < 1) || decide (1440 < x4)) = true then 1 else 0) := by
     show _ = _
     unfold talkE
     rw [HX.out]
     simp only [HO.out]
     (try rfl)
     (try (split <;> (try split) <;> (try (simp only [talkFault]))))
    have hokx := hok; obtain ⟨hok1, hok2, hok3, hok4, hok5, -, -⟩ := hokx
    clear HX HO hok
    go_upto_region 6 with (fail)
    have hE1 := Box.new wr 60 #[.string x1, .slice x5 x2.length x6, .slice x7 x3.length x8, .int .i64 x4]
    have hb1 := hb.alloc hb.size (.cells #[.string x1, .slice x5 x2.length x6, .slice x7 x3.length x8, .int .i64 x4] 60)
    have hd1 : (wr.alloc (.cells #[.string x1, .slice x5 x2.length x6, .slice x7 x3.length x8, .int .i64 x4] 60)).cell? ⟨b, off + p * 4, none⟩ = some (.string y1) := cell_later ((Below.refl _ _).alloc (Nat.le_refl _) _) d0
    clear hb c0 c1 c2 c3 d0
    generalize wr.alloc (.cells #[.string x1, .slice x5 x2.length x6, .slice x7 x3.length x8, .int .i64 x4] 60) = w2 at *
    generalize wr.heap.size = n2 at *
    have hE1_l := hE1.lt; have hE1_0 := hE1.cell 0; have hE1_1 := hE1.cell 1; have hE1_2 := hE1.cell 2; have hE1_3 := hE1.cell 3; simp at hE1_0 hE1_1 hE1_2 hE1_3
    go_wp2_with fail
    clear hE1_l hE1_0 hE1_1 hE1_2 hE1_3
    refine (isKey_any x1 _ (by omega)).mono ?_
    rintro e w3 ⟨rfl, rfl⟩
    have hb2 := hb1
    generalize keyB x1 = kb at *
    cases kb
    ·
     have He := Lib.hid (Hfe.out 5 (by rw [HE.out]; rfl) (by decide))
     clear Hfe HE hf
     go_wp2_with fail
     go_ret
     exact ⟨by rw [He.out] <;> rfl, hb2⟩
    ·
     go_upto_region 8 with (fail)
     have hc0 := hE1.cell 0
     simp at hc0
     go_cut [22] (fun v wx => v = .bool (decide (0 < k) && leB x1 y1) ∧ ∃ m, wx = w2.drewN m)
     case first =>
      by_cases h0 : k = 0
      ·
       have hd : decide ((0 : Int) < (k : Int)) = false := decide_eq_false (by omega)
       have hdn : decide (0 < k) = false := decide_eq_false (by omega)
       have Hd : Hid ((decide (0 < k) && leB x1 y1) = false) := by show _ = _; rw [hdn]; rfl
       clear h0
       go_quiet (fail)
       go_wp2_with fail
       go_meet
       exact ⟨by rw [Hd.out] <;> rfl, _, rfl⟩
      ·
       have hd : decide ((0 : Int) < (k : Int)) = true := decide_eq_true (by omega)
       have hk1 : 0 < k := by omega
       have hk2 : (0 : Int) < (k : Int) := by omega
       have Hd : Hid ((decide (0 < k) && leB x1 y1) = leB x1 y1) := by show _ = _; rw [decide_eq_true hk1]; rfl
       have hw2 : IntKind.i64.wrap ((k : Int) - 1) = (p : Int) := by rw [IntWalk.i64_in _ (by omega)]; have := Hp.out; omega
       have hw3 : IntKind.i64.wrap (p : Int) = (p : Int) := IntWalk.i64_in _ (by omega)
       have hp3 : (k : Int) - 1 = (p : Int) := by have := Hp.out; omega
       clear h0
       go_quiet (fail)
       go_wp2_with fail
       go_meet
       exact ⟨by rw [Hd.out] <;> rfl, _, rfl⟩
     case rest =>
      obtain ⟨hv, m, rfl⟩ := hcut
      rw [hv]
      have hEF : Box (w2.drewN m) n2 60 #[.string x1, .slice x5 x2.length x6, .slice x7 x3.length x8, .int .i64 x4] := hE1
      have hbF : Below w.heap.size w (w2.drewN m) := below_drewN hb1 _
      clear hE1 hb1 hb2 hd1 hc0 hv
      cases hbb : (decide (0 < k) && leB x1 y1)
      ·
       rw [hbb] at HE
       clear hbb
       rw [if_neg (show ¬ (true = false) by decide), if_neg (show ¬ (false = true) by decide)] at HE
       have hEF_l := hEF.lt; have hEF_0 := hEF.cell 0; have hEF_1 := hEF.cell 1; have hEF_2 := hEF.cell 2; have hEF_3 := hEF.cell 3; simp at hEF_0 hEF_1 hEF_2 hEF_3
       by_cases qx20 : x2.length = 0
       ·
        have hd : ((x2.length : Int) == 0) = true := by rw [beq_iff_eq]; omega
        have He := Lib.hid (Hfe.out 8 (by rw [HE.out, if_pos qx20]) (by decide))
        clear Hfe HE hf qx20
        go_wp2_with fail
        go_ret
        exact ⟨by rw [He.out] <;> rfl, hbF⟩
       ·
        have hd : ((x2.length : Int) == 0) = false := by rw [beq_eq_false_iff_ne]; omega
        rw [if_neg qx20] at HE
        by_cases qx220 : 20 < x2.length
        ·
         have hd : decide ((20 : Int) < (x2.length : Int)) = true := decide_eq_true (by omega)
         have He := Lib.hid (Hfe.out 2 (by rw [HE.out, if_pos qx220]) (by decide))
         clear Hfe HE hf qx220
         go_wp2_with fail
         go_ret
         exact ⟨by rw [He.out] <;> rfl, hbF⟩
        ·
         have hd : decide ((20 : Int) < (x2.length : Int)) = false := decide_eq_false (by omega)
         rw [if_neg qx220] at HE
         go_wp2_with fail
         refine (risingFault_any x2 x5 x6 _ (hr1.below hbF) (by omega) hok4).mono ?_
         rintro e w9 ⟨rfl, hb9⟩
         have hEG := hEF
         have hEF := hEG.below hb9
         have hbG := hbF
         have hbF := below_next hbG hb9
         have hrX := hr1
         clear hEG hbG hb9 hd hEF_l hEF_0 hEF_1 hEF_2 hEF_3
         have hEF_l := hEF.lt; have hEF_0 := hEF.cell 0; have hEF_1 := hEF.cell 1; have hEF_2 := hEF.cell 2; have hEF_3 := hEF.cell 3; simp at hEF_0 hEF_1 hEF_2 hEF_3
         generalize riseFault x2 = f1 at *
         by_cases qf1 : f1 = 0
         ·
          subst qf1
          rw [if_neg (fun h => h rfl)] at HE
          by_cases qx38 : 8 < x3.length
          ·
           have hd : decide ((8 : Int) < (x3.length : Int)) = true := decide_eq_true (by omega)
           have He := Lib.hid (Hfe.out 2 (by rw [HE.out, if_pos qx38]) (by decide))
           clear Hfe HE hf qx38
           go_wp2_with fail
           go_ret
           exact ⟨by rw [He.out] <;> rfl, hbF⟩
          ·
           have hd : decide ((8 : Int) < (x3.length : Int)) = false := decide_eq_false (by omega)
           rw [if_neg qx38] at HE
           go_wp2_with fail
           refine (risingFault_any x3 x7 x8 _ (hr2.below hbF) (by omega) hok5).mono ?_
           rintro e w9 ⟨rfl, hb9⟩
           have hEG := hEF
           have hEF := hEG.below hb9
           have hbG := hbF
           have hbF := below_next hbG hb9
           have hrX := hr2
           clear hEG hbG hb9 hd hEF_l hEF_0 hEF_1 hEF_2 hEF_3
           have hEF_l := hEF.lt; have hEF_0 := hEF.cell 0; have hEF_1 := hEF.cell 1; have hEF_2 := hEF.cell 2; have hEF_3 := hEF.cell 3; simp at hEF_0 hEF_1 hEF_2 hEF_3
           generalize riseFault x3 = f2 at *
           by_cases qf2 : f2 = 0
           ·
            subst qf2
            rw [if_neg (fun h => h rfl)] at HE
            go_wp2_with fail
            refine (outside_any x4 1 1440 _).mono ?_
            rintro e w9 ⟨rfl, rfl⟩
            generalize (decide (x4 < 1) || decide (1440 < x4)) = ob at *
            cases ob
            ·
             have Hz : Hid (talkE l k = 0) := by show _ = _; rw [HE.out]; rfl
             clear Hfe HE
             go_wp2_with fail
             rw [← Ha.out]
             go_roundg (l.length - (k + 1))
             case measure => have := hgk.out; omega
             case rel => exact ⟨k + 1, by go_num, by omega, rfl, zeros_succ hf.out Hz.out, hbF⟩
            ·
             have He := Lib.hid (Hfe.out 1 (by rw [HE.out]; rfl) (by decide))
             clear Hfe HE hf
             go_wp2_with fail
             go_ret
             exact ⟨by rw [He.out] <;> rfl, hbF⟩
           ·
            have hq : (f2 != 0) = true := by simpa using qf2
            have He := Lib.hid (Hfe.out f2 (by rw [HE.out, if_pos qf2]) (by assumption))
            clear Hfe HE hf
            go_wp2_with fail
            go_ret
            exact ⟨by rw [He.out] <;> rfl, hbF⟩
         ·
          have hq : (f1 != 0) = true := by simpa using qf1
          have He := Lib.hid (Hfe.out f1 (by rw [HE.out, if_pos qf1]) (by assumption))
          clear Hfe HE hf
          go_wp2_with fail
          go_ret
          exact ⟨by rw [He.out] <;> rfl, hbF⟩
      ·
       rw [hbb] at HE
       have He := Lib.hid (Hfe.out 7 (by rw [HE.out]; rfl) (by decide))
       clear Hfe HE hf
       go_wp2_with fail
       go_ret
       exact ⟨by rw [He.out] <;> rfl, hbF⟩
   ·
    obtain rfl : k = l.length := by omega
    have He : Hid (R = 0) := by show _ = _; rw [HR.out, firstErr_zero hf.out]
    clear HR hf
    go_wp2_with fail
    go_ret
    exact ⟨by rw [He.out] <;> rfl, hb⟩

end Go.Proofs.YtldgphhiajhfhaaGreatDoor
