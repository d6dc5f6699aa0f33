/- Calls and arrivals: what is wrong with them. -/
import Derived.Test.YtifflpilnpcmoaaGreatDoorText1
import Derived.Test.YtifflpilnpcmoaaGreatDoorCallDefs
import Derived.Test.YtifflpilnpcmoaaGreatDoorOutside
namespace Go.Proofs.YtifflpilnpcmoaaGreatDoor
open Go.RowKit
set_option linter.unusedVariables false
set_option linter.unusedSimpArgs false

def momB (n : Int) : Bool := decide (0 ≤ n) && decide (n < 5761440)
theorem isKeyG (s : ByteArray) (w : World) (hs : s.size ≤ 9223372036854775807) : Calls Tryz.prog 38 #[.string s] w (Gives (.bool (keyB s)) w) :=
  (isKey_any s w hs).mono fun e w' ⟨h1, h2⟩ => ⟨h1, by subst h2; exact Below.refl _ _⟩
set_option maxHeartbeats 1000000 in
theorem isMoment_any (n : Int) (w : World) : Calls Tryz.prog 39 #[.int .i64 n] w (fun e w' => e = .returned (.bool (momB n)) ∧ w = w') := by
  unfold momB
  by_cases h1 : 0 ≤ n
  · rw [decide_eq_true h1]
    by_cases h2 : n < 5761440
    · rw [decide_eq_true h2]
      go_enter Tryz.func39, Tryz.ntmps39
      go_wp2_with fail
      go_ret
      exact ⟨rfl, rfl⟩
    · rw [decide_eq_false h2]
      have hd : decide (n < 5761440) = false := decide_eq_false h2
      go_enter Tryz.func39, Tryz.ntmps39
      go_wp2_with fail
      go_ret
      exact ⟨rfl, rfl⟩
  · rw [decide_eq_false h1]
    have hd : decide (0 ≤ n) = false := decide_eq_false h1
    go_enter Tryz.func39, Tryz.ntmps39
    go_wp2_with fail
    go_ret
    exact ⟨rfl, rfl⟩
set_option maxHeartbeats 1000000 in
theorem moment_any (n : Int) (w : World) : Calls Tryz.prog 14 #[.int .i64 n] w (fun e w' => e = .returned (.bool (momB n)) ∧ w = w') := by
  unfold momB
  by_cases h1 : 0 ≤ n
  · rw [decide_eq_true h1]
    by_cases h2 : n < 5761440
    · rw [decide_eq_true h2]
      go_enter Tryz.func14, Tryz.ntmps14
      go_wp2_with fail
      go_ret
      exact ⟨rfl, rfl⟩
    · rw [decide_eq_false h2]
      have hd : decide (n < 5761440) = false := decide_eq_false h2
      go_enter Tryz.func14, Tryz.ntmps14
      go_wp2_with fail
      go_ret
      exact ⟨rfl, rfl⟩
  · rw [decide_eq_false h1]
    have hd : decide (0 ≤ n) = false := decide_eq_false h1
    go_enter Tryz.func14, Tryz.ntmps14
    go_wp2_with fail
    go_ret
    exact ⟨rfl, rfl⟩
def kindB (k : Int) : Bool := !(decide (k < 1) || decide (3 < k))
set_option maxHeartbeats 1000000 in
theorem isKind_any (k : Int) (w : World) : Calls Tryz.prog 92 #[.int .i64 k] w (fun e w' => e = .returned (.bool (kindB k)) ∧ w = w') := by
  go_enter Tryz.func92, Tryz.ntmps92
  go_wp2_with fail
  refine (outside_any _ _ _ _).mono ?_
  rintro e w2 ⟨rfl, rfl⟩
  go_wp2_with fail
  go_ret
  exact ⟨by simp [kindB], rfl⟩

def reasonE (s : List Skill) (i : Nat) : Int :=
  match s[i]? with
  | none => 0
  | some x => if keyB x.1 = false then 5 else if ordB (s.map (·.1)) i then 7 else if decide (x.2 < 1) || decide (5761440 < x.2) then 1 else 0
def callFault (o a f : Int) (s : List Skill) : Int :=
  if momB o = false then 1
  else if decide (a ≤ o) || decide (f < a) then 7
  else if 5761440 ≤ f then 1
  else if 20 < s.length then 2
  else firstErr (reasonE s) s.length

set_option maxRecDepth 100000 in
set_option maxHeartbeats 4000000 in
theorem checkCall_any (o a f : Int) (s : List Skill) (a3 : Option Addr) (c3 : Nat) (w : World) (hs : SA w a3 s) (hsl : s.length ≤ 1000000) (hsm : ∀ x ∈ s, x.1.size ≤ 1000) :
    Calls Tryz.prog 52 #[callAgg o a f s a3 c3] w (Gives (.int .i64 (callFault o a f s)) w) := by
  have HPF := Lib.hid (show callFault o a f s = (if momB o = false then 1
    else if decide (a ≤ o) || decide (f < a) then 7
    else if 5761440 ≤ f then 1
    else if 20 < s.length then 2
    else firstErr (reasonE s) s.length) from rfl)
  generalize callFault o a f s = pf at *
  unfold callAgg
  have HK := Lib.hid isKeyG
  have hbx := Box.new w 28 #[.int .i64 o, .int .i64 a, .int .i64 f, .slice a3 s.length c3]
  have hb0 : Below w.heap.size w (w.alloc (.cells #[.int .i64 o, .int .i64 a, .int .i64 f, .slice a3 s.length c3] 28)) := by (repeat' (first | exact Below.refl _ _ | assumption | refine Below.setCell ?_ ?_ _ | refine below_drewN ?_ _ | refine Below.drew ?_ | refine Below.alloc ?_ ?_ _ | (with_reducible refine Below.trans ?_ (Below.mono hb ?_)) | (with_reducible refine Below.trans ?_ (Below.mono hb0 ?_)) | (with_reducible refine Below.trans ?_ (Below.mono hb1 ?_)) | (with_reducible refine Below.trans ?_ (Below.mono hb2 ?_)) | (with_reducible refine Below.trans ?_ (Below.mono hb3 ?_)) | (with_reducible refine Below.trans ?_ (Below.mono hb4 ?_)) | (with_reducible refine Below.trans ?_ (Below.mono hb5 ?_)) | (with_reducible refine Below.trans ?_ (Below.mono hb6 ?_)) | (with_reducible refine Below.trans ?_ (Below.mono hb7 ?_)) | (with_reducible refine Below.trans ?_ (Below.mono hb8 ?_)) | (with_reducible refine Below.trans ?_ (Below.mono hb9 ?_)) | (with_reducible refine Below.trans ?_ (Below.mono hb10 ?_)) | (with_reducible refine Below.trans ?_ (Below.mono hb11 ?_)) | (with_reducible refine Below.trans ?_ (Below.mono hb12 ?_)) | (with_reducible refine Below.trans ?_ (Below.mono hb13 ?_)) | (with_reducible refine Below.trans ?_ (Below.mono hb14 ?_)) | (with_reducible refine Below.trans ?_ (Below.mono hb15 ?_)) | omega | (simp; done) | (simp; omega)))
  go_enter Tryz.func52, Tryz.ntmps52
  go_wp2_with fail
  refine (isMoment_any o _).mono ?_
  rintro e w1 ⟨rfl, rfl⟩
  cases h1 : momB o
  · have Hv := Lib.hid (show pf = 1 by rw [HPF.out, h1]; rfl)
    go_wp2_with fail
    go_ret
    exact ⟨by rw [Hv.out]; rfl, hb0⟩
  rw [h1, if_neg (by decide)] at HPF
  by_cases h2 : a ≤ o
  · have Hv := Lib.hid (show pf = 7 by rw [HPF.out, if_pos (by simp [h2])])
    go_wp2_with fail
    go_ret
    exact ⟨by rw [Hv.out]; rfl, hb0⟩
  have hd2 : decide (a ≤ o) = false := decide_eq_false h2
  by_cases h3 : f < a
  · have Hv := Lib.hid (show pf = 7 by rw [HPF.out, if_pos (by simp [h3])])
    go_wp2_with fail
    go_ret
    exact ⟨by rw [Hv.out]; rfl, hb0⟩
  have hd3 : decide (f < a) = false := decide_eq_false h3
  rw [hd2, hd3, if_neg (by decide)] at HPF
  by_cases h4 : 5761440 ≤ f
  · have Hv := Lib.hid (show pf = 1 by rw [HPF.out, if_pos h4])
    go_wp2_with fail
    go_ret
    exact ⟨by rw [Hv.out]; rfl, hb0⟩
  rw [if_neg h4] at HPF
  by_cases h5 : 20 < s.length
  · have Hv := Lib.hid (show pf = 2 by rw [HPF.out, if_pos h5])
    go_wp2_with fail
    go_ret
    exact ⟨by rw [Hv.out]; rfl, hb0⟩
  rw [if_neg h5] at HPF
  go_wp2_with fail
  go_loopg [35] s.length (fun gk i wr => ∃ k : Nat, i = .int .i64 k ∧ k ≤ s.length ∧ Hid (gk = s.length - k) ∧ Hid (∀ j, j < k → reasonE s j = 0) ∧ Box wr w.heap.size 28 #[.int .i64 o, .int .i64 a, .int .i64 f, .slice a3 s.length c3] ∧ Below w.heap.size w wr)
  case atStart => exact ⟨0, rfl, by omega, rfl, fun j hj => by omega, hbx, hb0⟩
  case round =>
    clear hbx hb0
    obtain ⟨k, rfl, hk, hgk, hf, hbx, hb⟩ := hrel
    by_cases hlt : k < s.length
    · obtain ⟨b, off, ha, c0, c1⟩ := (hs.below hb).skill hlt
      have hE : reasonE s k = if keyB s[k].1 = false then 5 else if ordB (s.map (·.1)) k then 7 else if decide (s[k].2 < 1) || decide (5761440 < s[k].2) then 1 else 0 := by
        unfold reasonE; rw [List.getElem?_eq_getElem hlt]
      have HE := Lib.hid hE
      have hxs := hsm s[k] (List.getElem_mem hlt)
      clear hE
      rw [ha] at hbx ⊢
      generalize hx : s[k] = x at *
      obtain ⟨x1, x2⟩ := x
      have Hx := Lib.hid hx
      clear hx
      simp only at c0 c1 HE hxs
      have hz := hb.size
      have hbl := hbx.lt
      have Hfe := Lib.hid (fun (e : Int) (he : reasonE s k = e) (he0 : e ≠ 0) => (show pf = e by rw [HPF.out, firstErr_is (f := reasonE s) hlt hf.out he he0]))
      go_wp2_with fail
      refine (HK.out x1 _ (by omega)).mono ?_
      rintro e w1 ⟨rfl, hb1⟩
      have hz1 := hb1.size
      simp at hz1
      have hT := (Box.new wr 75 #[.string x1, .int .i64 x2]).below hb1
      have hbx1 := (hbx.alloc (.cells #[.string x1, .int .i64 x2] 75)).below hb1
      have hb1' : Below w.heap.size w w1 := by (repeat' (first | exact Below.refl _ _ | assumption | refine Below.setCell ?_ ?_ _ | refine below_drewN ?_ _ | refine Below.drew ?_ | refine Below.alloc ?_ ?_ _ | (with_reducible refine Below.trans ?_ (Below.mono hb ?_)) | (with_reducible refine Below.trans ?_ (Below.mono hb0 ?_)) | (with_reducible refine Below.trans ?_ (Below.mono hb1 ?_)) | (with_reducible refine Below.trans ?_ (Below.mono hb2 ?_)) | (with_reducible refine Below.trans ?_ (Below.mono hb3 ?_)) | (with_reducible refine Below.trans ?_ (Below.mono hb4 ?_)) | (with_reducible refine Below.trans ?_ (Below.mono hb5 ?_)) | (with_reducible refine Below.trans ?_ (Below.mono hb6 ?_)) | (with_reducible refine Below.trans ?_ (Below.mono hb7 ?_)) | (with_reducible refine Below.trans ?_ (Below.mono hb8 ?_)) | (with_reducible refine Below.trans ?_ (Below.mono hb9 ?_)) | (with_reducible refine Below.trans ?_ (Below.mono hb10 ?_)) | (with_reducible refine Below.trans ?_ (Below.mono hb11 ?_)) | (with_reducible refine Below.trans ?_ (Below.mono hb12 ?_)) | (with_reducible refine Below.trans ?_ (Below.mono hb13 ?_)) | (with_reducible refine Below.trans ?_ (Below.mono hb14 ?_)) | (with_reducible refine Below.trans ?_ (Below.mono hb15 ?_)) | omega | (simp; done) | (simp; omega)))
      cases hh : keyB x1
      · rw [hh] at HE
        have He := Lib.hid (Hfe.out 5 (by rw [HE.out]; rfl) (by decide))
        go_wp2_with fail
        go_ret
        exact ⟨by rw [He.out]; rfl, hb1'⟩
      · rw [hh] at HE
        have hT_l := hT.lt; have hT_0 := hT.cell 0; have hT_1 := hT.cell 1; simp at hT_0 hT_1
        have hbx1_l := hbx1.lt; have hbx1_0 := hbx1.cell 0; have hbx1_1 := hbx1.cell 1; have hbx1_2 := hbx1.cell 2; have hbx1_3 := hbx1.cell 3; simp at hbx1_0 hbx1_1 hbx1_2 hbx1_3
        go_upto_region 15 with (fail)
        go_cut [45] (fun v wx => v = .bool (ordB (s.map (·.1)) k) ∧ ∃ n, wx = w1.drewN n)
        case first =>
          by_cases hk0 : k = 0
          · have hd : decide (0 < k) = false := by simp [hk0]
            have hd' : decide ((0 : Int) < (k : Int)) = false := by simp [hk0]
            have ho0 : ordB (s.map (·.1)) k = false := by rw [hk0]; rfl
            have Ho := Lib.hid ho0
            clear hk0 ho0
            go_wp2_with fail
            go_quiet (fail); go_wp2_with fail
            go_meet
            exact ⟨by rw [Ho.out] <;> rfl, _, rfl⟩
          · obtain ⟨p, hp⟩ : ∃ p, k = p + 1 := ⟨k - 1, by omega⟩
            have hpl : p < s.length := by omega
            obtain ⟨b', off', ha', d0, d1⟩ := (hs.below hb1').skill hpl; generalize hy : s[p].1 = y at *; have Hy := Lib.hid hy; clear hy d1
            rw [ha] at ha'
            cases ha'
            have Ho := Lib.hid (ordB_at (ks := (s.map (·.1))) (k := k) (p := p) (x := x1) (y := y) hp (by have := Hx.out; simp [List.getElem?_eq_getElem hlt, this]) (by have := Hy.out; simp [List.getElem?_eq_getElem hpl, this]))
            have hwp : IntKind.i64.wrap ((k : Int) - 1) = (p : Int) := by rw [hp, IntWalk.i64_in _ (by omega)]; omega
            have hk1 : 0 < k := by omega
            have hk2 : (0 : Int) < (k : Int) := by omega
            have hp1 : (0 : Int) ≤ (p : Int) := by omega
            have hp2 : (p : Int) < (s.length : Int) := by omega
            have hp3 : (k : Int) - 1 = (p : Int) := by omega
            have Hp := Lib.hid hp
            clear hp hk0
            go_wp2_with fail
            go_quiet (fail); go_wp2_with fail
            go_meet
            exact ⟨by rw [Ho.out] <;> rfl, _, rfl⟩
        case rest =>
          obtain ⟨hso, n, rfl⟩ := hcut
          rw [hso]
          cases hob : ordB (s.map (·.1)) k
          · rw [hob] at HE
            cases hr : (decide (x2 < 1) || decide (5761440 < x2))
            · rw [hr] at HE
              go_wp2_with fail; refine (outside_any _ _ _ _).mono ?_; rintro e w2 ⟨rfl, rfl⟩; rw [hr]; go_wp2_with fail
              rw [← ha]
              go_roundg (s.length - (k + 1))
              case measure => have := hgk.out; omega
              case rel => exact ⟨k + 1, by go_num, by omega, rfl, zeros_succ hf.out (by rw [HE.out]; rfl), by rw [ha]; exact hbx1.drewN _, below_drewN hb1' _⟩
            · rw [hr] at HE
              have He := Lib.hid (Hfe.out 1 (by rw [HE.out]; rfl) (by decide))
              go_wp2_with fail; refine (outside_any _ _ _ _).mono ?_; rintro e w2 ⟨rfl, rfl⟩; rw [hr]; go_wp2_with fail
              all_goals
                go_ret
                exact ⟨by rw [He.out]; rfl, below_drewN hb1' _⟩
          · rw [hob] at HE
            have He := Lib.hid (Hfe.out 7 (by rw [HE.out]; rfl) (by decide))
            go_wp2_with fail
            go_ret
            exact ⟨by rw [He.out]; rfl, below_drewN hb1' _⟩
    · have hE0 : firstErr (reasonE s) s.length = 0 := by
        obtain rfl : k = s.length := by omega
        exact firstErr_zero hf.out
      have Hv := Lib.hid (show pf = 0 by rw [HPF.out, hE0])
      clear hE0
      go_wp2_with fail
      go_ret
      exact ⟨by rw [Hv.out]; rfl, hb⟩
set_option maxRecDepth 100000 in
set_option maxHeartbeats 4000000 in
theorem callFault_any (o a f : Int) (s : List Skill) (a3 : Option Addr) (c3 : Nat) (w : World) (hs : SA w a3 s) (hsl : s.length ≤ 1000000) (hsm : ∀ x ∈ s, x.1.size ≤ 1000) :
    Calls Tryz.prog 23 #[callAgg o a f s a3 c3] w (Gives (.int .i64 (callFault o a f s)) w) := by
  have HPF := Lib.hid (show callFault o a f s = (if momB o = false then 1
    else if decide (a ≤ o) || decide (f < a) then 7
    else if 5761440 ≤ f then 1
    else if 20 < s.length then 2
    else firstErr (reasonE s) s.length) from rfl)
  generalize callFault o a f s = pf at *
  unfold callAgg
  have HK := Lib.hid keyOf_any
  have hbx := Box.new w 28 #[.int .i64 o, .int .i64 a, .int .i64 f, .slice a3 s.length c3]
  have hb0 : Below w.heap.size w (w.alloc (.cells #[.int .i64 o, .int .i64 a, .int .i64 f, .slice a3 s.length c3] 28)) := by (repeat' (first | exact Below.refl _ _ | assumption | refine Below.setCell ?_ ?_ _ | refine below_drewN ?_ _ | refine Below.drew ?_ | refine Below.alloc ?_ ?_ _ | (with_reducible refine Below.trans ?_ (Below.mono hb ?_)) | (with_reducible refine Below.trans ?_ (Below.mono hb0 ?_)) | (with_reducible refine Below.trans ?_ (Below.mono hb1 ?_)) | (with_reducible refine Below.trans ?_ (Below.mono hb2 ?_)) | (with_reducible refine Below.trans ?_ (Below.mono hb3 ?_)) | (with_reducible refine Below.trans ?_ (Below.mono hb4 ?_)) | (with_reducible refine Below.trans ?_ (Below.mono hb5 ?_)) | (with_reducible refine Below.trans ?_ (Below.mono hb6 ?_)) | (with_reducible refine Below.trans ?_ (Below.mono hb7 ?_)) | (with_reducible refine Below.trans ?_ (Below.mono hb8 ?_)) | (with_reducible refine Below.trans ?_ (Below.mono hb9 ?_)) | (with_reducible refine Below.trans ?_ (Below.mono hb10 ?_)) | (with_reducible refine Below.trans ?_ (Below.mono hb11 ?_)) | (with_reducible refine Below.trans ?_ (Below.mono hb12 ?_)) | (with_reducible refine Below.trans ?_ (Below.mono hb13 ?_)) | (with_reducible refine Below.trans ?_ (Below.mono hb14 ?_)) | (with_reducible refine Below.trans ?_ (Below.mono hb15 ?_)) | omega | (simp; done) | (simp; omega)))
  go_enter Tryz.func23, Tryz.ntmps23
  go_wp2_with fail
  refine (moment_any o _).mono ?_
  rintro e w1 ⟨rfl, rfl⟩
  cases h1 : momB o
  · have Hv := Lib.hid (show pf = 1 by rw [HPF.out, h1]; rfl)
    go_wp2_with fail
    go_ret
    exact ⟨by rw [Hv.out]; rfl, hb0⟩
  rw [h1, if_neg (by decide)] at HPF
  by_cases h2 : a ≤ o
  · have Hv := Lib.hid (show pf = 7 by rw [HPF.out, if_pos (by simp [h2])])
    go_wp2_with fail
    go_ret
    exact ⟨by rw [Hv.out]; rfl, hb0⟩
  have hd2 : decide (a ≤ o) = false := decide_eq_false h2
  by_cases h3 : f < a
  · have Hv := Lib.hid (show pf = 7 by rw [HPF.out, if_pos (by simp [h3])])
    go_wp2_with fail
    go_ret
    exact ⟨by rw [Hv.out]; rfl, hb0⟩
  have hd3 : decide (f < a) = false := decide_eq_false h3
  rw [hd2, hd3, if_neg (by decide)] at HPF
  by_cases h4 : 5761440 ≤ f
  · have Hv := Lib.hid (show pf = 1 by rw [HPF.out, if_pos h4])
    go_wp2_with fail
    go_ret
    exact ⟨by rw [Hv.out]; rfl, hb0⟩
  rw [if_neg h4] at HPF
  by_cases h5 : 20 < s.length
  · have Hv := Lib.hid (show pf = 2 by rw [HPF.out, if_pos h5])
    go_wp2_with fail
    go_ret
    exact ⟨by rw [Hv.out]; rfl, hb0⟩
  rw [if_neg h5] at HPF
  go_wp2_with fail
  go_loopg [35] s.length (fun gk i wr => ∃ k : Nat, i = .int .i64 k ∧ k ≤ s.length ∧ Hid (gk = s.length - k) ∧ Hid (∀ j, j < k → reasonE s j = 0) ∧ Box wr w.heap.size 28 #[.int .i64 o, .int .i64 a, .int .i64 f, .slice a3 s.length c3] ∧ Below w.heap.size w wr)
  case atStart => exact ⟨0, rfl, by omega, rfl, fun j hj => by omega, hbx, hb0⟩
  case round =>
    clear hbx hb0
    obtain ⟨k, rfl, hk, hgk, hf, hbx, hb⟩ := hrel
    by_cases hlt : k < s.length
    · obtain ⟨b, off, ha, c0, c1⟩ := (hs.below hb).skill hlt
      have hE : reasonE s k = if keyB s[k].1 = false then 5 else if ordB (s.map (·.1)) k then 7 else if decide (s[k].2 < 1) || decide (5761440 < s[k].2) then 1 else 0 := by
        unfold reasonE; rw [List.getElem?_eq_getElem hlt]
      have HE := Lib.hid hE
      have hxs := hsm s[k] (List.getElem_mem hlt)
      clear hE
      rw [ha] at hbx ⊢
      generalize hx : s[k] = x at *
      obtain ⟨x1, x2⟩ := x
      have Hx := Lib.hid hx
      clear hx
      simp only at c0 c1 HE hxs
      have hz := hb.size
      have hbl := hbx.lt
      have Hfe := Lib.hid (fun (e : Int) (he : reasonE s k = e) (he0 : e ≠ 0) => (show pf = e by rw [HPF.out, firstErr_is (f := reasonE s) hlt hf.out he he0]))
      go_wp2_with fail
      refine (HK.out x1 _ (by omega)).mono ?_
      rintro e w1 ⟨rfl, hb1⟩
      have hz1 := hb1.size
      simp at hz1
      have hT := (Box.new wr 75 #[.string x1, .int .i64 x2]).below hb1
      have hbx1 := (hbx.alloc (.cells #[.string x1, .int .i64 x2] 75)).below hb1
      have hb1' : Below w.heap.size w w1 := by (repeat' (first | exact Below.refl _ _ | assumption | refine Below.setCell ?_ ?_ _ | refine below_drewN ?_ _ | refine Below.drew ?_ | refine Below.alloc ?_ ?_ _ | (with_reducible refine Below.trans ?_ (Below.mono hb ?_)) | (with_reducible refine Below.trans ?_ (Below.mono hb0 ?_)) | (with_reducible refine Below.trans ?_ (Below.mono hb1 ?_)) | (with_reducible refine Below.trans ?_ (Below.mono hb2 ?_)) | (with_reducible refine Below.trans ?_ (Below.mono hb3 ?_)) | (with_reducible refine Below.trans ?_ (Below.mono hb4 ?_)) | (with_reducible refine Below.trans ?_ (Below.mono hb5 ?_)) | (with_reducible refine Below.trans ?_ (Below.mono hb6 ?_)) | (with_reducible refine Below.trans ?_ (Below.mono hb7 ?_)) | (with_reducible refine Below.trans ?_ (Below.mono hb8 ?_)) | (with_reducible refine Below.trans ?_ (Below.mono hb9 ?_)) | (with_reducible refine Below.trans ?_ (Below.mono hb10 ?_)) | (with_reducible refine Below.trans ?_ (Below.mono hb11 ?_)) | (with_reducible refine Below.trans ?_ (Below.mono hb12 ?_)) | (with_reducible refine Below.trans ?_ (Below.mono hb13 ?_)) | (with_reducible refine Below.trans ?_ (Below.mono hb14 ?_)) | (with_reducible refine Below.trans ?_ (Below.mono hb15 ?_)) | omega | (simp; done) | (simp; omega)))
      cases hh : keyB x1
      · rw [hh] at HE
        have He := Lib.hid (Hfe.out 5 (by rw [HE.out]; rfl) (by decide))
        go_wp2_with fail
        go_ret
        exact ⟨by rw [He.out]; rfl, hb1'⟩
      · rw [hh] at HE
        have hT_l := hT.lt; have hT_0 := hT.cell 0; have hT_1 := hT.cell 1; simp at hT_0 hT_1
        have hbx1_l := hbx1.lt; have hbx1_0 := hbx1.cell 0; have hbx1_1 := hbx1.cell 1; have hbx1_2 := hbx1.cell 2; have hbx1_3 := hbx1.cell 3; simp at hbx1_0 hbx1_1 hbx1_2 hbx1_3
        go_upto_region 15 with (fail)
        go_cut [45] (fun v wx => v = .bool (ordB (s.map (·.1)) k) ∧ ∃ n, wx = w1.drewN n)
        case first =>
          by_cases hk0 : k = 0
          · have hd : decide (0 < k) = false := by simp [hk0]
            have hd' : decide ((0 : Int) < (k : Int)) = false := by simp [hk0]
            have ho0 : ordB (s.map (·.1)) k = false := by rw [hk0]; rfl
            have Ho := Lib.hid ho0
            clear hk0 ho0
            go_wp2_with fail
            go_quiet (fail); go_wp2_with fail
            go_meet
            exact ⟨by rw [Ho.out] <;> rfl, _, rfl⟩
          · obtain ⟨p, hp⟩ : ∃ p, k = p + 1 := ⟨k - 1, by omega⟩
            have hpl : p < s.length := by omega
            obtain ⟨b', off', ha', d0, d1⟩ := (hs.below hb1').skill hpl; generalize hy : s[p].1 = y at *; have Hy := Lib.hid hy; clear hy d1
            rw [ha] at ha'
            cases ha'
            have Ho := Lib.hid (ordB_at (ks := (s.map (·.1))) (k := k) (p := p) (x := x1) (y := y) hp (by have := Hx.out; simp [List.getElem?_eq_getElem hlt, this]) (by have := Hy.out; simp [List.getElem?_eq_getElem hpl, this]))
            have hwp : IntKind.i64.wrap ((k : Int) - 1) = (p : Int) := by rw [hp, IntWalk.i64_in _ (by omega)]; omega
            have hk1 : 0 < k := by omega
            have hk2 : (0 : Int) < (k : Int) := by omega
            have hp1 : (0 : Int) ≤ (p : Int) := by omega
            have hp2 : (p : Int) < (s.length : Int) := by omega
            have hp3 : (k : Int) - 1 = (p : Int) := by omega
            have Hp := Lib.hid hp
            clear hp hk0
            go_wp2_with fail
            go_quiet (fail); go_wp2_with fail
            go_meet
            exact ⟨by rw [Ho.out] <;> rfl, _, rfl⟩
        case rest =>
          obtain ⟨hso, n, rfl⟩ := hcut
          rw [hso]
          cases hob : ordB (s.map (·.1)) k
          · rw [hob] at HE
            cases hr : (decide (x2 < 1) || decide (5761440 < x2))
            · rw [hr] at HE
              (have hr1 : 1 ≤ x2 := (by simp at hr; omega)); (have hr2 : x2 ≤ 5761440 := (by simp at hr; omega)); clear hr; go_wp2_with fail
              rw [← ha]
              go_roundg (s.length - (k + 1))
              case measure => have := hgk.out; omega
              case rel => exact ⟨k + 1, by go_num, by omega, rfl, zeros_succ hf.out (by rw [HE.out]; rfl), by rw [ha]; exact hbx1.drewN _, below_drewN hb1' _⟩
            · rw [hr] at HE
              have He := Lib.hid (Hfe.out 1 (by rw [HE.out]; rfl) (by decide))
              (rcases (show x2 < 1 ∨ 5761440 < x2 by simpa using hr) with h9 | h9) <;> go_wp2_with fail
              all_goals
                go_ret
                exact ⟨by rw [He.out]; rfl, below_drewN hb1' _⟩
          · rw [hob] at HE
            have He := Lib.hid (Hfe.out 7 (by rw [HE.out]; rfl) (by decide))
            go_wp2_with fail
            go_ret
            exact ⟨by rw [He.out]; rfl, below_drewN hb1' _⟩
    · have hE0 : firstErr (reasonE s) s.length = 0 := by
        obtain rfl : k = s.length := by omega
        exact firstErr_zero hf.out
      have Hv := Lib.hid (show pf = 0 by rw [HPF.out, hE0])
      clear hE0
      go_wp2_with fail
      go_ret
      exact ⟨by rw [Hv.out]; rfl, hb⟩
end Go.Proofs.YtifflpilnpcmoaaGreatDoor
