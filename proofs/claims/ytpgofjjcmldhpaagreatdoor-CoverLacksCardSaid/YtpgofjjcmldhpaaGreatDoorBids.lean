/- Bids: what is wrong with them: CheckBids of the program, BidsFault of the reference. -/
import Derived.Test.YtpgofjjcmldhpaaGreatDoorMark
namespace Go.Proofs.YtpgofjjcmldhpaaGreatDoor
open Go.RowKit
set_option linter.unusedVariables false
set_option linter.unusedSimpArgs false

/-- A bid lies as a mark does: a paper, a person, a level. -/
def bidE (l : List Mark) (i : Nat) : Int :=
  match l[i]? with
  | none => 0
  | some x => if !keyB x.1 || !keyB x.2.1 then 5 else if badOrd l i then 7 else if decide (x.2.2 < 1) || decide (4 < x.2.2) then 4 else 0
def bidsFault (l : List Mark) : Int := if 5000 < l.length then 2 else firstErr (bidE l) l.length

set_option maxRecDepth 100000 in
set_option maxHeartbeats 4000000 in
theorem checkBids_any (l : List Mark) (a : Option Addr) (cap : Nat) (w : World) (hs : SA w a l) (hsl : l.length ≤ 1000000) (hsm : ∀ x ∈ l, x.1.size ≤ 1000 ∧ x.2.1.size ≤ 1000) :
    Calls Tryz.prog 15 #[.slice a l.length cap] w (Gives (.int .i64 (bidsFault l)) w) := by
  have HPF := Lib.hid (show bidsFault l = if 5000 < l.length then 2 else firstErr (bidE l) l.length from rfl)
  generalize bidsFault l = pf at *
  by_cases h5 : 5000 < l.length
  · have Hv := Lib.hid (show pf = 2 by rw [HPF.out, if_pos h5])
    go_enter Tryz.func15, Tryz.ntmps15
    go_wp2_with fail
    go_ret
    exact ⟨by rw [Hv.out]; rfl, by (repeat' (first | exact Below.refl _ _ | assumption | refine Below.setCell ?_ ?_ _ | refine below_drewN ?_ _ | refine Below.drew ?_ | refine Below.alloc ?_ ?_ _ | (with_reducible refine Below.trans ?_ (Below.mono hb ?_)) | (with_reducible refine Below.trans ?_ (Below.mono hb0 ?_)) | (with_reducible refine Below.trans ?_ (Below.mono hb1 ?_)) | (with_reducible refine Below.trans ?_ (Below.mono hb2 ?_)) | (with_reducible refine Below.trans ?_ (Below.mono hb3 ?_)) | (with_reducible refine Below.trans ?_ (Below.mono hb4 ?_)) | (with_reducible refine Below.trans ?_ (Below.mono hb5 ?_)) | (with_reducible refine Below.trans ?_ (Below.mono hb6 ?_)) | (with_reducible refine Below.trans ?_ (Below.mono hb7 ?_)) | (with_reducible refine Below.trans ?_ (Below.mono hb8 ?_)) | (with_reducible refine Below.trans ?_ (Below.mono hb9 ?_)) | (with_reducible refine Below.trans ?_ (Below.mono hb10 ?_)) | (with_reducible refine Below.trans ?_ (Below.mono hb11 ?_)) | (with_reducible refine Below.trans ?_ (Below.mono hb12 ?_)) | (with_reducible refine Below.trans ?_ (Below.mono hb13 ?_)) | (with_reducible refine Below.trans ?_ (Below.mono hb14 ?_)) | (with_reducible refine Below.trans ?_ (Below.mono hb15 ?_)) | omega | (simp; done) | (simp; omega)))⟩
  rw [if_neg h5] at HPF
  go_enter Tryz.func15, Tryz.ntmps15
  go_wp2_with fail
  go_loopg [10] l.length (fun gk i wr => ∃ k : Nat, i = .int .i64 k ∧ k ≤ l.length ∧ Hid (gk = l.length - k) ∧ Hid (∀ j, j < k → bidE l j = 0) ∧ Below w.heap.size w wr)
  case atStart => exact ⟨0, rfl, by omega, rfl, fun j hj => by omega, by (repeat' (first | exact Below.refl _ _ | assumption | refine Below.setCell ?_ ?_ _ | refine below_drewN ?_ _ | refine Below.drew ?_ | refine Below.alloc ?_ ?_ _ | (with_reducible refine Below.trans ?_ (Below.mono hb ?_)) | (with_reducible refine Below.trans ?_ (Below.mono hb0 ?_)) | (with_reducible refine Below.trans ?_ (Below.mono hb1 ?_)) | (with_reducible refine Below.trans ?_ (Below.mono hb2 ?_)) | (with_reducible refine Below.trans ?_ (Below.mono hb3 ?_)) | (with_reducible refine Below.trans ?_ (Below.mono hb4 ?_)) | (with_reducible refine Below.trans ?_ (Below.mono hb5 ?_)) | (with_reducible refine Below.trans ?_ (Below.mono hb6 ?_)) | (with_reducible refine Below.trans ?_ (Below.mono hb7 ?_)) | (with_reducible refine Below.trans ?_ (Below.mono hb8 ?_)) | (with_reducible refine Below.trans ?_ (Below.mono hb9 ?_)) | (with_reducible refine Below.trans ?_ (Below.mono hb10 ?_)) | (with_reducible refine Below.trans ?_ (Below.mono hb11 ?_)) | (with_reducible refine Below.trans ?_ (Below.mono hb12 ?_)) | (with_reducible refine Below.trans ?_ (Below.mono hb13 ?_)) | (with_reducible refine Below.trans ?_ (Below.mono hb14 ?_)) | (with_reducible refine Below.trans ?_ (Below.mono hb15 ?_)) | omega | (simp; done) | (simp; omega)))⟩
  case round =>
    obtain ⟨k, rfl, hk, hgk, hf, hb⟩ := hrel
    have hz := hb.size
    by_cases hlt : k < l.length
    · obtain ⟨b, off, ha, c0, c1, c2⟩ := (hs.below hb).mark hlt
      have hE : bidE l k = if !keyB l[k].1 || !keyB l[k].2.1 then 5 else if badOrd l k then 7 else if decide (l[k].2.2 < 1) || decide (4 < l[k].2.2) then 4 else 0 := by
        unfold bidE; rw [List.getElem?_eq_getElem hlt]
      have HE := Lib.hid hE
      have hxs := hsm l[k] (List.getElem_mem hlt)
      clear hE
      rw [ha]
      generalize hx : l[k] = x at *
      obtain ⟨x1, x2, x3⟩ := x
      have Hx := Lib.hid hx
      clear hx
      simp only at c0 c1 c2 HE hxs
      have Hfe := Lib.hid (fun (e : Int) (he : bidE l k = e) (he0 : e ≠ 0) => (show pf = e by rw [HPF.out, firstErr_is (f := bidE l) hlt hf.out he he0]))
      have hT1 := Box.new wr 96 #[.string x1, .string x2, .int .i64 x3]
      go_upto_region 6 with (fail)
      generalize hW : wr.alloc (.cells #[.string x1, .string x2, .int .i64 x3] 96) = W1 at *
      have hbW1 : Below w.heap.size w W1 := by rw [← hW]; (repeat' (first | exact Below.refl _ _ | assumption | refine Below.setCell ?_ ?_ _ | refine below_drewN ?_ _ | refine Below.drew ?_ | refine Below.alloc ?_ ?_ _ | (with_reducible refine Below.trans ?_ (Below.mono hb ?_)) | (with_reducible refine Below.trans ?_ (Below.mono hb0 ?_)) | (with_reducible refine Below.trans ?_ (Below.mono hb1 ?_)) | (with_reducible refine Below.trans ?_ (Below.mono hb2 ?_)) | (with_reducible refine Below.trans ?_ (Below.mono hb3 ?_)) | (with_reducible refine Below.trans ?_ (Below.mono hb4 ?_)) | (with_reducible refine Below.trans ?_ (Below.mono hb5 ?_)) | (with_reducible refine Below.trans ?_ (Below.mono hb6 ?_)) | (with_reducible refine Below.trans ?_ (Below.mono hb7 ?_)) | (with_reducible refine Below.trans ?_ (Below.mono hb8 ?_)) | (with_reducible refine Below.trans ?_ (Below.mono hb9 ?_)) | (with_reducible refine Below.trans ?_ (Below.mono hb10 ?_)) | (with_reducible refine Below.trans ?_ (Below.mono hb11 ?_)) | (with_reducible refine Below.trans ?_ (Below.mono hb12 ?_)) | (with_reducible refine Below.trans ?_ (Below.mono hb13 ?_)) | (with_reducible refine Below.trans ?_ (Below.mono hb14 ?_)) | (with_reducible refine Below.trans ?_ (Below.mono hb15 ?_)) | omega | (simp; done) | (simp; omega)))
      have hWs : W1.heap.size = wr.heap.size + 1 := by rw [← hW]; simp
      clear hW c0 c1 c2
      have hT1_l := hT1.lt; have hT1_0 := hT1.cell 0; have hT1_1 := hT1.cell 1; have hT1_2 := hT1.cell 2; simp at hT1_0 hT1_1 hT1_2
      go_wp2_with fail
      refine (isKeyB_any x1 _ (by omega)).mono ?_
      rintro e W2 ⟨rfl, hb2⟩
      have hT2 := hT1.below hb2
      have hbW2 : Below w.heap.size w W2 := below_next hbW1 hb2
      have hs2 := hb2.size
      clear hT1_l hT1_0 hT1_1 hT1_2
      clear hT1 hb2 hbW1
      cases hk1 : keyB x1
      · rw [hk1] at HE
        have He := Lib.hid (Hfe.out 5 (by rw [HE.out]; rfl) (by decide))
        go_wp2_with fail
        go_ret
        exact ⟨by rw [He.out]; rfl, hbW2⟩
      rw [hk1] at HE
      have hT2_l := hT2.lt; have hT2_0 := hT2.cell 0; have hT2_1 := hT2.cell 1; have hT2_2 := hT2.cell 2; simp at hT2_0 hT2_1 hT2_2
      go_wp2_with fail
      refine (isKeyB_any x2 _ (by omega)).mono ?_
      rintro e W3 ⟨rfl, hb3⟩
      have hT3 := hT2.below hb3
      have hbW3 : Below w.heap.size w W3 := below_next hbW2 hb3
      have hs3 := hb3.size
      clear hT2_l hT2_0 hT2_1 hT2_2
      clear hT2 hb3 hbW2
      cases hk2 : keyB x2
      · rw [hk2] at HE
        have He := Lib.hid (Hfe.out 5 (by rw [HE.out]; rfl) (by decide))
        go_wp2_with fail
        go_ret
        exact ⟨by rw [He.out]; rfl, hbW3⟩
      rw [hk2] at HE
      simp only [Bool.not_true, Bool.or_self, Bool.false_eq_true, if_false] at HE
      have hT3_l := hT3.lt; have hT3_0 := hT3.cell 0; have hT3_1 := hT3.cell 1; have hT3_2 := hT3.cell 2; simp at hT3_0 hT3_1 hT3_2
      go_upto_region 8 with (fail)
      go_cut [28] (fun v wx => v = .bool (badOrd l k) ∧ ∃ W', W' = wx ∧ Below W3.heap.size W3 W')
      case first =>
        by_cases hk0 : k = 0
        · have hd : decide (0 < k) = false := by simp [hk0]
          have hd' : decide ((0 : Int) < (k : Int)) = false := by simp [hk0]
          have ho0 : badOrd l k = false := by rw [hk0]; rfl
          have Ho := Lib.hid ho0
          clear hk0 ho0
          refine wp_region_held_drew (S := (fun wx => Below W3.heap.size W3 wx)) (by kernel_rfl) ?hS (fun hHeld => ?_)
          case hS => exact (Below.refl _ _).drew
          refine rtake (i := 0) (d := (some 29)) (v := ?_) rfl (by kernel_rfl) (by kernel_rfl) (by kernel_rfl) (by kernel_rfl) (fun _ _ _ h => h) (by kernel_rfl) (by assumption) ?_ ?_
          rotate_left 1
          · (intro wI hSI; (try dsimp only at hSI); go_simp; (try with_reducible rfl))
          simp only [Act.put, List.setIfInBounds_toArray, List.set_cons_zero, List.set_cons_succ]
          refine rtake (i := 1) (d := (some 30)) (v := ?_) rfl (by kernel_rfl) (by kernel_rfl) (by kernel_rfl) (by kernel_rfl) (fun _ _ _ h => h) (by kernel_rfl) (by assumption) ?_ ?_
          rotate_left 1
          · (intro wI hSI; (try dsimp only at hSI); go_simp; (try with_reducible rfl))
          simp only [Act.put, List.setIfInBounds_toArray, List.set_cons_zero, List.set_cons_succ]
          refine rtake (i := 2) (d := (some 31)) (v := ?_) rfl (by kernel_rfl) (by kernel_rfl) (by kernel_rfl) (by kernel_rfl) (fun _ _ _ h => h) (by kernel_rfl) (by assumption) ?_ ?_
          rotate_left 1
          · (intro wI hSI; (try dsimp only at hSI); go_simp; (try with_reducible rfl))
          simp only [Act.put, List.setIfInBounds_toArray, List.set_cons_zero, List.set_cons_succ]
          refine rskip (i := 3) (d := (some 32)) rfl (by kernel_rfl) (by kernel_rfl) (by kernel_rfl) (by kernel_rfl) (fun _ _ _ h => h) (by kernel_rfl) (by assumption) ?_
          simp only [Act.put, List.setIfInBounds_toArray, List.set_cons_zero, List.set_cons_succ]
          refine rskip (i := 4) (d := (some 33)) rfl (by kernel_rfl) (by kernel_rfl) (by kernel_rfl) (by kernel_rfl) (fun _ _ _ h => h) (by kernel_rfl) (by assumption) ?_
          simp only [Act.put, List.setIfInBounds_toArray, List.set_cons_zero, List.set_cons_succ]
          refine rskip (i := 5) (d := (some 34)) rfl (by kernel_rfl) (by kernel_rfl) (by kernel_rfl) (by kernel_rfl) (fun _ _ _ h => h) (by kernel_rfl) (by assumption) ?_
          simp only [Act.put, List.setIfInBounds_toArray, List.set_cons_zero, List.set_cons_succ]
          refine rskip (i := 6) (d := (some 35)) rfl (by kernel_rfl) (by kernel_rfl) (by kernel_rfl) (by kernel_rfl) (fun _ _ _ h => h) (by kernel_rfl) (by assumption) ?_
          simp only [Act.put, List.setIfInBounds_toArray, List.set_cons_zero, List.set_cons_succ]
          refine rskip (i := 7) (d := (some 36)) rfl (by kernel_rfl) (by kernel_rfl) (by kernel_rfl) (by kernel_rfl) (fun _ _ _ h => h) (by kernel_rfl) (by assumption) ?_
          simp only [Act.put, List.setIfInBounds_toArray, List.set_cons_zero, List.set_cons_succ]
          refine rskip (i := 8) (d := (some 37)) rfl (by kernel_rfl) (by kernel_rfl) (by kernel_rfl) (by kernel_rfl) (fun _ _ _ h => h) (by kernel_rfl) (by assumption) ?_
          simp only [Act.put, List.setIfInBounds_toArray, List.set_cons_zero, List.set_cons_succ]
          refine rskip (i := 9) (d := (some 38)) rfl (by kernel_rfl) (by kernel_rfl) (by kernel_rfl) (by kernel_rfl) (fun _ _ _ h => h) (by kernel_rfl) (by assumption) ?_
          simp only [Act.put, List.setIfInBounds_toArray, List.set_cons_zero, List.set_cons_succ]
          refine rskip (i := 10) (d := (some 39)) rfl (by kernel_rfl) (by kernel_rfl) (by kernel_rfl) (by kernel_rfl) (fun _ _ _ h => h) (by kernel_rfl) (by assumption) ?_
          simp only [Act.put, List.setIfInBounds_toArray, List.set_cons_zero, List.set_cons_succ]
          refine rskip (i := 11) (d := (some 40)) rfl (by kernel_rfl) (by kernel_rfl) (by kernel_rfl) (by kernel_rfl) (fun _ _ _ h => h) (by kernel_rfl) (by assumption) ?_
          simp only [Act.put, List.setIfInBounds_toArray, List.set_cons_zero, List.set_cons_succ]
          refine rskip (i := 12) (d := (some 41)) rfl (by kernel_rfl) (by kernel_rfl) (by kernel_rfl) (by kernel_rfl) (fun _ _ _ h => h) (by kernel_rfl) (by assumption) ?_
          simp only [Act.put, List.setIfInBounds_toArray, List.set_cons_zero, List.set_cons_succ]
          refine rtake (i := 13) (d := (some 42)) (v := ?_) rfl (by kernel_rfl) (by kernel_rfl) (by kernel_rfl) (by kernel_rfl) (fun _ _ _ h => h) (by kernel_rfl) (by assumption) ?_ ?_
          rotate_left 1
          · (intro wI hSI; (try dsimp only at hSI); go_simp; (try with_reducible rfl))
          simp only [Act.put, List.setIfInBounds_toArray, List.set_cons_zero, List.set_cons_succ]
          refine rtake (i := 14) (d := (some 28)) (v := ?_) rfl (by kernel_rfl) (by kernel_rfl) (by kernel_rfl) (by kernel_rfl) (fun _ _ _ h => h) (by kernel_rfl) (by assumption) ?_ ?_
          rotate_left 1
          · (intro wI hSI; (try dsimp only at hSI); go_simp; (try with_reducible rfl))
          simp only [Act.put, List.setIfInBounds_toArray, List.set_cons_zero, List.set_cons_succ]
          refine wpAnyH_done (by kernel_rfl) ?_ _
          go_wp2_with fail
          go_meet
          exact ⟨by rw [Ho.out] <;> rfl, _, rfl, hHeld⟩
        · obtain ⟨p, hp⟩ : ∃ p, k = p + 1 := ⟨k - 1, by omega⟩
          have hpl : p < l.length := by omega
          obtain ⟨b', off', ha', d0, d1, d2⟩ := (hs.below hbW3).mark hpl
          rw [ha] at ha'
          cases ha'
          generalize hy : l[p] = y at *
          obtain ⟨y1, y2, y3⟩ := y
          have Hy := Lib.hid hy
          clear hy
          simp only at d0 d1 d2
          have hwp : IntKind.i64.wrap ((k : Int) - 1) = (p : Int) := by rw [hp, IntWalk.i64_in _ (by omega)]; omega
          have hwq : IntKind.i64.wrap (p : Int) = (p : Int) := IntWalk.i64_in _ (by omega)
          have hk1 : 0 < k := by omega
          have hk2 : (0 : Int) < (k : Int) := by omega
          have hp1 : (0 : Int) ≤ (p : Int) := by omega
          have hp2 : (p : Int) < (l.length : Int) := by omega
          have hp3 : (k : Int) - 1 = (p : Int) := by omega
          have Hp := Lib.hid hp
          clear hp hk0
          have Ho := Lib.hid (badOrd_at (l := l) (k := k) (p := p) (x := (y1, y2, y3)) (y := (x1, x2, x3)) Hp.out (by rw [List.getElem?_eq_getElem hpl, Hy.out]) (by rw [List.getElem?_eq_getElem hlt, Hx.out]))
          have HC := Lib.hid (fun W => comparePairs_any (y1, y2, y3) (x1, x2, x3) W)
          simp only at HC
          generalize cmpP (y1, y2, y3) (x1, x2, x3) = cp at *
          refine wp_region_held_drew (S := (fun wx => wx.cell? ⟨b, off + p * 3, none⟩ = some (.string y1) ∧ wx.cell? ⟨b, off + p * 3 + 1, none⟩ = some (.string y2) ∧ wx.cell? ⟨wr.heap.size, 0, none⟩ = some (.string x1) ∧ wx.cell? ⟨wr.heap.size, 1, none⟩ = some (.string x2) ∧ Below W3.heap.size W3 wx)) (by kernel_rfl) ?hS (fun hHeld => ?_)
          case hS => exact ⟨d0, d1, hT3_0, hT3_1, (Below.refl _ _).drew⟩
          refine rtake (i := 0) (d := (some 29)) (v := ?_) rfl (by kernel_rfl) (by kernel_rfl) (by kernel_rfl) (by kernel_rfl) (fun _ _ _ h => h) (by kernel_rfl) (by assumption) ?_ ?_
          rotate_left 1
          · (intro wI hSI; (try dsimp only at hSI); go_simp; (try with_reducible rfl))
          simp only [Act.put, List.setIfInBounds_toArray, List.set_cons_zero, List.set_cons_succ]
          refine rtake (i := 1) (d := (some 30)) (v := ?_) rfl (by kernel_rfl) (by kernel_rfl) (by kernel_rfl) (by kernel_rfl) (fun _ _ _ h => h) (by kernel_rfl) (by assumption) ?_ ?_
          rotate_left 1
          · (intro wI hSI; (try dsimp only at hSI); go_simp; (try with_reducible rfl))
          simp only [Act.put, List.setIfInBounds_toArray, List.set_cons_zero, List.set_cons_succ]
          refine rtake (i := 2) (d := (some 31)) (v := ?_) rfl (by kernel_rfl) (by kernel_rfl) (by kernel_rfl) (by kernel_rfl) (fun _ _ _ h => h) (by kernel_rfl) (by assumption) ?_ ?_
          rotate_left 1
          · (intro wI hSI; (try dsimp only at hSI); go_simp; (try with_reducible rfl))
          simp only [Act.put, List.setIfInBounds_toArray, List.set_cons_zero, List.set_cons_succ]
          refine rtake (i := 3) (d := (some 32)) (v := ?_) rfl (by kernel_rfl) (by kernel_rfl) (by kernel_rfl) (by kernel_rfl) (fun _ _ _ h => h) (by kernel_rfl) (by assumption) ?_ ?_
          rotate_left 1
          · (intro wI hSI; (try dsimp only at hSI); go_simp; (try with_reducible rfl))
          simp only [Act.put, List.setIfInBounds_toArray, List.set_cons_zero, List.set_cons_succ]
          refine rtake (i := 4) (d := (some 33)) (v := ?_) rfl (by kernel_rfl) (by kernel_rfl) (by kernel_rfl) (by kernel_rfl) (fun _ _ _ h => h) (by kernel_rfl) (by assumption) ?_ ?_
          rotate_left 1
          · (intro wI hSI; (try dsimp only at hSI); go_simp; (try with_reducible rfl))
          simp only [Act.put, List.setIfInBounds_toArray, List.set_cons_zero, List.set_cons_succ]
          refine rtake (i := 5) (d := (some 34)) (v := ?_) rfl (by kernel_rfl) (by kernel_rfl) (by kernel_rfl) (by kernel_rfl) (fun _ _ _ h => h) (by kernel_rfl) (by assumption) ?_ ?_
          rotate_left 1
          · (intro wI hSI; (try dsimp only at hSI); go_simp; (try with_reducible rfl))
          simp only [Act.put, List.setIfInBounds_toArray, List.set_cons_zero, List.set_cons_succ]
          refine rtake (i := 6) (d := (some 35)) (v := ?_) rfl (by kernel_rfl) (by kernel_rfl) (by kernel_rfl) (by kernel_rfl) (fun _ _ _ h => h) (by kernel_rfl) (by assumption) ?_ ?_
          rotate_left 1
          · (intro wI hSI; (try dsimp only at hSI); go_simp; (try with_reducible rfl))
          simp only [Act.put, List.setIfInBounds_toArray, List.set_cons_zero, List.set_cons_succ]
          refine rtake (i := 7) (d := (some 36)) (v := ?_) rfl (by kernel_rfl) (by kernel_rfl) (by kernel_rfl) (by kernel_rfl) (fun _ _ _ h => h) (by kernel_rfl) (by assumption) ?_ ?_
          rotate_left 1
          · (intro wI hSI; (try dsimp only at hSI); go_simp; (try with_reducible rfl))
          simp only [Act.put, List.setIfInBounds_toArray, List.set_cons_zero, List.set_cons_succ]
          refine rtake (i := 8) (d := (some 37)) (v := ?_) rfl (by kernel_rfl) (by kernel_rfl) (by kernel_rfl) (by kernel_rfl) (fun _ _ _ h => h) (by kernel_rfl) (by assumption) ?_ ?_
          rotate_left 1
          · (intro wI hSI; (try dsimp only at hSI); go_simp; (try with_reducible rfl))
          simp only [Act.put, List.setIfInBounds_toArray, List.set_cons_zero, List.set_cons_succ]
          refine rtake (i := 9) (d := (some 38)) (v := ?_) rfl (by kernel_rfl) (by kernel_rfl) (by kernel_rfl) (by kernel_rfl) (fun _ _ _ h => h) (by kernel_rfl) (by assumption) ?_ ?_
          rotate_left 1
          · (intro wI hSI; (try dsimp only at hSI); go_simp; (try with_reducible rfl))
          simp only [Act.put, List.setIfInBounds_toArray, List.set_cons_zero, List.set_cons_succ]
          refine rtake (i := 10) (d := (some 39)) (v := ?_) rfl (by kernel_rfl) (by kernel_rfl) (by kernel_rfl) (by kernel_rfl) (fun _ _ _ h => h) (by kernel_rfl) (by assumption) ?_ ?_
          rotate_left 1
          · (intro wI hSI; (try dsimp only at hSI); go_simp; (try with_reducible rfl))
          simp only [Act.put, List.setIfInBounds_toArray, List.set_cons_zero, List.set_cons_succ]
          refine rcall (i := 11) (d := (some 40)) (by kernel_rfl) rfl (by kernel_rfl) (fun K hK => ?_)
          go_simp
          go_at_call 55; refine (HC.out _).mono ?_; rintro e w' ⟨rfl, hb4⟩
          refine hK.out _ _ ?hS (fun hHeld => ?_)
          case hS => exact ⟨cell_later hb4 hHeld.1, cell_later hb4 hHeld.2.1, cell_later hb4 hHeld.2.2.1, cell_later hb4 hHeld.2.2.2.1, hHeld.2.2.2.2.trans (hb4.mono hHeld.2.2.2.2.size)⟩
          clear hK K
          simp only [Act.put, List.setIfInBounds_toArray, List.set_cons_zero, List.set_cons_succ]
          refine rtake (i := 12) (d := (some 41)) (v := ?_) rfl (by kernel_rfl) (by kernel_rfl) (by kernel_rfl) (by kernel_rfl) (fun _ _ _ h => h) (by kernel_rfl) (by assumption) ?_ ?_
          rotate_left 1
          · (intro wI hSI; (try dsimp only at hSI); go_simp; (try with_reducible rfl))
          simp only [Act.put, List.setIfInBounds_toArray, List.set_cons_zero, List.set_cons_succ]
          refine rtake (i := 13) (d := (some 42)) (v := ?_) rfl (by kernel_rfl) (by kernel_rfl) (by kernel_rfl) (by kernel_rfl) (fun _ _ _ h => h) (by kernel_rfl) (by assumption) ?_ ?_
          rotate_left 1
          · (intro wI hSI; (try dsimp only at hSI); go_simp; (try with_reducible rfl))
          simp only [Act.put, List.setIfInBounds_toArray, List.set_cons_zero, List.set_cons_succ]
          refine rtake (i := 14) (d := (some 28)) (v := ?_) rfl (by kernel_rfl) (by kernel_rfl) (by kernel_rfl) (by kernel_rfl) (fun _ _ _ h => h) (by kernel_rfl) (by assumption) ?_ ?_
          rotate_left 1
          · (intro wI hSI; (try dsimp only at hSI); go_simp; (try with_reducible rfl))
          simp only [Act.put, List.setIfInBounds_toArray, List.set_cons_zero, List.set_cons_succ]
          refine wpAnyH_done (by kernel_rfl) ?_ _
          go_wp2_with fail
          go_meet
          exact ⟨by rw [Ho.out] <;> rfl, _, rfl, hHeld.2.2.2.2⟩
      case rest =>
        obtain ⟨hso, W4, rfl, hb4⟩ := hcut
        rw [hso]
        have hT4 := hT3.below hb4
        have hbW4 : Below w.heap.size w W4 := below_next hbW3 hb4
        clear hT3_l hT3_0 hT3_1 hT3_2
        clear hT3 hb4 hbW3
        cases hob : badOrd l k
        · rw [hob] at HE
          have hT4_l := hT4.lt; have hT4_0 := hT4.cell 0; have hT4_1 := hT4.cell 1; have hT4_2 := hT4.cell 2; simp at hT4_0 hT4_1 hT4_2
          go_wp2_with fail
          refine (outside_any _ _ _ _).mono ?_
          rintro e W5 ⟨rfl, rfl⟩
          cases hr : (decide (x3 < 1) || decide (4 < x3))
          · rw [hr] at HE
            have HZ := Lib.hid (show bidE l k = 0 by rw [HE.out]; rfl)
            go_wp2_with fail
            rw [← ha]
            go_roundg (l.length - (k + 1))
            case measure => have := hgk.out; omega
            case rel => exact ⟨k + 1, by go_num, by omega, rfl, zeros_succ hf.out HZ.out, hbW4⟩
          · rw [hr] at HE
            have He := Lib.hid (Hfe.out 4 (by rw [HE.out]; rfl) (by decide))
            go_wp2_with fail
            go_ret
            exact ⟨by rw [He.out]; rfl, hbW4⟩
        · rw [hob] at HE
          have He := Lib.hid (Hfe.out 7 (by rw [HE.out]; rfl) (by decide))
          go_wp2_with fail
          go_ret
          exact ⟨by rw [He.out]; rfl, hbW4⟩
    · have HE0 := Lib.hid (show pf = 0 by obtain rfl : k = l.length := by omega
                                          rw [HPF.out]; exact firstErr_zero hf.out)
      go_wp2_with fail
      go_ret
      exact ⟨by rw [HE0.out]; rfl, hb⟩
set_option maxRecDepth 100000 in
set_option maxHeartbeats 4000000 in
theorem bidsFaultR_any (l : List Mark) (a : Option Addr) (cap : Nat) (w : World) (hs : SA w a l) (hsl : l.length ≤ 1000000) (hsm : ∀ x ∈ l, x.1.size ≤ 1000 ∧ x.2.1.size ≤ 1000) :
    Calls Tryz.prog 16 #[.slice a l.length cap] w (Gives (.int .i64 (bidsFault l)) w) := by
  have HPF := Lib.hid (show bidsFault l = if 5000 < l.length then 2 else firstErr (bidE l) l.length from rfl)
  generalize bidsFault l = pf at *
  by_cases h5 : 5000 < l.length
  · have Hv := Lib.hid (show pf = 2 by rw [HPF.out, if_pos h5])
    go_enter Tryz.func16, Tryz.ntmps16
    go_wp2_with fail
    go_ret
    exact ⟨by rw [Hv.out]; rfl, by (repeat' (first | exact Below.refl _ _ | assumption | refine Below.setCell ?_ ?_ _ | refine below_drewN ?_ _ | refine Below.drew ?_ | refine Below.alloc ?_ ?_ _ | (with_reducible refine Below.trans ?_ (Below.mono hb ?_)) | (with_reducible refine Below.trans ?_ (Below.mono hb0 ?_)) | (with_reducible refine Below.trans ?_ (Below.mono hb1 ?_)) | (with_reducible refine Below.trans ?_ (Below.mono hb2 ?_)) | (with_reducible refine Below.trans ?_ (Below.mono hb3 ?_)) | (with_reducible refine Below.trans ?_ (Below.mono hb4 ?_)) | (with_reducible refine Below.trans ?_ (Below.mono hb5 ?_)) | (with_reducible refine Below.trans ?_ (Below.mono hb6 ?_)) | (with_reducible refine Below.trans ?_ (Below.mono hb7 ?_)) | (with_reducible refine Below.trans ?_ (Below.mono hb8 ?_)) | (with_reducible refine Below.trans ?_ (Below.mono hb9 ?_)) | (with_reducible refine Below.trans ?_ (Below.mono hb10 ?_)) | (with_reducible refine Below.trans ?_ (Below.mono hb11 ?_)) | (with_reducible refine Below.trans ?_ (Below.mono hb12 ?_)) | (with_reducible refine Below.trans ?_ (Below.mono hb13 ?_)) | (with_reducible refine Below.trans ?_ (Below.mono hb14 ?_)) | (with_reducible refine Below.trans ?_ (Below.mono hb15 ?_)) | omega | (simp; done) | (simp; omega)))⟩
  rw [if_neg h5] at HPF
  go_enter Tryz.func16, Tryz.ntmps16
  go_wp2_with fail
  go_loopg [10] l.length (fun gk i wr => ∃ k : Nat, i = .int .i64 k ∧ k ≤ l.length ∧ Hid (gk = l.length - k) ∧ Hid (∀ j, j < k → bidE l j = 0) ∧ Below w.heap.size w wr)
  case atStart => exact ⟨0, rfl, by omega, rfl, fun j hj => by omega, by (repeat' (first | exact Below.refl _ _ | assumption | refine Below.setCell ?_ ?_ _ | refine below_drewN ?_ _ | refine Below.drew ?_ | refine Below.alloc ?_ ?_ _ | (with_reducible refine Below.trans ?_ (Below.mono hb ?_)) | (with_reducible refine Below.trans ?_ (Below.mono hb0 ?_)) | (with_reducible refine Below.trans ?_ (Below.mono hb1 ?_)) | (with_reducible refine Below.trans ?_ (Below.mono hb2 ?_)) | (with_reducible refine Below.trans ?_ (Below.mono hb3 ?_)) | (with_reducible refine Below.trans ?_ (Below.mono hb4 ?_)) | (with_reducible refine Below.trans ?_ (Below.mono hb5 ?_)) | (with_reducible refine Below.trans ?_ (Below.mono hb6 ?_)) | (with_reducible refine Below.trans ?_ (Below.mono hb7 ?_)) | (with_reducible refine Below.trans ?_ (Below.mono hb8 ?_)) | (with_reducible refine Below.trans ?_ (Below.mono hb9 ?_)) | (with_reducible refine Below.trans ?_ (Below.mono hb10 ?_)) | (with_reducible refine Below.trans ?_ (Below.mono hb11 ?_)) | (with_reducible refine Below.trans ?_ (Below.mono hb12 ?_)) | (with_reducible refine Below.trans ?_ (Below.mono hb13 ?_)) | (with_reducible refine Below.trans ?_ (Below.mono hb14 ?_)) | (with_reducible refine Below.trans ?_ (Below.mono hb15 ?_)) | omega | (simp; done) | (simp; omega)))⟩
  case round =>
    obtain ⟨k, rfl, hk, hgk, hf, hb⟩ := hrel
    have hz := hb.size
    by_cases hlt : k < l.length
    · obtain ⟨b, off, ha, c0, c1, c2⟩ := (hs.below hb).mark hlt
      have hE : bidE l k = if !keyB l[k].1 || !keyB l[k].2.1 then 5 else if badOrd l k then 7 else if decide (l[k].2.2 < 1) || decide (4 < l[k].2.2) then 4 else 0 := by
        unfold bidE; rw [List.getElem?_eq_getElem hlt]
      have HE := Lib.hid hE
      have hxs := hsm l[k] (List.getElem_mem hlt)
      clear hE
      rw [ha]
      generalize hx : l[k] = x at *
      obtain ⟨x1, x2, x3⟩ := x
      have Hx := Lib.hid hx
      clear hx
      simp only at c0 c1 c2 HE hxs
      have Hfe := Lib.hid (fun (e : Int) (he : bidE l k = e) (he0 : e ≠ 0) => (show pf = e by rw [HPF.out, firstErr_is (f := bidE l) hlt hf.out he he0]))
      have hT1 := Box.new wr 96 #[.string x1, .string x2, .int .i64 x3]
      go_upto_region 6 with (fail)
      generalize hW : wr.alloc (.cells #[.string x1, .string x2, .int .i64 x3] 96) = W1 at *
      have hbW1 : Below w.heap.size w W1 := by rw [← hW]; (repeat' (first | exact Below.refl _ _ | assumption | refine Below.setCell ?_ ?_ _ | refine below_drewN ?_ _ | refine Below.drew ?_ | refine Below.alloc ?_ ?_ _ | (with_reducible refine Below.trans ?_ (Below.mono hb ?_)) | (with_reducible refine Below.trans ?_ (Below.mono hb0 ?_)) | (with_reducible refine Below.trans ?_ (Below.mono hb1 ?_)) | (with_reducible refine Below.trans ?_ (Below.mono hb2 ?_)) | (with_reducible refine Below.trans ?_ (Below.mono hb3 ?_)) | (with_reducible refine Below.trans ?_ (Below.mono hb4 ?_)) | (with_reducible refine Below.trans ?_ (Below.mono hb5 ?_)) | (with_reducible refine Below.trans ?_ (Below.mono hb6 ?_)) | (with_reducible refine Below.trans ?_ (Below.mono hb7 ?_)) | (with_reducible refine Below.trans ?_ (Below.mono hb8 ?_)) | (with_reducible refine Below.trans ?_ (Below.mono hb9 ?_)) | (with_reducible refine Below.trans ?_ (Below.mono hb10 ?_)) | (with_reducible refine Below.trans ?_ (Below.mono hb11 ?_)) | (with_reducible refine Below.trans ?_ (Below.mono hb12 ?_)) | (with_reducible refine Below.trans ?_ (Below.mono hb13 ?_)) | (with_reducible refine Below.trans ?_ (Below.mono hb14 ?_)) | (with_reducible refine Below.trans ?_ (Below.mono hb15 ?_)) | omega | (simp; done) | (simp; omega)))
      have hWs : W1.heap.size = wr.heap.size + 1 := by rw [← hW]; simp
      clear hW c0 c1 c2
      have hT1_l := hT1.lt; have hT1_0 := hT1.cell 0; have hT1_1 := hT1.cell 1; have hT1_2 := hT1.cell 2; simp at hT1_0 hT1_1 hT1_2
      go_wp2_with fail
      refine (keyOf_any x1 _ (by omega)).mono ?_
      rintro e W2 ⟨rfl, hb2⟩
      have hT2 := hT1.below hb2
      have hbW2 : Below w.heap.size w W2 := below_next hbW1 hb2
      have hs2 := hb2.size
      clear hT1_l hT1_0 hT1_1 hT1_2
      clear hT1 hb2 hbW1
      cases hk1 : keyB x1
      · rw [hk1] at HE
        have He := Lib.hid (Hfe.out 5 (by rw [HE.out]; rfl) (by decide))
        go_wp2_with fail
        go_ret
        exact ⟨by rw [He.out]; rfl, hbW2⟩
      rw [hk1] at HE
      have hT2_l := hT2.lt; have hT2_0 := hT2.cell 0; have hT2_1 := hT2.cell 1; have hT2_2 := hT2.cell 2; simp at hT2_0 hT2_1 hT2_2
      go_wp2_with fail
      refine (keyOf_any x2 _ (by omega)).mono ?_
      rintro e W3 ⟨rfl, hb3⟩
      have hT3 := hT2.below hb3
      have hbW3 : Below w.heap.size w W3 := below_next hbW2 hb3
      have hs3 := hb3.size
      clear hT2_l hT2_0 hT2_1 hT2_2
      clear hT2 hb3 hbW2
      cases hk2 : keyB x2
      · rw [hk2] at HE
        have He := Lib.hid (Hfe.out 5 (by rw [HE.out]; rfl) (by decide))
        go_wp2_with fail
        go_ret
        exact ⟨by rw [He.out]; rfl, hbW3⟩
      rw [hk2] at HE
      simp only [Bool.not_true, Bool.or_self, Bool.false_eq_true, if_false] at HE
      have hT3_l := hT3.lt; have hT3_0 := hT3.cell 0; have hT3_1 := hT3.cell 1; have hT3_2 := hT3.cell 2; simp at hT3_0 hT3_1 hT3_2
      go_upto_region 8 with (fail)
      go_cut [28] (fun v wx => v = .bool (badOrd l k) ∧ ∃ W', W' = wx ∧ Below W3.heap.size W3 W')
      case first =>
        by_cases hk0 : k = 0
        · have hd : decide (0 < k) = false := by simp [hk0]
          have hd' : decide ((0 : Int) < (k : Int)) = false := by simp [hk0]
          have ho0 : badOrd l k = false := by rw [hk0]; rfl
          have Ho := Lib.hid ho0
          clear hk0 ho0
          refine wp_region_held_drew (S := (fun wx => Below W3.heap.size W3 wx)) (by kernel_rfl) ?hS (fun hHeld => ?_)
          case hS => exact (Below.refl _ _).drew
          refine rtake (i := 0) (d := (some 29)) (v := ?_) rfl (by kernel_rfl) (by kernel_rfl) (by kernel_rfl) (by kernel_rfl) (fun _ _ _ h => h) (by kernel_rfl) (by assumption) ?_ ?_
          rotate_left 1
          · (intro wI hSI; (try dsimp only at hSI); go_simp; (try with_reducible rfl))
          simp only [Act.put, List.setIfInBounds_toArray, List.set_cons_zero, List.set_cons_succ]
          refine rtake (i := 1) (d := (some 30)) (v := ?_) rfl (by kernel_rfl) (by kernel_rfl) (by kernel_rfl) (by kernel_rfl) (fun _ _ _ h => h) (by kernel_rfl) (by assumption) ?_ ?_
          rotate_left 1
          · (intro wI hSI; (try dsimp only at hSI); go_simp; (try with_reducible rfl))
          simp only [Act.put, List.setIfInBounds_toArray, List.set_cons_zero, List.set_cons_succ]
          refine rtake (i := 2) (d := (some 31)) (v := ?_) rfl (by kernel_rfl) (by kernel_rfl) (by kernel_rfl) (by kernel_rfl) (fun _ _ _ h => h) (by kernel_rfl) (by assumption) ?_ ?_
          rotate_left 1
          · (intro wI hSI; (try dsimp only at hSI); go_simp; (try with_reducible rfl))
          simp only [Act.put, List.setIfInBounds_toArray, List.set_cons_zero, List.set_cons_succ]
          refine rskip (i := 3) (d := (some 32)) rfl (by kernel_rfl) (by kernel_rfl) (by kernel_rfl) (by kernel_rfl) (fun _ _ _ h => h) (by kernel_rfl) (by assumption) ?_
          simp only [Act.put, List.setIfInBounds_toArray, List.set_cons_zero, List.set_cons_succ]
          refine rskip (i := 4) (d := (some 33)) rfl (by kernel_rfl) (by kernel_rfl) (by kernel_rfl) (by kernel_rfl) (fun _ _ _ h => h) (by kernel_rfl) (by assumption) ?_
          simp only [Act.put, List.setIfInBounds_toArray, List.set_cons_zero, List.set_cons_succ]
          refine rskip (i := 5) (d := (some 34)) rfl (by kernel_rfl) (by kernel_rfl) (by kernel_rfl) (by kernel_rfl) (fun _ _ _ h => h) (by kernel_rfl) (by assumption) ?_
          simp only [Act.put, List.setIfInBounds_toArray, List.set_cons_zero, List.set_cons_succ]
          refine rskip (i := 6) (d := (some 35)) rfl (by kernel_rfl) (by kernel_rfl) (by kernel_rfl) (by kernel_rfl) (fun _ _ _ h => h) (by kernel_rfl) (by assumption) ?_
          simp only [Act.put, List.setIfInBounds_toArray, List.set_cons_zero, List.set_cons_succ]
          refine rskip (i := 7) (d := (some 36)) rfl (by kernel_rfl) (by kernel_rfl) (by kernel_rfl) (by kernel_rfl) (fun _ _ _ h => h) (by kernel_rfl) (by assumption) ?_
          simp only [Act.put, List.setIfInBounds_toArray, List.set_cons_zero, List.set_cons_succ]
          refine rskip (i := 8) (d := (some 37)) rfl (by kernel_rfl) (by kernel_rfl) (by kernel_rfl) (by kernel_rfl) (fun _ _ _ h => h) (by kernel_rfl) (by assumption) ?_
          simp only [Act.put, List.setIfInBounds_toArray, List.set_cons_zero, List.set_cons_succ]
          refine rskip (i := 9) (d := (some 38)) rfl (by kernel_rfl) (by kernel_rfl) (by kernel_rfl) (by kernel_rfl) (fun _ _ _ h => h) (by kernel_rfl) (by assumption) ?_
          simp only [Act.put, List.setIfInBounds_toArray, List.set_cons_zero, List.set_cons_succ]
          refine rskip (i := 10) (d := (some 39)) rfl (by kernel_rfl) (by kernel_rfl) (by kernel_rfl) (by kernel_rfl) (fun _ _ _ h => h) (by kernel_rfl) (by assumption) ?_
          simp only [Act.put, List.setIfInBounds_toArray, List.set_cons_zero, List.set_cons_succ]
          refine rskip (i := 11) (d := (some 40)) rfl (by kernel_rfl) (by kernel_rfl) (by kernel_rfl) (by kernel_rfl) (fun _ _ _ h => h) (by kernel_rfl) (by assumption) ?_
          simp only [Act.put, List.setIfInBounds_toArray, List.set_cons_zero, List.set_cons_succ]
          refine rskip (i := 12) (d := (some 41)) rfl (by kernel_rfl) (by kernel_rfl) (by kernel_rfl) (by kernel_rfl) (fun _ _ _ h => h) (by kernel_rfl) (by assumption) ?_
          simp only [Act.put, List.setIfInBounds_toArray, List.set_cons_zero, List.set_cons_succ]
          refine rtake (i := 13) (d := (some 42)) (v := ?_) rfl (by kernel_rfl) (by kernel_rfl) (by kernel_rfl) (by kernel_rfl) (fun _ _ _ h => h) (by kernel_rfl) (by assumption) ?_ ?_
          rotate_left 1
          · (intro wI hSI; (try dsimp only at hSI); go_simp; (try with_reducible rfl))
          simp only [Act.put, List.setIfInBounds_toArray, List.set_cons_zero, List.set_cons_succ]
          refine rtake (i := 14) (d := (some 28)) (v := ?_) rfl (by kernel_rfl) (by kernel_rfl) (by kernel_rfl) (by kernel_rfl) (fun _ _ _ h => h) (by kernel_rfl) (by assumption) ?_ ?_
          rotate_left 1
          · (intro wI hSI; (try dsimp only at hSI); go_simp; (try with_reducible rfl))
          simp only [Act.put, List.setIfInBounds_toArray, List.set_cons_zero, List.set_cons_succ]
          refine wpAnyH_done (by kernel_rfl) ?_ _
          go_wp2_with fail
          go_meet
          exact ⟨by rw [Ho.out] <;> rfl, _, rfl, hHeld⟩
        · obtain ⟨p, hp⟩ : ∃ p, k = p + 1 := ⟨k - 1, by omega⟩
          have hpl : p < l.length := by omega
          obtain ⟨b', off', ha', d0, d1, d2⟩ := (hs.below hbW3).mark hpl
          rw [ha] at ha'
          cases ha'
          generalize hy : l[p] = y at *
          obtain ⟨y1, y2, y3⟩ := y
          have Hy := Lib.hid hy
          clear hy
          simp only at d0 d1 d2
          have hwp : IntKind.i64.wrap ((k : Int) - 1) = (p : Int) := by rw [hp, IntWalk.i64_in _ (by omega)]; omega
          have hwq : IntKind.i64.wrap (p : Int) = (p : Int) := IntWalk.i64_in _ (by omega)
          have hk1 : 0 < k := by omega
          have hk2 : (0 : Int) < (k : Int) := by omega
          have hp1 : (0 : Int) ≤ (p : Int) := by omega
          have hp2 : (p : Int) < (l.length : Int) := by omega
          have hp3 : (k : Int) - 1 = (p : Int) := by omega
          have Hp := Lib.hid hp
          clear hp hk0
          have Ho := Lib.hid (badOrd_at (l := l) (k := k) (p := p) (x := (y1, y2, y3)) (y := (x1, x2, x3)) Hp.out (by rw [List.getElem?_eq_getElem hpl, Hy.out]) (by rw [List.getElem?_eq_getElem hlt, Hx.out]))
          have HC := Lib.hid (fun W => pairOrder_any (y1, y2, y3) (x1, x2, x3) W)
          simp only at HC
          generalize cmpP (y1, y2, y3) (x1, x2, x3) = cp at *
          refine wp_region_held_drew (S := (fun wx => wx.cell? ⟨b, off + p * 3, none⟩ = some (.string y1) ∧ wx.cell? ⟨b, off + p * 3 + 1, none⟩ = some (.string y2) ∧ wx.cell? ⟨wr.heap.size, 0, none⟩ = some (.string x1) ∧ wx.cell? ⟨wr.heap.size, 1, none⟩ = some (.string x2) ∧ Below W3.heap.size W3 wx)) (by kernel_rfl) ?hS (fun hHeld => ?_)
          case hS => exact ⟨d0, d1, hT3_0, hT3_1, (Below.refl _ _).drew⟩
          refine rtake (i := 0) (d := (some 29)) (v := ?_) rfl (by kernel_rfl) (by kernel_rfl) (by kernel_rfl) (by kernel_rfl) (fun _ _ _ h => h) (by kernel_rfl) (by assumption) ?_ ?_
          rotate_left 1
          · (intro wI hSI; (try dsimp only at hSI); go_simp; (try with_reducible rfl))
          simp only [Act.put, List.setIfInBounds_toArray, List.set_cons_zero, List.set_cons_succ]
          refine rtake (i := 1) (d := (some 30)) (v := ?_) rfl (by kernel_rfl) (by kernel_rfl) (by kernel_rfl) (by kernel_rfl) (fun _ _ _ h => h) (by kernel_rfl) (by assumption) ?_ ?_
          rotate_left 1
          · (intro wI hSI; (try dsimp only at hSI); go_simp; (try with_reducible rfl))
          simp only [Act.put, List.setIfInBounds_toArray, List.set_cons_zero, List.set_cons_succ]
          refine rtake (i := 2) (d := (some 31)) (v := ?_) rfl (by kernel_rfl) (by kernel_rfl) (by kernel_rfl) (by kernel_rfl) (fun _ _ _ h => h) (by kernel_rfl) (by assumption) ?_ ?_
          rotate_left 1
          · (intro wI hSI; (try dsimp only at hSI); go_simp; (try with_reducible rfl))
          simp only [Act.put, List.setIfInBounds_toArray, List.set_cons_zero, List.set_cons_succ]
          refine rtake (i := 3) (d := (some 32)) (v := ?_) rfl (by kernel_rfl) (by kernel_rfl) (by kernel_rfl) (by kernel_rfl) (fun _ _ _ h => h) (by kernel_rfl) (by assumption) ?_ ?_
          rotate_left 1
          · (intro wI hSI; (try dsimp only at hSI); go_simp; (try with_reducible rfl))
          simp only [Act.put, List.setIfInBounds_toArray, List.set_cons_zero, List.set_cons_succ]
          refine rtake (i := 4) (d := (some 33)) (v := ?_) rfl (by kernel_rfl) (by kernel_rfl) (by kernel_rfl) (by kernel_rfl) (fun _ _ _ h => h) (by kernel_rfl) (by assumption) ?_ ?_
          rotate_left 1
          · (intro wI hSI; (try dsimp only at hSI); go_simp; (try with_reducible rfl))
          simp only [Act.put, List.setIfInBounds_toArray, List.set_cons_zero, List.set_cons_succ]
          refine rtake (i := 5) (d := (some 34)) (v := ?_) rfl (by kernel_rfl) (by kernel_rfl) (by kernel_rfl) (by kernel_rfl) (fun _ _ _ h => h) (by kernel_rfl) (by assumption) ?_ ?_
          rotate_left 1
          · (intro wI hSI; (try dsimp only at hSI); go_simp; (try with_reducible rfl))
          simp only [Act.put, List.setIfInBounds_toArray, List.set_cons_zero, List.set_cons_succ]
          refine rtake (i := 6) (d := (some 35)) (v := ?_) rfl (by kernel_rfl) (by kernel_rfl) (by kernel_rfl) (by kernel_rfl) (fun _ _ _ h => h) (by kernel_rfl) (by assumption) ?_ ?_
          rotate_left 1
          · (intro wI hSI; (try dsimp only at hSI); go_simp; (try with_reducible rfl))
          simp only [Act.put, List.setIfInBounds_toArray, List.set_cons_zero, List.set_cons_succ]
          refine rtake (i := 7) (d := (some 36)) (v := ?_) rfl (by kernel_rfl) (by kernel_rfl) (by kernel_rfl) (by kernel_rfl) (fun _ _ _ h => h) (by kernel_rfl) (by assumption) ?_ ?_
          rotate_left 1
          · (intro wI hSI; (try dsimp only at hSI); go_simp; (try with_reducible rfl))
          simp only [Act.put, List.setIfInBounds_toArray, List.set_cons_zero, List.set_cons_succ]
          refine rtake (i := 8) (d := (some 37)) (v := ?_) rfl (by kernel_rfl) (by kernel_rfl) (by kernel_rfl) (by kernel_rfl) (fun _ _ _ h => h) (by kernel_rfl) (by assumption) ?_ ?_
          rotate_left 1
          · (intro wI hSI; (try dsimp only at hSI); go_simp; (try with_reducible rfl))
          simp only [Act.put, List.setIfInBounds_toArray, List.set_cons_zero, List.set_cons_succ]
          refine rtake (i := 9) (d := (some 38)) (v := ?_) rfl (by kernel_rfl) (by kernel_rfl) (by kernel_rfl) (by kernel_rfl) (fun _ _ _ h => h) (by kernel_rfl) (by assumption) ?_ ?_
          rotate_left 1
          · (intro wI hSI; (try dsimp only at hSI); go_simp; (try with_reducible rfl))
          simp only [Act.put, List.setIfInBounds_toArray, List.set_cons_zero, List.set_cons_succ]
          refine rtake (i := 10) (d := (some 39)) (v := ?_) rfl (by kernel_rfl) (by kernel_rfl) (by kernel_rfl) (by kernel_rfl) (fun _ _ _ h => h) (by kernel_rfl) (by assumption) ?_ ?_
          rotate_left 1
          · (intro wI hSI; (try dsimp only at hSI); go_simp; (try with_reducible rfl))
          simp only [Act.put, List.setIfInBounds_toArray, List.set_cons_zero, List.set_cons_succ]
          refine rcall (i := 11) (d := (some 40)) (by kernel_rfl) rfl (by kernel_rfl) (fun K hK => ?_)
          go_simp
          go_at_call 57; refine (HC.out _).mono ?_; rintro e w' ⟨rfl, hb4⟩
          refine hK.out _ _ ?hS (fun hHeld => ?_)
          case hS => exact ⟨cell_later hb4 hHeld.1, cell_later hb4 hHeld.2.1, cell_later hb4 hHeld.2.2.1, cell_later hb4 hHeld.2.2.2.1, hHeld.2.2.2.2.trans (hb4.mono hHeld.2.2.2.2.size)⟩
          clear hK K
          simp only [Act.put, List.setIfInBounds_toArray, List.set_cons_zero, List.set_cons_succ]
          refine rtake (i := 12) (d := (some 41)) (v := ?_) rfl (by kernel_rfl) (by kernel_rfl) (by kernel_rfl) (by kernel_rfl) (fun _ _ _ h => h) (by kernel_rfl) (by assumption) ?_ ?_
          rotate_left 1
          · (intro wI hSI; (try dsimp only at hSI); go_simp; (try with_reducible rfl))
          simp only [Act.put, List.setIfInBounds_toArray, List.set_cons_zero, List.set_cons_succ]
          refine rtake (i := 13) (d := (some 42)) (v := ?_) rfl (by kernel_rfl) (by kernel_rfl) (by kernel_rfl) (by kernel_rfl) (fun _ _ _ h => h) (by kernel_rfl) (by assumption) ?_ ?_
          rotate_left 1
          · (intro wI hSI; (try dsimp only at hSI); go_simp; (try with_reducible rfl))
          simp only [Act.put, List.setIfInBounds_toArray, List.set_cons_zero, List.set_cons_succ]
          refine rtake (i := 14) (d := (some 28)) (v := ?_) rfl (by kernel_rfl) (by kernel_rfl) (by kernel_rfl) (by kernel_rfl) (fun _ _ _ h => h) (by kernel_rfl) (by assumption) ?_ ?_
          rotate_left 1
          · (intro wI hSI; (try dsimp only at hSI); go_simp; (try with_reducible rfl))
          simp only [Act.put, List.setIfInBounds_toArray, List.set_cons_zero, List.set_cons_succ]
          refine wpAnyH_done (by kernel_rfl) ?_ _
          go_wp2_with fail
          go_meet
          exact ⟨by rw [Ho.out] <;> rfl, _, rfl, hHeld.2.2.2.2⟩
      case rest =>
        obtain ⟨hso, W4, rfl, hb4⟩ := hcut
        rw [hso]
        have hT4 := hT3.below hb4
        have hbW4 : Below w.heap.size w W4 := below_next hbW3 hb4
        clear hT3_l hT3_0 hT3_1 hT3_2
        clear hT3 hb4 hbW3
        cases hob : badOrd l k
        · rw [hob] at HE
          have hT4_l := hT4.lt; have hT4_0 := hT4.cell 0; have hT4_1 := hT4.cell 1; have hT4_2 := hT4.cell 2; simp at hT4_0 hT4_1 hT4_2
          cases hr : (decide (x3 < 1) || decide (4 < x3))
          · rw [hr] at HE
            obtain ⟨g1, g2⟩ := Bool.or_eq_false_iff.1 hr
            clear hr
            have HZ := Lib.hid (show bidE l k = 0 by rw [HE.out]; rfl)
            go_wp2_with fail
            rw [← ha]
            go_roundg (l.length - (k + 1))
            case measure => have := hgk.out; omega
            case rel => exact ⟨k + 1, by go_num, by omega, rfl, zeros_succ hf.out HZ.out, hbW4⟩
          · rw [hr] at HE
            cases g1 : decide (x3 < 1)
            · have g2 : decide (4 < x3) = true := by rw [g1] at hr; simpa using hr
              clear hr
              have He := Lib.hid (Hfe.out 4 (by rw [HE.out]; rfl) (by decide))
              go_wp2_with fail
              go_ret
              exact ⟨by rw [He.out]; rfl, hbW4⟩
            · clear hr
              have He := Lib.hid (Hfe.out 4 (by rw [HE.out]; rfl) (by decide))
              go_wp2_with fail
              go_ret
              exact ⟨by rw [He.out]; rfl, hbW4⟩
        · rw [hob] at HE
          have He := Lib.hid (Hfe.out 7 (by rw [HE.out]; rfl) (by decide))
          go_wp2_with fail
          go_ret
          exact ⟨by rw [He.out]; rfl, hbW4⟩
    · have HE0 := Lib.hid (show pf = 0 by obtain rfl : k = l.length := by omega
                                          rw [HPF.out]; exact firstErr_zero hf.out)
      go_wp2_with fail
      go_ret
      exact ⟨by rw [HE0.out]; rfl, hb⟩
end Go.Proofs.YtpgofjjcmldhpaaGreatDoor
