/- Marks: the order of pairs, and what is wrong with marks (the program). -/
import Derived.Test.YtcjcdbhobehlpaaGreatDoorMarkPure
import Derived.Test.YtcjcdbhobehlpaaGreatDoorMapV
import Derived.Test.YtcjcdbhobehlpaaGreatDoorOutside
import Derived.Test.YtcjcdbhobehlpaaGreatDoorReg
import Derived.Test.YtcjcdbhobehlpaaGreatDoorKeep
/-! Marks: the order of pairs, and what is wrong with marks (the program). -/
namespace Go.Proofs.YtcjcdbhobehlpaaGreatDoor
open Go.RowKit
set_option linter.unusedVariables false
set_option linter.unusedSimpArgs false

theorem isKeyB_any (s : ByteArray) (w : World) (hs : s.size ≤ 9223372036854775807) : Calls Tryz.prog 55 #[.string s] w (Gives (.bool (keyB s)) w) :=
 (isKey_any s w hs).mono fun e w' ⟨h1, h2⟩ => ⟨h1, by subst h2; exact Below.refl _ _⟩
theorem compareS_any (a b : ByteArray) (w : World) : Calls Tryz.prog 47 #[.string a, .string b] w (fun e w' => e = .returned (.int .i64 (cmpS a b)) ∧ w = w') :=
 (Tryz.strings_Compare a b w).mono fun e w' ⟨h1, h2⟩ => ⟨h1, h2.symm⟩

set_option maxHeartbeats 1000000 in
theorem comparePairs_any (x y : Mark) (w : World) :
  Calls Tryz.prog 56 #[.agg #[.string x.1, .string x.2.1], .agg #[.string y.1, .string y.2.1]] w (Gives (.int .i64 (cmpP x y)) w) := by
 have H := Lib.hid (show cmpP x y = if cmpS x.1 y.1 ≠ 0 then cmpS x.1 y.1 else cmpS x.2.1 y.2.1 from rfl)
 generalize cmpP x y = r at *
 have H1 := Lib.hid (compareS_any x.1 y.1)
 have H2 := Lib.hid (compareS_any x.2.1 y.2.1)
 generalize cmpS x.1 y.1 = c1 at *
 generalize cmpS x.2.1 y.2.1 = c2 at *
 generalize x.1 = x1 at *
 generalize x.2.1 = x2 at *
 generalize y.1 = y1 at *
 generalize y.2.1 = y2 at *
 go_enter Tryz.func56, Tryz.ntmps56
 go_wp2_with fail
 refine (H1.out _).mono ?_
 rintro e w1 ⟨rfl, rfl⟩
 by_cases h0 : c1 = 0
 ·
  subst h0
  rw [if_neg (by simp)] at H
  go_wp2_with fail
  refine (H2.out _).mono ?_
  rintro e w1 ⟨rfl, rfl⟩
  go_wp2_with fail
  go_ret
  exact ⟨by rw [H.out]; rfl, by (repeat' (first | exact Below.refl _ _ | assumption | refine Below.setCell ?_ ?_ _ | refine below_drewN ?_ _ | refine Below.drew ?_ | refine Below.alloc ?_ ?_ _ | (with_reducible refine Below.trans ?_ (Below.mono hb ?_)) | (with_reducible refine Below.trans ?_ (Below.mono hb0 ?_)) | (with_reducible refine Below.trans ?_ (Below.mono hb1 ?_)) | (with_reducible refine Below.trans ?_ (Below.mono hb2 ?_)) | (with_reducible refine Below.trans ?_ (Below.mono hb3 ?_)) | (with_reducible refine Below.trans ?_ (Below.mono hb4 ?_)) | (with_reducible refine Below.trans ?_ (Below.mono hb5 ?_)) | (with_reducible refine Below.trans ?_ (Below.mono hb6 ?_)) | (with_reducible refine Below.trans ?_ (Below.mono hb7 ?_)) | (with_reducible refine Below.trans ?_ (Below.mono hb8 ?_)) | (with_reducible refine Below.trans ?_ (Below.mono hb9 ?_)) | (with_reducible refine Below.trans ?_ (Below.mono hb10 ?_)) | (with_reducible refine Below.trans ?_ (Below.mono hb11 ?_)) | (with_reducible refine Below.trans ?_ (Below.mono hb12 ?_)) | (with_reducible refine Below.trans ?_ (Below.mono hb13 ?_)) | (with_reducible refine Below.trans ?_ (Below.mono hb14 ?_)) | (with_reducible refine Below.trans ?_ (Below.mono hb15 ?_)) | omega | (simp; done) | (simp; omega)))⟩
 ·
  rw [if_pos h0] at H
  have h1 : (c1 != 0) = true := by simpa using h0
  clear h0
  go_wp2_with fail
  go_ret
  exact ⟨by rw [H.out]; rfl, by (repeat' (first | exact Below.refl _ _ | assumption | refine Below.setCell ?_ ?_ _ | refine below_drewN ?_ _ | refine Below.drew ?_ | refine Below.alloc ?_ ?_ _ | (with_reducible refine Below.trans ?_ (Below.mono hb ?_)) | (with_reducible refine Below.trans ?_ (Below.mono hb0 ?_)) | (with_reducible refine Below.trans ?_ (Below.mono hb1 ?_)) | (with_reducible refine Below.trans ?_ (Below.mono hb2 ?_)) | (with_reducible refine Below.trans ?_ (Below.mono hb3 ?_)) | (with_reducible refine Below.trans ?_ (Below.mono hb4 ?_)) | (with_reducible refine Below.trans ?_ (Below.mono hb5 ?_)) | (with_reducible refine Below.trans ?_ (Below.mono hb6 ?_)) | (with_reducible refine Below.trans ?_ (Below.mono hb7 ?_)) | (with_reducible refine Below.trans ?_ (Below.mono hb8 ?_)) | (with_reducible refine Below.trans ?_ (Below.mono hb9 ?_)) | (with_reducible refine Below.trans ?_ (Below.mono hb10 ?_)) | (with_reducible refine Below.trans ?_ (Below.mono hb11 ?_)) | (with_reducible refine Below.trans ?_ (Below.mono hb12 ?_)) | (with_reducible refine Below.trans ?_ (Below.mono hb13 ?_)) | (with_reducible refine Below.trans ?_ (Below.mono hb14 ?_)) | (with_reducible refine Below.trans ?_ (Below.mono hb15 ?_)) | omega | (simp; done) | (simp; omega)))⟩

/-- 'many' before the mark at k. -/
def prevN (l : List Mark) : Nat → Int
 | 0 => 0
 | p + 1 => runN l p
theorem runN_bd (l : List Mark) (k : Nat) : 1 ≤ runN l k ∧ runN l k ≤ k + 1 := by
 induction k with
 | zero => simp [runN]
 | succ p ih => rw [runN]; split <;> omega
theorem prevN_bd (l : List Mark) (k : Nat) : 0 ≤ prevN l k ∧ prevN l k ≤ k := by
 cases k with
 | zero => simp [prevN]
 | succ p => have := runN_bd l p; simp only [prevN]; omega
/-- The mark at k is of another paper than the one before it. -/
def chgB (l : List Mark) : Nat → Bool
 | 0 => false
 | p + 1 => !decide ((l[p]?.map (·.1)) = (l[p + 1]?.map (·.1)))
theorem runN_step (l : List Mark) (k : Nat) : runN l k = if chgB l k then 1 else prevN l k + 1 := by
 cases k with
 | zero => simp [runN, chgB, prevN]
 | succ p => rw [runN, chgB, prevN]; by_cases h : (l[p]?.map (·.1)) = (l[p + 1]?.map (·.1)) <;> simp [h]
theorem badOrd_at {l : List Mark} {k p : Nat} {x y : Mark} (hk : k = p + 1) (hx : l[p]? = some x) (hy : l[k]? = some y) : badOrd l k = decide (0 ≤ cmpP x y) := by
 subst hk; rw [badOrd, hx, hy]
theorem chgB_at {l : List Mark} {k p : Nat} {x y : Mark} (hk : k = p + 1) (hx : l[p]? = some x) (hy : l[k]? = some y) : chgB l k = !decide (x.1 = y.1) := by
 subst hk; rw [chgB, hx, hy]; simp

theorem beq_ba' (a b : ByteArray) : (a.toList == b.toList) = decide (a = b) := by
 rw [Bool.eq_iff_iff, beq_iff_eq, toList_inj, decide_eq_true_eq]
set_option maxRecDepth 100000 in
set_option maxHeartbeats 2000000 in
theorem checkMarks_any (l : List Mark) (a : Option Addr) (cap : Nat) (w : World) (hs : SA w a l) (hsl : l.length ≤ 1000000) (hsm : ∀ x ∈ l, x.1.size ≤ 1000 ∧ x.2.1.size ≤ 1000) :
  Calls Tryz.prog 40 #[.slice a l.length cap] w (Gives (.int .i64 (marksFault l)) w) := by
 have HPF := Lib.hid (marksFault_run l)
 generalize marksFault l = pf at *
 by_cases h5 : 3000 < l.length
 ·
  have Hv := Lib.hid (show pf = 2 by rw [HPF.out, if_pos h5])
  go_enter Tryz.func40, Tryz.ntmps40
  go_wp2_with fail
  go_ret
  exact ⟨by rw [Hv.out]; rfl, by (repeat' (first | exact Below.refl _ _ | assumption | refine Below.setCell ?_ ?_ _ | refine below_drewN ?_ _ | refine Below.drew ?_ | refine Below.alloc ?_ ?_ _ | (with_reducible refine Below.trans ?_ (Below.mono hb ?_)) | (with_reducible refine Below.trans ?_ (Below.mono hb0 ?_)) | (with_reducible refine Below.trans ?_ (Below.mono hb1 ?_)) | (with_reducible refine Below.trans ?_ (Below.mono hb2 ?_)) | (with_reducible refine Below.trans ?_ (Below.mono hb3 ?_)) | (with_reducible refine Below.trans ?_ (Below.mono hb4 ?_)) | (with_reducible refine Below.trans ?_ (Below.mono hb5 ?_)) | (with_reducible refine Below.trans ?_ (Below.mono hb6 ?_)) | (with_reducible refine Below.trans ?_ (Below.mono hb7 ?_)) | (with_reducible refine Below.trans ?_ (Below.mono hb8 ?_)) | (with_reducible refine Below.trans ?_ (Below.mono hb9 ?_)) | (with_reducible refine Below.trans ?_ (Below.mono hb10 ?_)) | (with_reducible refine Below.trans ?_ (Below.mono hb11 ?_)) | (with_reducible refine Below.trans ?_ (Below.mono hb12 ?_)) | (with_reducible refine Below.trans ?_ (Below.mono hb13 ?_)) | (with_reducible refine Below.trans ?_ (Below.mono hb14 ?_)) | (with_reducible refine Below.trans ?_ (Below.mono hb15 ?_)) | omega | (simp; done) | (simp; omega)))⟩
 rw [if_neg h5] at HPF
 go_enter Tryz.func40, Tryz.ntmps40
 go_wp2_with fail
 go_loopg [3, 11] l.length (fun gk mn i wr => ∃ k : Nat, mn = .int .i64 (prevN l k) ∧ i = .int .i64 k ∧ k ≤ l.length ∧ Hid (gk = l.length - k) ∧ Hid (∀ j, j < k → markE runN l j = 0) ∧ Below w.heap.size w wr)
 case atStart => exact ⟨0, rfl, rfl, by omega, rfl, fun j hj => by omega, by (repeat' (first | exact Below.refl _ _ | assumption | refine Below.setCell ?_ ?_ _ | refine below_drewN ?_ _ | refine Below.drew ?_ | refine Below.alloc ?_ ?_ _ | (with_reducible refine Below.trans ?_ (Below.mono hb ?_)) | (with_reducible refine Below.trans ?_ (Below.mono hb0 ?_)) | (with_reducible refine Below.trans ?_ (Below.mono hb1 ?_)) | (with_reducible refine Below.trans ?_ (Below.mono hb2 ?_)) | (with_reducible refine Below.trans ?_ (Below.mono hb3 ?_)) | (with_reducible refine Below.trans ?_ (Below.mono hb4 ?_)) | (with_reducible refine Below.trans ?_ (Below.mono hb5 ?_)) | (with_reducible refine Below.trans ?_ (Below.mono hb6 ?_)) | (with_reducible refine Below.trans ?_ (Below.mono hb7 ?_)) | (with_reducible refine Below.trans ?_ (Below.mono hb8 ?_)) | (with_reducible refine Below.trans ?_ (Below.mono hb9 ?_)) | (with_reducible refine Below.trans ?_ (Below.mono hb10 ?_)) | (with_reducible refine Below.trans ?_ (Below.mono hb11 ?_)) | (with_reducible refine Below.trans ?_ (Below.mono hb12 ?_)) | (with_reducible refine Below.trans ?_ (Below.mono hb13 ?_)) | (with_reducible refine Below.trans ?_ (Below.mono hb14 ?_)) | (with_reducible refine Below.trans ?_ (Below.mono hb15 ?_)) | omega | (simp; done) | (simp; omega)))⟩
 case round =>
  obtain ⟨k, rfl, rfl, hk, hgk, hf, hb⟩ := hrel
  have hz := hb.size
  by_cases hlt : k < l.length
  ·
   obtain ⟨b, off, ha, c0, c1, c2⟩ := (hs.below hb).mark hlt
   have hE : markE runN l k = if !keyB l[k].1 || !keyB l[k].2.1 then 5 else if badOrd l k then 7 else if decide (l[k].2.2 < 0) || decide (10 < l[k].2.2) then 1 else if 12 < runN l k then 2 else 0 := by
    unfold markE; rw [List.getElem?_eq_getElem hlt]
   have HE := Lib.hid hE
   have hxs := hsm l[k] (List.getElem_mem hlt)
   have hpb := prevN_bd l k
   have HR := Lib.hid (runN_step l k)
   clear hE
   rw [ha]
   generalize hx : l[k] = x at *
   obtain ⟨x1, x2, x3⟩ := x
   have Hx := Lib.hid hx
   clear hx
   simp only at c0 c1 c2 HE hxs
   have Hfe := Lib.hid (fun (e : Int) (he : markE runN l k = e) (he0 : e ≠ 0) => (show pf = e by rw [HPF.out, firstErr_is (f := markE runN l) hlt hf.out he he0]))
   have hT := Box.new wr 51 #[.string x1, .string x2, .int .i64 x3]
   go_upto_region 8 with (fail)
   generalize hW : wr.alloc (.cells #[.string x1, .string x2, .int .i64 x3] 51) = W1 at *
   have hbW : Below w.heap.size w W1 := by rw [← hW]; (repeat' (first | exact Below.refl _ _ | assumption | refine Below.setCell ?_ ?_ _ | refine below_drewN ?_ _ | refine Below.drew ?_ | refine Below.alloc ?_ ?_ _ | (with_reducible refine Below.trans ?_ (Below.mono hb ?_)) | (with_reducible refine Below.trans ?_ (Below.mono hb0 ?_)) | (with_reducible refine Below.trans ?_ (Below.mono hb1 ?_)) | (with_reducible refine Below.trans ?_ (Below.mono hb2 ?_)) | (with_reducible refine Below.trans ?_ (Below.mono hb3 ?_)) | (with_reducible refine Below.trans ?_ (Below.mono hb4 ?_)) | (with_reducible refine Below.trans ?_ (Below.mono hb5 ?_)) | (with_reducible refine Below.trans ?_ (Below.mono hb6 ?_)) | (with_reducible refine Below.trans ?_ (Below.mono hb7 ?_)) | (with_reducible refine Below.trans ?_ (Below.mono hb8 ?_)) | (with_reducible refine Below.trans ?_ (Below.mono hb9 ?_)) | (with_reducible refine Below.trans ?_ (Below.mono hb10 ?_)) | (with_reducible refine Below.trans ?_ (Below.mono hb11 ?_)) | (with_reducible refine Below.trans ?_ (Below.mono hb12 ?_)) | (with_reducible refine Below.trans ?_ (Below.mono hb13 ?_)) | (with_reducible refine Below.trans ?_ (Below.mono hb14 ?_)) | (with_reducible refine Below.trans ?_ (Below.mono hb15 ?_)) | omega | (simp; done) | (simp; omega)))
   have hWs : W1.heap.size = wr.heap.size + 1 := by rw [← hW]; simp
   clear hW c0 c1 c2
   have hT_l := hT.lt; have hT_0 := hT.cell 0; have hT_1 := hT.cell 1; have hT_2 := hT.cell 2; simp at hT_0 hT_1 hT_2
   go_cut [32] (fun v wx => v = .bool (chgB l k) ∧ ∃ W', W' = wx ∧ Below W1.heap.size W1 W')
   case first =>
    by_cases hk0 : k = 0
    ·
     have hd : decide (0 < k) = false := by simp [hk0]
     have hd' : decide ((0 : Int) < (k : Int)) = false := by simp [hk0]
     have ho0 : chgB l k = false := by rw [hk0]; rfl
     have Ho := Lib.hid ho0
     clear hk0 ho0
     refine wp_region_held_drew (S := (fun wx => Below W1.heap.size W1 wx)) (by kernel_rfl) ?hS (fun hHeld => ?_)
     case hS => exact (Below.refl _ _).drew
     refine rt 0 (some 18) ?_
     refine rt 1 (some 19) ?_
     refine rt 2 (some 20) ?_
     refine rs 3 (some 21) ?_
     refine rs 4 (some 22) ?_
     refine rs 5 (some 23) ?_
     refine rs 6 (some 24) ?_
     refine rs 7 (some 25) ?_
     refine rs 8 (some 26) ?_
     refine rs 9 (some 27) ?_
     refine rs 10 (some 28) ?_
     refine rs 11 (some 29) ?_
     refine rs 12 (some 30) ?_
     refine rs 13 (some 31) ?_
     refine rt 14 (some 32) ?_
     refine wpAnyH_done (by kernel_rfl) ?_ _
     go_wp2_with fail
     go_meet
     exact ⟨by rw [Ho.out] <;> rfl, _, rfl, hHeld⟩
    ·
     obtain ⟨p, hp⟩ : ∃ p, k = p + 1 := ⟨k - 1, by omega⟩
     have hpl : p < l.length := by omega
     obtain ⟨b', off', ha', d0, d1, d2⟩ := (hs.below hbW).mark hpl
     rw [ha] at ha'
     cases ha'
     generalize hy : l[p] = y at *
     obtain ⟨y1, y2, y3⟩ := y
     have Hy := Lib.hid hy
     clear hy
     simp only at d0 d1 d2
     have hwp : IntKind.i64.wrap ((k : Int) - 1) = (p : Int) := by rw [hp, IntWalk.i64_in _ (by omega)]; omega
     have hwq : IntKind.i64.wrap (p : Int) = (p : Int) := IntWalk.i64_in _ (by omega)
     have hk1 : 0 < k := by omega
     have hk2 : (0 : Int) < (k : Int) := by omega
     have hp1 : (0 : Int) ≤ (p : Int) := by omega
     have hp2 : (p : Int) < (l.length : Int) := by omega
     have hp3 : (k : Int) - 1 = (p : Int) := by omega
     have Hp := Lib.hid hp
     clear hp hk0
     have Ho := Lib.hid (chgB_at (l := l) (k := k) (p := p) (x := (y1, y2, y3)) (y := (x1, x2, x3)) Hp.out (by rw [List.getElem?_eq_getElem hpl, Hy.out]) (by rw [List.getElem?_eq_getElem hlt, Hx.out]))
     have Ho' := Lib.hid (show chgB l k = (!(y1.toList == x1.toList)) by rw [Ho.out]; simp [beq_ba'])
     refine wp_region_held_drew (S := (fun wx => wx.cell? ⟨b, off + p * 3, none⟩ = some (.string y1) ∧ wx.cell? ⟨wr.heap.size, 0, none⟩ = some (.string x1) ∧ Below W1.heap.size W1 wx)) (by kernel_rfl) ?hS (fun hHeld => ?_)
     case hS => exact ⟨d0, hT_0, (Below.refl _ _).drew⟩
     refine rt 0 (some 18) ?_
     refine rt 1 (some 19) ?_
     refine rt 2 (some 20) ?_
     refine rt 3 (some 21) ?_
     refine rt 4 (some 22) ?_
     refine rt 5 (some 23) ?_
     refine rt 6 (some 24) ?_
     refine rt 7 (some 25) ?_
     refine rt 8 (some 26) ?_
     refine rt 9 (some 27) ?_
     refine rt 10 (some 28) ?_
     refine rt 11 (some 29) ?_
     refine rt 12 (some 30) ?_
     refine rt 13 (some 31) ?_
     refine rt 14 (some 32) ?_
     refine wpAnyH_done (by kernel_rfl) ?_ _
     go_wp2_with fail
     go_meet
     exact ⟨by rw [Ho'.out] <;> simp, _, rfl, hHeld.2.2⟩
   case rest =>
    obtain ⟨hso, W2', rfl, hb1⟩ := hcut
    rw [hso]
    go_upto_if 32 with (fail)
    go_cut [3] (fun v wx => v = .int .i64 (runN l k) ∧ ∃ W', W' = wx ∧ Below W1.heap.size W1 W')
    case first =>
     cases hch : chgB l k
     ·
      rw [hch] at HR
      go_wp2_with fail
      go_meet
      exact ⟨by rw [HR.out]; rfl, _, rfl, hb1⟩
     ·
      rw [hch] at HR
      go_wp2_with fail
      go_meet
      exact ⟨by rw [HR.out]; rfl, _, rfl, hb1⟩
    case rest =>
     clear hb1
     obtain ⟨hv, W2', rfl, hb1⟩ := hcut
     rw [hv]
     have hT1 := hT.below hb1
     have hbW1 := below_next hbW hb1
     have hs1 := hb1.size
     clear hT_l hT_0 hT_1 hT_2
     clear hv hso HR hT hbW hb1
     have hT1_l := hT1.lt; have hT1_0 := hT1.cell 0; have hT1_1 := hT1.cell 1; have hT1_2 := hT1.cell 2; simp at hT1_0 hT1_1 hT1_2
     have hrb := runN_bd l k
     have HN := Lib.hid (show prevN l (k + 1) = runN l k from rfl)
     generalize runN l k = rn at *
     go_wp2_with fail
     refine (isKeyB_any x1 _ (by omega)).mono ?_
     rintro e W2 ⟨rfl, hb2⟩
     have hT2 := hT1.below hb2
     have hbW2 : Below w.heap.size w W2 := below_next hbW1 hb2
     have hs2 := hb2.size
     clear hT1_l hT1_0 hT1_1 hT1_2
     clear hT1 hb2 hbW1
     cases hk1 : keyB x1
     ·
      rw [hk1] at HE
      have He := Lib.hid (Hfe.out 5 (by rw [HE.out]; rfl) (by decide))
      go_wp2_with fail
      go_ret
      exact ⟨by rw [He.out]; rfl, hbW2⟩
     rw [hk1] at HE
     have hT2_l := hT2.lt; have hT2_0 := hT2.cell 0; have hT2_1 := hT2.cell 1; have hT2_2 := hT2.cell 2; simp at hT2_0 hT2_1 hT2_2
     go_wp2_with fail
     refine (isKeyB_any x2 _ (by omega)).mono ?_
     rintro e W3 ⟨rfl, hb3⟩
     have hT3 := hT2.below hb3
     have hbW3 : Below w.heap.size w W3 := below_next hbW2 hb3
     have hs3 := hb3.size
     clear hT2_l hT2_0 hT2_1 hT2_2
     clear hT2 hb3 hbW2
     cases hk2 : keyB x2
     ·
      rw [hk2] at HE
      have He := Lib.hid (Hfe.out 5 (by rw [HE.out]; rfl) (by decide))
      go_wp2_with fail
      go_ret
      exact ⟨by rw [He.out]; rfl, hbW3⟩
     rw [hk2] at HE
     simp only [Bool.not_true, Bool.or_self, Bool.false_eq_true, if_false] at HE
     have hT3_l := hT3.lt; have hT3_0 := hT3.cell 0; have hT3_1 := hT3.cell 1; have hT3_2 := hT3.cell 2; simp at hT3_0 hT3_1 hT3_2
     go_upto_region 12 with (fail)
     go_cut [46] (fun v wx => v = .bool (badOrd l k) ∧ ∃ W', W' = wx ∧ Below W3.heap.size W3 W')
     case first =>
      by_cases hk0 : k = 0
      ·
       have hd : decide (0 < k) = false := by simp [hk0]
       have hd' : decide ((0 : Int) < (k : Int)) = false := by simp [hk0]
       have ho0 : badOrd l k = false := by rw [hk0]; rfl
       have Ho := Lib.hid ho0
       clear hk0 ho0
       refine wp_region_held_drew (S := (fun wx => Below W3.heap.size W3 wx)) (by kernel_rfl) ?hS (fun hHeld => ?_)
       case hS => exact (Below.refl _ _).drew
       refine rt 0 (some 47) ?_
       refine rt 1 (some 48) ?_
       refine rt 2 (some 49) ?_
       refine rs 3 (some 50) ?_
       refine rs 4 (some 51) ?_
       refine rs 5 (some 52) ?_
       refine rs 6 (some 53) ?_
       refine rs 7 (some 54) ?_
       refine rs 8 (some 55) ?_
       refine rs 9 (some 56) ?_
       refine rs 10 (some 57) ?_
       refine rs 11 (some 58) ?_
       refine rs 12 (some 59) ?_
       refine rt 13 (some 60) ?_
       refine rt 14 (some 46) ?_
       refine wpAnyH_done (by kernel_rfl) ?_ _
       go_wp2_with fail
       go_meet
       exact ⟨by rw [Ho.out] <;> rfl, _, rfl, hHeld⟩
      ·
       obtain ⟨p, hp⟩ : ∃ p, k = p + 1 := ⟨k - 1, by omega⟩
       have hpl : p < l.length := by omega
       obtain ⟨b', off', ha', d0, d1, d2⟩ := (hs.below hbW3).mark hpl
       rw [ha] at ha'
       cases ha'
       generalize hy : l[p] = y at *
       obtain ⟨y1, y2, y3⟩ := y
       have Hy := Lib.hid hy
       clear hy
       simp only at d0 d1 d2
       have hwp : IntKind.i64.wrap ((k : Int) - 1) = (p : Int) := by rw [hp, IntWalk.i64_in _ (by omega)]; omega
       have hwq : IntKind.i64.wrap (p : Int) = (p : Int) := IntWalk.i64_in _ (by omega)
       have hk1 : 0 < k := by omega
       have hk2 : (0 : Int) < (k : Int) := by omega
       have hp1 : (0 : Int) ≤ (p : Int) := by omega
       have hp2 : (p : Int) < (l.length : Int) := by omega
       have hp3 : (k : Int) - 1 = (p : Int) := by omega
       have Hp := Lib.hid hp
       clear hp hk0
       have Ho := Lib.hid (badOrd_at (l := l) (k := k) (p := p) (x := (y1, y2, y3)) (y := (x1, x2, x3)) Hp.out (by rw [List.getElem?_eq_getElem hpl, Hy.out]) (by rw [List.getElem?_eq_getElem hlt, Hx.out]))
       have HC := Lib.hid (fun W => comparePairs_any (y1, y2, y3) (x1, x2, x3) W)
       simp only at HC
       generalize cmpP (y1, y2, y3) (x1, x2, x3) = cp at *
       refine wp_region_held_drew (S := (fun wx => wx.cell? ⟨b, off + p * 3, none⟩ = some (.string y1) ∧ wx.cell? ⟨b, off + p * 3 + 1, none⟩ = some (.string y2) ∧ wx.cell? ⟨wr.heap.size, 0, none⟩ = some (.string x1) ∧ wx.cell? ⟨wr.heap.size, 1, none⟩ = some (.string x2) ∧ Below W3.heap.size W3 wx)) (by kernel_rfl) ?hS (fun hHeld => ?_)
       case hS => exact ⟨d0, d1, hT3_0, hT3_1, (Below.refl _ _).drew⟩
       refine rt 0 (some 47) ?_
       refine rt 1 (some 48) ?_
       refine rt 2 (some 49) ?_
       refine rt 3 (some 50) ?_
       refine rt 4 (some 51) ?_
       refine rt 5 (some 52) ?_
       refine rt 6 (some 53) ?_
       refine rt 7 (some 54) ?_
       refine rt 8 (some 55) ?_
       refine rt 9 (some 56) ?_
       refine rt 10 (some 57) ?_
       refine rcall (i := 11) (d := (some 58)) (by kernel_rfl) rfl (by kernel_rfl) (fun K hK => ?_)
       go_simp
       go_at_call 56; refine (HC.out _).mono ?_; rintro e w' ⟨rfl, hb4⟩
       refine hK.out _ _ ?hS (fun hHeld => ?_)
       case hS => exact ⟨cell_later hb4 hHeld.1, cell_later hb4 hHeld.2.1, cell_later hb4 hHeld.2.2.1, cell_later hb4 hHeld.2.2.2.1, hHeld.2.2.2.2.trans (hb4.mono hHeld.2.2.2.2.size)⟩
       clear hK K
       simp only [Act.put, lsetA, lsetZ, lsetS]
       refine rt 12 (some 59) ?_
       refine rt 13 (some 60) ?_
       refine rt 14 (some 46) ?_
       refine wpAnyH_done (by kernel_rfl) ?_ _
       go_wp2_with fail
       go_meet
       exact ⟨by rw [Ho.out] <;> rfl, _, rfl, hHeld.2.2.2.2⟩
     case rest =>
      obtain ⟨hso, W4, rfl, hb4⟩ := hcut
      rw [hso]
      have hT4 := hT3.below hb4
      have hbW4 : Below w.heap.size w W4 := below_next hbW3 hb4
      clear hT3_l hT3_0 hT3_1 hT3_2
      clear hT3 hb4 hbW3
      cases hob : badOrd l k
      ·
       rw [hob] at HE
       have hT4_l := hT4.lt; have hT4_0 := hT4.cell 0; have hT4_1 := hT4.cell 1; have hT4_2 := hT4.cell 2; simp at hT4_0 hT4_1 hT4_2
       go_wp2_with fail
       refine (outside_any _ _ _ _).mono ?_
       rintro e W5 ⟨rfl, rfl⟩
       cases hr : (decide (x3 < 0) || decide (10 < x3))
       ·
        rw [hr] at HE
        by_cases h12 : 12 < rn
        ·
         have He := Lib.hid (Hfe.out 2 (by rw [HE.out]; simp [h12]) (by decide))
         go_wp2_with fail
         go_ret
         exact ⟨by rw [He.out]; rfl, hbW4⟩
        ·
         have h12' : decide (12 < rn) = false := decide_eq_false h12
         have HZ := Lib.hid (show markE runN l k = 0 by rw [HE.out]; simp [h12])
         go_wp2_with fail
         rw [← ha]
         go_roundg (l.length - (k + 1))
         case measure => have := hgk.out; omega
         case rel => exact ⟨k + 1, by rw [HN.out], by go_num, by omega, rfl, zeros_succ hf.out HZ.out, hbW4⟩
       ·
        rw [hr] at HE
        have He := Lib.hid (Hfe.out 1 (by rw [HE.out]; rfl) (by decide))
        go_wp2_with fail
        go_ret
        exact ⟨by rw [He.out]; rfl, hbW4⟩
      ·
       rw [hob] at HE
       have He := Lib.hid (Hfe.out 7 (by rw [HE.out]; rfl) (by decide))
       go_wp2_with fail
       go_ret
       exact ⟨by rw [He.out]; rfl, hbW4⟩
  ·
   have hE0 : firstErr (markE runN l) l.length = 0 := by
    obtain rfl : k = l.length := by omega
    exact firstErr_zero hf.out
   have Hv := Lib.hid (show pf = 0 by rw [HPF.out, hE0])
   clear hE0
   go_wp2_with fail
   go_ret
   exact ⟨by rw [Hv.out]; rfl, hb⟩
end Go.Proofs.YtcjcdbhobehlpaaGreatDoor

/-! Marks: what is wrong with marks (the reference). -/
namespace Go.Proofs.YtcjcdbhobehlpaaGreatDoor
open Go.RowKit
set_option linter.unusedVariables false
set_option linter.unusedSimpArgs false

set_option maxRecDepth 100000 in
set_option maxHeartbeats 4000000 in
/-- The first of two numbers that is not 0. -/
theorem cmpOrI_any (x y : Int) (b : Nat) (w : World) (h : Box w b 3 #[.int .i64 x, .int .i64 y]) :
  Calls Tryz.prog 46 #[.slice (some ⟨b, 0, none⟩) 2 2] w (fun e w' => e = .returned (.int .i64 (if x ≠ 0 then x else y)) ∧ w = w') := by
 have h_l := h.lt; have h_0 := h.cell 0; have h_1 := h.cell 1; simp at h_0 h_1
 by_cases hx : x = 0
 ·
  rw [if_neg (by simp [hx])]
  have hq : (x != 0) = false := by simpa using hx
  clear hx
  by_cases hy : y = 0
  ·
   have hq2 : (y != 0) = false := by simpa using hy
   go_enter Tryz.func46, Tryz.ntmps46
   go_wp2_with fail
   refine wp_loop_rounds 3 ?_
   rw [rounds_succ]
   go_wp2_with fail
   rw [rounds_succ]
   go_wp2_with fail
   rw [rounds_succ]
   go_wp2_with fail
   go_ret
   exact ⟨by rw [hy]; rfl, rfl⟩
  ·
   have hq2 : (y != 0) = true := by simpa using hy
   go_enter Tryz.func46, Tryz.ntmps46
   go_wp2_with fail
   refine wp_loop_rounds 2 ?_
   rw [rounds_succ]
   go_wp2_with fail
   rw [rounds_succ]
   go_wp2_with fail
   go_ret
   exact ⟨rfl, rfl⟩
 ·
  rw [if_pos hx]
  have hq : (x != 0) = true := by simpa using hx
  go_enter Tryz.func46, Tryz.ntmps46
  go_wp2_with fail
  refine wp_loop_rounds 1 ?_
  rw [rounds_succ]
  go_wp2_with fail
  go_ret
  exact ⟨rfl, rfl⟩

set_option maxRecDepth 100000 in
set_option maxHeartbeats 1000000 in
theorem pairOrder_any (x y : Mark) (w : World) :
  Calls Tryz.prog 31 #[.agg #[.string x.1, .string x.2.1], .agg #[.string y.1, .string y.2.1]] w (Gives (.int .i64 (cmpP x y)) w) := by
 have H := Lib.hid (show cmpP x y = if cmpS x.1 y.1 ≠ 0 then cmpS x.1 y.1 else cmpS x.2.1 y.2.1 from rfl)
 generalize cmpP x y = r at *
 have H1 := Lib.hid (compareS_any x.1 y.1)
 have H2 := Lib.hid (compareS_any x.2.1 y.2.1)
 have H3 := Lib.hid (cmpOrI_any (cmpS x.1 y.1) (cmpS x.2.1 y.2.1))
 rw [← H.out] at H3
 generalize cmpS x.1 y.1 = c1 at *
 generalize cmpS x.2.1 y.2.1 = c2 at *
 generalize x.1 = x1 at *
 generalize x.2.1 = x2 at *
 generalize y.1 = y1 at *
 generalize y.2.1 = y2 at *
 have hX := (Box.new w 49 #[.string x1, .string x2]).alloc (.cells #[.string y1, .string y2] 49)
 have hY := Box.newAt (w.alloc (.cells #[.string x1, .string x2] 49)) (w.heap.size + 1) 49 #[.string y1, .string y2] (by simp)
 go_enter Tryz.func31, Tryz.ntmps31
 go_upto_region 1 with (fail)
 have hB : Below w.heap.size w ((w.alloc (.cells #[.string x1, .string x2] 49)).alloc (.cells #[.string y1, .string y2] 49)) := by (repeat' (first | exact Below.refl _ _ | assumption | refine Below.setCell ?_ ?_ _ | refine below_drewN ?_ _ | refine Below.drew ?_ | refine Below.alloc ?_ ?_ _ | (with_reducible refine Below.trans ?_ (Below.mono hb ?_)) | (with_reducible refine Below.trans ?_ (Below.mono hb0 ?_)) | (with_reducible refine Below.trans ?_ (Below.mono hb1 ?_)) | (with_reducible refine Below.trans ?_ (Below.mono hb2 ?_)) | (with_reducible refine Below.trans ?_ (Below.mono hb3 ?_)) | (with_reducible refine Below.trans ?_ (Below.mono hb4 ?_)) | (with_reducible refine Below.trans ?_ (Below.mono hb5 ?_)) | (with_reducible refine Below.trans ?_ (Below.mono hb6 ?_)) | (with_reducible refine Below.trans ?_ (Below.mono hb7 ?_)) | (with_reducible refine Below.trans ?_ (Below.mono hb8 ?_)) | (with_reducible refine Below.trans ?_ (Below.mono hb9 ?_)) | (with_reducible refine Below.trans ?_ (Below.mono hb10 ?_)) | (with_reducible refine Below.trans ?_ (Below.mono hb11 ?_)) | (with_reducible refine Below.trans ?_ (Below.mono hb12 ?_)) | (with_reducible refine Below.trans ?_ (Below.mono hb13 ?_)) | (with_reducible refine Below.trans ?_ (Below.mono hb14 ?_)) | (with_reducible refine Below.trans ?_ (Below.mono hb15 ?_)) | omega | (simp; done) | (simp; omega)))
 generalize (w.alloc (.cells #[.string x1, .string x2] 49)).alloc (.cells #[.string y1, .string y2] 49) = W at *
 have hX_l := hX.lt; have hX_0 := hX.cell 0; have hX_1 := hX.cell 1; simp at hX_0 hX_1
 have hY_l := hY.lt; have hY_0 := hY.cell 0; have hY_1 := hY.cell 1; simp at hY_0 hY_1
 refine wp_region_held_drew (S := (fun wx => wx.cell? ⟨w.heap.size, 0, none⟩ = some (.string x1) ∧ wx.cell? ⟨w.heap.size, 1, none⟩ = some (.string x2) ∧ wx.cell? ⟨w.heap.size + 1, 0, none⟩ = some (.string y1) ∧ wx.cell? ⟨w.heap.size + 1, 1, none⟩ = some (.string y2) ∧ Below W.heap.size W wx)) (by kernel_rfl) ?hS (fun hHeld => ?_)
 case hS => exact ⟨hX_0, hX_1, hY_0, hY_1, (Below.refl _ _).drew⟩
 refine rt 0 (some 5) ?_
 refine rt 1 (some 6) ?_
 refine rt 2 (some 7) ?_
 refine rt 3 (some 8) ?_
 refine rt 5 (some 10) ?_
 refine rt 6 (some 11) ?_
 refine rt 7 (some 12) ?_
 refine rt 8 (some 13) ?_
 refine rcall (i := 4) (d := (some 9)) (by kernel_rfl) rfl (by kernel_rfl) (fun K hK => ?_)
 go_simp
 go_at_call 47; refine (H1.out _).mono ?_; rintro e w' ⟨rfl, rfl⟩
 refine hK.out _ _ ?hS (fun hHeld => ?_)
 case hS => exact hHeld
 clear hK K
 simp only [Act.put, lsetA, lsetZ, lsetS]
 refine rcall (i := 9) (d := (some 14)) (by kernel_rfl) rfl (by kernel_rfl) (fun K hK => ?_)
 go_simp
 go_at_call 47; refine (H2.out _).mono ?_; rintro e w' ⟨rfl, rfl⟩
 refine hK.out _ _ ?hS (fun hHeld => ?_)
 case hS => exact hHeld
 clear hK K
 simp only [Act.put, lsetA, lsetZ, lsetS]
 refine rcall (i := 10) (d := (some 15)) (by kernel_rfl) rfl (by kernel_rfl) (fun K hK => ?_)
 go_simp
 skip
 refine hK.out _ _ ?hS (fun hHeld => ?_)
 case hS => exact (have hA : ∀ (w : World) (o : Obj), Below w.heap.size w (w.alloc o) := fun w o => (Below.refl _ _).alloc (Nat.le_refl _) o; ⟨cell_later (hA _ _) hHeld.1, cell_later (hA _ _) hHeld.2.1, cell_later (hA _ _) hHeld.2.2.1, cell_later (hA _ _) hHeld.2.2.2.1, hHeld.2.2.2.2.trans ((hA _ _).mono hHeld.2.2.2.2.size)⟩)
 clear hK K
 simp only [Act.put, lsetA, lsetZ, lsetS]
 refine rcall (i := 11) (d := (some 16)) (by kernel_rfl) rfl (by kernel_rfl) (fun K hK => ?_)
 go_simp
 go_at_call 46; refine (H3.out _ _ (by first | exact Box.new _ _ _ | exact (Box.new _ _ _).drew)).mono ?_; rintro e w' ⟨rfl, rfl⟩
 refine hK.out _ _ ?hS (fun hHeld => ?_)
 case hS => exact hHeld
 clear hK K
 simp only [Act.put, lsetA, lsetZ, lsetS]
 refine rt 12 (some 4) ?_
 refine wpAnyH_done (by kernel_rfl) ?_ _
 have hbF := below_next hB hHeld.2.2.2.2
 go_wp2_with fail
 go_ret
 exact ⟨rfl, hbF⟩

/-- How many marks of a paper there are. -/
def cntP (l : List Mark) (p : ByteArray) : Nat := l.countP (fun x => decide (x.1 = p))
theorem cntM_eq {l : List Mark} {k : Nat} (hk : k < l.length) : cntM l k = cntP (l.take (k + 1)) l[k].1 := by
 unfold cntM cntP; rw [List.getElem?_eq_getElem hk]; simp
theorem cntP_succ {l : List Mark} {k : Nat} (hk : k < l.length) (p : ByteArray) : cntP (l.take (k + 1)) p = cntP (l.take k) p + if l[k].1 = p then 1 else 0 := by
 unfold cntP; rw [List.take_succ_eq_append_getElem hk, List.countP_append]; simp [List.countP_cons]
theorem cntP_le (l : List Mark) (p : ByteArray) : cntP l p ≤ l.length := List.countP_le_length
/-- The map in block b counts the papers of l. -/
def MCnt (w : World) (b : Nat) (l : List Mark) : Prop := ∃ es, MBox w b es ∧ ∀ p, mget es p = if cntP l p = 0 then none else some (.int .i64 (cntP l p))
theorem MCnt.lt {w : World} {b : Nat} {l : List Mark} (h : MCnt w b l) : b < w.heap.size := by obtain ⟨es, h1, _⟩ := h; exact h1.lt
theorem MCnt.below {w w' : World} {b : Nat} {l : List Mark} (h : MCnt w b l) (k : Below w.heap.size w w') : MCnt w' b l := by obtain ⟨es, h1, h2⟩ := h; exact ⟨es, h1.below k, h2⟩
theorem MCnt.alloc {w : World} {b : Nat} {l : List Mark} (h : MCnt w b l) (o : Obj) : MCnt (w.alloc o) b l := by obtain ⟨es, h1, h2⟩ := h; exact ⟨es, h1.alloc o, h2⟩
theorem MCnt.look {w : World} {b : Nat} {l : List Mark} (h : MCnt w b l) (p : ByteArray) : (Instr.lookup 67 (.map (some b)) (.string p) false).run Tryz.prog w = .ok (.int .i64 (cntP l p)) w := by
 obtain ⟨es, h1, h2⟩ := h
 rw [MBox.look h1 Tryz.underlying67 Tryz.underlying9 (.int .i64 0) (fun w => Tryz.zeroValue3 w) p false]
 unfold looked
 rw [h2]
 by_cases h0 : cntP l p = 0 <;> simp [h0]
theorem MCnt.put {w : World} {b : Nat} {l : List Mark} {k : Nat} {es : List (ByteArray × Value)} (hk : k < l.length) (h2 : ∀ p, mget es p = if cntP (l.take k) p = 0 then none else some (.int .i64 (cntP (l.take k) p)))
  (h : MBox w b (mput es l[k].1 (.int .i64 ((cntP (l.take k) l[k].1 : Int) + 1)))) : MCnt w b (l.take (k + 1)) := by
 refine ⟨_, h, fun p => ?_⟩
 rw [mget_mput, cntP_succ hk]
 by_cases hp : l[k].1 = p
 ·
  subst hp; simp
 ·
  simp [hp, h2]

set_option maxRecDepth 100000 in
set_option maxHeartbeats 2000000 in
theorem marksFault_any (l : List Mark) (a : Option Addr) (cap : Nat) (w : World) (hs : SA w a l) (hsl : l.length ≤ 1000000) (hsm : ∀ x ∈ l, x.1.size ≤ 1000 ∧ x.2.1.size ≤ 1000) :
  Calls Tryz.prog 10 #[.slice a l.length cap] w (Gives (.int .i64 (marksFault l)) w) := by
 have HPF := Lib.hid (show marksFault l = if 3000 < l.length then 2 else firstErr (markE cntM l) l.length from rfl)
 generalize marksFault l = pf at *
 by_cases h5 : 3000 < l.length
 ·
  have Hv := Lib.hid (show pf = 2 by rw [HPF.out, if_pos h5])
  go_enter Tryz.func10, Tryz.ntmps10
  go_wp2_with fail
  go_ret
  exact ⟨by rw [Hv.out]; rfl, by (repeat' (first | exact Below.refl _ _ | assumption | refine Below.setCell ?_ ?_ _ | refine below_drewN ?_ _ | refine Below.drew ?_ | refine Below.alloc ?_ ?_ _ | (with_reducible refine Below.trans ?_ (Below.mono hb ?_)) | (with_reducible refine Below.trans ?_ (Below.mono hb0 ?_)) | (with_reducible refine Below.trans ?_ (Below.mono hb1 ?_)) | (with_reducible refine Below.trans ?_ (Below.mono hb2 ?_)) | (with_reducible refine Below.trans ?_ (Below.mono hb3 ?_)) | (with_reducible refine Below.trans ?_ (Below.mono hb4 ?_)) | (with_reducible refine Below.trans ?_ (Below.mono hb5 ?_)) | (with_reducible refine Below.trans ?_ (Below.mono hb6 ?_)) | (with_reducible refine Below.trans ?_ (Below.mono hb7 ?_)) | (with_reducible refine Below.trans ?_ (Below.mono hb8 ?_)) | (with_reducible refine Below.trans ?_ (Below.mono hb9 ?_)) | (with_reducible refine Below.trans ?_ (Below.mono hb10 ?_)) | (with_reducible refine Below.trans ?_ (Below.mono hb11 ?_)) | (with_reducible refine Below.trans ?_ (Below.mono hb12 ?_)) | (with_reducible refine Below.trans ?_ (Below.mono hb13 ?_)) | (with_reducible refine Below.trans ?_ (Below.mono hb14 ?_)) | (with_reducible refine Below.trans ?_ (Below.mono hb15 ?_)) | omega | (simp; done) | (simp; omega)))⟩
 rw [if_neg h5] at HPF
 have hmm := @run_makeMap Tryz.prog
 go_enter Tryz.func10, Tryz.ntmps10
 go_wp2_with fail
 go_loopg [12] l.length (fun gk i wr => ∃ k : Nat, i = .int .i64 k ∧ k ≤ l.length ∧ Hid (gk = l.length - k) ∧ Hid (∀ j, j < k → markE cntM l j = 0) ∧ MCnt wr w.heap.size (l.take k) ∧ Below w.heap.size w wr)
 case atStart => exact ⟨0, rfl, by omega, rfl, fun j hj => by omega, ⟨[], MBox.new w, fun p => by simp [cntP, mget]⟩, by (repeat' (first | exact Below.refl _ _ | assumption | refine Below.setCell ?_ ?_ _ | refine below_drewN ?_ _ | refine Below.drew ?_ | refine Below.alloc ?_ ?_ _ | (with_reducible refine Below.trans ?_ (Below.mono hb ?_)) | (with_reducible refine Below.trans ?_ (Below.mono hb0 ?_)) | (with_reducible refine Below.trans ?_ (Below.mono hb1 ?_)) | (with_reducible refine Below.trans ?_ (Below.mono hb2 ?_)) | (with_reducible refine Below.trans ?_ (Below.mono hb3 ?_)) | (with_reducible refine Below.trans ?_ (Below.mono hb4 ?_)) | (with_reducible refine Below.trans ?_ (Below.mono hb5 ?_)) | (with_reducible refine Below.trans ?_ (Below.mono hb6 ?_)) | (with_reducible refine Below.trans ?_ (Below.mono hb7 ?_)) | (with_reducible refine Below.trans ?_ (Below.mono hb8 ?_)) | (with_reducible refine Below.trans ?_ (Below.mono hb9 ?_)) | (with_reducible refine Below.trans ?_ (Below.mono hb10 ?_)) | (with_reducible refine Below.trans ?_ (Below.mono hb11 ?_)) | (with_reducible refine Below.trans ?_ (Below.mono hb12 ?_)) | (with_reducible refine Below.trans ?_ (Below.mono hb13 ?_)) | (with_reducible refine Below.trans ?_ (Below.mono hb14 ?_)) | (with_reducible refine Below.trans ?_ (Below.mono hb15 ?_)) | omega | (simp; done) | (simp; omega)))⟩
 case round =>
  clear hmm
  obtain ⟨k, rfl, hk, hgk, hf, hM, hb⟩ := hrel
  have hz := hb.size
  by_cases hlt : k < l.length
  ·
   obtain ⟨b, off, ha, c0, c1, c2⟩ := (hs.below hb).mark hlt
   have hE : markE cntM l k = if !keyB l[k].1 || !keyB l[k].2.1 then 5 else if badOrd l k then 7 else if decide (l[k].2.2 < 0) || decide (10 < l[k].2.2) then 1 else if 12 < cntM l k then 2 else 0 := by
    unfold markE; rw [List.getElem?_eq_getElem hlt]
   rw [cntM_eq hlt] at hE
   have HE := Lib.hid hE
   have hxs := hsm l[k] (List.getElem_mem hlt)
   have hML := hM.lt
   obtain ⟨es, hM1, hM2⟩ := hM
   have HPut := Lib.hid (fun (W : World) h => MCnt.put (w := W) (b := w.heap.size) hlt hM2 h)
   have HLk := Lib.hid (fun (W : World) (h : MBox W w.heap.size es) => MCnt.look ⟨es, h, hM2⟩ l[k].1)
   have HLk2 := Lib.hid (fun (W : World) (h : MCnt W w.heap.size (l.take (k + 1))) => MCnt.look h l[k].1)
   have hcb := cntP_le (l.take k) l[k].1
   have hcb2 := cntP_le (l.take (k + 1)) l[k].1
   rw [List.length_take] at hcb hcb2
   clear hE hM2
   generalize cntP (l.take k) l[k].1 = c at *
   generalize cntP (l.take (k + 1)) l[k].1 = c' at *
   rw [ha]
   generalize hx : l[k] = x at *
   obtain ⟨x1, x2, x3⟩ := x
   have Hx := Lib.hid hx
   clear hx
   simp only at c0 c1 c2 HE hxs HPut HLk HLk2
   have Hfe := Lib.hid (fun (e : Int) (he : markE cntM l k = e) (he0 : e ≠ 0) => (show pf = e by rw [HPF.out, firstErr_is (f := markE cntM l) hlt hf.out he he0]))
   have hT := Box.new wr 51 #[.string x1, .string x2, .int .i64 x3]
   have hlk := HLk.out _ (hM1.alloc (.cells #[.string x1, .string x2, .int .i64 x3] 51))
   go_wp2_with (at_mapUpdate; refine wpList_mapUpdate_box rfl _ _ _ 67 rfl 9 3 Tryz.underlying67 Tryz.underlying9 w.heap.size es rfl (hM1.alloc _) x1 rfl (.int .i64 ((c : Int) + 1)) rfl ?_; intro W1 hM2 hg2 hs2; have hT1 := hT.grown hg2 (by simp; omega); have hT1_l := hT1.lt; have hT1_0 := hT1.cell 0; have hT1_1 := hT1.cell 1; have hT1_2 := hT1.cell 2; simp at hT1_0 hT1_1 hT1_2)
   refine (keyOf_any x1 _ (by omega)).mono ?_
   rintro e W2 ⟨rfl, hb2⟩
   have hMc := (HPut.out _ hM2).below hb2
   have hbW1 : Below w.heap.size w W1 := Below.grown (w := wr.alloc _) (by (repeat' (first | exact Below.refl _ _ | assumption | refine Below.setCell ?_ ?_ _ | refine below_drewN ?_ _ | refine Below.drew ?_ | refine Below.alloc ?_ ?_ _ | (with_reducible refine Below.trans ?_ (Below.mono hb ?_)) | (with_reducible refine Below.trans ?_ (Below.mono hb0 ?_)) | (with_reducible refine Below.trans ?_ (Below.mono hb1 ?_)) | (with_reducible refine Below.trans ?_ (Below.mono hb2 ?_)) | (with_reducible refine Below.trans ?_ (Below.mono hb3 ?_)) | (with_reducible refine Below.trans ?_ (Below.mono hb4 ?_)) | (with_reducible refine Below.trans ?_ (Below.mono hb5 ?_)) | (with_reducible refine Below.trans ?_ (Below.mono hb6 ?_)) | (with_reducible refine Below.trans ?_ (Below.mono hb7 ?_)) | (with_reducible refine Below.trans ?_ (Below.mono hb8 ?_)) | (with_reducible refine Below.trans ?_ (Below.mono hb9 ?_)) | (with_reducible refine Below.trans ?_ (Below.mono hb10 ?_)) | (with_reducible refine Below.trans ?_ (Below.mono hb11 ?_)) | (with_reducible refine Below.trans ?_ (Below.mono hb12 ?_)) | (with_reducible refine Below.trans ?_ (Below.mono hb13 ?_)) | (with_reducible refine Below.trans ?_ (Below.mono hb14 ?_)) | (with_reducible refine Below.trans ?_ (Below.mono hb15 ?_)) | omega | (simp; done) | (simp; omega)))) hg2 (by simp; omega) (by rintro j hj; cases hj; exact Nat.le_refl _)
   have hT2 := hT1.below hb2
   have hbW2 : Below w.heap.size w W2 := below_next hbW1 hb2
   have hs3 := hb2.size
   clear hT1_l hT1_0 hT1_1 hT1_2
   simp at hs2
   clear hT hT1 hb2 hbW1 hlk hM1 hM2 hg2 c0 c1 c2 HPut HLk
   cases hk1 : keyB x1
   ·
    rw [hk1] at HE
    have He := Lib.hid (Hfe.out 5 (by rw [HE.out]; rfl) (by decide))
    go_wp2_with fail
    go_ret
    exact ⟨by rw [He.out]; rfl, hbW2⟩
   rw [hk1] at HE
   have hT2_l := hT2.lt; have hT2_0 := hT2.cell 0; have hT2_1 := hT2.cell 1; have hT2_2 := hT2.cell 2; simp at hT2_0 hT2_1 hT2_2
   go_wp2_with fail
   refine (keyOf_any x2 _ (by omega)).mono ?_
   rintro e W3 ⟨rfl, hb3⟩
   have hMc3 := hMc.below hb3
   have hT3 := hT2.below hb3
   have hbW3 : Below w.heap.size w W3 := below_next hbW2 hb3
   have hs4 := hb3.size
   clear hT2_l hT2_0 hT2_1 hT2_2
   clear hT2 hb3 hbW2 hMc
   cases hk2 : keyB x2
   ·
    rw [hk2] at HE
    have He := Lib.hid (Hfe.out 5 (by rw [HE.out]; rfl) (by decide))
    go_wp2_with fail
    go_ret
    exact ⟨by rw [He.out]; rfl, hbW3⟩
   rw [hk2] at HE
   simp only [Bool.not_true, Bool.or_self, Bool.false_eq_true, if_false] at HE
   have hT3_l := hT3.lt; have hT3_0 := hT3.cell 0; have hT3_1 := hT3.cell 1; have hT3_2 := hT3.cell 2; simp at hT3_0 hT3_1 hT3_2
   go_upto_region 10 with (fail)
   go_cut [36] (fun v wx => v = .bool (badOrd l k) ∧ ∃ W', W' = wx ∧ Below W3.heap.size W3 W')
   case first =>
    by_cases hk0 : k = 0
    ·
     have hd : decide (0 < k) = false := by simp [hk0]
     have hd' : decide ((0 : Int) < (k : Int)) = false := by simp [hk0]
     have ho0 : badOrd l k = false := by rw [hk0]; rfl
     have Ho := Lib.hid ho0
     clear hk0 ho0
     refine wp_region_held_drew (S := (fun wx => Below W3.heap.size W3 wx)) (by kernel_rfl) ?hS (fun hHeld => ?_)
     case hS => exact (Below.refl _ _).drew
     refine rt 0 (some 37) ?_
     refine rt 1 (some 38) ?_
     refine rt 2 (some 39) ?_
     refine rs 3 (some 40) ?_
     refine rs 4 (some 41) ?_
     refine rs 5 (some 42) ?_
     refine rs 6 (some 43) ?_
     refine rs 7 (some 44) ?_
     refine rs 8 (some 45) ?_
     refine rs 9 (some 46) ?_
     refine rs 10 (some 47) ?_
     refine rs 11 (some 48) ?_
     refine rs 12 (some 49) ?_
     refine rt 13 (some 50) ?_
     refine rt 14 (some 36) ?_
     refine wpAnyH_done (by kernel_rfl) ?_ _
     go_wp2_with fail
     go_meet
     exact ⟨by rw [Ho.out] <;> rfl, _, rfl, hHeld⟩
    ·
     obtain ⟨p, hp⟩ : ∃ p, k = p + 1 := ⟨k - 1, by omega⟩
     have hpl : p < l.length := by omega
     obtain ⟨b', off', ha', d0, d1, d2⟩ := (hs.below hbW3).mark hpl
     rw [ha] at ha'
     cases ha'
     generalize hy : l[p] = y at *
     obtain ⟨y1, y2, y3⟩ := y
     have Hy := Lib.hid hy
     clear hy
     simp only at d0 d1 d2
     have hwp : IntKind.i64.wrap ((k : Int) - 1) = (p : Int) := by rw [hp, IntWalk.i64_in _ (by omega)]; omega
     have hwq : IntKind.i64.wrap (p : Int) = (p : Int) := IntWalk.i64_in _ (by omega)
     have hk1 : 0 < k := by omega
     have hk2 : (0 : Int) < (k : Int) := by omega
     have hp1 : (0 : Int) ≤ (p : Int) := by omega
     have hp2 : (p : Int) < (l.length : Int) := by omega
     have hp3 : (k : Int) - 1 = (p : Int) := by omega
     have Hp := Lib.hid hp
     clear hp hk0
     have Ho := Lib.hid (badOrd_at (l := l) (k := k) (p := p) (x := (y1, y2, y3)) (y := (x1, x2, x3)) Hp.out (by rw [List.getElem?_eq_getElem hpl, Hy.out]) (by rw [List.getElem?_eq_getElem hlt, Hx.out]))
     have HC := Lib.hid (fun W => pairOrder_any (y1, y2, y3) (x1, x2, x3) W)
     simp only at HC
     generalize cmpP (y1, y2, y3) (x1, x2, x3) = cp at *
     refine wp_region_held_drew (S := (fun wx => wx.cell? ⟨b, off + p * 3, none⟩ = some (.string y1) ∧ wx.cell? ⟨b, off + p * 3 + 1, none⟩ = some (.string y2) ∧ wx.cell? ⟨wr.heap.size, 0, none⟩ = some (.string x1) ∧ wx.cell? ⟨wr.heap.size, 1, none⟩ = some (.string x2) ∧ Below W3.heap.size W3 wx)) (by kernel_rfl) ?hS (fun hHeld => ?_)
     case hS => exact ⟨d0, d1, hT3_0, hT3_1, (Below.refl _ _).drew⟩
     refine rt 0 (some 37) ?_
     refine rt 1 (some 38) ?_
     refine rt 2 (some 39) ?_
     refine rt 3 (some 40) ?_
     refine rt 4 (some 41) ?_
     refine rt 5 (some 42) ?_
     refine rt 6 (some 43) ?_
     refine rt 7 (some 44) ?_
     refine rt 8 (some 45) ?_
     refine rt 9 (some 46) ?_
     refine rt 10 (some 47) ?_
     refine rcall (i := 11) (d := (some 48)) (by kernel_rfl) rfl (by kernel_rfl) (fun K hK => ?_)
     go_simp
     go_at_call 31; refine (HC.out _).mono ?_; rintro e w' ⟨rfl, hb4⟩
     refine hK.out _ _ ?hS (fun hHeld => ?_)
     case hS => exact ⟨cell_later hb4 hHeld.1, cell_later hb4 hHeld.2.1, cell_later hb4 hHeld.2.2.1, cell_later hb4 hHeld.2.2.2.1, hHeld.2.2.2.2.trans (hb4.mono hHeld.2.2.2.2.size)⟩
     clear hK K
     simp only [Act.put, lsetA, lsetZ, lsetS]
     refine rt 12 (some 49) ?_
     refine rt 13 (some 50) ?_
     refine rt 14 (some 36) ?_
     refine wpAnyH_done (by kernel_rfl) ?_ _
     go_wp2_with fail
     go_meet
     exact ⟨by rw [Ho.out] <;> rfl, _, rfl, hHeld.2.2.2.2⟩
   case rest =>
    obtain ⟨hso, W4, rfl, hb4⟩ := hcut
    rw [hso]
    have hT4 := hT3.below hb4
    have hbW4 : Below w.heap.size w W4 := below_next hbW3 hb4
    have hMc4 := hMc3.below hb4
    clear hT3_l hT3_0 hT3_1 hT3_2
    clear hT3 hb4 hbW3 hMc3
    cases hob : badOrd l k
    ·
     rw [hob] at HE
     have hT4_l := hT4.lt; have hT4_0 := hT4.cell 0; have hT4_1 := hT4.cell 1; have hT4_2 := hT4.cell 2; simp at hT4_0 hT4_1 hT4_2
     have hlk4 := HLk2.out _ hMc4
     cases hr : (decide (x3 < 0) || decide (10 < x3))
     ·
      rw [hr] at HE
      have hr1 : 0 ≤ x3 := by simp at hr; omega
      have hr2 : x3 ≤ 10 := by simp at hr; omega
      clear hr
      by_cases h12 : 12 < c'
      ·
       have He := Lib.hid (Hfe.out 2 (by rw [HE.out]; simp; omega) (by decide))
       have h12' : (12 : Int) < (c' : Int) := by omega
       go_wp2_with fail
       go_ret
       exact ⟨by rw [He.out]; rfl, hbW4⟩
      ·
       have h12' : decide ((12 : Int) < (c' : Int)) = false := decide_eq_false (by omega)
       have HZ := Lib.hid (show markE cntM l k = 0 by rw [HE.out]; simp; omega)
       have h12'' : decide (12 < c') = false := decide_eq_false h12
       go_wp2_with fail
       rw [← ha]
       go_roundg (l.length - (k + 1))
       case measure => have := hgk.out; omega
       case rel => exact ⟨k + 1, by go_num, by omega, rfl, zeros_succ hf.out HZ.out, hMc4, hbW4⟩
     ·
      rw [hr] at HE
      have He := Lib.hid (Hfe.out 1 (by rw [HE.out]; rfl) (by decide))
      rcases (show x3 < 0 ∨ 10 < x3 by simpa using hr) with h9 | h9
      ·
       clear hr
       go_wp2_with fail
       go_ret
       exact ⟨by rw [He.out]; rfl, hbW4⟩
      ·
       clear hr
       have h9' : decide (x3 < 0) = false := decide_eq_false (by omega)
       go_wp2_with fail
       go_ret
       exact ⟨by rw [He.out]; rfl, hbW4⟩
    ·
     rw [hob] at HE
     have He := Lib.hid (Hfe.out 7 (by rw [HE.out]; rfl) (by decide))
     go_wp2_with fail
     go_ret
     exact ⟨by rw [He.out]; rfl, hbW4⟩
  ·
   have hE0 : firstErr (markE cntM l) l.length = 0 := by
    obtain rfl : k = l.length := by omega
    exact firstErr_zero hf.out
   have Hv := Lib.hid (show pf = 0 by rw [HPF.out, hE0])
   clear hE0
   go_wp2_with fail
   go_ret
   exact ⟨by rw [Hv.out]; rfl, hb⟩
end Go.Proofs.YtcjcdbhobehlpaaGreatDoor

/-! Marks by papers and by persons: maps of slices. -/
namespace Go.Proofs.YtcjcdbhobehlpaaGreatDoor
open Go.RowKit
set_option linter.unusedVariables false
set_option linter.unusedSimpArgs false

theorem Tryz.infoMark : (Tryz.prog.info? 51).map (fun i => (i.zero, i.size, i.bytes)) = some (some (.agg #[.string ⟨#[]⟩, .string ⟨#[]⟩, .int .i64 0]), 3, 40) := by kernel_rfl
theorem Tryz.zeroMarks (w : World) : (zeroValue 26).run Tryz.prog w = .ok (.slice none 0 0) w := Tryz.zeroValue26 w

/-- The marks with a key. -/
def sel (f : Mark → ByteArray) (p : ByteArray) (l : List Mark) : List Mark := l.filter (fun x => decide (f x = p))
theorem sel_snoc (f : Mark → ByteArray) (p : ByteArray) (ms : List Mark) (x : Mark) : sel f p (ms ++ [x]) = if f x = p then sel f p ms ++ [x] else sel f p ms := by
 unfold sel
 rw [List.filter_append, List.filter_cons]
 by_cases h : f x = p <;> simp [h]
theorem sel_nil {f : Mark → ByteArray} {p : ByteArray} {l : List Mark} : sel f p l = [] ↔ ¬ ∃ x ∈ l, f x = p := by
 unfold sel
 rw [List.filter_eq_nil_iff]
 constructor
 ·
  rintro h ⟨x, hx, e⟩
  exact h x hx (by simp [e])
 ·
  intro h x hx e
  exact h ⟨x, hx, by simpa using e⟩
theorem sel_len (f : Mark → ByteArray) (p : ByteArray) (ms : List Mark) : (sel f p ms).length ≤ ms.length := List.length_filter_le _ _
/-- Block b is a map from keys to the slices of their marks. -/
structure MSl (w : World) (b base : Nat) (f : Mark → ByteArray) (l : List Mark) (es : List (ByteArray × Value)) : Prop where
 box : MBox w b es
 nodup : (es.map (·.1)).Nodup
 keys : ∀ p, p ∈ es.map (·.1) ↔ ∃ x ∈ l, f x = p
 vals : ∀ p, Own base 51 w (valOf es p) (sel f p l)
 apart : ∀ p q k, p ≠ q → (valOf es p).ownBlock = some k → (valOf es q).ownBlock ≠ some k
section
variable {w w' w1 w2 : World} {b base : Nat} {f : Mark → ByteArray} {l : List Mark} {es : List (ByteArray × Value)}
theorem MSl.blk (h : MSl w b base f l es) {j : Nat} (hj : blk es j) : base ≤ j ∧ j < w.heap.size := by
 obtain ⟨p, hp⟩ := hj; exact (h.vals p).lt j hp
theorem MSl.keep (h : MSl w b base f l es) (hk : ∀ j, (j = b ∨ Go.Proofs.YtcjcdbhobehlpaaGreatDoor.blk es j) → w'.heap[j]? = w.heap[j]?) : MSl w' b base f l es :=
 ⟨h.box.same (hk b (.inl rfl)), h.nodup, h.keys, fun p => (h.vals p).same fun j hj => hk j (.inr ⟨p, hj⟩), h.apart⟩
theorem MSl.below (h : MSl w b base f l es) (hb : Below w.heap.size w w') : MSl w' b base f l es :=
 h.keep fun j hj => hb.block j (by rcases hj with rfl | hj; exact h.box.lt; exact (h.blk hj).2)
theorem MSl.alloc (h : MSl w b base f l es) (o : Obj) : MSl (w.alloc o) b base f l es := h.below ((Below.refl _ _).alloc (Nat.le_refl _) o)
theorem MSl.drew (h : MSl w b base f l es) : MSl w.drew b base f l es := h.below (Below.refl _ _).drew
theorem MSl.look (h : MSl w b base f l es) (p : ByteArray) : (Instr.lookup 59 (.map (some b)) (.string p) false).run Tryz.prog w = .ok (valOf es p) w :=
 MBox.look h.box Tryz.underlying59 Tryz.underlying9 (.slice none 0 0) Tryz.zeroMarks p false
theorem MSl.new (w : World) (base : Nat) (f : Mark → ByteArray) : MSl (w.alloc (.map #[] 0)) w.heap.size base f [] [] :=
 ⟨MBox.new w, by simp, by simp, fun p => Own.nil _ _ _, fun p q k _ h => by cases h⟩
/-- A mark was appended to the slice of its key, and the slice stored. -/
theorem MSl.step (h : MSl w b base f l es) (x : Mark) {g cap : Nat} (hown : Own base 51 w1 (.slice (some ⟨g, 0, none⟩) ((sel f (f x) l).length + 1) cap) (sel f (f x) l ++ [x]))
  (hg : w.grownBy w1 (valOf es (f x)).ownBlock) (hat : (valOf es (f x)).ownBlock = some g ∨ g = w.heap.size) (hM : MBox w2 b (mput es (f x) (.slice (some ⟨g, 0, none⟩) ((sel f (f x) l).length + 1) cap))) (hg2 : w1.grownBy w2 (some b)) (hb : b < base) :
  MSl w2 b base f (l ++ [x]) (mput es (f x) (.slice (some ⟨g, 0, none⟩) ((sel f (f x) l).length + 1) cap)) := by
 have hold : ∀ p, p ≠ f x → ∀ j, (valOf es p).ownBlock = some j → w2.heap[j]? = w.heap[j]? := fun p hp j hj => by
  have hlt := (h.vals p).lt j hj
  rw [hg2.block j (Nat.lt_of_lt_of_le hlt.2 hg.size) (fun e => by cases e; omega), hg.block j hlt.2 (fun e => h.apart p (f x) j hp hj e.symm)]
 have hgne : ∀ p, p ≠ f x → (valOf es p).ownBlock ≠ some g := fun p hp e => by
  rcases hat with h1 | h1
  ·
   exact h.apart p (f x) g hp e h1
  ·
   have := ((h.vals p).lt g e).2; omega
 refine ⟨hM, mput_nodup _ _ _ h.nodup, fun p => ?_, fun p => ?_, fun p q k hpq => ?_⟩
 ·
  rw [mput_keys, h.keys]
  constructor
  ·
   rintro (rfl | ⟨y, hy, rfl⟩)
   ·
    exact ⟨x, by simp, rfl⟩
   ·
    exact ⟨y, by simp [hy], rfl⟩
  ·
   rintro ⟨y, hy, rfl⟩
   rw [List.mem_append, List.mem_singleton] at hy
   rcases hy with hy | rfl
   ·
    exact .inr ⟨y, hy, rfl⟩
   ·
    exact .inl rfl
 ·
  rw [valOf_put]
  by_cases hp : f x = p
  ·
   subst hp
   rw [if_pos rfl]
   have e : sel f (f x) (l ++ [x]) = sel f (f x) l ++ [x] := by unfold sel; simp
   rw [e]
   exact hown.same fun j hj => hg2.block j (hown.lt j hj).2 (fun e => by cases e; have := (hown.lt _ hj).1; omega)
  ·
   rw [if_neg hp]
   have e : sel f p (l ++ [x]) = sel f p l := by unfold sel; simp [hp]
   rw [e]
   exact (h.vals p).same fun j hj => hold p (Ne.symm hp) j hj
 ·
  rw [valOf_put, valOf_put]
  by_cases hp : f x = p
  ·
   rw [if_pos hp, if_neg (fun e => hpq (hp.symm.trans e))]
   intro hk
   have hkg : k = g := by cases hk; rfl
   subst hkg
   exact hgne q (fun e => hpq (hp.symm.trans e.symm))
  ·
   rw [if_neg hp]
   by_cases hq : f x = q
   ·
    rw [if_pos hq]
    intro hk e
    have hkg : k = g := by cases e; rfl
    subst hkg
    exact hgne p (Ne.symm hp) hk
   ·
    rw [if_neg hq]
    exact h.apart p q k hpq
/-- Whose blocks there are behind a step. -/
theorem blk_step {x : Mark} {g n cap : Nat} {j : Nat} (h : blk (mput es (f x) (.slice (some ⟨g, 0, none⟩) n cap)) j) : j = g ∨ blk es j := by
 obtain ⟨p, hp⟩ := h
 rw [valOf_put] at hp
 split at hp
 ·
  cases hp; exact .inl rfl
 ·
  exact .inr ⟨p, hp⟩
end

/-- Marks by papers (map b1) and by persons (map b2). -/
structure Shs (w : World) (b1 b2 base : Nat) (l : List Mark) (es1 es2 : List (ByteArray × Value)) : Prop where
 one : MSl w b1 base (·.1) l es1
 two : MSl w b2 base (·.2.1) l es2
 cross : ∀ j, blk es1 j → ¬ blk es2 j
theorem Shs.below {w w' : World} {b1 b2 base : Nat} {l : List Mark} {es1 es2 : List (ByteArray × Value)} (h : Shs w b1 b2 base l es1 es2) (hb : Below w.heap.size w w') : Shs w' b1 b2 base l es1 es2 := ⟨h.one.below hb, h.two.below hb, h.cross⟩
theorem Shs.alloc {w : World} {b1 b2 base : Nat} {l : List Mark} {es1 es2 : List (ByteArray × Value)} (h : Shs w b1 b2 base l es1 es2) (o : Obj) : Shs (w.alloc o) b1 b2 base l es1 es2 := ⟨h.one.alloc o, h.two.alloc o, h.cross⟩
end Go.Proofs.YtcjcdbhobehlpaaGreatDoor

/-! sheetOf: marks by papers and by persons. -/
namespace Go.Proofs.YtcjcdbhobehlpaaGreatDoor
open Go.RowKit
set_option linter.unusedVariables false
set_option linter.unusedSimpArgs false

theorem two_step {w w1 w2 : World} {b1 b2 base : Nat} {f f' : Mark → ByteArray} {l l' : List Mark} {es1 es2 : List (ByteArray × Value)} (h1 : MSl w b1 base f l es1) (h2 : MSl w b2 base f' l' es2) (cr : ∀ j, blk es1 j → ¬ blk es2 j) (x : Mark) {g cap : Nat} {p : ByteArray} (hp : f x = p)
  (hown : Own base 51 w1 (.slice (some ⟨g, 0, none⟩) ((sel f p l).length + 1) cap) (sel f p l ++ [x]))
  (hg : w.grownBy w1 (valOf es1 p).ownBlock) (hat : (valOf es1 p).ownBlock = some g ∨ g = w.heap.size) (hM : MBox w2 b1 (mput es1 p (.slice (some ⟨g, 0, none⟩) ((sel f p l).length + 1) cap))) (hg2 : w1.grownBy w2 (some b1)) (hb1 : b1 < base) (hb2 : b2 < base) (hne : b1 ≠ b2) :
  MSl w2 b1 base f (l ++ [x]) (mput es1 p (.slice (some ⟨g, 0, none⟩) ((sel f p l).length + 1) cap)) ∧ MSl w2 b2 base f' l' es2 ∧ (∀ j, blk (mput es1 p (.slice (some ⟨g, 0, none⟩) ((sel f p l).length + 1) cap)) j → ¬ blk es2 j) := by
 subst hp
 refine ⟨h1.step x hown hg hat hM hg2 hb1, h2.keep fun j hj => ?_, fun j hj hj2 => ?_⟩
 ·
  have hlt : j < w.heap.size := by rcases hj with rfl | hj; exact h2.box.lt; exact (h2.blk hj).2
  rw [hg2.block j (Nat.lt_of_lt_of_le hlt hg.size) (fun e => by
   cases e
   rcases hj with hj | hj
   ·
    exact hne hj
   ·
    have := (h2.blk hj).1; omega), hg.block j hlt (fun e => by
   rcases hj with rfl | hj
   ·
    have := ((h1.vals (f x)).lt _ e.symm).1; omega
   ·
    exact cr j ⟨f x, e.symm⟩ hj)]
 ·
  rcases blk_step hj with rfl | hj
  ·
   rcases hat with h | h
   ·
    exact cr j ⟨f x, h⟩ hj2
   ·
    have := (h2.blk hj2).2; omega
  ·
   exact cr j hj hj2

/-- While the sheet is made. -/
structure ShSt (sb b1 b2 base : Nat) (a : Option Addr) (n cap : Nat) (l1 l2 : List Mark) (es1 es2 : List (ByteArray × Value)) (w : World) : Prop where
 box : Box w sb 61 #[.slice a n cap, .map (some b1), .map (some b2)]
 one : MSl w b1 base (·.1) l1 es1
 two : MSl w b2 base (·.2.1) l2 es2
 cross : ∀ j, blk es1 j → ¬ blk es2 j

theorem ShSt.below {sb b1 b2 base : Nat} {a : Option Addr} {n cap : Nat} {l1 l2 : List Mark} {es1 es2 : List (ByteArray × Value)} {w w' : World} (h : ShSt sb b1 b2 base a n cap l1 l2 es1 es2 w) (k : Below w.heap.size w w') : ShSt sb b1 b2 base a n cap l1 l2 es1 es2 w' :=
 ⟨h.box.below k, h.one.below k, h.two.below k, h.cross⟩


set_option maxRecDepth 100000 in
set_option maxHeartbeats 2000000 in
theorem sheetOf_any (l : List Mark) (a : Option Addr) (cap : Nat) (w : World) (hs : SA w a l) (hsl : l.length ≤ 1000000) :
  Calls Tryz.prog 41 #[.slice a l.length cap] w (fun e w' => ∃ es1 es2, e = .returned (.pointer (some ⟨w.heap.size + 1 + 1, 0, none⟩)) ∧ ShSt (w.heap.size + 1 + 1) w.heap.size (w.heap.size + 1) (w.heap.size + 1 + 1 + 1) a l.length cap l l es1 es2 w' ∧ Below w.heap.size w w') := by
 have hmm := @run_makeMap Tryz.prog
 go_enter Tryz.func41, Tryz.ntmps41
 go_wp2_with fail
 go_loopg [13] l.length (fun gk i wr => ∃ (k : Nat) (es1 es2 : List (ByteArray × Value)), i = .int .i64 k ∧ k ≤ l.length ∧ Hid (gk = l.length - k) ∧ ShSt (w.heap.size + 1 + 1) w.heap.size (w.heap.size + 1) (w.heap.size + 1 + 1 + 1) a l.length cap (l.take k) (l.take k) es1 es2 wr ∧ Below w.heap.size w wr ∧ w.heap.size + 1 + 1 + 1 ≤ wr.heap.size)
 case atStart =>
  refine ⟨0, [], [], rfl, by omega, rfl, ⟨Box.newAt _ _ _ _ (by simp), ((MSl.new w _ _).alloc _).alloc _, ?_, fun j hj => by obtain ⟨p, hp⟩ := hj; cases hp⟩, by (repeat' (first | exact Below.refl _ _ | assumption | refine Below.setCell ?_ ?_ _ | refine below_drewN ?_ _ | refine Below.drew ?_ | refine Below.alloc ?_ ?_ _ | (with_reducible refine Below.trans ?_ (Below.mono hb ?_)) | (with_reducible refine Below.trans ?_ (Below.mono hb0 ?_)) | (with_reducible refine Below.trans ?_ (Below.mono hb1 ?_)) | (with_reducible refine Below.trans ?_ (Below.mono hb2 ?_)) | (with_reducible refine Below.trans ?_ (Below.mono hb3 ?_)) | (with_reducible refine Below.trans ?_ (Below.mono hb4 ?_)) | (with_reducible refine Below.trans ?_ (Below.mono hb5 ?_)) | (with_reducible refine Below.trans ?_ (Below.mono hb6 ?_)) | (with_reducible refine Below.trans ?_ (Below.mono hb7 ?_)) | (with_reducible refine Below.trans ?_ (Below.mono hb8 ?_)) | (with_reducible refine Below.trans ?_ (Below.mono hb9 ?_)) | (with_reducible refine Below.trans ?_ (Below.mono hb10 ?_)) | (with_reducible refine Below.trans ?_ (Below.mono hb11 ?_)) | (with_reducible refine Below.trans ?_ (Below.mono hb12 ?_)) | (with_reducible refine Below.trans ?_ (Below.mono hb13 ?_)) | (with_reducible refine Below.trans ?_ (Below.mono hb14 ?_)) | (with_reducible refine Below.trans ?_ (Below.mono hb15 ?_)) | omega | (simp; done) | (simp; omega))), by simp⟩
  have := MSl.new (w.alloc (.map #[] 0)) (w.heap.size + 1 + 1 + 1) (fun x => x.2.1)
  rw [show (w.alloc (.map #[] 0)).heap.size = w.heap.size + 1 from by simp] at this
  exact this.alloc _
 case round =>
  clear hmm
  obtain ⟨k, es1, es2, rfl, hk, hgk, hst, hb, hz3⟩ := hrel
  have hz := hb.size
  by_cases hlt : k < l.length
  ·
   obtain ⟨b, off, ha, c0, c1, c2⟩ := (hs.below hb).mark hlt
   have htake := List.take_succ_eq_append_getElem hlt
   have hlen : (l.take k).length ≤ l.length := by rw [List.length_take]; omega
   rw [ha] at hst ⊢
   have Ha := Lib.hid ha
   clear ha
   generalize hx : l[k] = x at *
   obtain ⟨x1, x2, x3⟩ := x
   simp only at c0 c1 c2
   have Htake := Lib.hid htake
   clear hx htake
   generalize l.take k = lk at *
   have hT := Box.new wr 51 #[.string x1, .string x2, .int .i64 x3]
   have hst0 := hst.below (w' := wr.alloc (.cells #[.string x1, .string x2, .int .i64 x3] 51)) (by (repeat' (first | exact Below.refl _ _ | assumption | refine Below.setCell ?_ ?_ _ | refine below_drewN ?_ _ | refine Below.drew ?_ | refine Below.alloc ?_ ?_ _ | (with_reducible refine Below.trans ?_ (Below.mono hb ?_)) | (with_reducible refine Below.trans ?_ (Below.mono hb0 ?_)) | (with_reducible refine Below.trans ?_ (Below.mono hb1 ?_)) | (with_reducible refine Below.trans ?_ (Below.mono hb2 ?_)) | (with_reducible refine Below.trans ?_ (Below.mono hb3 ?_)) | (with_reducible refine Below.trans ?_ (Below.mono hb4 ?_)) | (with_reducible refine Below.trans ?_ (Below.mono hb5 ?_)) | (with_reducible refine Below.trans ?_ (Below.mono hb6 ?_)) | (with_reducible refine Below.trans ?_ (Below.mono hb7 ?_)) | (with_reducible refine Below.trans ?_ (Below.mono hb8 ?_)) | (with_reducible refine Below.trans ?_ (Below.mono hb9 ?_)) | (with_reducible refine Below.trans ?_ (Below.mono hb10 ?_)) | (with_reducible refine Below.trans ?_ (Below.mono hb11 ?_)) | (with_reducible refine Below.trans ?_ (Below.mono hb12 ?_)) | (with_reducible refine Below.trans ?_ (Below.mono hb13 ?_)) | (with_reducible refine Below.trans ?_ (Below.mono hb14 ?_)) | (with_reducible refine Below.trans ?_ (Below.mono hb15 ?_)) | omega | (simp; done) | (simp; omega))))
   have hb0 : Below w.heap.size w (wr.alloc (.cells #[.string x1, .string x2, .int .i64 x3] 51)) := by (repeat' (first | exact Below.refl _ _ | assumption | refine Below.setCell ?_ ?_ _ | refine below_drewN ?_ _ | refine Below.drew ?_ | refine Below.alloc ?_ ?_ _ | (with_reducible refine Below.trans ?_ (Below.mono hb ?_)) | (with_reducible refine Below.trans ?_ (Below.mono hb0 ?_)) | (with_reducible refine Below.trans ?_ (Below.mono hb1 ?_)) | (with_reducible refine Below.trans ?_ (Below.mono hb2 ?_)) | (with_reducible refine Below.trans ?_ (Below.mono hb3 ?_)) | (with_reducible refine Below.trans ?_ (Below.mono hb4 ?_)) | (with_reducible refine Below.trans ?_ (Below.mono hb5 ?_)) | (with_reducible refine Below.trans ?_ (Below.mono hb6 ?_)) | (with_reducible refine Below.trans ?_ (Below.mono hb7 ?_)) | (with_reducible refine Below.trans ?_ (Below.mono hb8 ?_)) | (with_reducible refine Below.trans ?_ (Below.mono hb9 ?_)) | (with_reducible refine Below.trans ?_ (Below.mono hb10 ?_)) | (with_reducible refine Below.trans ?_ (Below.mono hb11 ?_)) | (with_reducible refine Below.trans ?_ (Below.mono hb12 ?_)) | (with_reducible refine Below.trans ?_ (Below.mono hb13 ?_)) | (with_reducible refine Below.trans ?_ (Below.mono hb14 ?_)) | (with_reducible refine Below.trans ?_ (Below.mono hb15 ?_)) | omega | (simp; done) | (simp; omega)))
   have hnT1 : ∀ j, blk es1 j → j ≠ wr.heap.size := fun j hj => by have := hst.one.blk hj; omega
   have hnT2 : ∀ j, blk es2 j → j ≠ wr.heap.size := fun j hj => by have := hst.two.blk hj; omega
   have hzW : wr.heap.size < (wr.alloc (.cells #[.string x1, .string x2, .int .i64 x3] 51)).heap.size := by simp
   clear hst hb
   go_upto_region 5 with (fail)
   generalize wr.alloc (.cells #[.string x1, .string x2, .int .i64 x3] 51) = W0 at *
   generalize hmbk : wr.heap.size = mbk at *
   generalize hsb : w.heap.size + 1 + 1 = sb at *
   generalize hbs : sb + 1 = base at *
   have hsb1 : w.heap.size + 1 < sb := by omega
   have hsb2 : sb < base := by omega
   have Hsb := Lib.hid hsb
   have Hbs := Lib.hid hbs
   have HnT1 := Lib.hid hnT1
   have HnT2 := Lib.hid hnT2
   obtain ⟨hS, h1, h2, hcr⟩ := hst0
   have Hcr := Lib.hid hcr
   clear hmbk c0 c1 c2 hsb hbs hcr hnT1 hnT2
   have hvl : ∀ j, (valOf es1 x1).ownBlock = some j → base ≤ j ∧ j < W0.heap.size ∧ j ≠ mbk := fun j hj => ⟨(h1.blk ⟨_, hj⟩).1, (h1.blk ⟨_, hj⟩).2, HnT1.out j ⟨_, hj⟩⟩
   have hown := ((h1.vals x1).alloc (.cells #[.string x1, .string x2, .int .i64 x3] 51)).drew
   have hlk := h1.drew.look x1
   have hlk2 := (h1.alloc (.cells #[.string x1, .string x2, .int .i64 x3] 51)).drew.look x1
   have hMb := (h1.box.alloc (.cells #[.string x1, .string x2, .int .i64 x3] 51)).drew
   have HStep := Lib.hid (fun (w1 w2 : World) (g cap : Nat) => two_step (w1 := w1) (w2 := w2) (g := g) (cap := cap) ((h1.alloc (.cells #[.string x1, .string x2, .int .i64 x3] 51)).drew) ((h2.alloc (.cells #[.string x1, .string x2, .int .i64 x3] 51)).drew) Hcr.out (x1, x2, x3) (p := x1) rfl)
   have hsel : (sel (fun x => x.1) x1 lk).length ≤ 1000000 := Nat.le_trans (List.length_filter_le _ _) (by omega)
   generalize valOf es1 x1 = v at *
   generalize sel (fun x => x.1) x1 lk = ls at *
   have hvT : some mbk ≠ v.ownBlock := fun h => (hvl _ h.symm).2.2 rfl
   have hvS : some sb ≠ v.ownBlock := fun h => by have := (hvl _ h.symm).1; omega
   have hvb : some w.heap.size ≠ v.ownBlock := fun h => by have := (hvl _ h.symm).1; omega
   have Hvl := Lib.hid hvl
   have HvT := Lib.hid hvT
   have HvS := Lib.hid hvS
   have Hvb := Lib.hid hvb
   clear hvl hvT hvS hvb
   have hT_l := hT.lt; have hT_0 := hT.cell 0; have hT_1 := hT.cell 1; have hT_2 := hT.cell 2; simp at hT_0 hT_1 hT_2
   have hS_l := hS.lt; have hS_0 := hS.cell 0; have hS_1 := hS.cell 1; have hS_2 := hS.cell 2; simp at hS_0 hS_1 hS_2
   refine wp_region_held_drew (S := (fun wx => wx.cell? ⟨mbk, 0, none⟩ = some (.string x1) ∧ wx.cell? ⟨mbk, 1, none⟩ = some (.string x2) ∧ wx.cell? ⟨mbk, 2, none⟩ = some (.int .i64 x3) ∧ wx.cell? ⟨sb, 1, none⟩ = some (.map (some w.heap.size)))) (by kernel_rfl) ?hS (fun hHeld => ?_)
   case hS => exact ⟨hT_0, hT_1, hT_2, hS_1⟩
   refine rt 0 (some 17) ?_
   refine rt 1 (some 18) ?_
   refine rt 2 (some 19) ?_
   refine rt 3 (some 20) ?_
   refine rt 4 (some 21) ?_
   refine rt 5 (some 22) ?_
   refine rt 6 (some 23) ?_
   refine rt 7 (some 24) ?_
   refine rt 8 (some 25) ?_
   refine rt 9 (some 26) ?_
   refine rt 10 (some 27) ?_
   refine rt 11 (some 28) ?_
   refine rt 12 (some 29) ?_
   refine rt 13 (some 30) ?_
   refine rt 15 (some 32) ?_
   refine rpair (i := 14) (j := 16) (di := some 31) (dj := some 33) (vi := v) (vj := .slice (some ⟨W0.heap.size, 0, none⟩) 1 1) (w' := (W0.alloc (.cells #[.string x1, .string x2, .int .i64 x3] 51)).drew) (by kernel_rfl) (by kernel_rfl) (by kernel_rfl) rfl rfl (by kernel_rfl) (by kernel_rfl) rfl rfl (by go_simp) (by go_simp) (by go_simp) (by go_simp) hHeld ?hS rfl (by kernel_rfl) ?_
   case hS => exact ⟨(hT.alloc _).cell 0, (hT.alloc _).cell 1, (hT.alloc _).cell 2, (hS.alloc _).cell 1⟩
   simp only [Act.put, lsetA, lsetZ, lsetS]
   clear hT_l hT_0 hT_1 hT_2
   clear hS_l hS_0 hS_1 hS_2
   clear hHeld hlk hlk2
   refine rcall (i := 17) (d := (some 34)) (by kernel_rfl) rfl (by kernel_rfl) (fun K hK => ?_)
   refine step_append_lie (by rfl) _ _ 26 (by rfl) 51 40 (.agg #[.string ⟨#[]⟩, .string ⟨#[]⟩, .int .i64 0]) Tryz.underlying26 Tryz.infoMark (by rfl) v ls (by rfl) hown (x1, x2, x3) W0.heap.size (by rfl) (Box.drew (Box.new W0 51 #[.string x1, .string x2, .int .i64 x3])) (by omega) (by omega) (by simp; omega) ?_; intro gg cap1 w1 hown1 hgrow hat
   refine hK.out _ _ ?hS (fun hHeld => ?_)
   case hS => exact ⟨(((hT.alloc (.cells #[.string x1, .string x2, .int .i64 x3] 51)).drew).grown hgrow HvT.out).cell 0, (((hT.alloc (.cells #[.string x1, .string x2, .int .i64 x3] 51)).drew).grown hgrow HvT.out).cell 1, (((hT.alloc (.cells #[.string x1, .string x2, .int .i64 x3] 51)).drew).grown hgrow HvT.out).cell 2, (((hS.alloc (.cells #[.string x1, .string x2, .int .i64 x3] 51)).drew).grown hgrow HvS.out).cell 1⟩
   clear hK K
   simp only [Act.put, lsetA, lsetZ, lsetS]
   have hT1 := ((hT.alloc (.cells #[.string x1, .string x2, .int .i64 x3] 51)).drew).grown hgrow HvT.out
   have hS1 := ((hS.alloc (.cells #[.string x1, .string x2, .int .i64 x3] 51)).drew).grown hgrow HvS.out
   obtain ⟨w2, hrun2, hM2, hg2, hs2⟩ := MBox.store (P := Tryz.prog) (hMb.grown hgrow Hvb.out) Tryz.underlying59 Tryz.underlying9 x1 (.slice (some ⟨gg, 0, none⟩) (ls.length + 1) cap1)
   have hT2 := hT1.grown hg2 (by simp; omega)
   have hS2 := hS1.grown hg2 (by simp; omega)
   clear hHeld
   refine rcall (i := 18) (d := none) (by kernel_rfl) rfl (by kernel_rfl) (fun K hK => ?_)
   go_simp
   refine hK.out undef _ ?hS (fun hHeld => ?_)
   case hS => exact ⟨hT2.cell 0, hT2.cell 1, hT2.cell 2, hS2.cell 1⟩
   clear hK K
   simp only [Act.put, lsetA, lsetZ, lsetS]
   refine wpAnyH_done (by kernel_rfl) ?_ _
   have hb1 : Below w.heap.size w w1 := Below.grown (w := (W0.alloc (.cells #[.string x1, .string x2, .int .i64 x3] 51)).drew) (by (repeat' (first | exact Below.refl _ _ | assumption | refine Below.setCell ?_ ?_ _ | refine below_drewN ?_ _ | refine Below.drew ?_ | refine Below.alloc ?_ ?_ _ | (with_reducible refine Below.trans ?_ (Below.mono hb ?_)) | (with_reducible refine Below.trans ?_ (Below.mono hb0 ?_)) | (with_reducible refine Below.trans ?_ (Below.mono hb1 ?_)) | (with_reducible refine Below.trans ?_ (Below.mono hb2 ?_)) | (with_reducible refine Below.trans ?_ (Below.mono hb3 ?_)) | (with_reducible refine Below.trans ?_ (Below.mono hb4 ?_)) | (with_reducible refine Below.trans ?_ (Below.mono hb5 ?_)) | (with_reducible refine Below.trans ?_ (Below.mono hb6 ?_)) | (with_reducible refine Below.trans ?_ (Below.mono hb7 ?_)) | (with_reducible refine Below.trans ?_ (Below.mono hb8 ?_)) | (with_reducible refine Below.trans ?_ (Below.mono hb9 ?_)) | (with_reducible refine Below.trans ?_ (Below.mono hb10 ?_)) | (with_reducible refine Below.trans ?_ (Below.mono hb11 ?_)) | (with_reducible refine Below.trans ?_ (Below.mono hb12 ?_)) | (with_reducible refine Below.trans ?_ (Below.mono hb13 ?_)) | (with_reducible refine Below.trans ?_ (Below.mono hb14 ?_)) | (with_reducible refine Below.trans ?_ (Below.mono hb15 ?_)) | omega | (simp; done) | (simp; omega)))) hgrow (by simp; omega) (fun j hj => by have := (Hvl.out j hj).1; omega)
   have hb2 : Below w.heap.size w w2 := Below.grown hb1 hg2 (by have := hb1.size; omega) (by rintro j hj; cases hj; omega)
   have ⟨hO', hN', hcr'⟩ := HStep.out w1 w2 gg cap1 hown1 hgrow hat hM2 hg2 (by omega) (by omega) (by omega)
   have hz2 : mbk < w2.heap.size := hT2.lt
   clear hT1 hS1 hrun2 hM2 hg2 hs2 hHeld hown1 hgrow hat HStep Hvl HvT HvS Hvb hMb hown hT hS hb1
   have hcr2 := fun j (hj : blk es2 j) (hj' : blk _ j) => hcr' j hj' hj
   have Hcr2 := Lib.hid hcr2
   clear hcr' hcr2 h1 h2 Hcr hb0 hzW
   obtain ⟨W1, rfl⟩ : ∃ W1, W1 = w2 := ⟨_, rfl⟩
   have hT := hT2
   have hS := hS2
   have hb0 := hb2
   have h1 := hO'
   have h2 := hN'
   clear hT2 hS2 hb2 hO' hN'
   go_wp2_with fail
   have hvl : ∀ j, (valOf es2 x2).ownBlock = some j → base ≤ j ∧ j < W1.heap.size ∧ j ≠ mbk := fun j hj => ⟨(h2.blk ⟨_, hj⟩).1, (h2.blk ⟨_, hj⟩).2, HnT2.out j ⟨_, hj⟩⟩
   have hown := ((h2.vals x2).alloc (.cells #[.string x1, .string x2, .int .i64 x3] 51)).drew
   have hlk := h2.drew.look x2
   have hlk2 := (h2.alloc (.cells #[.string x1, .string x2, .int .i64 x3] 51)).drew.look x2
   have hMb := (h2.box.alloc (.cells #[.string x1, .string x2, .int .i64 x3] 51)).drew
   have HStep := Lib.hid (fun (w1 w2 : World) (g cap : Nat) => two_step (w1 := w1) (w2 := w2) (g := g) (cap := cap) ((h2.alloc (.cells #[.string x1, .string x2, .int .i64 x3] 51)).drew) ((h1.alloc (.cells #[.string x1, .string x2, .int .i64 x3] 51)).drew) Hcr2.out (x1, x2, x3) (p := x2) rfl)
   have hsel : (sel (fun x => x.2.1) x2 lk).length ≤ 1000000 := Nat.le_trans (List.length_filter_le _ _) (by omega)
   generalize valOf es2 x2 = v at *
   generalize sel (fun x => x.2.1) x2 lk = ls at *
   have hvT : some mbk ≠ v.ownBlock := fun h => (hvl _ h.symm).2.2 rfl
   have hvS : some sb ≠ v.ownBlock := fun h => by have := (hvl _ h.symm).1; omega
   have hvb : some (w.heap.size + 1) ≠ v.ownBlock := fun h => by have := (hvl _ h.symm).1; omega
   have Hvl := Lib.hid hvl
   have HvT := Lib.hid hvT
   have HvS := Lib.hid hvS
   have Hvb := Lib.hid hvb
   clear hvl hvT hvS hvb
   have hT_l := hT.lt; have hT_0 := hT.cell 0; have hT_1 := hT.cell 1; have hT_2 := hT.cell 2; simp at hT_0 hT_1 hT_2
   have hS_l := hS.lt; have hS_0 := hS.cell 0; have hS_1 := hS.cell 1; have hS_2 := hS.cell 2; simp at hS_0 hS_1 hS_2
   refine wp_region_held_drew (S := (fun wx => wx.cell? ⟨mbk, 0, none⟩ = some (.string x1) ∧ wx.cell? ⟨mbk, 1, none⟩ = some (.string x2) ∧ wx.cell? ⟨mbk, 2, none⟩ = some (.int .i64 x3) ∧ wx.cell? ⟨sb, 2, none⟩ = some (.map (some (w.heap.size + 1))))) (by kernel_rfl) ?hS (fun hHeld => ?_)
   case hS => exact ⟨hT_0, hT_1, hT_2, hS_2⟩
   refine rt 0 (some 35) ?_
   refine rt 1 (some 36) ?_
   refine rt 2 (some 37) ?_
   refine rt 3 (some 38) ?_
   refine rt 4 (some 39) ?_
   refine rt 5 (some 40) ?_
   refine rt 6 (some 41) ?_
   refine rt 7 (some 42) ?_
   refine rt 8 (some 43) ?_
   refine rt 9 (some 44) ?_
   refine rt 10 (some 45) ?_
   refine rt 11 (some 46) ?_
   refine rt 12 (some 47) ?_
   refine rt 13 (some 48) ?_
   refine rt 15 (some 50) ?_
   refine rpair (i := 14) (j := 16) (di := some 49) (dj := some 51) (vi := v) (vj := .slice (some ⟨W1.heap.size, 0, none⟩) 1 1) (w' := (W1.alloc (.cells #[.string x1, .string x2, .int .i64 x3] 51)).drew) (by kernel_rfl) (by kernel_rfl) (by kernel_rfl) rfl rfl (by kernel_rfl) (by kernel_rfl) rfl rfl (by go_simp) (by go_simp) (by go_simp) (by go_simp) hHeld ?hS rfl (by kernel_rfl) ?_
   case hS => exact ⟨(hT.alloc _).cell 0, (hT.alloc _).cell 1, (hT.alloc _).cell 2, (hS.alloc _).cell 2⟩
   simp only [Act.put, lsetA, lsetZ, lsetS]
   clear hT_l hT_0 hT_1 hT_2
   clear hS_l hS_0 hS_1 hS_2
   clear hHeld hlk hlk2
   refine rcall (i := 17) (d := (some 52)) (by kernel_rfl) rfl (by kernel_rfl) (fun K hK => ?_)
   refine step_append_lie (by rfl) _ _ 26 (by rfl) 51 40 (.agg #[.string ⟨#[]⟩, .string ⟨#[]⟩, .int .i64 0]) Tryz.underlying26 Tryz.infoMark (by rfl) v ls (by rfl) hown (x1, x2, x3) W1.heap.size (by rfl) (Box.drew (Box.new W1 51 #[.string x1, .string x2, .int .i64 x3])) (by omega) (by omega) (by simp; omega) ?_; intro gg cap1 w1 hown1 hgrow hat
   refine hK.out _ _ ?hS (fun hHeld => ?_)
   case hS => exact ⟨(((hT.alloc (.cells #[.string x1, .string x2, .int .i64 x3] 51)).drew).grown hgrow HvT.out).cell 0, (((hT.alloc (.cells #[.string x1, .string x2, .int .i64 x3] 51)).drew).grown hgrow HvT.out).cell 1, (((hT.alloc (.cells #[.string x1, .string x2, .int .i64 x3] 51)).drew).grown hgrow HvT.out).cell 2, (((hS.alloc (.cells #[.string x1, .string x2, .int .i64 x3] 51)).drew).grown hgrow HvS.out).cell 2⟩
   clear hK K
   simp only [Act.put, lsetA, lsetZ, lsetS]
   have hT1 := ((hT.alloc (.cells #[.string x1, .string x2, .int .i64 x3] 51)).drew).grown hgrow HvT.out
   have hS1 := ((hS.alloc (.cells #[.string x1, .string x2, .int .i64 x3] 51)).drew).grown hgrow HvS.out
   obtain ⟨w2, hrun2, hM2, hg2, hs2⟩ := MBox.store (P := Tryz.prog) (hMb.grown hgrow Hvb.out) Tryz.underlying59 Tryz.underlying9 x2 (.slice (some ⟨gg, 0, none⟩) (ls.length + 1) cap1)
   have hT2 := hT1.grown hg2 (by simp; omega)
   have hS2 := hS1.grown hg2 (by simp; omega)
   clear hHeld
   refine rcall (i := 18) (d := none) (by kernel_rfl) rfl (by kernel_rfl) (fun K hK => ?_)
   go_simp
   refine hK.out undef _ ?hS (fun hHeld => ?_)
   case hS => exact ⟨hT2.cell 0, hT2.cell 1, hT2.cell 2, hS2.cell 2⟩
   clear hK K
   simp only [Act.put, lsetA, lsetZ, lsetS]
   refine wpAnyH_done (by kernel_rfl) ?_ _
   have hb1 : Below w.heap.size w w1 := Below.grown (w := (W1.alloc (.cells #[.string x1, .string x2, .int .i64 x3] 51)).drew) (by (repeat' (first | exact Below.refl _ _ | assumption | refine Below.setCell ?_ ?_ _ | refine below_drewN ?_ _ | refine Below.drew ?_ | refine Below.alloc ?_ ?_ _ | (with_reducible refine Below.trans ?_ (Below.mono hb ?_)) | (with_reducible refine Below.trans ?_ (Below.mono hb0 ?_)) | (with_reducible refine Below.trans ?_ (Below.mono hb1 ?_)) | (with_reducible refine Below.trans ?_ (Below.mono hb2 ?_)) | (with_reducible refine Below.trans ?_ (Below.mono hb3 ?_)) | (with_reducible refine Below.trans ?_ (Below.mono hb4 ?_)) | (with_reducible refine Below.trans ?_ (Below.mono hb5 ?_)) | (with_reducible refine Below.trans ?_ (Below.mono hb6 ?_)) | (with_reducible refine Below.trans ?_ (Below.mono hb7 ?_)) | (with_reducible refine Below.trans ?_ (Below.mono hb8 ?_)) | (with_reducible refine Below.trans ?_ (Below.mono hb9 ?_)) | (with_reducible refine Below.trans ?_ (Below.mono hb10 ?_)) | (with_reducible refine Below.trans ?_ (Below.mono hb11 ?_)) | (with_reducible refine Below.trans ?_ (Below.mono hb12 ?_)) | (with_reducible refine Below.trans ?_ (Below.mono hb13 ?_)) | (with_reducible refine Below.trans ?_ (Below.mono hb14 ?_)) | (with_reducible refine Below.trans ?_ (Below.mono hb15 ?_)) | omega | (simp; done) | (simp; omega)))) hgrow (by simp; omega) (fun j hj => by have := (Hvl.out j hj).1; omega)
   have hb2 : Below w.heap.size w w2 := Below.grown hb1 hg2 (by have := hb1.size; omega) (by rintro j hj; cases hj; omega)
   have ⟨hO', hN', hcr'⟩ := HStep.out w1 w2 gg cap1 hown1 hgrow hat hM2 hg2 (by omega) (by omega) (by omega)
   have hz2 : mbk < w2.heap.size := hT2.lt
   clear hT1 hS1 hrun2 hM2 hg2 hs2 hHeld hown1 hgrow hat HStep Hvl HvT HvS Hvb hMb hown hT hS hb1
   have Hcr3 := Lib.hid (fun j hj hj' => hcr' j hj' hj)
   clear hcr' h1 h2 hb0 hT2
   go_wp2_with fail
   rw [← Ha.out]
   go_roundg (l.length - (k + 1))
   case measure => have := hgk.out; omega
   case rel => exact ⟨k + 1, _, _, by go_num, by omega, rfl, ⟨by rw [Ha.out]; exact hS2, by rw [Htake.out]; exact hN', by rw [Htake.out]; exact hO', Hcr3.out⟩, hb2, by omega⟩
  ·
   obtain rfl : k = l.length := by omega
   rw [List.take_length] at hst
   go_wp2_with fail
   go_ret
   exact ⟨es1, es2, rfl, hst, hb⟩
end Go.Proofs.YtcjcdbhobehlpaaGreatDoor
