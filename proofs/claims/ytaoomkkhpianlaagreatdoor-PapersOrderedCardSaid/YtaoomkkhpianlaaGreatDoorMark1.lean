/- Marks: the order of pairs, and what is wrong with marks (the program). -/
import Derived.Test.YtaoomkkhpianlaaGreatDoorMarkPure
import Derived.Test.YtaoomkkhpianlaaGreatDoorOutside
import Derived.Test.YtaoomkkhpianlaaGreatDoorReg
namespace Go.Proofs.YtaoomkkhpianlaaGreatDoor
open Go.RowKit
set_option linter.unusedVariables false
set_option linter.unusedSimpArgs false

theorem isKeyB_any (s : ByteArray) (w : World) (hs : s.size ≤ 9223372036854775807) : Calls Tryz.prog 154 #[.string s] w (Gives (.bool (keyB s)) w) :=
  (isKey_any s w hs).mono fun e w' ⟨h1, h2⟩ => ⟨h1, by subst h2; exact Below.refl _ _⟩
theorem compareS_any (a b : ByteArray) (w : World) : Calls Tryz.prog 108 #[.string a, .string b] w (fun e w' => e = .returned (.int .i64 (cmpS a b)) ∧ w = w') :=
  (Tryz.strings_Compare a b w).mono fun e w' ⟨h1, h2⟩ => ⟨h1, h2.symm⟩

set_option maxHeartbeats 1000000 in
theorem comparePairs_any (x y : Mark) (w : World) :
    Calls Tryz.prog 155 #[.agg #[.string x.1, .string x.2.1], .agg #[.string y.1, .string y.2.1]] w (Gives (.int .i64 (cmpP x y)) w) := by
  have H := Lib.hid (show cmpP x y = if cmpS x.1 y.1 ≠ 0 then cmpS x.1 y.1 else cmpS x.2.1 y.2.1 from rfl)
  generalize cmpP x y = r at *
  have H1 := Lib.hid (compareS_any x.1 y.1)
  have H2 := Lib.hid (compareS_any x.2.1 y.2.1)
  generalize cmpS x.1 y.1 = c1 at *
  generalize cmpS x.2.1 y.2.1 = c2 at *
  generalize x.1 = x1 at *
  generalize x.2.1 = x2 at *
  generalize y.1 = y1 at *
  generalize y.2.1 = y2 at *
  go_enter Tryz.func155, Tryz.ntmps155
  go_wp2_with fail
  refine (H1.out _).mono ?_
  rintro e w1 ⟨rfl, rfl⟩
  by_cases h0 : c1 = 0
  · subst h0
    rw [if_neg (by simp)] at H
    go_wp2_with fail
    refine (H2.out _).mono ?_
    rintro e w1 ⟨rfl, rfl⟩
    go_wp2_with fail
    go_ret
    exact ⟨by rw [H.out]; rfl, by (repeat' (first | exact Below.refl _ _ | assumption | refine Below.setCell ?_ ?_ _ | refine below_drewN ?_ _ | refine Below.drew ?_ | refine Below.alloc ?_ ?_ _ | (with_reducible refine Below.trans ?_ (Below.mono hb ?_)) | (with_reducible refine Below.trans ?_ (Below.mono hb0 ?_)) | (with_reducible refine Below.trans ?_ (Below.mono hb1 ?_)) | (with_reducible refine Below.trans ?_ (Below.mono hb2 ?_)) | (with_reducible refine Below.trans ?_ (Below.mono hb3 ?_)) | (with_reducible refine Below.trans ?_ (Below.mono hb4 ?_)) | (with_reducible refine Below.trans ?_ (Below.mono hb5 ?_)) | (with_reducible refine Below.trans ?_ (Below.mono hb6 ?_)) | (with_reducible refine Below.trans ?_ (Below.mono hb7 ?_)) | (with_reducible refine Below.trans ?_ (Below.mono hb8 ?_)) | (with_reducible refine Below.trans ?_ (Below.mono hb9 ?_)) | (with_reducible refine Below.trans ?_ (Below.mono hb10 ?_)) | (with_reducible refine Below.trans ?_ (Below.mono hb11 ?_)) | (with_reducible refine Below.trans ?_ (Below.mono hb12 ?_)) | (with_reducible refine Below.trans ?_ (Below.mono hb13 ?_)) | (with_reducible refine Below.trans ?_ (Below.mono hb14 ?_)) | (with_reducible refine Below.trans ?_ (Below.mono hb15 ?_)) | omega | (simp; done) | (simp; omega)))⟩
  · rw [if_pos h0] at H
    have h1 : (c1 != 0) = true := by simpa using h0
    clear h0
    go_wp2_with fail
    go_ret
    exact ⟨by rw [H.out]; rfl, by (repeat' (first | exact Below.refl _ _ | assumption | refine Below.setCell ?_ ?_ _ | refine below_drewN ?_ _ | refine Below.drew ?_ | refine Below.alloc ?_ ?_ _ | (with_reducible refine Below.trans ?_ (Below.mono hb ?_)) | (with_reducible refine Below.trans ?_ (Below.mono hb0 ?_)) | (with_reducible refine Below.trans ?_ (Below.mono hb1 ?_)) | (with_reducible refine Below.trans ?_ (Below.mono hb2 ?_)) | (with_reducible refine Below.trans ?_ (Below.mono hb3 ?_)) | (with_reducible refine Below.trans ?_ (Below.mono hb4 ?_)) | (with_reducible refine Below.trans ?_ (Below.mono hb5 ?_)) | (with_reducible refine Below.trans ?_ (Below.mono hb6 ?_)) | (with_reducible refine Below.trans ?_ (Below.mono hb7 ?_)) | (with_reducible refine Below.trans ?_ (Below.mono hb8 ?_)) | (with_reducible refine Below.trans ?_ (Below.mono hb9 ?_)) | (with_reducible refine Below.trans ?_ (Below.mono hb10 ?_)) | (with_reducible refine Below.trans ?_ (Below.mono hb11 ?_)) | (with_reducible refine Below.trans ?_ (Below.mono hb12 ?_)) | (with_reducible refine Below.trans ?_ (Below.mono hb13 ?_)) | (with_reducible refine Below.trans ?_ (Below.mono hb14 ?_)) | (with_reducible refine Below.trans ?_ (Below.mono hb15 ?_)) | omega | (simp; done) | (simp; omega)))⟩

/-- 'many' before the mark at k. -/
def prevN (l : List Mark) : Nat → Int
  | 0 => 0
  | p + 1 => runN l p
theorem runN_bd (l : List Mark) (k : Nat) : 1 ≤ runN l k ∧ runN l k ≤ k + 1 := by
  induction k with
  | zero => simp [runN]
  | succ p ih => rw [runN]; split <;> omega
theorem prevN_bd (l : List Mark) (k : Nat) : 0 ≤ prevN l k ∧ prevN l k ≤ k := by
  cases k with
  | zero => simp [prevN]
  | succ p => have := runN_bd l p; simp only [prevN]; omega
/-- The mark at k is of another paper than the one before it. -/
def chgB (l : List Mark) : Nat → Bool
  | 0 => false
  | p + 1 => !decide ((l[p]?.map (·.1)) = (l[p + 1]?.map (·.1)))
theorem runN_step (l : List Mark) (k : Nat) : runN l k = if chgB l k then 1 else prevN l k + 1 := by
  cases k with
  | zero => simp [runN, chgB, prevN]
  | succ p => rw [runN, chgB, prevN]; by_cases h : (l[p]?.map (·.1)) = (l[p + 1]?.map (·.1)) <;> simp [h]
theorem badOrd_at {l : List Mark} {k p : Nat} {x y : Mark} (hk : k = p + 1) (hx : l[p]? = some x) (hy : l[k]? = some y) : badOrd l k = decide (0 ≤ cmpP x y) := by
  subst hk; rw [badOrd, hx, hy]
theorem chgB_at {l : List Mark} {k p : Nat} {x y : Mark} (hk : k = p + 1) (hx : l[p]? = some x) (hy : l[k]? = some y) : chgB l k = !decide (x.1 = y.1) := by
  subst hk; rw [chgB, hx, hy]; simp

theorem beq_ba' (a b : ByteArray) : (a.toList == b.toList) = decide (a = b) := by
  rw [Bool.eq_iff_iff, beq_iff_eq, toList_inj, decide_eq_true_eq]
set_option maxRecDepth 100000 in
set_option maxHeartbeats 2000000 in
theorem checkMarks_any (l : List Mark) (a : Option Addr) (cap : Nat) (w : World) (hs : SA w a l) (hsl : l.length ≤ 1000000) (hsm : ∀ x ∈ l, x.1.size ≤ 1000 ∧ x.2.1.size ≤ 1000) :
    Calls Tryz.prog 128 #[.slice a l.length cap] w (Gives (.int .i64 (marksFault l)) w) := by
  have HPF := Lib.hid (marksFault_run l)
  generalize marksFault l = pf at *
  by_cases h5 : 3000 < l.length
  · have Hv := Lib.hid (show pf = 2 by rw [HPF.out, if_pos h5])
    go_enter Tryz.func128, Tryz.ntmps128
    go_wp2_with fail
    go_ret
    exact ⟨by rw [Hv.out]; rfl, by (repeat' (first | exact Below.refl _ _ | assumption | refine Below.setCell ?_ ?_ _ | refine below_drewN ?_ _ | refine Below.drew ?_ | refine Below.alloc ?_ ?_ _ | (with_reducible refine Below.trans ?_ (Below.mono hb ?_)) | (with_reducible refine Below.trans ?_ (Below.mono hb0 ?_)) | (with_reducible refine Below.trans ?_ (Below.mono hb1 ?_)) | (with_reducible refine Below.trans ?_ (Below.mono hb2 ?_)) | (with_reducible refine Below.trans ?_ (Below.mono hb3 ?_)) | (with_reducible refine Below.trans ?_ (Below.mono hb4 ?_)) | (with_reducible refine Below.trans ?_ (Below.mono hb5 ?_)) | (with_reducible refine Below.trans ?_ (Below.mono hb6 ?_)) | (with_reducible refine Below.trans ?_ (Below.mono hb7 ?_)) | (with_reducible refine Below.trans ?_ (Below.mono hb8 ?_)) | (with_reducible refine Below.trans ?_ (Below.mono hb9 ?_)) | (with_reducible refine Below.trans ?_ (Below.mono hb10 ?_)) | (with_reducible refine Below.trans ?_ (Below.mono hb11 ?_)) | (with_reducible refine Below.trans ?_ (Below.mono hb12 ?_)) | (with_reducible refine Below.trans ?_ (Below.mono hb13 ?_)) | (with_reducible refine Below.trans ?_ (Below.mono hb14 ?_)) | (with_reducible refine Below.trans ?_ (Below.mono hb15 ?_)) | omega | (simp; done) | (simp; omega)))⟩
  rw [if_neg h5] at HPF
  go_enter Tryz.func128, Tryz.ntmps128
  go_wp2_with fail
  go_loopg [3, 11] l.length (fun gk mn i wr => ∃ k : Nat, mn = .int .i64 (prevN l k) ∧ i = .int .i64 k ∧ k ≤ l.length ∧ Hid (gk = l.length - k) ∧ Hid (∀ j, j < k → markE runN l j = 0) ∧ Below w.heap.size w wr)
  case atStart => exact ⟨0, rfl, rfl, by omega, rfl, fun j hj => by omega, by (repeat' (first | exact Below.refl _ _ | assumption | refine Below.setCell ?_ ?_ _ | refine below_drewN ?_ _ | refine Below.drew ?_ | refine Below.alloc ?_ ?_ _ | (with_reducible refine Below.trans ?_ (Below.mono hb ?_)) | (with_reducible refine Below.trans ?_ (Below.mono hb0 ?_)) | (with_reducible refine Below.trans ?_ (Below.mono hb1 ?_)) | (with_reducible refine Below.trans ?_ (Below.mono hb2 ?_)) | (with_reducible refine Below.trans ?_ (Below.mono hb3 ?_)) | (with_reducible refine Below.trans ?_ (Below.mono hb4 ?_)) | (with_reducible refine Below.trans ?_ (Below.mono hb5 ?_)) | (with_reducible refine Below.trans ?_ (Below.mono hb6 ?_)) | (with_reducible refine Below.trans ?_ (Below.mono hb7 ?_)) | (with_reducible refine Below.trans ?_ (Below.mono hb8 ?_)) | (with_reducible refine Below.trans ?_ (Below.mono hb9 ?_)) | (with_reducible refine Below.trans ?_ (Below.mono hb10 ?_)) | (with_reducible refine Below.trans ?_ (Below.mono hb11 ?_)) | (with_reducible refine Below.trans ?_ (Below.mono hb12 ?_)) | (with_reducible refine Below.trans ?_ (Below.mono hb13 ?_)) | (with_reducible refine Below.trans ?_ (Below.mono hb14 ?_)) | (with_reducible refine Below.trans ?_ (Below.mono hb15 ?_)) | omega | (simp; done) | (simp; omega)))⟩
  case round =>
    obtain ⟨k, rfl, rfl, hk, hgk, hf, hb⟩ := hrel
    have hz := hb.size
    by_cases hlt : k < l.length
    · obtain ⟨b, off, ha, c0, c1, c2⟩ := (hs.below hb).mark hlt
      have hE : markE runN l k = if !keyB l[k].1 || !keyB l[k].2.1 then 5 else if badOrd l k then 7 else if decide (l[k].2.2 < 0) || decide (10 < l[k].2.2) then 1 else if 12 < runN l k then 2 else 0 := by
        unfold markE; rw [List.getElem?_eq_getElem hlt]
      have HE := Lib.hid hE
      have hxs := hsm l[k] (List.getElem_mem hlt)
      have hpb := prevN_bd l k
      have HR := Lib.hid (runN_step l k)
      clear hE
      rw [ha]
      generalize hx : l[k] = x at *
      obtain ⟨x1, x2, x3⟩ := x
      have Hx := Lib.hid hx
      clear hx
      simp only at c0 c1 c2 HE hxs
      have Hfe := Lib.hid (fun (e : Int) (he : markE runN l k = e) (he0 : e ≠ 0) => (show pf = e by rw [HPF.out, firstErr_is (f := markE runN l) hlt hf.out he he0]))
      have hT := Box.new wr 54 #[.string x1, .string x2, .int .i64 x3]
      go_upto_region 8 with (fail)
      generalize hW : wr.alloc (.cells #[.string x1, .string x2, .int .i64 x3] 54) = W1 at *
      have hbW : Below w.heap.size w W1 := by rw [← hW]; (repeat' (first | exact Below.refl _ _ | assumption | refine Below.setCell ?_ ?_ _ | refine below_drewN ?_ _ | refine Below.drew ?_ | refine Below.alloc ?_ ?_ _ | (with_reducible refine Below.trans ?_ (Below.mono hb ?_)) | (with_reducible refine Below.trans ?_ (Below.mono hb0 ?_)) | (with_reducible refine Below.trans ?_ (Below.mono hb1 ?_)) | (with_reducible refine Below.trans ?_ (Below.mono hb2 ?_)) | (with_reducible refine Below.trans ?_ (Below.mono hb3 ?_)) | (with_reducible refine Below.trans ?_ (Below.mono hb4 ?_)) | (with_reducible refine Below.trans ?_ (Below.mono hb5 ?_)) | (with_reducible refine Below.trans ?_ (Below.mono hb6 ?_)) | (with_reducible refine Below.trans ?_ (Below.mono hb7 ?_)) | (with_reducible refine Below.trans ?_ (Below.mono hb8 ?_)) | (with_reducible refine Below.trans ?_ (Below.mono hb9 ?_)) | (with_reducible refine Below.trans ?_ (Below.mono hb10 ?_)) | (with_reducible refine Below.trans ?_ (Below.mono hb11 ?_)) | (with_reducible refine Below.trans ?_ (Below.mono hb12 ?_)) | (with_reducible refine Below.trans ?_ (Below.mono hb13 ?_)) | (with_reducible refine Below.trans ?_ (Below.mono hb14 ?_)) | (with_reducible refine Below.trans ?_ (Below.mono hb15 ?_)) | omega | (simp; done) | (simp; omega)))
      have hWs : W1.heap.size = wr.heap.size + 1 := by rw [← hW]; simp
      clear hW c0 c1 c2
      have hT_l := hT.lt; have hT_0 := hT.cell 0; have hT_1 := hT.cell 1; have hT_2 := hT.cell 2; simp at hT_0 hT_1 hT_2
      go_cut [32] (fun v wx => v = .bool (chgB l k) ∧ ∃ W', W' = wx ∧ Below W1.heap.size W1 W')
      case first =>
        by_cases hk0 : k = 0
        · have hd : decide (0 < k) = false := by simp [hk0]
          have hd' : decide ((0 : Int) < (k : Int)) = false := by simp [hk0]
          have ho0 : chgB l k = false := by rw [hk0]; rfl
          have Ho := Lib.hid ho0
          clear hk0 ho0
          refine wp_region_held_drew (S := (fun wx => Below W1.heap.size W1 wx)) (by kernel_rfl) ?hS (fun hHeld => ?_)
          case hS => exact (Below.refl _ _).drew
          refine rtake (i := 0) (d := (some 18)) (v := ?_) rfl (by kernel_rfl) (by kernel_rfl) (by kernel_rfl) (by kernel_rfl) (fun _ _ _ h => h) (by kernel_rfl) (by assumption) ?_ ?_
          rotate_left 1
          · (intro wI hSI; (try dsimp only at hSI); go_simp; (try with_reducible rfl))
          simp only [Act.put, List.setIfInBounds_toArray, List.set_cons_zero, List.set_cons_succ]
          refine rtake (i := 1) (d := (some 19)) (v := ?_) rfl (by kernel_rfl) (by kernel_rfl) (by kernel_rfl) (by kernel_rfl) (fun _ _ _ h => h) (by kernel_rfl) (by assumption) ?_ ?_
          rotate_left 1
          · (intro wI hSI; (try dsimp only at hSI); go_simp; (try with_reducible rfl))
          simp only [Act.put, List.setIfInBounds_toArray, List.set_cons_zero, List.set_cons_succ]
          refine rtake (i := 2) (d := (some 20)) (v := ?_) rfl (by kernel_rfl) (by kernel_rfl) (by kernel_rfl) (by kernel_rfl) (fun _ _ _ h => h) (by kernel_rfl) (by assumption) ?_ ?_
          rotate_left 1
          · (intro wI hSI; (try dsimp only at hSI); go_simp; (try with_reducible rfl))
          simp only [Act.put, List.setIfInBounds_toArray, List.set_cons_zero, List.set_cons_succ]
          refine rskip (i := 3) (d := (some 21)) rfl (by kernel_rfl) (by kernel_rfl) (by kernel_rfl) (by kernel_rfl) (fun _ _ _ h => h) (by kernel_rfl) (by assumption) ?_
          simp only [Act.put, List.setIfInBounds_toArray, List.set_cons_zero, List.set_cons_succ]
          refine rskip (i := 4) (d := (some 22)) rfl (by kernel_rfl) (by kernel_rfl) (by kernel_rfl) (by kernel_rfl) (fun _ _ _ h => h) (by kernel_rfl) (by assumption) ?_
          simp only [Act.put, List.setIfInBounds_toArray, List.set_cons_zero, List.set_cons_succ]
          refine rskip (i := 5) (d := (some 23)) rfl (by kernel_rfl) (by kernel_rfl) (by kernel_rfl) (by kernel_rfl) (fun _ _ _ h => h) (by kernel_rfl) (by assumption) ?_
          simp only [Act.put, List.setIfInBounds_toArray, List.set_cons_zero, List.set_cons_succ]
          refine rskip (i := 6) (d := (some 24)) rfl (by kernel_rfl) (by kernel_rfl) (by kernel_rfl) (by kernel_rfl) (fun _ _ _ h => h) (by kernel_rfl) (by assumption) ?_
          simp only [Act.put, List.setIfInBounds_toArray, List.set_cons_zero, List.set_cons_succ]
          refine rskip (i := 7) (d := (some 25)) rfl (by kernel_rfl) (by kernel_rfl) (by kernel_rfl) (by kernel_rfl) (fun _ _ _ h => h) (by kernel_rfl) (by assumption) ?_
          simp only [Act.put, List.setIfInBounds_toArray, List.set_cons_zero, List.set_cons_succ]
          refine rskip (i := 8) (d := (some 26)) rfl (by kernel_rfl) (by kernel_rfl) (by kernel_rfl) (by kernel_rfl) (fun _ _ _ h => h) (by kernel_rfl) (by assumption) ?_
          simp only [Act.put, List.setIfInBounds_toArray, List.set_cons_zero, List.set_cons_succ]
          refine rskip (i := 9) (d := (some 27)) rfl (by kernel_rfl) (by kernel_rfl) (by kernel_rfl) (by kernel_rfl) (fun _ _ _ h => h) (by kernel_rfl) (by assumption) ?_
          simp only [Act.put, List.setIfInBounds_toArray, List.set_cons_zero, List.set_cons_succ]
          refine rskip (i := 10) (d := (some 28)) rfl (by kernel_rfl) (by kernel_rfl) (by kernel_rfl) (by kernel_rfl) (fun _ _ _ h => h) (by kernel_rfl) (by assumption) ?_
          simp only [Act.put, List.setIfInBounds_toArray, List.set_cons_zero, List.set_cons_succ]
          refine rskip (i := 11) (d := (some 29)) rfl (by kernel_rfl) (by kernel_rfl) (by kernel_rfl) (by kernel_rfl) (fun _ _ _ h => h) (by kernel_rfl) (by assumption) ?_
          simp only [Act.put, List.setIfInBounds_toArray, List.set_cons_zero, List.set_cons_succ]
          refine rskip (i := 12) (d := (some 30)) rfl (by kernel_rfl) (by kernel_rfl) (by kernel_rfl) (by kernel_rfl) (fun _ _ _ h => h) (by kernel_rfl) (by assumption) ?_
          simp only [Act.put, List.setIfInBounds_toArray, List.set_cons_zero, List.set_cons_succ]
          refine rskip (i := 13) (d := (some 31)) rfl (by kernel_rfl) (by kernel_rfl) (by kernel_rfl) (by kernel_rfl) (fun _ _ _ h => h) (by kernel_rfl) (by assumption) ?_
          simp only [Act.put, List.setIfInBounds_toArray, List.set_cons_zero, List.set_cons_succ]
          refine rtake (i := 14) (d := (some 32)) (v := ?_) rfl (by kernel_rfl) (by kernel_rfl) (by kernel_rfl) (by kernel_rfl) (fun _ _ _ h => h) (by kernel_rfl) (by assumption) ?_ ?_
          rotate_left 1
          · (intro wI hSI; (try dsimp only at hSI); go_simp; (try with_reducible rfl))
          simp only [Act.put, List.setIfInBounds_toArray, List.set_cons_zero, List.set_cons_succ]
          refine wpAnyH_done (by kernel_rfl) ?_ _
          go_wp2_with fail
          go_meet
          exact ⟨by rw [Ho.out] <;> rfl, _, rfl, hHeld⟩
        · obtain ⟨p, hp⟩ : ∃ p, k = p + 1 := ⟨k - 1, by omega⟩
          have hpl : p < l.length := by omega
          obtain ⟨b', off', ha', d0, d1, d2⟩ := (hs.below hbW).mark hpl
          rw [ha] at ha'
          cases ha'
          generalize hy : l[p] = y at *
          obtain ⟨y1, y2, y3⟩ := y
          have Hy := Lib.hid hy
          clear hy
          simp only at d0 d1 d2
          have hwp : IntKind.i64.wrap ((k : Int) - 1) = (p : Int) := by rw [hp, IntWalk.i64_in _ (by omega)]; omega
          have hwq : IntKind.i64.wrap (p : Int) = (p : Int) := IntWalk.i64_in _ (by omega)
          have hk1 : 0 < k := by omega
          have hk2 : (0 : Int) < (k : Int) := by omega
          have hp1 : (0 : Int) ≤ (p : Int) := by omega
          have hp2 : (p : Int) < (l.length : Int) := by omega
          have hp3 : (k : Int) - 1 = (p : Int) := by omega
          have Hp := Lib.hid hp
          clear hp hk0
          have Ho := Lib.hid (chgB_at (l := l) (k := k) (p := p) (x := (y1, y2, y3)) (y := (x1, x2, x3)) Hp.out (by rw [List.getElem?_eq_getElem hpl, Hy.out]) (by rw [List.getElem?_eq_getElem hlt, Hx.out]))
          have Ho' := Lib.hid (show chgB l k = (!(y1.toList == x1.toList)) by rw [Ho.out]; simp [beq_ba'])
          refine wp_region_held_drew (S := (fun wx => wx.cell? ⟨b, off + p * 3, none⟩ = some (.string y1) ∧ wx.cell? ⟨wr.heap.size, 0, none⟩ = some (.string x1) ∧ Below W1.heap.size W1 wx)) (by kernel_rfl) ?hS (fun hHeld => ?_)
          case hS => exact ⟨d0, hT_0, (Below.refl _ _).drew⟩
          refine rtake (i := 0) (d := (some 18)) (v := ?_) rfl (by kernel_rfl) (by kernel_rfl) (by kernel_rfl) (by kernel_rfl) (fun _ _ _ h => h) (by kernel_rfl) (by assumption) ?_ ?_
          rotate_left 1
          · (intro wI hSI; (try dsimp only at hSI); go_simp; (try with_reducible rfl))
          simp only [Act.put, List.setIfInBounds_toArray, List.set_cons_zero, List.set_cons_succ]
          refine rtake (i := 1) (d := (some 19)) (v := ?_) rfl (by kernel_rfl) (by kernel_rfl) (by kernel_rfl) (by kernel_rfl) (fun _ _ _ h => h) (by kernel_rfl) (by assumption) ?_ ?_
          rotate_left 1
          · (intro wI hSI; (try dsimp only at hSI); go_simp; (try with_reducible rfl))
          simp only [Act.put, List.setIfInBounds_toArray, List.set_cons_zero, List.set_cons_succ]
          refine rtake (i := 2) (d := (some 20)) (v := ?_) rfl (by kernel_rfl) (by kernel_rfl) (by kernel_rfl) (by kernel_rfl) (fun _ _ _ h => h) (by kernel_rfl) (by assumption) ?_ ?_
          rotate_left 1
          · (intro wI hSI; (try dsimp only at hSI); go_simp; (try with_reducible rfl))
          simp only [Act.put, List.setIfInBounds_toArray, List.set_cons_zero, List.set_cons_succ]
          refine rtake (i := 3) (d := (some 21)) (v := ?_) rfl (by kernel_rfl) (by kernel_rfl) (by kernel_rfl) (by kernel_rfl) (fun _ _ _ h => h) (by kernel_rfl) (by assumption) ?_ ?_
          rotate_left 1
          · (intro wI hSI; (try dsimp only at hSI); go_simp; (try with_reducible rfl))
          simp only [Act.put, List.setIfInBounds_toArray, List.set_cons_zero, List.set_cons_succ]
          refine rtake (i := 4) (d := (some 22)) (v := ?_) rfl (by kernel_rfl) (by kernel_rfl) (by kernel_rfl) (by kernel_rfl) (fun _ _ _ h => h) (by kernel_rfl) (by assumption) ?_ ?_
          rotate_left 1
          · (intro wI hSI; (try dsimp only at hSI); go_simp; (try with_reducible rfl))
          simp only [Act.put, List.setIfInBounds_toArray, List.set_cons_zero, List.set_cons_succ]
          refine rtake (i := 5) (d := (some 23)) (v := ?_) rfl (by kernel_rfl) (by kernel_rfl) (by kernel_rfl) (by kernel_rfl) (fun _ _ _ h => h) (by kernel_rfl) (by assumption) ?_ ?_
          rotate_left 1
          · (intro wI hSI; (try dsimp only at hSI); go_simp; (try with_reducible rfl))
          simp only [Act.put, List.setIfInBounds_toArray, List.set_cons_zero, List.set_cons_succ]
          refine rtake (i := 6) (d := (some 24)) (v := ?_) rfl (by kernel_rfl) (by kernel_rfl) (by kernel_rfl) (by kernel_rfl) (fun _ _ _ h => h) (by kernel_rfl) (by assumption) ?_ ?_
          rotate_left 1
          · (intro wI hSI; (try dsimp only at hSI); go_simp; (try with_reducible rfl))
          simp only [Act.put, List.setIfInBounds_toArray, List.set_cons_zero, List.set_cons_succ]
          refine rtake (i := 7) (d := (some 25)) (v := ?_) rfl (by kernel_rfl) (by kernel_rfl) (by kernel_rfl) (by kernel_rfl) (fun _ _ _ h => h) (by kernel_rfl) (by assumption) ?_ ?_
          rotate_left 1
          · (intro wI hSI; (try dsimp only at hSI); go_simp; (try with_reducible rfl))
          simp only [Act.put, List.setIfInBounds_toArray, List.set_cons_zero, List.set_cons_succ]
          refine rtake (i := 8) (d := (some 26)) (v := ?_) rfl (by kernel_rfl) (by kernel_rfl) (by kernel_rfl) (by kernel_rfl) (fun _ _ _ h => h) (by kernel_rfl) (by assumption) ?_ ?_
          rotate_left 1
          · (intro wI hSI; (try dsimp only at hSI); go_simp; (try with_reducible rfl))
          simp only [Act.put, List.setIfInBounds_toArray, List.set_cons_zero, List.set_cons_succ]
          refine rtake (i := 9) (d := (some 27)) (v := ?_) rfl (by kernel_rfl) (by kernel_rfl) (by kernel_rfl) (by kernel_rfl) (fun _ _ _ h => h) (by kernel_rfl) (by assumption) ?_ ?_
          rotate_left 1
          · (intro wI hSI; (try dsimp only at hSI); go_simp; (try with_reducible rfl))
          simp only [Act.put, List.setIfInBounds_toArray, List.set_cons_zero, List.set_cons_succ]
          refine rtake (i := 10) (d := (some 28)) (v := ?_) rfl (by kernel_rfl) (by kernel_rfl) (by kernel_rfl) (by kernel_rfl) (fun _ _ _ h => h) (by kernel_rfl) (by assumption) ?_ ?_
          rotate_left 1
          · (intro wI hSI; (try dsimp only at hSI); go_simp; (try with_reducible rfl))
          simp only [Act.put, List.setIfInBounds_toArray, List.set_cons_zero, List.set_cons_succ]
          refine rtake (i := 11) (d := (some 29)) (v := ?_) rfl (by kernel_rfl) (by kernel_rfl) (by kernel_rfl) (by kernel_rfl) (fun _ _ _ h => h) (by kernel_rfl) (by assumption) ?_ ?_
          rotate_left 1
          · (intro wI hSI; (try dsimp only at hSI); go_simp; (try with_reducible rfl))
          simp only [Act.put, List.setIfInBounds_toArray, List.set_cons_zero, List.set_cons_succ]
          refine rtake (i := 12) (d := (some 30)) (v := ?_) rfl (by kernel_rfl) (by kernel_rfl) (by kernel_rfl) (by kernel_rfl) (fun _ _ _ h => h) (by kernel_rfl) (by assumption) ?_ ?_
          rotate_left 1
          · (intro wI hSI; (try dsimp only at hSI); go_simp; (try with_reducible rfl))
          simp only [Act.put, List.setIfInBounds_toArray, List.set_cons_zero, List.set_cons_succ]
          refine rtake (i := 13) (d := (some 31)) (v := ?_) rfl (by kernel_rfl) (by kernel_rfl) (by kernel_rfl) (by kernel_rfl) (fun _ _ _ h => h) (by kernel_rfl) (by assumption) ?_ ?_
          rotate_left 1
          · (intro wI hSI; (try dsimp only at hSI); go_simp; (try with_reducible rfl))
          simp only [Act.put, List.setIfInBounds_toArray, List.set_cons_zero, List.set_cons_succ]
          refine rtake (i := 14) (d := (some 32)) (v := ?_) rfl (by kernel_rfl) (by kernel_rfl) (by kernel_rfl) (by kernel_rfl) (fun _ _ _ h => h) (by kernel_rfl) (by assumption) ?_ ?_
          rotate_left 1
          · (intro wI hSI; (try dsimp only at hSI); go_simp; (try with_reducible rfl))
          simp only [Act.put, List.setIfInBounds_toArray, List.set_cons_zero, List.set_cons_succ]
          refine wpAnyH_done (by kernel_rfl) ?_ _
          go_wp2_with fail
          go_meet
          exact ⟨by rw [Ho'.out] <;> simp, _, rfl, hHeld.2.2⟩
      case rest =>
        obtain ⟨hso, W2', rfl, hb1⟩ := hcut
        rw [hso]
        go_upto_if 32 with (fail)
        go_cut [3] (fun v wx => v = .int .i64 (runN l k) ∧ ∃ W', W' = wx ∧ Below W1.heap.size W1 W')
        case first =>
          cases hch : chgB l k
          · rw [hch] at HR
            go_wp2_with fail
            go_meet
            exact ⟨by rw [HR.out]; rfl, _, rfl, hb1⟩
          · rw [hch] at HR
            go_wp2_with fail
            go_meet
            exact ⟨by rw [HR.out]; rfl, _, rfl, hb1⟩
        case rest =>
          clear hb1
          obtain ⟨hv, W2', rfl, hb1⟩ := hcut
          rw [hv]
          have hT1 := hT.below hb1
          have hbW1 := below_next hbW hb1
          have hs1 := hb1.size
          clear hT_l hT_0 hT_1 hT_2
          clear hv hso HR hT hbW hb1
          have hT1_l := hT1.lt; have hT1_0 := hT1.cell 0; have hT1_1 := hT1.cell 1; have hT1_2 := hT1.cell 2; simp at hT1_0 hT1_1 hT1_2
          have hrb := runN_bd l k
          have HN := Lib.hid (show prevN l (k + 1) = runN l k from rfl)
          generalize runN l k = rn at *
          go_wp2_with fail
          refine (isKeyB_any x1 _ (by omega)).mono ?_
          rintro e W2 ⟨rfl, hb2⟩
          have hT2 := hT1.below hb2
          have hbW2 : Below w.heap.size w W2 := below_next hbW1 hb2
          have hs2 := hb2.size
          clear hT1_l hT1_0 hT1_1 hT1_2
          clear hT1 hb2 hbW1
          cases hk1 : keyB x1
          · rw [hk1] at HE
            have He := Lib.hid (Hfe.out 5 (by rw [HE.out]; rfl) (by decide))
            go_wp2_with fail
            go_ret
            exact ⟨by rw [He.out]; rfl, hbW2⟩
          rw [hk1] at HE
          have hT2_l := hT2.lt; have hT2_0 := hT2.cell 0; have hT2_1 := hT2.cell 1; have hT2_2 := hT2.cell 2; simp at hT2_0 hT2_1 hT2_2
          go_wp2_with fail
          refine (isKeyB_any x2 _ (by omega)).mono ?_
          rintro e W3 ⟨rfl, hb3⟩
          have hT3 := hT2.below hb3
          have hbW3 : Below w.heap.size w W3 := below_next hbW2 hb3
          have hs3 := hb3.size
          clear hT2_l hT2_0 hT2_1 hT2_2
          clear hT2 hb3 hbW2
          cases hk2 : keyB x2
          · rw [hk2] at HE
            have He := Lib.hid (Hfe.out 5 (by rw [HE.out]; rfl) (by decide))
            go_wp2_with fail
            go_ret
            exact ⟨by rw [He.out]; rfl, hbW3⟩
          rw [hk2] at HE
          simp only [Bool.not_true, Bool.or_self, Bool.false_eq_true, if_false] at HE
          have hT3_l := hT3.lt; have hT3_0 := hT3.cell 0; have hT3_1 := hT3.cell 1; have hT3_2 := hT3.cell 2; simp at hT3_0 hT3_1 hT3_2
          go_upto_region 12 with (fail)
          go_cut [46] (fun v wx => v = .bool (badOrd l k) ∧ ∃ W', W' = wx ∧ Below W3.heap.size W3 W')
          case first =>
            by_cases hk0 : k = 0
            · have hd : decide (0 < k) = false := by simp [hk0]
              have hd' : decide ((0 : Int) < (k : Int)) = false := by simp [hk0]
              have ho0 : badOrd l k = false := by rw [hk0]; rfl
              have Ho := Lib.hid ho0
              clear hk0 ho0
              refine wp_region_held_drew (S := (fun wx => Below W3.heap.size W3 wx)) (by kernel_rfl) ?hS (fun hHeld => ?_)
              case hS => exact (Below.refl _ _).drew
              refine rtake (i := 0) (d := (some 47)) (v := ?_) rfl (by kernel_rfl) (by kernel_rfl) (by kernel_rfl) (by kernel_rfl) (fun _ _ _ h => h) (by kernel_rfl) (by assumption) ?_ ?_
              rotate_left 1
              · (intro wI hSI; (try dsimp only at hSI); go_simp; (try with_reducible rfl))
              simp only [Act.put, List.setIfInBounds_toArray, List.set_cons_zero, List.set_cons_succ]
              refine rtake (i := 1) (d := (some 48)) (v := ?_) rfl (by kernel_rfl) (by kernel_rfl) (by kernel_rfl) (by kernel_rfl) (fun _ _ _ h => h) (by kernel_rfl) (by assumption) ?_ ?_
              rotate_left 1
              · (intro wI hSI; (try dsimp only at hSI); go_simp; (try with_reducible rfl))
              simp only [Act.put, List.setIfInBounds_toArray, List.set_cons_zero, List.set_cons_succ]
              refine rtake (i := 2) (d := (some 49)) (v := ?_) rfl (by kernel_rfl) (by kernel_rfl) (by kernel_rfl) (by kernel_rfl) (fun _ _ _ h => h) (by kernel_rfl) (by assumption) ?_ ?_
              rotate_left 1
              · (intro wI hSI; (try dsimp only at hSI); go_simp; (try with_reducible rfl))
              simp only [Act.put, List.setIfInBounds_toArray, List.set_cons_zero, List.set_cons_succ]
              refine rskip (i := 3) (d := (some 50)) rfl (by kernel_rfl) (by kernel_rfl) (by kernel_rfl) (by kernel_rfl) (fun _ _ _ h => h) (by kernel_rfl) (by assumption) ?_
              simp only [Act.put, List.setIfInBounds_toArray, List.set_cons_zero, List.set_cons_succ]
              refine rskip (i := 4) (d := (some 51)) rfl (by kernel_rfl) (by kernel_rfl) (by kernel_rfl) (by kernel_rfl) (fun _ _ _ h => h) (by kernel_rfl) (by assumption) ?_
              simp only [Act.put, List.setIfInBounds_toArray, List.set_cons_zero, List.set_cons_succ]
              refine rskip (i := 5) (d := (some 52)) rfl (by kernel_rfl) (by kernel_rfl) (by kernel_rfl) (by kernel_rfl) (fun _ _ _ h => h) (by kernel_rfl) (by assumption) ?_
              simp only [Act.put, List.setIfInBounds_toArray, List.set_cons_zero, List.set_cons_succ]
              refine rskip (i := 6) (d := (some 53)) rfl (by kernel_rfl) (by kernel_rfl) (by kernel_rfl) (by kernel_rfl) (fun _ _ _ h => h) (by kernel_rfl) (by assumption) ?_
              simp only [Act.put, List.setIfInBounds_toArray, List.set_cons_zero, List.set_cons_succ]
              refine rskip (i := 7) (d := (some 54)) rfl (by kernel_rfl) (by kernel_rfl) (by kernel_rfl) (by kernel_rfl) (fun _ _ _ h => h) (by kernel_rfl) (by assumption) ?_
              simp only [Act.put, List.setIfInBounds_toArray, List.set_cons_zero, List.set_cons_succ]
              refine rskip (i := 8) (d := (some 55)) rfl (by kernel_rfl) (by kernel_rfl) (by kernel_rfl) (by kernel_rfl) (fun _ _ _ h => h) (by kernel_rfl) (by assumption) ?_
              simp only [Act.put, List.setIfInBounds_toArray, List.set_cons_zero, List.set_cons_succ]
              refine rskip (i := 9) (d := (some 56)) rfl (by kernel_rfl) (by kernel_rfl) (by kernel_rfl) (by kernel_rfl) (fun _ _ _ h => h) (by kernel_rfl) (by assumption) ?_
              simp only [Act.put, List.setIfInBounds_toArray, List.set_cons_zero, List.set_cons_succ]
              refine rskip (i := 10) (d := (some 57)) rfl (by kernel_rfl) (by kernel_rfl) (by kernel_rfl) (by kernel_rfl) (fun _ _ _ h => h) (by kernel_rfl) (by assumption) ?_
              simp only [Act.put, List.setIfInBounds_toArray, List.set_cons_zero, List.set_cons_succ]
              refine rskip (i := 11) (d := (some 58)) rfl (by kernel_rfl) (by kernel_rfl) (by kernel_rfl) (by kernel_rfl) (fun _ _ _ h => h) (by kernel_rfl) (by assumption) ?_
              simp only [Act.put, List.setIfInBounds_toArray, List.set_cons_zero, List.set_cons_succ]
              refine rskip (i := 12) (d := (some 59)) rfl (by kernel_rfl) (by kernel_rfl) (by kernel_rfl) (by kernel_rfl) (fun _ _ _ h => h) (by kernel_rfl) (by assumption) ?_
              simp only [Act.put, List.setIfInBounds_toArray, List.set_cons_zero, List.set_cons_succ]
              refine rtake (i := 13) (d := (some 60)) (v := ?_) rfl (by kernel_rfl) (by kernel_rfl) (by kernel_rfl) (by kernel_rfl) (fun _ _ _ h => h) (by kernel_rfl) (by assumption) ?_ ?_
              rotate_left 1
              · (intro wI hSI; (try dsimp only at hSI); go_simp; (try with_reducible rfl))
              simp only [Act.put, List.setIfInBounds_toArray, List.set_cons_zero, List.set_cons_succ]
              refine rtake (i := 14) (d := (some 46)) (v := ?_) rfl (by kernel_rfl) (by kernel_rfl) (by kernel_rfl) (by kernel_rfl) (fun _ _ _ h => h) (by kernel_rfl) (by assumption) ?_ ?_
              rotate_left 1
              · (intro wI hSI; (try dsimp only at hSI); go_simp; (try with_reducible rfl))
              simp only [Act.put, List.setIfInBounds_toArray, List.set_cons_zero, List.set_cons_succ]
              refine wpAnyH_done (by kernel_rfl) ?_ _
              go_wp2_with fail
              go_meet
              exact ⟨by rw [Ho.out] <;> rfl, _, rfl, hHeld⟩
            · obtain ⟨p, hp⟩ : ∃ p, k = p + 1 := ⟨k - 1, by omega⟩
              have hpl : p < l.length := by omega
              obtain ⟨b', off', ha', d0, d1, d2⟩ := (hs.below hbW3).mark hpl
              rw [ha] at ha'
              cases ha'
              generalize hy : l[p] = y at *
              obtain ⟨y1, y2, y3⟩ := y
              have Hy := Lib.hid hy
              clear hy
              simp only at d0 d1 d2
              have hwp : IntKind.i64.wrap ((k : Int) - 1) = (p : Int) := by rw [hp, IntWalk.i64_in _ (by omega)]; omega
              have hwq : IntKind.i64.wrap (p : Int) = (p : Int) := IntWalk.i64_in _ (by omega)
              have hk1 : 0 < k := by omega
              have hk2 : (0 : Int) < (k : Int) := by omega
              have hp1 : (0 : Int) ≤ (p : Int) := by omega
              have hp2 : (p : Int) < (l.length : Int) := by omega
              have hp3 : (k : Int) - 1 = (p : Int) := by omega
              have Hp := Lib.hid hp
              clear hp hk0
              have Ho := Lib.hid (badOrd_at (l := l) (k := k) (p := p) (x := (y1, y2, y3)) (y := (x1, x2, x3)) Hp.out (by rw [List.getElem?_eq_getElem hpl, Hy.out]) (by rw [List.getElem?_eq_getElem hlt, Hx.out]))
              have HC := Lib.hid (fun W => comparePairs_any (y1, y2, y3) (x1, x2, x3) W)
              simp only at HC
              generalize cmpP (y1, y2, y3) (x1, x2, x3) = cp at *
              refine wp_region_held_drew (S := (fun wx => wx.cell? ⟨b, off + p * 3, none⟩ = some (.string y1) ∧ wx.cell? ⟨b, off + p * 3 + 1, none⟩ = some (.string y2) ∧ wx.cell? ⟨wr.heap.size, 0, none⟩ = some (.string x1) ∧ wx.cell? ⟨wr.heap.size, 1, none⟩ = some (.string x2) ∧ Below W3.heap.size W3 wx)) (by kernel_rfl) ?hS (fun hHeld => ?_)
              case hS => exact ⟨d0, d1, hT3_0, hT3_1, (Below.refl _ _).drew⟩
              refine rtake (i := 0) (d := (some 47)) (v := ?_) rfl (by kernel_rfl) (by kernel_rfl) (by kernel_rfl) (by kernel_rfl) (fun _ _ _ h => h) (by kernel_rfl) (by assumption) ?_ ?_
              rotate_left 1
              · (intro wI hSI; (try dsimp only at hSI); go_simp; (try with_reducible rfl))
              simp only [Act.put, List.setIfInBounds_toArray, List.set_cons_zero, List.set_cons_succ]
              refine rtake (i := 1) (d := (some 48)) (v := ?_) rfl (by kernel_rfl) (by kernel_rfl) (by kernel_rfl) (by kernel_rfl) (fun _ _ _ h => h) (by kernel_rfl) (by assumption) ?_ ?_
              rotate_left 1
              · (intro wI hSI; (try dsimp only at hSI); go_simp; (try with_reducible rfl))
              simp only [Act.put, List.setIfInBounds_toArray, List.set_cons_zero, List.set_cons_succ]
              refine rtake (i := 2) (d := (some 49)) (v := ?_) rfl (by kernel_rfl) (by kernel_rfl) (by kernel_rfl) (by kernel_rfl) (fun _ _ _ h => h) (by kernel_rfl) (by assumption) ?_ ?_
              rotate_left 1
              · (intro wI hSI; (try dsimp only at hSI); go_simp; (try with_reducible rfl))
              simp only [Act.put, List.setIfInBounds_toArray, List.set_cons_zero, List.set_cons_succ]
              refine rtake (i := 3) (d := (some 50)) (v := ?_) rfl (by kernel_rfl) (by kernel_rfl) (by kernel_rfl) (by kernel_rfl) (fun _ _ _ h => h) (by kernel_rfl) (by assumption) ?_ ?_
              rotate_left 1
              · (intro wI hSI; (try dsimp only at hSI); go_simp; (try with_reducible rfl))
              simp only [Act.put, List.setIfInBounds_toArray, List.set_cons_zero, List.set_cons_succ]
              refine rtake (i := 4) (d := (some 51)) (v := ?_) rfl (by kernel_rfl) (by kernel_rfl) (by kernel_rfl) (by kernel_rfl) (fun _ _ _ h => h) (by kernel_rfl) (by assumption) ?_ ?_
              rotate_left 1
              · (intro wI hSI; (try dsimp only at hSI); go_simp; (try with_reducible rfl))
              simp only [Act.put, List.setIfInBounds_toArray, List.set_cons_zero, List.set_cons_succ]
              refine rtake (i := 5) (d := (some 52)) (v := ?_) rfl (by kernel_rfl) (by kernel_rfl) (by kernel_rfl) (by kernel_rfl) (fun _ _ _ h => h) (by kernel_rfl) (by assumption) ?_ ?_
              rotate_left 1
              · (intro wI hSI; (try dsimp only at hSI); go_simp; (try with_reducible rfl))
              simp only [Act.put, List.setIfInBounds_toArray, List.set_cons_zero, List.set_cons_succ]
              refine rtake (i := 6) (d := (some 53)) (v := ?_) rfl (by kernel_rfl) (by kernel_rfl) (by kernel_rfl) (by kernel_rfl) (fun _ _ _ h => h) (by kernel_rfl) (by assumption) ?_ ?_
              rotate_left 1
              · (intro wI hSI; (try dsimp only at hSI); go_simp; (try with_reducible rfl))
              simp only [Act.put, List.setIfInBounds_toArray, List.set_cons_zero, List.set_cons_succ]
              refine rtake (i := 7) (d := (some 54)) (v := ?_) rfl (by kernel_rfl) (by kernel_rfl) (by kernel_rfl) (by kernel_rfl) (fun _ _ _ h => h) (by kernel_rfl) (by assumption) ?_ ?_
              rotate_left 1
              · (intro wI hSI; (try dsimp only at hSI); go_simp; (try with_reducible rfl))
              simp only [Act.put, List.setIfInBounds_toArray, List.set_cons_zero, List.set_cons_succ]
              refine rtake (i := 8) (d := (some 55)) (v := ?_) rfl (by kernel_rfl) (by kernel_rfl) (by kernel_rfl) (by kernel_rfl) (fun _ _ _ h => h) (by kernel_rfl) (by assumption) ?_ ?_
              rotate_left 1
              · (intro wI hSI; (try dsimp only at hSI); go_simp; (try with_reducible rfl))
              simp only [Act.put, List.setIfInBounds_toArray, List.set_cons_zero, List.set_cons_succ]
              refine rtake (i := 9) (d := (some 56)) (v := ?_) rfl (by kernel_rfl) (by kernel_rfl) (by kernel_rfl) (by kernel_rfl) (fun _ _ _ h => h) (by kernel_rfl) (by assumption) ?_ ?_
              rotate_left 1
              · (intro wI hSI; (try dsimp only at hSI); go_simp; (try with_reducible rfl))
              simp only [Act.put, List.setIfInBounds_toArray, List.set_cons_zero, List.set_cons_succ]
              refine rtake (i := 10) (d := (some 57)) (v := ?_) rfl (by kernel_rfl) (by kernel_rfl) (by kernel_rfl) (by kernel_rfl) (fun _ _ _ h => h) (by kernel_rfl) (by assumption) ?_ ?_
              rotate_left 1
              · (intro wI hSI; (try dsimp only at hSI); go_simp; (try with_reducible rfl))
              simp only [Act.put, List.setIfInBounds_toArray, List.set_cons_zero, List.set_cons_succ]
              refine rcall (i := 11) (d := (some 58)) (by kernel_rfl) rfl (by kernel_rfl) (fun K hK => ?_)
              go_simp
              go_at_call 155; refine (HC.out _).mono ?_; rintro e w' ⟨rfl, hb4⟩
              refine hK.out _ _ ?hS (fun hHeld => ?_)
              case hS => exact ⟨cell_later hb4 hHeld.1, cell_later hb4 hHeld.2.1, cell_later hb4 hHeld.2.2.1, cell_later hb4 hHeld.2.2.2.1, hHeld.2.2.2.2.trans (hb4.mono hHeld.2.2.2.2.size)⟩
              clear hK K
              simp only [Act.put, List.setIfInBounds_toArray, List.set_cons_zero, List.set_cons_succ]
              refine rtake (i := 12) (d := (some 59)) (v := ?_) rfl (by kernel_rfl) (by kernel_rfl) (by kernel_rfl) (by kernel_rfl) (fun _ _ _ h => h) (by kernel_rfl) (by assumption) ?_ ?_
              rotate_left 1
              · (intro wI hSI; (try dsimp only at hSI); go_simp; (try with_reducible rfl))
              simp only [Act.put, List.setIfInBounds_toArray, List.set_cons_zero, List.set_cons_succ]
              refine rtake (i := 13) (d := (some 60)) (v := ?_) rfl (by kernel_rfl) (by kernel_rfl) (by kernel_rfl) (by kernel_rfl) (fun _ _ _ h => h) (by kernel_rfl) (by assumption) ?_ ?_
              rotate_left 1
              · (intro wI hSI; (try dsimp only at hSI); go_simp; (try with_reducible rfl))
              simp only [Act.put, List.setIfInBounds_toArray, List.set_cons_zero, List.set_cons_succ]
              refine rtake (i := 14) (d := (some 46)) (v := ?_) rfl (by kernel_rfl) (by kernel_rfl) (by kernel_rfl) (by kernel_rfl) (fun _ _ _ h => h) (by kernel_rfl) (by assumption) ?_ ?_
              rotate_left 1
              · (intro wI hSI; (try dsimp only at hSI); go_simp; (try with_reducible rfl))
              simp only [Act.put, List.setIfInBounds_toArray, List.set_cons_zero, List.set_cons_succ]
              refine wpAnyH_done (by kernel_rfl) ?_ _
              go_wp2_with fail
              go_meet
              exact ⟨by rw [Ho.out] <;> rfl, _, rfl, hHeld.2.2.2.2⟩
          case rest =>
            obtain ⟨hso, W4, rfl, hb4⟩ := hcut
            rw [hso]
            have hT4 := hT3.below hb4
            have hbW4 : Below w.heap.size w W4 := below_next hbW3 hb4
            clear hT3_l hT3_0 hT3_1 hT3_2
            clear hT3 hb4 hbW3
            cases hob : badOrd l k
            · rw [hob] at HE
              have hT4_l := hT4.lt; have hT4_0 := hT4.cell 0; have hT4_1 := hT4.cell 1; have hT4_2 := hT4.cell 2; simp at hT4_0 hT4_1 hT4_2
              go_wp2_with fail
              refine (outside_any _ _ _ _).mono ?_
              rintro e W5 ⟨rfl, rfl⟩
              cases hr : (decide (x3 < 0) || decide (10 < x3))
              · rw [hr] at HE
                by_cases h12 : 12 < rn
                · have He := Lib.hid (Hfe.out 2 (by rw [HE.out]; simp [h12]) (by decide))
                  go_wp2_with fail
                  go_ret
                  exact ⟨by rw [He.out]; rfl, hbW4⟩
                · have h12' : decide (12 < rn) = false := decide_eq_false h12
                  have HZ := Lib.hid (show markE runN l k = 0 by rw [HE.out]; simp [h12])
                  go_wp2_with fail
                  rw [← ha]
                  go_roundg (l.length - (k + 1))
                  case measure => have := hgk.out; omega
                  case rel => exact ⟨k + 1, by rw [HN.out], by go_num, by omega, rfl, zeros_succ hf.out HZ.out, hbW4⟩
              · rw [hr] at HE
                have He := Lib.hid (Hfe.out 1 (by rw [HE.out]; rfl) (by decide))
                go_wp2_with fail
                go_ret
                exact ⟨by rw [He.out]; rfl, hbW4⟩
            · rw [hob] at HE
              have He := Lib.hid (Hfe.out 7 (by rw [HE.out]; rfl) (by decide))
              go_wp2_with fail
              go_ret
              exact ⟨by rw [He.out]; rfl, hbW4⟩
    · have hE0 : firstErr (markE runN l) l.length = 0 := by
        obtain rfl : k = l.length := by omega
        exact firstErr_zero hf.out
      have Hv := Lib.hid (show pf = 0 by rw [HPF.out, hE0])
      clear hE0
      go_wp2_with fail
      go_ret
      exact ⟨by rw [Hv.out]; rfl, hb⟩
end Go.Proofs.YtaoomkkhpianlaaGreatDoor
