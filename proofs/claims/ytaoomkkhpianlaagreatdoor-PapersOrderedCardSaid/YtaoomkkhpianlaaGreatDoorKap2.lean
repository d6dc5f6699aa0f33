/- Kappa: the scores of a person (program), the score of a pair (reference), eleven counts. -/
import Derived.Test.YtaoomkkhpianlaaGreatDoorKap1
import Derived.Test.YtaoomkkhpianlaaGreatDoorAgree2
namespace Go.Proofs.YtaoomkkhpianlaaGreatDoor
open Go.RowKit Go.Sort
set_option linter.unusedVariables false
set_option linter.unusedSimpArgs false

set_option maxHeartbeats 1000000 in
theorem scoresP_any (sb b1 b2 base : Nat) (a : Option Addr) (cap : Nat) (l : List Mark) (es1 es2 : List (ByteArray × Value)) (h : ByteArray) (w : World) (hst : ShSt sb b1 b2 base a l.length cap l l es1 es2 w) (hl : l.length ≤ 100000) :
    Calls Tryz.prog 69 #[.pointer (some ⟨sb, 0, none⟩), .string h] w (fun e w' => e = .returned (.map (some w.heap.size)) ∧ MBox w' w.heap.size (scE (sel (fun x => x.2.1) h l)) ∧ Below w.heap.size w w') := by
  have hmm := @run_makeMap Tryz.prog
  have hst1 := hst.below (w' := w.alloc (.map #[] 0)) (by (repeat' (first | exact Below.refl _ _ | assumption | refine Below.setCell ?_ ?_ _ | refine below_drewN ?_ _ | refine Below.drew ?_ | refine Below.alloc ?_ ?_ _ | (with_reducible refine Below.trans ?_ (Below.mono hb ?_)) | (with_reducible refine Below.trans ?_ (Below.mono hb0 ?_)) | (with_reducible refine Below.trans ?_ (Below.mono hb1 ?_)) | (with_reducible refine Below.trans ?_ (Below.mono hb2 ?_)) | (with_reducible refine Below.trans ?_ (Below.mono hb3 ?_)) | (with_reducible refine Below.trans ?_ (Below.mono hb4 ?_)) | (with_reducible refine Below.trans ?_ (Below.mono hb5 ?_)) | (with_reducible refine Below.trans ?_ (Below.mono hb6 ?_)) | (with_reducible refine Below.trans ?_ (Below.mono hb7 ?_)) | (with_reducible refine Below.trans ?_ (Below.mono hb8 ?_)) | (with_reducible refine Below.trans ?_ (Below.mono hb9 ?_)) | (with_reducible refine Below.trans ?_ (Below.mono hb10 ?_)) | (with_reducible refine Below.trans ?_ (Below.mono hb11 ?_)) | (with_reducible refine Below.trans ?_ (Below.mono hb12 ?_)) | (with_reducible refine Below.trans ?_ (Below.mono hb13 ?_)) | (with_reducible refine Below.trans ?_ (Below.mono hb14 ?_)) | (with_reducible refine Below.trans ?_ (Below.mono hb15 ?_)) | omega | (simp; done) | (simp; omega))))
  have hS := hst1.box
  have hval := hst.two.vals h
  have hlk := hst1.two.look h
  obtain ⟨av, capv, hv, hsav, _, _⟩ := hval.sa
  rw [hv] at hlk
  have hmsl : (sel (fun x => x.2.1) h l).length ≤ 100000 := Nat.le_trans (List.length_filter_le _ _) hl
  clear hval hst hst1 hv
  generalize sel (fun x => x.2.1) h l = ms at *
  have hS_l := hS.lt; have hS_0 := hS.cell 0; have hS_1 := hS.cell 1; have hS_2 := hS.cell 2; simp at hS_0 hS_1 hS_2
  go_enter Tryz.func69, Tryz.ntmps69
  go_wp2_with fail
  go_loopg [16] ms.length (fun gk i wr => ∃ k : Nat, i = .int .i64 k ∧ k ≤ ms.length ∧ Hid (gk = ms.length - k) ∧ MBox wr w.heap.size (scE (ms.take k)) ∧ w.heap.size < wr.heap.size ∧ Below w.heap.size w wr)
  case atStart => exact ⟨0, rfl, by omega, rfl, MBox.new w, by simp, by (repeat' (first | exact Below.refl _ _ | assumption | refine Below.setCell ?_ ?_ _ | refine below_drewN ?_ _ | refine Below.drew ?_ | refine Below.alloc ?_ ?_ _ | (with_reducible refine Below.trans ?_ (Below.mono hb ?_)) | (with_reducible refine Below.trans ?_ (Below.mono hb0 ?_)) | (with_reducible refine Below.trans ?_ (Below.mono hb1 ?_)) | (with_reducible refine Below.trans ?_ (Below.mono hb2 ?_)) | (with_reducible refine Below.trans ?_ (Below.mono hb3 ?_)) | (with_reducible refine Below.trans ?_ (Below.mono hb4 ?_)) | (with_reducible refine Below.trans ?_ (Below.mono hb5 ?_)) | (with_reducible refine Below.trans ?_ (Below.mono hb6 ?_)) | (with_reducible refine Below.trans ?_ (Below.mono hb7 ?_)) | (with_reducible refine Below.trans ?_ (Below.mono hb8 ?_)) | (with_reducible refine Below.trans ?_ (Below.mono hb9 ?_)) | (with_reducible refine Below.trans ?_ (Below.mono hb10 ?_)) | (with_reducible refine Below.trans ?_ (Below.mono hb11 ?_)) | (with_reducible refine Below.trans ?_ (Below.mono hb12 ?_)) | (with_reducible refine Below.trans ?_ (Below.mono hb13 ?_)) | (with_reducible refine Below.trans ?_ (Below.mono hb14 ?_)) | (with_reducible refine Below.trans ?_ (Below.mono hb15 ?_)) | omega | (simp; done) | (simp; omega)))⟩
  case round =>
    clear hS_l hS_0 hS_1 hS_2
    clear hmm hlk
    obtain ⟨k, rfl, hk, hgk, hM, hz, hb⟩ := hrel
    by_cases hlt : k < ms.length
    · obtain ⟨b, off, ha, c0, c1, c2⟩ := (hsav.below hb).mark hlt
      have htake := List.take_succ_eq_append_getElem hlt
      have Hsn := Lib.hid (scE_snoc (ms.take k) ms[k])
      rw [← htake] at Hsn
      rw [ha]
      generalize hx : ms[k] = x at *
      obtain ⟨x1, x2, x3⟩ := x
      simp only at c0 c1 c2 Hsn
      clear hx htake
      generalize scE (ms.take k) = es at *
      have hM1 := hM.alloc (.cells #[.string x1, .string x2, .int .i64 x3] 54)
      go_wp2_with (at_mapUpdate; refine wpList_mapUpdate_box rfl _ _ _ _ rfl _ _ Tryz.underlying110 Tryz.underlying9 w.heap.size _ rfl hM1 x1 rfl (.int .i64 x3) rfl ?_; intro W5 hM5 hg5 hs5)
      have hb5 : Below w.heap.size w W5 := Below.grown (w := wr.alloc (.cells #[.string x1, .string x2, .int .i64 x3] 54)) (by (repeat' (first | exact Below.refl _ _ | assumption | refine Below.setCell ?_ ?_ _ | refine below_drewN ?_ _ | refine Below.drew ?_ | refine Below.alloc ?_ ?_ _ | (with_reducible refine Below.trans ?_ (Below.mono hb ?_)) | (with_reducible refine Below.trans ?_ (Below.mono hb0 ?_)) | (with_reducible refine Below.trans ?_ (Below.mono hb1 ?_)) | (with_reducible refine Below.trans ?_ (Below.mono hb2 ?_)) | (with_reducible refine Below.trans ?_ (Below.mono hb3 ?_)) | (with_reducible refine Below.trans ?_ (Below.mono hb4 ?_)) | (with_reducible refine Below.trans ?_ (Below.mono hb5 ?_)) | (with_reducible refine Below.trans ?_ (Below.mono hb6 ?_)) | (with_reducible refine Below.trans ?_ (Below.mono hb7 ?_)) | (with_reducible refine Below.trans ?_ (Below.mono hb8 ?_)) | (with_reducible refine Below.trans ?_ (Below.mono hb9 ?_)) | (with_reducible refine Below.trans ?_ (Below.mono hb10 ?_)) | (with_reducible refine Below.trans ?_ (Below.mono hb11 ?_)) | (with_reducible refine Below.trans ?_ (Below.mono hb12 ?_)) | (with_reducible refine Below.trans ?_ (Below.mono hb13 ?_)) | (with_reducible refine Below.trans ?_ (Below.mono hb14 ?_)) | (with_reducible refine Below.trans ?_ (Below.mono hb15 ?_)) | omega | (simp; done) | (simp; omega)))) hg5 (by simp; omega) (by rintro j hj; cases hj; omega)
      go_wp2_with fail
      rw [← ha]
      go_roundg (ms.length - (k + 1))
      case measure => have := hgk.out; omega
      case rel => exact ⟨k + 1, by go_num, by omega, rfl, by rw [Hsn.out]; exact hM5, by rw [hs5]; simp; omega, hb5⟩
    · obtain rfl : k = ms.length := by omega
      rw [List.take_length] at hM
      clear hlt
      go_wp2_with fail
      go_ret
      exact ⟨rfl, hM, hb⟩

theorem scOf_drop (l : List Mark) (p h : ByteArray) (k : Nat) (hk : k < l.length) (hm : (decide (l[k].1 = p) && decide (l[k].2.1 = h)) = false) : scOf (l.drop k) p h = scOf (l.drop (k + 1)) p h := by
  unfold scOf; rw [find_drop _ l k hk hm]
theorem scOf_at (l : List Mark) (p h : ByteArray) (k : Nat) (hk : k < l.length) (hm : (decide (l[k].1 = p) && decide (l[k].2.1 = h)) = true) : scOf (l.drop k) p h = some l[k].2.2 := by
  unfold scOf; rw [find_drop_yes _ l k hk hm]; rfl
/-- A score that is there or not. -/
def scVal (o : Option Int) : Value := .tuple #[.int .i64 (o.getD 0), .bool o.isSome]
set_option maxHeartbeats 1000000 in
theorem scoreOf_any (l : List Mark) (a : Option Addr) (cap : Nat) (p h : ByteArray) (w : World) (hs : SA w a l) (hl : l.length ≤ 100000) :
    Calls Tryz.prog 73 #[.slice a l.length cap, .string p, .string h] w (Gives (scVal (scOf l p h)) w) := by
  go_enter Tryz.func73, Tryz.ntmps73
  go_wp2_with fail
  go_loopg [12] l.length (fun gk i wr => ∃ k : Nat, i = .int .i64 k ∧ k ≤ l.length ∧ Hid (gk = l.length - k) ∧ Hid (scOf l p h = scOf (l.drop k) p h) ∧ Below w.heap.size w wr)
  case atStart => exact ⟨0, rfl, by omega, rfl, rfl, Below.refl _ _⟩
  case round =>
    obtain ⟨k, rfl, hk, hgk, hsc, hb⟩ := hrel
    have hz := hb.size
    by_cases hlt : k < l.length
    · obtain ⟨b, off, ha, c0, c1, c2⟩ := (hs.below hb).mark hlt
      have Hno := Lib.hid (scOf_drop l p h k hlt)
      have Hyes := Lib.hid (scOf_at l p h k hlt)
      rw [ha]
      generalize hx : l[k] = x at *
      obtain ⟨x1, x2, x3⟩ := x
      simp only at c0 c1 c2 Hno Hyes
      clear hx
      by_cases hp : x1 = p
      · by_cases hh : x2 = h
        · have hp' := tl_eq hp
          have hh' := tl_eq hh
          have HY := Lib.hid (Hyes.out (by simp [hp, hh]))
          clear hp hh Hno Hyes
          go_wp2_with fail
          go_ret2
          exact ⟨by rw [hsc.out, HY.out]; rfl, by (repeat' (first | exact Below.refl _ _ | assumption | refine Below.setCell ?_ ?_ _ | refine below_drewN ?_ _ | refine Below.drew ?_ | refine Below.alloc ?_ ?_ _ | (with_reducible refine Below.trans ?_ (Below.mono hb ?_)) | (with_reducible refine Below.trans ?_ (Below.mono hb0 ?_)) | (with_reducible refine Below.trans ?_ (Below.mono hb1 ?_)) | (with_reducible refine Below.trans ?_ (Below.mono hb2 ?_)) | (with_reducible refine Below.trans ?_ (Below.mono hb3 ?_)) | (with_reducible refine Below.trans ?_ (Below.mono hb4 ?_)) | (with_reducible refine Below.trans ?_ (Below.mono hb5 ?_)) | (with_reducible refine Below.trans ?_ (Below.mono hb6 ?_)) | (with_reducible refine Below.trans ?_ (Below.mono hb7 ?_)) | (with_reducible refine Below.trans ?_ (Below.mono hb8 ?_)) | (with_reducible refine Below.trans ?_ (Below.mono hb9 ?_)) | (with_reducible refine Below.trans ?_ (Below.mono hb10 ?_)) | (with_reducible refine Below.trans ?_ (Below.mono hb11 ?_)) | (with_reducible refine Below.trans ?_ (Below.mono hb12 ?_)) | (with_reducible refine Below.trans ?_ (Below.mono hb13 ?_)) | (with_reducible refine Below.trans ?_ (Below.mono hb14 ?_)) | (with_reducible refine Below.trans ?_ (Below.mono hb15 ?_)) | omega | (simp; done) | (simp; omega)))⟩
        · have hp' := tl_eq hp
          have hh' := tl_ne hh
          have HN := Lib.hid (Hno.out (by simp [hh]))
          clear hp hh Hno Hyes
          go_wp2_with fail
          rw [← ha]
          go_roundg (l.length - (k + 1))
          case measure => have := hgk.out; omega
          case rel => exact ⟨k + 1, by go_num, by omega, rfl, hsc.out.trans HN.out, by (repeat' (first | exact Below.refl _ _ | assumption | refine Below.setCell ?_ ?_ _ | refine below_drewN ?_ _ | refine Below.drew ?_ | refine Below.alloc ?_ ?_ _ | (with_reducible refine Below.trans ?_ (Below.mono hb ?_)) | (with_reducible refine Below.trans ?_ (Below.mono hb0 ?_)) | (with_reducible refine Below.trans ?_ (Below.mono hb1 ?_)) | (with_reducible refine Below.trans ?_ (Below.mono hb2 ?_)) | (with_reducible refine Below.trans ?_ (Below.mono hb3 ?_)) | (with_reducible refine Below.trans ?_ (Below.mono hb4 ?_)) | (with_reducible refine Below.trans ?_ (Below.mono hb5 ?_)) | (with_reducible refine Below.trans ?_ (Below.mono hb6 ?_)) | (with_reducible refine Below.trans ?_ (Below.mono hb7 ?_)) | (with_reducible refine Below.trans ?_ (Below.mono hb8 ?_)) | (with_reducible refine Below.trans ?_ (Below.mono hb9 ?_)) | (with_reducible refine Below.trans ?_ (Below.mono hb10 ?_)) | (with_reducible refine Below.trans ?_ (Below.mono hb11 ?_)) | (with_reducible refine Below.trans ?_ (Below.mono hb12 ?_)) | (with_reducible refine Below.trans ?_ (Below.mono hb13 ?_)) | (with_reducible refine Below.trans ?_ (Below.mono hb14 ?_)) | (with_reducible refine Below.trans ?_ (Below.mono hb15 ?_)) | omega | (simp; done) | (simp; omega)))⟩
      · have hp' := tl_ne hp
        have HN := Lib.hid (Hno.out (by simp [hp]))
        clear hp Hno Hyes
        go_wp2_with fail
        rw [← ha]
        go_roundg (l.length - (k + 1))
        case measure => have := hgk.out; omega
        case rel => exact ⟨k + 1, by go_num, by omega, rfl, hsc.out.trans HN.out, by (repeat' (first | exact Below.refl _ _ | assumption | refine Below.setCell ?_ ?_ _ | refine below_drewN ?_ _ | refine Below.drew ?_ | refine Below.alloc ?_ ?_ _ | (with_reducible refine Below.trans ?_ (Below.mono hb ?_)) | (with_reducible refine Below.trans ?_ (Below.mono hb0 ?_)) | (with_reducible refine Below.trans ?_ (Below.mono hb1 ?_)) | (with_reducible refine Below.trans ?_ (Below.mono hb2 ?_)) | (with_reducible refine Below.trans ?_ (Below.mono hb3 ?_)) | (with_reducible refine Below.trans ?_ (Below.mono hb4 ?_)) | (with_reducible refine Below.trans ?_ (Below.mono hb5 ?_)) | (with_reducible refine Below.trans ?_ (Below.mono hb6 ?_)) | (with_reducible refine Below.trans ?_ (Below.mono hb7 ?_)) | (with_reducible refine Below.trans ?_ (Below.mono hb8 ?_)) | (with_reducible refine Below.trans ?_ (Below.mono hb9 ?_)) | (with_reducible refine Below.trans ?_ (Below.mono hb10 ?_)) | (with_reducible refine Below.trans ?_ (Below.mono hb11 ?_)) | (with_reducible refine Below.trans ?_ (Below.mono hb12 ?_)) | (with_reducible refine Below.trans ?_ (Below.mono hb13 ?_)) | (with_reducible refine Below.trans ?_ (Below.mono hb14 ?_)) | (with_reducible refine Below.trans ?_ (Below.mono hb15 ?_)) | omega | (simp; done) | (simp; omega)))⟩
    · obtain rfl : k = l.length := by omega
      have Hn := Lib.hid (show scOf l p h = none by rw [hsc.out, List.drop_length]; rfl)
      clear hlt
      go_wp2_with fail
      go_ret2
      exact ⟨by rw [Hn.out]; rfl, hb⟩

/-- Eleven numbers in memory. -/
def elev (f : Nat → Int) : Array Value := #[.int .i64 (f 0), .int .i64 (f 1), .int .i64 (f 2), .int .i64 (f 3), .int .i64 (f 4), .int .i64 (f 5), .int .i64 (f 6), .int .i64 (f 7), .int .i64 (f 8), .int .i64 (f 9), .int .i64 (f 10)]
theorem elev_get (f : Nat → Int) {j : Nat} (h : j < 11) : (elev f)[j]? = some (.int .i64 (f j)) := by
  have : j = 0 ∨ j = 1 ∨ j = 2 ∨ j = 3 ∨ j = 4 ∨ j = 5 ∨ j = 6 ∨ j = 7 ∨ j = 8 ∨ j = 9 ∨ j = 10 := by omega
  rcases this with rfl | rfl | rfl | rfl | rfl | rfl | rfl | rfl | rfl | rfl | rfl <;> rfl
theorem elev_set (f g : Nat → Int) {j : Nat} (h : j < 11) (v : Int) (hg : ∀ i, g i = if i = j then v else f i) : (elev f).setIfInBounds j (.int .i64 v) = elev g := by
  have : j = 0 ∨ j = 1 ∨ j = 2 ∨ j = 3 ∨ j = 4 ∨ j = 5 ∨ j = 6 ∨ j = 7 ∨ j = 8 ∨ j = 9 ∨ j = 10 := by omega
  unfold elev
  simp only [hg]
  rcases this with rfl | rfl | rfl | rfl | rfl | rfl | rfl | rfl | rfl | rfl | rfl <;> rfl
end Go.Proofs.YtaoomkkhpianlaaGreatDoor
