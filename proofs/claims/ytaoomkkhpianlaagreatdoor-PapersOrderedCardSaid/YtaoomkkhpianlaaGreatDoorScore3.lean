/- Scores: median, Median, Spread, PapersOf, PeopleOf of the program. -/
import Derived.Test.YtaoomkkhpianlaaGreatDoorScore2
import Derived.Test.YtaoomkkhpianlaaGreatDoorMakeMark
import Derived.Test.YtaoomkkhpianlaaGreatDoorReg
namespace Go.Proofs.YtaoomkkhpianlaaGreatDoor
open Go.RowKit Go.Sort
set_option linter.unusedVariables false
set_option linter.unusedSimpArgs false

theorem half1 (n : Nat) (h : 1 ≤ n) : ((n : Int) - 1).tdiv 2 = (((n - 1) / 2 : Nat) : Int) := by
  rw [Int.tdiv_eq_ediv_of_nonneg (by omega)]; omega
theorem half2 (n : Nat) : (n : Int).tdiv 2 = ((n / 2 : Nat) : Int) := by
  rw [Int.tdiv_eq_ediv_of_nonneg (by omega)]; omega


set_option maxRecDepth 100000 in
set_option maxHeartbeats 2000000 in
theorem median_any (l : List Mark) (a : Option Addr) (cap : Nat) (w : World) (hs : SA w a l) (hl : l.length ≤ 1000) (hpos0 : 1 ≤ l.length) (hok : okScores l) :
    Calls Tryz.prog 164 #[.slice a l.length cap] w (Gives (.int .i64 (medI (sortI (scL l)))) w) := by
  go_enter Tryz.func164, Tryz.ntmps164
  go_wp2_with fail
  go_loopg [3, 8] l.length (fun gk v i wr => ∃ k : Nat, i = .int .i64 k ∧ k ≤ l.length ∧ Hid (gk = l.length - k) ∧ Own w.heap.size 3 wr v (scL (l.take k)) ∧ Below w.heap.size w wr)
  case atStart => exact ⟨0, rfl, by omega, rfl, Own.nil _ _ _, Below.refl _ _⟩
  case round =>
    obtain ⟨k, rfl, hk, hgk, hown, hb⟩ := hrel
    have hz := hb.size
    by_cases hlt : k < l.length
    · obtain ⟨b, off, ha, c0, c1, c2⟩ := (hs.below hb).mark hlt
      have htake := List.take_succ_eq_append_getElem hlt
      have hlen : (scL (l.take k)).length ≤ 1000 := by unfold scL; rw [List.length_map, List.length_take]; omega
      rw [ha]
      generalize hx : l[k] = x at *
      obtain ⟨x1, x2, x3⟩ := x
      simp only at c0 c1 c2
      have Htake := Lib.hid (show scL (l.take (k + 1)) = scL (l.take k) ++ [x3] by rw [htake]; unfold scL; rw [List.map_append]; rfl)
      clear hx htake
      generalize scL (l.take k) = ls at *
      have hown1 := (hown.alloc (.cells #[.string x1, .string x2, .int .i64 x3] 54)).alloc (.cells #[.int .i64 x3] 3)
      have hbo := Box.newAt (wr.alloc (.cells #[.string x1, .string x2, .int .i64 x3] 54)) (wr.heap.size + 1) 3 #[.int .i64 x3] (by simp)
      go_wp2_with (at_builtin; refine wpList_append_lie (α := Int) rfl _ _ 22 rfl 3 8 (.int .i64 0) Tryz.underlying22 Tryz.infoInt rfl _ ls rfl hown1 x3 (wr.heap.size + 1) rfl hbo (by omega) (by omega) (by simp; omega) ?_; intro gg cap1 w1 hown2 hgrow hat)
      have hb1 : Below w.heap.size w w1 := Below.grown (w := (wr.alloc (.cells #[.string x1, .string x2, .int .i64 x3] 54)).alloc (.cells #[.int .i64 x3] 3)) (by (repeat' (first | exact Below.refl _ _ | assumption | refine Below.setCell ?_ ?_ _ | refine below_drewN ?_ _ | refine Below.drew ?_ | refine Below.alloc ?_ ?_ _ | (with_reducible refine Below.trans ?_ (Below.mono hb ?_)) | (with_reducible refine Below.trans ?_ (Below.mono hb0 ?_)) | (with_reducible refine Below.trans ?_ (Below.mono hb1 ?_)) | (with_reducible refine Below.trans ?_ (Below.mono hb2 ?_)) | (with_reducible refine Below.trans ?_ (Below.mono hb3 ?_)) | (with_reducible refine Below.trans ?_ (Below.mono hb4 ?_)) | (with_reducible refine Below.trans ?_ (Below.mono hb5 ?_)) | (with_reducible refine Below.trans ?_ (Below.mono hb6 ?_)) | (with_reducible refine Below.trans ?_ (Below.mono hb7 ?_)) | (with_reducible refine Below.trans ?_ (Below.mono hb8 ?_)) | (with_reducible refine Below.trans ?_ (Below.mono hb9 ?_)) | (with_reducible refine Below.trans ?_ (Below.mono hb10 ?_)) | (with_reducible refine Below.trans ?_ (Below.mono hb11 ?_)) | (with_reducible refine Below.trans ?_ (Below.mono hb12 ?_)) | (with_reducible refine Below.trans ?_ (Below.mono hb13 ?_)) | (with_reducible refine Below.trans ?_ (Below.mono hb14 ?_)) | (with_reducible refine Below.trans ?_ (Below.mono hb15 ?_)) | omega | (simp; done) | (simp; omega)))) hgrow (by simp; omega) (fun j hj => (hown1.lt j hj).1)
      go_wp2_with fail
      rw [← ha]
      go_roundg (l.length - (k + 1))
      case measure => have := hgk.out; omega
      case rel => exact ⟨k + 1, by go_num, by omega, rfl, by rw [Htake.out]; exact hown2, hb1⟩
    · obtain rfl : k = l.length := by omega
      rw [List.take_length] at hown
      have hoki := okI_sort (okI_scL hok)
      have hsl : (sortI (scL l)).length = l.length := by rw [sortI_length]; unfold scL; rw [List.length_map]
      have hscl : (scL l).length ≤ 1000 := by unfold scL; rw [List.length_map]; omega
      have hpos : 1 ≤ (sortI (scL l)).length := by omega
      have hs1000 : (sortI (scL l)).length ≤ 1000 := by omega
      clear hlt hsl hok
      go_wp2_with fail
      refine (sortI_any _ _ _ _ hown (by omega)).mono ?_
      rintro e w2 ⟨rfl, hown2, hg2⟩
      have hb2 := below_grown hb hg2 (Nat.le_refl _) (fun j hj => (hown.lt j hj).1)
      clear hown hg2
      generalize sortI (scL l) = s at *
      obtain ⟨a2, caps, rfl, hsa, _, _⟩ := hown2.sa
      have hn1 : 1 ≤ s.length := hpos
      have hh1 := half1 s.length hn1
      have hh2 := half2 s.length
      have hi1 : (s.length - 1) / 2 < s.length := by omega
      have hi2 : s.length / 2 < s.length := by omega
      obtain ⟨sb, soff, hsb, e1⟩ := hsa.int hi1
      obtain ⟨sb', soff', hsb', e2⟩ := hsa.int hi2
      have Hmed := Lib.hid (show medI s = s[(s.length - 1) / 2] + s[s.length / 2] by unfold medI; rw [List.getD_eq_getElem?_getD, List.getD_eq_getElem?_getD, List.getElem?_eq_getElem hi1, List.getElem?_eq_getElem hi2]; rfl)
      have hz1 := hoki s[(s.length - 1) / 2] (List.getElem_mem _)
      have hz2 := hoki s[s.length / 2] (List.getElem_mem _)
      rw [hsb] at hsb'
      cases hsb'
      subst hsb
      generalize s[(s.length - 1) / 2] = m1 at *
      generalize s[s.length / 2] = m2 at *
      have hw1 : IntKind.i64.wrap ((s.length : Int) - 1) = (s.length : Int) - 1 := IntWalk.i64_in _ (by omega)
      generalize (s.length - 1) / 2 = i1 at *
      generalize s.length / 2 = i2 at *
      have hw2 : IntKind.i64.wrap (i1 : Int) = (i1 : Int) := IntWalk.i64_in _ (by omega)
      have hw3 : IntKind.i64.wrap (i2 : Int) = (i2 : Int) := IntWalk.i64_in _ (by omega)
      have hw4 : IntKind.i64.wrap (m1 + m2) = m1 + m2 := IntWalk.i64_in _ (by omega)
      have hj1 : (0 : Int) ≤ (i1 : Int) := by omega
      have hj2 : (i1 : Int) < (s.length : Int) := by omega
      have hj3 : (0 : Int) ≤ (i2 : Int) := by omega
      have hj4 : (i2 : Int) < (s.length : Int) := by omega
      clear hsa hoki hi1 hi2
      go_wp2_with fail
      go_quiet (fail)
      go_wp2_with fail
      go_ret
      exact ⟨ret_int Hmed.out.symm, below_drewN hb2 _⟩
/-- The spread that Spread gives. -/
def sprN (ms : List Mark) : Int := lowN ((ms.length : Int) * sum2 ms - sum1 ms * sum1 ms) (ms.length * ms.length)
def sprD (ms : List Mark) : Int := lowD ((ms.length : Int) * sum2 ms - sum1 ms * sum1 ms) (ms.length * ms.length)
end Go.Proofs.YtaoomkkhpianlaaGreatDoor
