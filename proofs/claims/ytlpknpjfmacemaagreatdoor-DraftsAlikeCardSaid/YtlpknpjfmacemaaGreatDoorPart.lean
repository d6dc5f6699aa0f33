/- Fractions of the reference in lowest terms. -/
import Derived.Test.YtlpknpjfmacemaaGreatDoorLow
import Derived.Deep.RegionHeld3
namespace Go.Proofs.YtlpknpjfmacemaaGreatDoor
open Go.RowKit
set_option linter.unusedVariables false

set_option maxHeartbeats 2000000 in
theorem part_any (num den : Int) (w : World) (hn : num.natAbs ≤ 9223372036854775807) (hd : den.natAbs ≤ 9223372036854775807) (hp : 1 ≤ den) :
    Calls Tryz.prog 80 #[.int .i64 num, .int .i64 den] w (Gives (low num den) w) := by
  have hg1 := gcd_pos num den (by omega)
  have hq1 : num.tdiv (Int.gcd num den) = lowN num den := tdiv_dvd _ _ (Int.gcd_dvd_left ..)
  have hq2 : den.tdiv (Int.gcd num den) = lowD num den := tdiv_dvd _ _ (Int.gcd_dvd_right ..)
  have hb1 : (lowN num den).natAbs ≤ num.natAbs := ediv_abs _ _ hg1
  have hb2 : (lowD num den).natAbs ≤ den.natAbs := ediv_abs _ _ hg1
  have hgab : ∀ x : Int, (x = num ∨ x = -num) → Int.gcd x den = Int.gcd num den := by
    rintro x (rfl | rfl)
    · rfl
    · exact Int.neg_gcd
  have Hgab := Lib.hid hgab
  clear hgab
  have Hlow := Lib.hid (show low num den = .agg #[.int .i64 (lowN num den), .int .i64 (lowD num den)] from rfl)
  generalize lowN num den = q1 at *
  generalize lowD num den = q2 at *
  generalize hgg : Int.gcd num den = g at *
  clear hgg
  have hgz : ((g : Int) == 0) = false := by simp; omega
  have hw1 : IntKind.i64.wrap q1 = q1 := IntWalk.i64_in _ (by omega)
  have hw2 : IntKind.i64.wrap q2 = q2 := IntWalk.i64_in _ (by omega)
  have hd0 : (den == 0) = false := by simp; omega
  by_cases hm : num < -num
  all_goals
    go_enter Tryz.func80, Tryz.ntmps80
    go_wp2_with fail
    go_loopw [5, 6] (fun x y wr => ∃ x' y' : Int, x = .int .i64 x' ∧ y = .int .i64 y' ∧ 0 ≤ x' ∧ 0 ≤ y' ∧ x' ≤ 9223372036854775807 ∧ y' ≤ 9223372036854775807 ∧ Hid (Int.gcd x' y' = g) ∧ Hid (∃ n, wr = (w.alloc (.cells #[.int .i64 0, .int .i64 0] 62)).drewN n)) (fun _ y _ => (intOf y).natAbs)
    case atStart => exact ⟨_, den, rfl, rfl, by omega, by omega, by omega, by omega, Hgab.out _ (by omega), 0, rfl⟩
    case round =>
      obtain ⟨x', y', rfl, rfl, hx0, hy0, hx, hy, hg, hw⟩ := hrel
      obtain ⟨n, hw⟩ := hw
      subst hw
      by_cases hyz : y' = 0
      · subst hyz
        have hxg : x' = g := by have := hg.out; rw [Int.gcd_zero_right] at this; omega
        subst hxg
        go_wp2
        go_region
        go_wp2
        refine bodyPost_ret (v := .agg #[.int .i64 q1, .int .i64 q2]) (by simp only [results, Tryz.results80]; go_simp) rfl ⟨by rw [Hlow.out], ?_⟩
        (repeat' (first | exact Below.refl _ _ | assumption | refine Below.setCell ?_ ?_ _ | refine below_drewN ?_ _ | refine Below.drew ?_ | refine Below.alloc ?_ ?_ _ | (with_reducible refine Below.trans ?_ (Below.mono hb ?_)) | (with_reducible refine Below.trans ?_ (Below.mono hb0 ?_)) | (with_reducible refine Below.trans ?_ (Below.mono hb1 ?_)) | (with_reducible refine Below.trans ?_ (Below.mono hb2 ?_)) | (with_reducible refine Below.trans ?_ (Below.mono hb3 ?_)) | (with_reducible refine Below.trans ?_ (Below.mono hb4 ?_)) | (with_reducible refine Below.trans ?_ (Below.mono hb5 ?_)) | (with_reducible refine Below.trans ?_ (Below.mono hb6 ?_)) | (with_reducible refine Below.trans ?_ (Below.mono hb7 ?_)) | (with_reducible refine Below.trans ?_ (Below.mono hb8 ?_)) | (with_reducible refine Below.trans ?_ (Below.mono hb9 ?_)) | (with_reducible refine Below.trans ?_ (Below.mono hb10 ?_)) | (with_reducible refine Below.trans ?_ (Below.mono hb11 ?_)) | (with_reducible refine Below.trans ?_ (Below.mono hb12 ?_)) | (with_reducible refine Below.trans ?_ (Below.mono hb13 ?_)) | (with_reducible refine Below.trans ?_ (Below.mono hb14 ?_)) | (with_reducible refine Below.trans ?_ (Below.mono hb15 ?_)) | omega | (simp; done) | (simp; omega)))
      · have hm := tmod_abs x' y' hyz
        have hmn := Int.tmod_nonneg y' hx0
        have hG := gcd_tmod x' y'
        rw [Int.tmod_eq_emod_of_nonneg hx0] at hm hmn hG
        have HG := Lib.hid hG
        clear hG
        go_wp2
        go_quiet (fail)
        go_wp2
        refine ⟨⟨_, _, rfl, rfl, by omega, by omega, by omega, by omega, HG.out.trans hg, n + nq, by simp⟩, ?_⟩
        show (x' % y').natAbs < y'.natAbs
        exact hm
end Go.Proofs.YtlpknpjfmacemaaGreatDoor
