/- Greatest common divisors, lowest terms. -/
import Derived.Test.YtcjcdbhobehlpaaGreatDoorOutside
import Derived.Test.YtcjcdbhobehlpaaGreatDoorStream
import Derived.RegionTactic
import Derived.ChangeAlike
import Derived.BigRegion
namespace Go.Proofs.YtcjcdbhobehlpaaGreatDoor
open Go.RowKit
set_option linter.unusedVariables false

theorem gcd_tmod (a b : Int) : Int.gcd b (a.tmod b) = Int.gcd a b := by
 rw [Int.gcd_comm a b]
 have h : a.tmod b = a - b * (a.tdiv b) := by have := Int.mul_tdiv_add_tmod a b; omega
 rw [h]
 exact Int.gcd_sub_mul_left_right ..

theorem tmod_abs (a b : Int) (hb : b ≠ 0) : (a.tmod b).natAbs < b.natAbs := by
 rw [Int.natAbs_tmod]; exact Nat.mod_lt _ (by omega)

set_option maxHeartbeats 1000000 in
theorem gcd_any (a b : Int) (w : World) (ha : a.natAbs ≤ 9223372036854775807) (hb : b.natAbs ≤ 9223372036854775807) :
  Calls Tryz.prog 79 #[.int .i64 a, .int .i64 b] w (Draws (.int .i64 (Int.gcd a b)) w) := by
 go_enter Tryz.func79, Tryz.ntmps79
 go_wp2
 go_loopw [0, 1] (fun x y wr => ∃ x' y' : Int, x = .int .i64 x' ∧ y = .int .i64 y' ∧ x'.natAbs ≤ 9223372036854775807 ∧ y'.natAbs ≤ 9223372036854775807 ∧ Hid (Int.gcd x' y' = Int.gcd a b) ∧ Hid (∃ n, wr = w.drewN n)) (fun _ y _ => (intOf y).natAbs)
 case atStart => exact ⟨a, b, rfl, rfl, ha, hb, rfl, 0, rfl⟩
 case round =>
  obtain ⟨x', y', rfl, rfl, hx, hy, hg, hw⟩ := hrel
  by_cases hy0 : y' = 0
  ·
   subst hy0
   go_wp2
   all_goals
    go_ret
    have hg' := hg.out
    rw [Int.gcd_zero_right] at hg'
    refine ⟨ret_int ?_, hw⟩
    omega
  ·
   have hm := tmod_abs x' y' hy0
   have hG := gcd_tmod x' y'
   have HG := Lib.hid hG
   clear hG
   go_wp2
   go_quiet (fail)
   obtain ⟨n, rfl⟩ := hw
   go_wp2
   refine ⟨?_, ?_⟩
   ·
    exact ⟨_, _, rfl, rfl, by omega, by omega, HG.out.trans hg, n + nq, by simp⟩
   ·
    exact hm

/-- The parts of a fraction in lowest terms. -/
def lowN (num den : Int) : Int := num / (Int.gcd num den : Int)
def lowD (num den : Int) : Int := den / (Int.gcd num den : Int)
def low (num den : Int) : Value := .agg #[.int .i64 (lowN num den), .int .i64 (lowD num den)]

theorem gcd_pos (num den : Int) (h : den ≠ 0) : 1 ≤ (Int.gcd num den : Int) := by
 have := Int.gcd_pos_of_ne_zero_right num h; omega

theorem tdiv_dvd (x g : Int) (hg : g ∣ x) : x.tdiv g = x / g := Int.tdiv_eq_ediv_of_dvd hg

theorem ediv_abs (x g : Int) (hg : 1 ≤ g) : (x / g).natAbs ≤ x.natAbs := by
 rcases Int.le_total 0 x with h | h
 ·
  have h1 := Int.ediv_nonneg h (show 0 ≤ g by omega)
  have h2 := Int.ediv_le_self g h
  omega
 ·
  have h1 : x / g ≤ 0 := Int.ediv_le_of_le_mul (by omega) (by omega)
  have h2 : x ≤ x / g := (Int.le_ediv_iff_mul_le (by omega)).2 (by have := Int.mul_le_mul_of_nonpos_left h hg; omega)
  omega

set_option maxHeartbeats 1000000 in
theorem lowest_any (num den : Int) (w : World) (hn : num.natAbs ≤ 9223372036854775807) (hd : den.natAbs ≤ 9223372036854775807) (hp : 1 ≤ den) :
  Calls Tryz.prog 65 #[.int .i64 num, .int .i64 den] w (Gives (low num den) w) := by
 have hg1 := gcd_pos num den (by omega)
 have hq1 : num.tdiv (Int.gcd num den) = lowN num den := tdiv_dvd _ _ (Int.gcd_dvd_left ..)
 have hq2 : den.tdiv (Int.gcd num den) = lowD num den := tdiv_dvd _ _ (Int.gcd_dvd_right ..)
 have hb1 : (lowN num den).natAbs ≤ num.natAbs := ediv_abs _ _ hg1
 have hb2 : (lowD num den).natAbs ≤ den.natAbs := ediv_abs _ _ hg1
 have hG := Lib.hid (gcd_any num den (w.alloc (.cells #[.int .i64 0, .int .i64 0] 75)) hn hd)
 unfold low
 generalize lowN num den = q1 at *
 generalize lowD num den = q2 at *
 generalize (Int.gcd num den : Int) = g at *
 have hgz : (g == 0) = false := by simp; omega
 have hw1 : IntKind.i64.wrap q1 = q1 := IntWalk.i64_in _ (by omega)
 have hw2 : IntKind.i64.wrap q2 = q2 := IntWalk.i64_in _ (by omega)
 go_enter Tryz.func65, Tryz.ntmps65
 go_wp2_with fail
 refine hG.out.mono ?_
 rintro e w' ⟨rfl, n, rfl⟩
 go_wp2_with fail
 go_region
 go_wp2_with fail
 refine bodyPost_ret (v := .agg #[.int .i64 q1, .int .i64 q2]) (by simp only [results, Tryz.results65]; go_simp) rfl ⟨rfl, ?_⟩
 (repeat' (first | exact Below.refl _ _ | assumption | refine Below.setCell ?_ ?_ _ | refine below_drewN ?_ _ | refine Below.drew ?_ | refine Below.alloc ?_ ?_ _ | (with_reducible refine Below.trans ?_ (Below.mono hb ?_)) | (with_reducible refine Below.trans ?_ (Below.mono hb0 ?_)) | (with_reducible refine Below.trans ?_ (Below.mono hb1 ?_)) | (with_reducible refine Below.trans ?_ (Below.mono hb2 ?_)) | (with_reducible refine Below.trans ?_ (Below.mono hb3 ?_)) | (with_reducible refine Below.trans ?_ (Below.mono hb4 ?_)) | (with_reducible refine Below.trans ?_ (Below.mono hb5 ?_)) | (with_reducible refine Below.trans ?_ (Below.mono hb6 ?_)) | (with_reducible refine Below.trans ?_ (Below.mono hb7 ?_)) | (with_reducible refine Below.trans ?_ (Below.mono hb8 ?_)) | (with_reducible refine Below.trans ?_ (Below.mono hb9 ?_)) | (with_reducible refine Below.trans ?_ (Below.mono hb10 ?_)) | (with_reducible refine Below.trans ?_ (Below.mono hb11 ?_)) | (with_reducible refine Below.trans ?_ (Below.mono hb12 ?_)) | (with_reducible refine Below.trans ?_ (Below.mono hb13 ?_)) | (with_reducible refine Below.trans ?_ (Below.mono hb14 ?_)) | (with_reducible refine Below.trans ?_ (Below.mono hb15 ?_)) | omega | (simp; done) | (simp; omega)))
end Go.Proofs.YtcjcdbhobehlpaaGreatDoor
