/- Greatest common divisors, lowest terms. -/
import Derived.Test.YthajoedabjfaaaaGreatDoorOutside
import Derived.Test.YthajoedabjfaaaaGreatDoorStream
import Derived.RegionTactic
import Derived.ChangeAlike
import Derived.BigRegion
namespace Go.Proofs.YthajoedabjfaaaaGreatDoor
open Go.RowKit
set_option linter.unusedVariables false

theorem gcd_tmod (a b : Int) : Int.gcd b (a.tmod b) = Int.gcd a b := by
  rw [Int.gcd_comm a b]
  have h : a.tmod b = a - b * (a.tdiv b) := by have := Int.mul_tdiv_add_tmod a b; omega
  rw [h]
  exact Int.gcd_sub_mul_left_right ..

theorem tmod_abs (a b : Int) (hb : b ≠ 0) : (a.tmod b).natAbs < b.natAbs := by
  rw [Int.natAbs_tmod]; exact Nat.mod_lt _ (by omega)

/-- The parts of a fraction in lowest terms. -/
def lowN (num den : Int) : Int := num / (Int.gcd num den : Int)
def lowD (num den : Int) : Int := den / (Int.gcd num den : Int)
def low (num den : Int) : Value := .agg #[.int .i64 (lowN num den), .int .i64 (lowD num den)]

theorem gcd_pos (num den : Int) (h : den ≠ 0) : 1 ≤ (Int.gcd num den : Int) := by
  have := Int.gcd_pos_of_ne_zero_right num h; omega

theorem tdiv_dvd (x g : Int) (hg : g ∣ x) : x.tdiv g = x / g := Int.tdiv_eq_ediv_of_dvd hg

theorem ediv_abs (x g : Int) (hg : 1 ≤ g) : (x / g).natAbs ≤ x.natAbs := by
  rcases Int.le_total 0 x with h | h
  · have h1 := Int.ediv_nonneg h (show 0 ≤ g by omega)
    have h2 := Int.ediv_le_self g h
    omega
  · have h1 : x / g ≤ 0 := Int.ediv_le_of_le_mul (by omega) (by omega)
    have h2 : x ≤ x / g := (Int.le_ediv_iff_mul_le (by omega)).2 (by have := Int.mul_le_mul_of_nonpos_left h hg; omega)
    omega

end Go.Proofs.YthajoedabjfaaaaGreatDoor
