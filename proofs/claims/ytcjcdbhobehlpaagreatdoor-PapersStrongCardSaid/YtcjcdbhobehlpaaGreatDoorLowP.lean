/- Fractions in lowest terms: plain laws. -/
import Derived.Test.YtcjcdbhobehlpaaGreatDoorLow
namespace Go.Proofs.YtcjcdbhobehlpaaGreatDoor
set_option linter.unusedVariables false

theorem mul_pos (x y : Int) (hx : 1 ≤ x) (hy : 1 ≤ y) : 1 ≤ x * y := by
 have := Int.mul_le_mul hx hy (by omega) (by omega); omega
theorem lowN_bd (m n : Int) (hm : 0 ≤ m) (hn : 1 ≤ n) : 0 ≤ lowN m n ∧ lowN m n ≤ m := by
 have hg := gcd_pos m n (by omega)
 unfold lowN
 exact ⟨Int.ediv_nonneg hm (by omega), Int.ediv_le_self _ hm⟩
theorem lowD_bd (m n : Int) (hn : 1 ≤ n) : 1 ≤ lowD m n ∧ lowD m n ≤ n := by
 have hg := gcd_pos m n (by omega)
 unfold lowD
 have hd : (Int.gcd m n : Int) ∣ n := Int.gcd_dvd_right ..
 obtain ⟨k, hk⟩ := hd
 have hk1 : n / (Int.gcd m n : Int) = k := Int.ediv_eq_of_eq_mul_right (by omega) hk
 refine ⟨?_, Int.ediv_le_self _ (by omega)⟩
 rw [hk1]
 rcases Int.lt_or_le k 1 with h | h
 ·
  have : (Int.gcd m n : Int) * k ≤ (Int.gcd m n : Int) * 0 := Int.mul_le_mul_of_nonneg_left (by omega) (by omega)
  omega
 ·
  exact h
theorem low_cross (m n : Int) (hn : 1 ≤ n) : lowN m n * n = m * lowD m n := by
 unfold lowN lowD
 obtain ⟨k, hk⟩ : (Int.gcd m n : Int) ∣ m := Int.gcd_dvd_left ..
 obtain ⟨j, hj⟩ : (Int.gcd m n : Int) ∣ n := Int.gcd_dvd_right ..
 have hg := gcd_pos m n (by omega)
 have e1 : m / (Int.gcd m n : Int) = k := Int.ediv_eq_of_eq_mul_right (by omega) hk
 have e2 : n / (Int.gcd m n : Int) = j := Int.ediv_eq_of_eq_mul_right (by omega) hj
 rw [e1, e2]
 generalize (Int.gcd m n : Int) = g at *
 rw [hk, hj, ← Int.mul_assoc, Int.mul_comm k g]
theorem low_coprime (m n : Int) (hn : 1 ≤ n) : Int.gcd (lowN m n) (lowD m n) = 1 := by
 unfold lowN lowD
 exact Int.gcd_ediv_gcd_ediv_gcd (Int.gcd_pos_of_ne_zero_right m (by omega))
/-- A denominator that does for the fraction is a multiple of the lowest one. -/
theorem lowD_dvd_of (m n K M : Int) (hn : 1 ≤ n) (h : m * K = M * n) : lowD m n ∣ K := by
 have hc := low_cross m n hn
 have h1 : lowN m n * K * n = M * lowD m n * n := by
  have : lowN m n * n * K = m * lowD m n * K := by rw [hc]
  have e1 : lowN m n * K * n = lowN m n * n * K := by rw [Int.mul_assoc, Int.mul_comm K n, ← Int.mul_assoc]
  have e2 : M * lowD m n * n = M * n * lowD m n := by rw [Int.mul_assoc, Int.mul_comm (lowD m n) n, ← Int.mul_assoc]
  rw [e1, this, e2, ← h, Int.mul_assoc, Int.mul_comm (lowD m n) K, ← Int.mul_assoc]
 have h2 : lowN m n * K = M * lowD m n := Int.eq_of_mul_eq_mul_right (by omega) h1
 have h3 : lowD m n ∣ lowN m n * K := ⟨M, by rw [h2, Int.mul_comm]⟩
 have hco := low_coprime m n hn
 rw [Int.gcd_comm] at hco
 have hco' : Nat.Coprime (lowD m n).natAbs (lowN m n).natAbs := hco
 have h4 : (lowD m n).natAbs ∣ (lowN m n).natAbs * K.natAbs := by rw [← Int.natAbs_mul]; exact Int.natAbs_dvd_natAbs.2 h3
 exact Int.natAbs_dvd_natAbs.1 (Nat.Coprime.dvd_of_dvd_mul_left hco' h4)
theorem low_le (m n B : Int) (hm : 0 ≤ m) (hn : 1 ≤ n) (h : m ≤ B * n) : lowN m n ≤ B * lowD m n := by
 have hc := low_cross m n hn
 have hd := (lowD_bd m n hn).1
 have : lowN m n * n ≤ B * lowD m n * n := by
  rw [hc, show B * lowD m n * n = (B * n) * lowD m n by rw [Int.mul_assoc, Int.mul_comm (lowD m n) n, ← Int.mul_assoc]]
  exact Int.mul_le_mul_of_nonneg_right h (by omega)
 exact Int.le_of_mul_le_mul_right this (by omega)

/-- The sum of two fractions keeps a common denominator, and is not greater than the sum of their bounds. -/
theorem sum_keeps (a b c d K A B : Int) (ha : 0 ≤ a) (hb : 1 ≤ b) (hc : 0 ≤ c) (hd : 1 ≤ d) (hbK : b ∣ K) (hdK : d ∣ K) (hA : a ≤ A * b) (hB : c ≤ B * d) :
  lowD (a * d + c * b) (b * d) ∣ K ∧ 0 ≤ lowN (a * d + c * b) (b * d) ∧ lowN (a * d + c * b) (b * d) ≤ (A + B) * lowD (a * d + c * b) (b * d) ∧ 1 ≤ lowD (a * d + c * b) (b * d) := by
 have hbd : 1 ≤ b * d := mul_pos b d hb hd
 have h0 : 0 ≤ a * d + c * b := by have := Int.mul_nonneg ha (by omega : 0 ≤ d); have := Int.mul_nonneg hc (by omega : 0 ≤ b); omega
 refine ⟨?_, (lowN_bd _ _ h0 hbd).1, low_le _ _ _ h0 hbd ?_, (lowD_bd _ _ hbd).1⟩
 ·
  obtain ⟨u, hu⟩ := hbK
  obtain ⟨v, hv⟩ := hdK
  refine lowD_dvd_of _ _ K (a * u + c * v) hbd ?_
  have e1 : a * d * K = a * u * (b * d) := by rw [hu]; simp [Int.mul_comm, Int.mul_left_comm]
  have e2 : c * b * K = c * v * (b * d) := by rw [hv]; simp [Int.mul_comm, Int.mul_left_comm]
  rw [Int.add_mul, e1, e2, ← Int.add_mul]
 ·
  have h1 : a * d ≤ A * b * d := Int.mul_le_mul_of_nonneg_right hA (by omega)
  have h2 : c * b ≤ B * d * b := Int.mul_le_mul_of_nonneg_right hB (by omega)
  have e : (A + B) * (b * d) = A * b * d + B * d * b := by rw [Int.add_mul]; simp [Int.mul_comm, Int.mul_left_comm]
  omega
theorem low_abs (m n : Int) (hn : 1 ≤ n) : (lowN m n).natAbs ≤ m.natAbs := ediv_abs _ _ (gcd_pos m n (by omega))
/-- Fractions that are equal have the same lowest terms. -/
theorem low_same (m n x y : Int) (hn : 1 ≤ n) (hy : 1 ≤ y) (h : m * y = x * n) : lowN m n = lowN x y ∧ lowD m n = lowD x y := by
 have c1 := low_cross m n hn
 have c2 := low_cross x y hy
 have d1 := (lowD_bd m n hn).1
 have d2 := (lowD_bd x y hy).1
 have e1 : lowD m n ∣ lowD x y := by
  refine lowD_dvd_of m n (lowD x y) (lowN x y) hn ?_
  have : m * lowD x y * y = lowN x y * n * y := by
   have e : m * lowD x y * y = (m * y) * lowD x y := by rw [Int.mul_assoc, Int.mul_comm (lowD x y) y, ← Int.mul_assoc]
   have e' : lowN x y * n * y = (lowN x y * y) * n := by rw [Int.mul_assoc, Int.mul_comm n y, ← Int.mul_assoc]
   rw [e, h, e', c2, Int.mul_assoc, Int.mul_comm n, ← Int.mul_assoc]
  exact Int.eq_of_mul_eq_mul_right (by omega) this
 have e2 : lowD x y ∣ lowD m n := by
  refine lowD_dvd_of x y (lowD m n) (lowN m n) hy ?_
  have : x * lowD m n * n = lowN m n * y * n := by
   have e : x * lowD m n * n = (x * n) * lowD m n := by rw [Int.mul_assoc, Int.mul_comm (lowD m n) n, ← Int.mul_assoc]
   have e' : lowN m n * y * n = (lowN m n * n) * y := by rw [Int.mul_assoc, Int.mul_comm y n, ← Int.mul_assoc]
   rw [e, ← h, e', c1, Int.mul_assoc, Int.mul_comm y, ← Int.mul_assoc]
  exact Int.eq_of_mul_eq_mul_right (by omega) this
 have hd : lowD m n = lowD x y := by
  have h1 := Int.le_of_dvd (by omega) e1
  have h2 := Int.le_of_dvd (by omega) e2
  omega
 refine ⟨?_, hd⟩
 rw [hd] at c1
 have h3 : lowN m n * (n * y) = lowN x y * (n * y) := by
  have a1 : lowN m n * (n * y) = (lowN m n * n) * y := by rw [Int.mul_assoc]
  have a2 : lowN x y * (n * y) = (lowN x y * y) * n := by rw [Int.mul_comm n y, Int.mul_assoc]
  rw [a1, a2, c1, c2, Int.mul_assoc, Int.mul_comm (lowD x y) y, ← Int.mul_assoc, h, Int.mul_assoc, Int.mul_assoc, Int.mul_comm n]
 have h4 := mul_pos n y hn hy
 exact Int.eq_of_mul_eq_mul_right (by omega) h3
end Go.Proofs.YtcjcdbhobehlpaaGreatDoor
