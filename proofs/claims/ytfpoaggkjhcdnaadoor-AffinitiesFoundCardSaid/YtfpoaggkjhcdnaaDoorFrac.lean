/- Fractions: greatest common divisors, lowest terms, checks and sums, of the program and of the reference. -/
import Derived.Test.YtfpoaggkjhcdnaaDoorStream
import Derived.RegionTactic
import Derived.ChangeAlike
import Derived.BigRegion
namespace Go.Proofs.YtfpoaggkjhcdnaaDoor
open Go.RowKit
set_option linter.unusedVariables false


theorem gcd_tmod (a b : Int) : Int.gcd b (a.tmod b) = Int.gcd a b := by
  rw [Int.gcd_comm a b]
  have h : a.tmod b = a - b * (a.tdiv b) := by have := Int.mul_tdiv_add_tmod a b; omega
  rw [h]
  exact Int.gcd_sub_mul_left_right ..

theorem tmod_abs (a b : Int) (hb : b ≠ 0) : (a.tmod b).natAbs < b.natAbs := by
  rw [Int.natAbs_tmod]; exact Nat.mod_lt _ (by omega)

set_option maxHeartbeats 1000000 in
theorem gcd_any (a b : Int) (w : World) (ha : a.natAbs ≤ 9223372036854775807) (hb : b.natAbs ≤ 9223372036854775807) :
    Calls Tryd.prog 67 #[.int .i64 a, .int .i64 b] w (Draws (.int .i64 (Int.gcd a b)) w) := by
  go_enter Tryd.func67, Tryd.ntmps67
  go_wp2
  go_loopw [0, 1] (fun x y wr => ∃ x' y' : Int, x = .int .i64 x' ∧ y = .int .i64 y' ∧ x'.natAbs ≤ 9223372036854775807 ∧ y'.natAbs ≤ 9223372036854775807 ∧ Hid (Int.gcd x' y' = Int.gcd a b) ∧ Hid (∃ n, wr = w.drewN n)) (fun _ y _ => (intOf y).natAbs)
  case atStart => exact ⟨a, b, rfl, rfl, ha, hb, rfl, 0, rfl⟩
  case round =>
    obtain ⟨x', y', rfl, rfl, hx, hy, hg, hw⟩ := hrel
    by_cases hy0 : y' = 0
    · subst hy0
      go_wp2
      all_goals
        go_ret
        have hg' := hg.out
        rw [Int.gcd_zero_right] at hg'
        refine ⟨ret_int ?_, hw⟩
        omega
    · have hm := tmod_abs x' y' hy0
      have hG := gcd_tmod x' y'
      have HG := Lib.hid hG
      clear hG
      go_wp2
      go_quiet (fail)
      obtain ⟨n, rfl⟩ := hw
      go_wp2
      refine ⟨?_, ?_⟩
      · exact ⟨_, _, rfl, rfl, by omega, by omega, HG.out.trans hg, n + nq, by simp⟩
      · exact hm

/-- The parts of a fraction in lowest terms. -/
def lowN (num den : Int) : Int := num / (Int.gcd num den : Int)
def lowD (num den : Int) : Int := den / (Int.gcd num den : Int)
def low (num den : Int) : Value := .agg #[.int .i64 (lowN num den), .int .i64 (lowD num den)]

theorem gcd_pos (num den : Int) (h : den ≠ 0) : 1 ≤ (Int.gcd num den : Int) := by
  have := Int.gcd_pos_of_ne_zero_right num h; omega

theorem tdiv_dvd (x g : Int) (hg : g ∣ x) : x.tdiv g = x / g := Int.tdiv_eq_ediv_of_dvd hg

theorem ediv_abs (x g : Int) (hg : 1 ≤ g) : (x / g).natAbs ≤ x.natAbs := by
  rcases Int.le_total 0 x with h | h
  · have h1 := Int.ediv_nonneg h (show 0 ≤ g by omega)
    have h2 := Int.ediv_le_self g h
    omega
  · have h1 : x / g ≤ 0 := Int.ediv_le_of_le_mul (by omega) (by omega)
    have h2 : x ≤ x / g := (Int.le_ediv_iff_mul_le (by omega)).2 (by have := Int.mul_le_mul_of_nonpos_left h hg; omega)
    omega

set_option maxHeartbeats 1000000 in
theorem lowest_any (num den : Int) (w : World) (hn : num.natAbs ≤ 9223372036854775807) (hd : den.natAbs ≤ 9223372036854775807) (hp : 1 ≤ den) :
    Calls Tryd.prog 59 #[.int .i64 num, .int .i64 den] w (Gives (low num den) w) := by
  have hg1 := gcd_pos num den (by omega)
  have hq1 : num.tdiv (Int.gcd num den) = lowN num den := tdiv_dvd _ _ (Int.gcd_dvd_left ..)
  have hq2 : den.tdiv (Int.gcd num den) = lowD num den := tdiv_dvd _ _ (Int.gcd_dvd_right ..)
  have hb1 : (lowN num den).natAbs ≤ num.natAbs := ediv_abs _ _ hg1
  have hb2 : (lowD num den).natAbs ≤ den.natAbs := ediv_abs _ _ hg1
  have hG := Lib.hid (gcd_any num den (w.alloc (.cells #[.int .i64 0, .int .i64 0] 37)) hn hd)
  unfold low
  generalize lowN num den = q1 at *
  generalize lowD num den = q2 at *
  generalize (Int.gcd num den : Int) = g at *
  have hgz : (g == 0) = false := by simp; omega
  have hw1 : IntKind.i64.wrap q1 = q1 := IntWalk.i64_in _ (by omega)
  have hw2 : IntKind.i64.wrap q2 = q2 := IntWalk.i64_in _ (by omega)
  go_enter Tryd.func59, Tryd.ntmps59
  go_wp2_with fail
  refine hG.out.mono ?_
  rintro e w' ⟨rfl, n, rfl⟩
  go_wp2_with fail
  go_region
  go_wp2_with fail
  refine bodyPost_ret (v := .agg #[.int .i64 q1, .int .i64 q2]) (by simp only [results, Tryd.results59]; go_simp) rfl ⟨rfl, ?_⟩
  (repeat' (first | exact Below.refl _ _ | assumption | refine Below.setCell ?_ ?_ _ | refine below_drewN ?_ _ | refine Below.drew ?_ | refine Below.alloc ?_ ?_ _ | (with_reducible refine Below.trans ?_ (Below.mono hb ?_)) | (with_reducible refine Below.trans ?_ (Below.mono hb1 ?_)) | (with_reducible refine Below.trans ?_ (Below.mono hb2 ?_)) | (with_reducible refine Below.trans ?_ (Below.mono hb3 ?_)) | (with_reducible refine Below.trans ?_ (Below.mono hb4 ?_)) | (with_reducible refine Below.trans ?_ (Below.mono hb5 ?_)) | (with_reducible refine Below.trans ?_ (Below.mono hb6 ?_)) | omega | (simp; done) | (simp; omega)))

theorem outside_any (n lo hi : Int) (w : World) :
    Calls Tryd.prog 78 #[.int .i64 n, .int .i64 lo, .int .i64 hi] w (fun e w' => e = .returned (.bool (decide (n < lo) || decide (hi < n))) ∧ w = w') := by
  by_cases h : n < lo
  · go_enter Tryd.func78, Tryd.ntmps78
    go_wp2
    go_ret
    exact ⟨by simp [h], rfl⟩
  · have h' : decide (n < lo) = false := by simpa using h
    go_enter Tryd.func78, Tryd.ntmps78
    go_wp2
    go_ret
    exact ⟨by simp, rfl⟩

/-- A number is within the bounds: Outside says no. -/
theorem outside_no (n lo hi : Int) (w : World) (h1 : lo ≤ n) (h2 : n ≤ hi) :
    Calls Tryd.prog 78 #[.int .i64 n, .int .i64 lo, .int .i64 hi] w (fun e w' => e = .returned (.bool false) ∧ w = w') :=
  (outside_any n lo hi w).mono fun e w' ⟨h, k⟩ => ⟨by rw [h, decide_eq_false (by omega), decide_eq_false (by omega)]; rfl, k⟩
theorem outside_yes (n lo hi : Int) (w : World) (h : n < lo ∨ hi < n) :
    Calls Tryd.prog 78 #[.int .i64 n, .int .i64 lo, .int .i64 hi] w (fun e w' => e = .returned (.bool true) ∧ w = w') :=
  (outside_any n lo hi w).mono fun e w' ⟨h', k⟩ => ⟨by rw [h']; rcases h with h | h <;> simp [h], k⟩

theorem less_any (a b c d : Int) (w : World) (h1 : -9223372036854775808 ≤ a * d) (h2 : a * d ≤ 9223372036854775807) (h3 : -9223372036854775808 ≤ c * b) (h4 : c * b ≤ 9223372036854775807) :
    Calls Tryd.prog 64 #[.agg #[.int .i64 a, .int .i64 b], .agg #[.int .i64 c, .int .i64 d]] w (Gives (.bool (decide (a * d < c * b))) w) := by
  go_enter Tryd.func64, Tryd.ntmps64
  go_wp2_with fail
  go_ret
  exact ⟨rfl, by (repeat' (first | exact Below.refl _ _ | assumption | refine Below.setCell ?_ ?_ _ | refine below_drewN ?_ _ | refine Below.drew ?_ | refine Below.alloc ?_ ?_ _ | (with_reducible refine Below.trans ?_ (Below.mono hb ?_)) | (with_reducible refine Below.trans ?_ (Below.mono hb1 ?_)) | (with_reducible refine Below.trans ?_ (Below.mono hb2 ?_)) | (with_reducible refine Below.trans ?_ (Below.mono hb3 ?_)) | (with_reducible refine Below.trans ?_ (Below.mono hb4 ?_)) | (with_reducible refine Below.trans ?_ (Below.mono hb5 ?_)) | (with_reducible refine Below.trans ?_ (Below.mono hb6 ?_)) | omega | (simp; done) | (simp; omega)))⟩

theorem plus_any (a b c d : Int) (w : World) (h1 : 0 ≤ a * d) (h2 : 0 ≤ c * b) (h3 : a * d + c * b ≤ 9223372036854775807) (h4 : 1 ≤ b * d) (h5 : b * d ≤ 9223372036854775807) :
    Calls Tryd.prog 61 #[.agg #[.int .i64 a, .int .i64 b], .agg #[.int .i64 c, .int .i64 d]] w (Gives (low (a * d + c * b) (b * d)) w) := by
  go_enter Tryd.func61, Tryd.ntmps61
  go_wp2_with fail
  refine (lowest_any _ _ _ (by omega) (by omega) (by omega)).mono ?_
  rintro e w' ⟨rfl, hb⟩
  obtain ⟨q1, q2, hq⟩ : ∃ q1 q2 : Int, low (a * d + c * b) (b * d) = .agg #[.int .i64 q1, .int .i64 q2] := ⟨_, _, rfl⟩
  have Hq := Lib.hid hq
  rw [hq]
  clear hq
  obtain ⟨hc, hf⟩ := bcell hb
  go_wp2_with fail
  refine bodyPost_ret (v := .agg #[.int .i64 q1, .int .i64 q2]) (by simp only [results, Tryd.results61]; go_simp) rfl ⟨by rw [Hq.out], ?_⟩
  (repeat' (first | exact Below.refl _ _ | assumption | refine Below.setCell ?_ ?_ _ | refine below_drewN ?_ _ | refine Below.drew ?_ | refine Below.alloc ?_ ?_ _ | (with_reducible refine Below.trans ?_ (Below.mono hb ?_)) | (with_reducible refine Below.trans ?_ (Below.mono hb1 ?_)) | (with_reducible refine Below.trans ?_ (Below.mono hb2 ?_)) | (with_reducible refine Below.trans ?_ (Below.mono hb3 ?_)) | (with_reducible refine Below.trans ?_ (Below.mono hb4 ?_)) | (with_reducible refine Below.trans ?_ (Below.mono hb5 ?_)) | (with_reducible refine Below.trans ?_ (Below.mono hb6 ?_)) | omega | (simp; done) | (simp; omega)))

/-- A fraction that can be added and compared. -/
def rightB (p q : Int) : Bool := decide (1 ≤ q) && decide (q ≤ 1000000000) && decide (0 ≤ p) && decide (p ≤ 1000000000) && decide (Int.gcd p q = 1)
/-- The number of the error of a fraction: 0 or 3. -/
def rightE (p q : Int) : Int := if rightB p q then 0 else 3

theorem rightB_iff (p q : Int) : rightB p q = true ↔ (1 ≤ q ∧ q ≤ 1000000000 ∧ 0 ≤ p ∧ p ≤ 1000000000 ∧ Int.gcd p q = 1) := by
  simp only [rightB, Bool.and_eq_true, decide_eq_true_eq]; omega
theorem rightE_0 (p q : Int) (h : rightB p q = true) : rightE p q = 0 := by simp [rightE, h]
theorem rightE_3 (p q : Int) (h : ¬ (1 ≤ q ∧ q ≤ 1000000000 ∧ 0 ≤ p ∧ p ≤ 1000000000 ∧ Int.gcd p q = 1)) : rightE p q = 3 := by
  rw [← rightB_iff] at h; simp [rightE, h]

set_option maxHeartbeats 1000000 in
theorem fractionFault_any (p q : Int) (w : World) : 
    Calls Tryd.prog 68 #[.agg #[.int .i64 p, .int .i64 q]] w (Gives (.int .i64 (rightE p q)) w) := by
  by_cases hq : 1 ≤ q ∧ q ≤ 1000000000
  · obtain ⟨hq1, hq2⟩ := hq
    by_cases hp : 0 ≤ p ∧ p ≤ 1000000000
    · obtain ⟨hp1, hp2⟩ := hp
      go_enter Tryd.func68, Tryd.ntmps68
      go_wp2_with (first | (go_at_call 78; refine (outside_no _ _ _ _ (by omega) (by omega)).mono ?_; rintro e w' ⟨rfl, rfl⟩) | (go_at_call 67; refine (gcd_any _ _ _ (by omega) (by omega)).mono ?_; rintro e w' ⟨rfl, n, rfl⟩))
      · have h : (((Int.gcd p q : Nat) : Int) != 1) = true := by assumption
        go_ret
        exact ⟨ret_int (rightE_3 p q (by simp at h; omega)).symm, by (repeat' (first | exact Below.refl _ _ | assumption | refine Below.setCell ?_ ?_ _ | refine below_drewN ?_ _ | refine Below.drew ?_ | refine Below.alloc ?_ ?_ _ | (with_reducible refine Below.trans ?_ (Below.mono hb ?_)) | (with_reducible refine Below.trans ?_ (Below.mono hb1 ?_)) | (with_reducible refine Below.trans ?_ (Below.mono hb2 ?_)) | (with_reducible refine Below.trans ?_ (Below.mono hb3 ?_)) | (with_reducible refine Below.trans ?_ (Below.mono hb4 ?_)) | (with_reducible refine Below.trans ?_ (Below.mono hb5 ?_)) | (with_reducible refine Below.trans ?_ (Below.mono hb6 ?_)) | omega | (simp; done) | (simp; omega)))⟩
      · have h : (((Int.gcd p q : Nat) : Int) != 1) = false := by assumption
        go_ret
        exact ⟨ret_int (rightE_0 p q ((rightB_iff p q).2 (by simp at h; omega))).symm, by (repeat' (first | exact Below.refl _ _ | assumption | refine Below.setCell ?_ ?_ _ | refine below_drewN ?_ _ | refine Below.drew ?_ | refine Below.alloc ?_ ?_ _ | (with_reducible refine Below.trans ?_ (Below.mono hb ?_)) | (with_reducible refine Below.trans ?_ (Below.mono hb1 ?_)) | (with_reducible refine Below.trans ?_ (Below.mono hb2 ?_)) | (with_reducible refine Below.trans ?_ (Below.mono hb3 ?_)) | (with_reducible refine Below.trans ?_ (Below.mono hb4 ?_)) | (with_reducible refine Below.trans ?_ (Below.mono hb5 ?_)) | (with_reducible refine Below.trans ?_ (Below.mono hb6 ?_)) | omega | (simp; done) | (simp; omega)))⟩
    · have hz := rightE_3 p q (by omega)
      rw [hz]
      clear hz
      go_enter Tryd.func68, Tryd.ntmps68
      go_wp2_with fail
      refine (outside_no _ _ _ _ (by omega) (by omega)).mono ?_
      rintro e w' ⟨rfl, rfl⟩
      go_wp2_with fail
      refine (outside_yes _ _ _ _ (by omega)).mono ?_
      rintro e w' ⟨rfl, rfl⟩
      go_wp2_with fail
      go_ret
      exact ⟨rfl, by (repeat' (first | exact Below.refl _ _ | assumption | refine Below.setCell ?_ ?_ _ | refine below_drewN ?_ _ | refine Below.drew ?_ | refine Below.alloc ?_ ?_ _ | (with_reducible refine Below.trans ?_ (Below.mono hb ?_)) | (with_reducible refine Below.trans ?_ (Below.mono hb1 ?_)) | (with_reducible refine Below.trans ?_ (Below.mono hb2 ?_)) | (with_reducible refine Below.trans ?_ (Below.mono hb3 ?_)) | (with_reducible refine Below.trans ?_ (Below.mono hb4 ?_)) | (with_reducible refine Below.trans ?_ (Below.mono hb5 ?_)) | (with_reducible refine Below.trans ?_ (Below.mono hb6 ?_)) | omega | (simp; done) | (simp; omega)))⟩
  · have hz := rightE_3 p q (by omega)
    rw [hz]
    clear hz
    go_enter Tryd.func68, Tryd.ntmps68
    go_wp2_with fail
    refine (outside_yes _ _ _ _ (by omega)).mono ?_
    rintro e w' ⟨rfl, rfl⟩
    go_wp2_with fail
    go_ret
    exact ⟨rfl, by (repeat' (first | exact Below.refl _ _ | assumption | refine Below.setCell ?_ ?_ _ | refine below_drewN ?_ _ | refine Below.drew ?_ | refine Below.alloc ?_ ?_ _ | (with_reducible refine Below.trans ?_ (Below.mono hb ?_)) | (with_reducible refine Below.trans ?_ (Below.mono hb1 ?_)) | (with_reducible refine Below.trans ?_ (Below.mono hb2 ?_)) | (with_reducible refine Below.trans ?_ (Below.mono hb3 ?_)) | (with_reducible refine Below.trans ?_ (Below.mono hb4 ?_)) | (with_reducible refine Below.trans ?_ (Below.mono hb5 ?_)) | (with_reducible refine Below.trans ?_ (Below.mono hb6 ?_)) | omega | (simp; done) | (simp; omega)))⟩

theorem fractionFault_ok (p q : Int) (w : World) (h : rightB p q = true) : 
    Calls Tryd.prog 68 #[.agg #[.int .i64 p, .int .i64 q]] w (Gives (.int .i64 0) w) := by
  have := fractionFault_any p q w; rwa [rightE_0 p q h] at this
theorem fractionFault_bad (p q : Int) (w : World) (h : rightB p q = false) : 
    Calls Tryd.prog 68 #[.agg #[.int .i64 p, .int .i64 q]] w (Gives (.int .i64 3) w) := by
  have := fractionFault_any p q w; rwa [show rightE p q = 3 by simp [rightE, h]] at this

/-- The error of two fractions. -/
def bothE (p q r t : Int) : Int := if rightB p q && rightB r t then 0 else 3

set_option maxHeartbeats 2000000 in
theorem fractionsFault_any (p q r t : Int) (b : Nat) (w : World) (hb0 : b < w.heap.size)
    (h0 : w.cell? ⟨b, 0, none⟩ = some (.int .i64 p)) (h1 : w.cell? ⟨b, 1, none⟩ = some (.int .i64 q)) (h2 : w.cell? ⟨b, 2, none⟩ = some (.int .i64 r)) (h3 : w.cell? ⟨b, 3, none⟩ = some (.int .i64 t)) : 
    Calls Tryd.prog 60 #[.slice (some ⟨b, 0, none⟩) 2 2] w (Gives (.int .i64 (bothE p q r t)) w) := by
  cases hr : rightB p q
  · have hE : bothE p q r t = 3 := by simp [bothE, hr]
    rw [hE]
    clear hE
    have Hr := Lib.hid hr
    clear hr
    go_enter Tryd.func60, Tryd.ntmps60
    go_wp2_with fail
    refine wp_loop_rounds 3 ?_
    rw [rounds_succ]
    go_wp2_with fail
    refine (fractionFault_bad _ _ _ Hr.out).mono ?_
    rintro e w1 ⟨rfl, hb⟩
    go_wp2_with fail
    go_ret
    exact ⟨rfl, by (repeat' (first | exact Below.refl _ _ | assumption | refine Below.setCell ?_ ?_ _ | refine below_drewN ?_ _ | refine Below.drew ?_ | refine Below.alloc ?_ ?_ _ | (with_reducible refine Below.trans ?_ (Below.mono hb ?_)) | (with_reducible refine Below.trans ?_ (Below.mono hb1 ?_)) | (with_reducible refine Below.trans ?_ (Below.mono hb2 ?_)) | (with_reducible refine Below.trans ?_ (Below.mono hb3 ?_)) | (with_reducible refine Below.trans ?_ (Below.mono hb4 ?_)) | (with_reducible refine Below.trans ?_ (Below.mono hb5 ?_)) | (with_reducible refine Below.trans ?_ (Below.mono hb6 ?_)) | omega | (simp; done) | (simp; omega)))⟩
  · cases hr2 : rightB r t
    all_goals
      have hE : bothE p q r t = if rightB r t then 0 else 3 := by simp [bothE, hr]
      rw [hr2] at hE
      simp only [Bool.false_eq_true, if_false, if_true] at hE
      rw [hE]
      clear hE
      have Hr := Lib.hid hr
      have Hr2 := Lib.hid hr2
      clear hr hr2
      go_enter Tryd.func60, Tryd.ntmps60
      go_wp2_with fail
      refine wp_loop_rounds 3 ?_
      rw [rounds_succ]
      go_wp2_with fail
      refine (fractionFault_ok _ _ _ Hr.out).mono ?_
      rintro e w1 ⟨rfl, hb⟩
      obtain ⟨hc, hf⟩ := bcell hb
      have hbw : Below w.heap.size w w1 := by (repeat' (first | exact Below.refl _ _ | assumption | refine Below.setCell ?_ ?_ _ | refine below_drewN ?_ _ | refine Below.drew ?_ | refine Below.alloc ?_ ?_ _ | (with_reducible refine Below.trans ?_ (Below.mono hb ?_)) | (with_reducible refine Below.trans ?_ (Below.mono hb1 ?_)) | (with_reducible refine Below.trans ?_ (Below.mono hb2 ?_)) | (with_reducible refine Below.trans ?_ (Below.mono hb3 ?_)) | (with_reducible refine Below.trans ?_ (Below.mono hb4 ?_)) | (with_reducible refine Below.trans ?_ (Below.mono hb5 ?_)) | (with_reducible refine Below.trans ?_ (Below.mono hb6 ?_)) | omega | (simp; done) | (simp; omega)))
      have hz := hb.size
      simp at hz
      have g2 := cell_later hbw h2
      have g3 := cell_later hbw h3
      go_wp2_with fail
      rw [rounds_succ]
      go_wp2_with fail
      first | refine (fractionFault_ok _ _ _ Hr2.out).mono ?_ | refine (fractionFault_bad _ _ _ Hr2.out).mono ?_
      rintro e w2 ⟨rfl, hb2⟩
      go_wp2_with fail
      try (rw [rounds_succ]; go_wp2_with fail)
      go_ret
      exact ⟨rfl, by (repeat' (first | exact Below.refl _ _ | assumption | refine Below.setCell ?_ ?_ _ | refine below_drewN ?_ _ | refine Below.drew ?_ | refine Below.alloc ?_ ?_ _ | (with_reducible refine Below.trans ?_ (Below.mono hb ?_)) | (with_reducible refine Below.trans ?_ (Below.mono hb1 ?_)) | (with_reducible refine Below.trans ?_ (Below.mono hb2 ?_)) | (with_reducible refine Below.trans ?_ (Below.mono hb3 ?_)) | (with_reducible refine Below.trans ?_ (Below.mono hb4 ?_)) | (with_reducible refine Below.trans ?_ (Below.mono hb5 ?_)) | (with_reducible refine Below.trans ?_ (Below.mono hb6 ?_)) | omega | (simp; done) | (simp; omega)))⟩


/-- The result of Add: the fraction and the error. -/
def addV (p q r t : Int) : Value :=
  if rightB p q && rightB r t then
    if lowN (p * t + r * q) (q * t) > 1000000000 ∨ lowD (p * t + r * q) (q * t) > 1000000000 then .tuple #[.agg #[.int .i64 0, .int .i64 0], .int .i64 2]
    else .tuple #[low (p * t + r * q) (q * t), .int .i64 0]
  else .tuple #[.agg #[.int .i64 0, .int .i64 0], .int .i64 3]

theorem mul_bd (x y : Int) (hx : 0 ≤ x) (hx2 : x ≤ 1000000000) (hy : 0 ≤ y) (hy2 : y ≤ 1000000000) : 0 ≤ x * y ∧ x * y ≤ 1000000000000000000 :=
  ⟨Int.mul_nonneg hx hy, Int.le_trans (Int.mul_le_mul hx2 hy2 hy (by omega)) (by omega)⟩
theorem mul_pos (x y : Int) (hx : 1 ≤ x) (hy : 1 ≤ y) : 1 ≤ x * y := by
  have := Int.mul_le_mul hx hy (by omega) (by omega); omega

set_option maxHeartbeats 2000000 in
theorem add_any (p q r t : Int) (w : World) :
    Calls Tryd.prog 45 #[.agg #[.int .i64 p, .int .i64 q], .agg #[.int .i64 r, .int .i64 t]] w (Gives (addV p q r t) w) := by
  cases hr : rightB p q && rightB r t
  · have hE : bothE p q r t = 3 := by simp [bothE, hr]
    have hV : addV p q r t = .tuple #[.agg #[.int .i64 0, .int .i64 0], .int .i64 3] := by simp [addV, hr]
    rw [hV]
    have HE := Lib.hid hE
    clear hE hV hr
    go_enter Tryd.func45, Tryd.ntmps45
    go_wp2_with fail
    refine (fractionsFault_any p q r t _ _ ?_ ?_ ?_ ?_ ?_).mono ?_; iterate 5 (· first | (simp; done) | go_simp)
    rintro e w1 ⟨rfl, hb⟩
    rw [HE.out]
    obtain ⟨hc, hf⟩ := bcell hb
    go_wp2_with fail
    refine bodyPost_ret (v := .tuple #[.agg #[.int .i64 0, .int .i64 0], .int .i64 3]) (by simp only [results, Tryd.results45]; go_simp) rfl ⟨rfl, ?_⟩
    (repeat' (first | exact Below.refl _ _ | assumption | refine Below.setCell ?_ ?_ _ | refine below_drewN ?_ _ | refine Below.drew ?_ | refine Below.alloc ?_ ?_ _ | (with_reducible refine Below.trans ?_ (Below.mono hb ?_)) | (with_reducible refine Below.trans ?_ (Below.mono hb1 ?_)) | (with_reducible refine Below.trans ?_ (Below.mono hb2 ?_)) | (with_reducible refine Below.trans ?_ (Below.mono hb3 ?_)) | (with_reducible refine Below.trans ?_ (Below.mono hb4 ?_)) | (with_reducible refine Below.trans ?_ (Below.mono hb5 ?_)) | (with_reducible refine Below.trans ?_ (Below.mono hb6 ?_)) | omega | (simp; done) | (simp; omega)))
  · have hE : bothE p q r t = 0 := by simp [bothE, hr]
    obtain ⟨hr1, hr2⟩ := Bool.and_eq_true_iff.1 hr
    obtain ⟨a1, a2, a3, a4, _⟩ := (rightB_iff _ _).1 hr1
    obtain ⟨b1, b2, b3, b4, _⟩ := (rightB_iff _ _).1 hr2
    obtain ⟨c1, c2⟩ := mul_bd p t a3 a4 (by omega) b2
    obtain ⟨d1, d2⟩ := mul_bd r q b3 b4 (by omega) a2
    obtain ⟨e1, e2⟩ := mul_bd q t (by omega) a2 (by omega) b2
    have e3 := mul_pos q t a1 b1
    have hl := ediv_abs (p * t + r * q) _ (gcd_pos (p * t + r * q) (q * t) (by omega))
    have hm := ediv_abs (q * t) _ (gcd_pos (p * t + r * q) (q * t) (by omega))
    have HP := Lib.hid (fun w => plus_any p q r t w c1 d1 (by omega) e3 (by omega))
    have hV : addV p q r t = if lowN (p * t + r * q) (q * t) > 1000000000 ∨ lowD (p * t + r * q) (q * t) > 1000000000 then .tuple #[.agg #[.int .i64 0, .int .i64 0], .int .i64 2]
      else .tuple #[.agg #[.int .i64 (lowN (p * t + r * q) (q * t)), .int .i64 (lowD (p * t + r * q) (q * t))], .int .i64 0] := by simp [addV, hr, low]
    rw [hV]
    clear hV hr hr1 hr2
    unfold low at HP
    change (lowN (p * t + r * q) (q * t)).natAbs ≤ _ at hl
    change (lowD (p * t + r * q) (q * t)).natAbs ≤ _ at hm
    generalize lowN (p * t + r * q) (q * t) = q1 at *
    generalize lowD (p * t + r * q) (q * t) = q2 at *
    have HE := Lib.hid hE
    clear hE
    by_cases hbig : q1 > 1000000000 ∨ q2 > 1000000000
    · rw [if_pos hbig]
      go_enter Tryd.func45, Tryd.ntmps45
      go_wp2_with fail
      refine (fractionsFault_any p q r t _ _ ?_ ?_ ?_ ?_ ?_).mono ?_; iterate 5 (· first | (simp; done) | go_simp)
      rintro e w1 ⟨rfl, hb⟩
      rw [HE.out]
      obtain ⟨hc, hf⟩ := bcell hb
      have hz := hb.size
      simp at hz
      go_wp2_with fail
      refine (HP.out _).mono ?_
      rintro e w2 ⟨rfl, hb2⟩
      obtain ⟨hc2, hf2⟩ := bcell hb2
      have hz2 := hb2.size
      have sz0_w1 : w.heap.size < w1.heap.size := (by omega); have sz1_w1 : w.heap.size + 1 < w1.heap.size := (by omega); have sz2_w1 : w.heap.size + 1 + 1 < w1.heap.size := (by omega); have sz3_w1 : w.heap.size + 1 + 1 + 1 < w1.heap.size := (by omega)
      have sz0_w2 : w.heap.size < w2.heap.size := (by omega); have sz1_w2 : w.heap.size + 1 < w2.heap.size := (by omega); have sz2_w2 : w.heap.size + 1 + 1 < w2.heap.size := (by omega); have sz3_w2 : w.heap.size + 1 + 1 + 1 < w2.heap.size := (by omega)
      by_cases hb1 : 1000000000 < q1
      · go_wp2_with fail
        refine bodyPost_ret (v := .tuple #[.agg #[.int .i64 0, .int .i64 0], .int .i64 2]) (by simp only [results, Tryd.results45]; go_simp) rfl ⟨rfl, ?_⟩
        (repeat' (first | exact Below.refl _ _ | assumption | refine Below.setCell ?_ ?_ _ | refine below_drewN ?_ _ | refine Below.drew ?_ | refine Below.alloc ?_ ?_ _ | (with_reducible refine Below.trans ?_ (Below.mono hb ?_)) | (with_reducible refine Below.trans ?_ (Below.mono hb1 ?_)) | (with_reducible refine Below.trans ?_ (Below.mono hb2 ?_)) | (with_reducible refine Below.trans ?_ (Below.mono hb3 ?_)) | (with_reducible refine Below.trans ?_ (Below.mono hb4 ?_)) | (with_reducible refine Below.trans ?_ (Below.mono hb5 ?_)) | (with_reducible refine Below.trans ?_ (Below.mono hb6 ?_)) | omega | (simp; done) | (simp; omega)))
      · have hd1 : decide (1000000000 < q1) = false := by simpa using hb1
        have hd2 : 1000000000 < q2 := by omega
        go_wp2_with fail
        refine bodyPost_ret (v := .tuple #[.agg #[.int .i64 0, .int .i64 0], .int .i64 2]) (by simp only [results, Tryd.results45]; go_simp) rfl ⟨rfl, ?_⟩
        (repeat' (first | exact Below.refl _ _ | assumption | refine Below.setCell ?_ ?_ _ | refine below_drewN ?_ _ | refine Below.drew ?_ | refine Below.alloc ?_ ?_ _ | (with_reducible refine Below.trans ?_ (Below.mono hb ?_)) | (with_reducible refine Below.trans ?_ (Below.mono hb1 ?_)) | (with_reducible refine Below.trans ?_ (Below.mono hb2 ?_)) | (with_reducible refine Below.trans ?_ (Below.mono hb3 ?_)) | (with_reducible refine Below.trans ?_ (Below.mono hb4 ?_)) | (with_reducible refine Below.trans ?_ (Below.mono hb5 ?_)) | (with_reducible refine Below.trans ?_ (Below.mono hb6 ?_)) | omega | (simp; done) | (simp; omega)))
    · rw [if_neg hbig]
      have hd1 : decide (1000000000 < q1) = false := by simp; omega
      have hd2 : decide (1000000000 < q2) = false := by simp; omega
      clear hbig
      go_enter Tryd.func45, Tryd.ntmps45
      go_wp2_with fail
      refine (fractionsFault_any p q r t _ _ ?_ ?_ ?_ ?_ ?_).mono ?_; iterate 5 (· first | (simp; done) | go_simp)
      rintro e w1 ⟨rfl, hb⟩
      rw [HE.out]
      obtain ⟨hc, hf⟩ := bcell hb
      have hz := hb.size
      simp at hz
      go_wp2_with fail
      refine (HP.out _).mono ?_
      rintro e w2 ⟨rfl, hb2⟩
      obtain ⟨hc2, hf2⟩ := bcell hb2
      have hz2 := hb2.size
      have sz0_w1 : w.heap.size < w1.heap.size := (by omega); have sz1_w1 : w.heap.size + 1 < w1.heap.size := (by omega); have sz2_w1 : w.heap.size + 1 + 1 < w1.heap.size := (by omega); have sz3_w1 : w.heap.size + 1 + 1 + 1 < w1.heap.size := (by omega)
      have sz0_w2 : w.heap.size < w2.heap.size := (by omega); have sz1_w2 : w.heap.size + 1 < w2.heap.size := (by omega); have sz2_w2 : w.heap.size + 1 + 1 < w2.heap.size := (by omega); have sz3_w2 : w.heap.size + 1 + 1 + 1 < w2.heap.size := (by omega)
      go_wp2_with fail
      refine bodyPost_ret (v := .tuple #[.agg #[.int .i64 q1, .int .i64 q2], .int .i64 0]) (by simp only [results, Tryd.results45]; go_simp) rfl ⟨rfl, ?_⟩
      (repeat' (first | exact Below.refl _ _ | assumption | refine Below.setCell ?_ ?_ _ | refine below_drewN ?_ _ | refine Below.drew ?_ | refine Below.alloc ?_ ?_ _ | (with_reducible refine Below.trans ?_ (Below.mono hb ?_)) | (with_reducible refine Below.trans ?_ (Below.mono hb1 ?_)) | (with_reducible refine Below.trans ?_ (Below.mono hb2 ?_)) | (with_reducible refine Below.trans ?_ (Below.mono hb3 ?_)) | (with_reducible refine Below.trans ?_ (Below.mono hb4 ?_)) | (with_reducible refine Below.trans ?_ (Below.mono hb5 ?_)) | (with_reducible refine Below.trans ?_ (Below.mono hb6 ?_)) | omega | (simp; done) | (simp; omega)))
end Go.Proofs.YtfpoaggkjhcdnaaDoor
