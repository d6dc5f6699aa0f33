/- Fractions: sums and comparisons of the reference, the comparison of the program. -/
import Derived.Test.YtfpoaggkjhcdnaaFrac2
namespace Go.Proofs.Ytfpoaggkjhcdnaa
open Go.RowKit
set_option linter.unusedVariables false

theorem fractionRight_yes (p q : Int) (w : World) (h : rightB p q = true) :
    Calls Try.prog 8 #[.agg #[.int .i64 p, .int .i64 q]] w (Gives (.bool true) w) := by
  have := fractionRight_any p q w; rwa [h] at this
theorem fractionRight_no (p q : Int) (w : World) (h : rightB p q = false) :
    Calls Try.prog 8 #[.agg #[.int .i64 p, .int .i64 q]] w (Gives (.bool false) w) := by
  have := fractionRight_any p q w; rwa [h] at this

set_option maxHeartbeats 2000000 in
theorem addOf_any (p q r t : Int) (w : World) :
    Calls Try.prog 6 #[.agg #[.int .i64 p, .int .i64 q], .agg #[.int .i64 r, .int .i64 t]] w (Gives (addV p q r t) w) := by
  cases hr : rightB p q && rightB r t
  · have hV : addV p q r t = .tuple #[.agg #[.int .i64 0, .int .i64 0], .int .i64 3] := by simp [addV, hr]
    rw [hV]
    clear hV
    cases hr1 : rightB p q
    · have Hr1 := Lib.hid hr1
      clear hr hr1
      go_enter Try.func6, Try.ntmps6
      go_wp2_with fail
      refine (fractionRight_no _ _ _ Hr1.out).mono ?_
      rintro e w1 ⟨rfl, hb⟩
      obtain ⟨hc, hf⟩ := bcell hb
      go_wp2_with fail
      refine bodyPost_ret (v := .tuple #[.agg #[.int .i64 0, .int .i64 0], .int .i64 3]) (by simp only [results, Try.results6]; go_simp) rfl ⟨rfl, ?_⟩
      (repeat' (first | exact Below.refl _ _ | assumption | refine Below.setCell ?_ ?_ _ | refine below_drewN ?_ _ | refine Below.drew ?_ | refine Below.alloc ?_ ?_ _ | (with_reducible refine Below.trans ?_ (Below.mono hb ?_)) | (with_reducible refine Below.trans ?_ (Below.mono hb1 ?_)) | (with_reducible refine Below.trans ?_ (Below.mono hb2 ?_)) | (with_reducible refine Below.trans ?_ (Below.mono hb3 ?_)) | (with_reducible refine Below.trans ?_ (Below.mono hb4 ?_)) | (with_reducible refine Below.trans ?_ (Below.mono hb5 ?_)) | (with_reducible refine Below.trans ?_ (Below.mono hb6 ?_)) | omega | (simp; done) | (simp; omega)))
    · have hr2 : rightB r t = false := by simpa [hr1] using hr
      have Hr1 := Lib.hid hr1
      have Hr2 := Lib.hid hr2
      clear hr hr1 hr2
      go_enter Try.func6, Try.ntmps6
      go_wp2_with fail
      refine (fractionRight_yes _ _ _ Hr1.out).mono ?_
      rintro e w1 ⟨rfl, hb⟩
      obtain ⟨hc, hf⟩ := bcell hb
      have hz := hb.size
      simp at hz
      have sz0_w1 : w.heap.size < w1.heap.size := (by omega); have sz1_w1 : w.heap.size + 1 < w1.heap.size := (by omega); have sz2_w1 : w.heap.size + 1 + 1 < w1.heap.size := (by omega)
      go_wp2_with fail
      refine (fractionRight_no _ _ _ Hr2.out).mono ?_
      rintro e w2 ⟨rfl, hb2⟩
      obtain ⟨hc2, hf2⟩ := bcell hb2
      have hz2 := hb2.size
      have sz0_w2 : w.heap.size < w2.heap.size := (by omega); have sz1_w2 : w.heap.size + 1 < w2.heap.size := (by omega); have sz2_w2 : w.heap.size + 1 + 1 < w2.heap.size := (by omega)
      go_wp2_with fail
      refine bodyPost_ret (v := .tuple #[.agg #[.int .i64 0, .int .i64 0], .int .i64 3]) (by simp only [results, Try.results6]; go_simp) rfl ⟨rfl, ?_⟩
      (repeat' (first | exact Below.refl _ _ | assumption | refine Below.setCell ?_ ?_ _ | refine below_drewN ?_ _ | refine Below.drew ?_ | refine Below.alloc ?_ ?_ _ | (with_reducible refine Below.trans ?_ (Below.mono hb ?_)) | (with_reducible refine Below.trans ?_ (Below.mono hb1 ?_)) | (with_reducible refine Below.trans ?_ (Below.mono hb2 ?_)) | (with_reducible refine Below.trans ?_ (Below.mono hb3 ?_)) | (with_reducible refine Below.trans ?_ (Below.mono hb4 ?_)) | (with_reducible refine Below.trans ?_ (Below.mono hb5 ?_)) | (with_reducible refine Below.trans ?_ (Below.mono hb6 ?_)) | omega | (simp; done) | (simp; omega)))
  · obtain ⟨hr1, hr2⟩ := Bool.and_eq_true_iff.1 hr
    obtain ⟨a1, a2, a3, a4, _⟩ := (rightB_iff _ _).1 hr1
    obtain ⟨b1, b2, b3, b4, _⟩ := (rightB_iff _ _).1 hr2
    obtain ⟨c1, c2⟩ := mul_bd p t a3 a4 (by omega) b2
    obtain ⟨d1, d2⟩ := mul_bd r q b3 b4 (by omega) a2
    obtain ⟨e1, e2⟩ := mul_bd q t (by omega) a2 (by omega) b2
    have e3 := mul_pos q t a1 b1
    have hl := ediv_abs (p * t + r * q) _ (gcd_pos (p * t + r * q) (q * t) (by omega))
    have hm := ediv_abs (q * t) _ (gcd_pos (p * t + r * q) (q * t) (by omega))
    have HP := Lib.hid (fun w => part_any (p * t + r * q) (q * t) w (by omega) (by omega) (by omega))
    have hV : addV p q r t = if lowN (p * t + r * q) (q * t) > 1000000000 ∨ lowD (p * t + r * q) (q * t) > 1000000000 then .tuple #[.agg #[.int .i64 0, .int .i64 0], .int .i64 2]
      else .tuple #[.agg #[.int .i64 (lowN (p * t + r * q) (q * t)), .int .i64 (lowD (p * t + r * q) (q * t))], .int .i64 0] := by simp [addV, hr, low]
    rw [hV]
    clear hV hr
    unfold low at HP
    change (lowN (p * t + r * q) (q * t)).natAbs ≤ _ at hl
    change (lowD (p * t + r * q) (q * t)).natAbs ≤ _ at hm
    generalize lowN (p * t + r * q) (q * t) = q1 at *
    generalize lowD (p * t + r * q) (q * t) = q2 at *
    have Hr1 := Lib.hid hr1
    have Hr2 := Lib.hid hr2
    clear hr1 hr2
    by_cases hbig : q1 > 1000000000 ∨ q2 > 1000000000
    · rw [if_pos hbig]
      have hd : 1000000000 < q2 ∨ (decide (1000000000 < q2) = false ∧ 1000000000 < q1) := by
        by_cases hb1 : 1000000000 < q2
        · exact .inl hb1
        · exact .inr ⟨by simpa using hb1, by omega⟩
      rcases hd with hd1 | ⟨hd1, hd2⟩
      all_goals
        clear hbig
        go_enter Try.func6, Try.ntmps6
        go_wp2_with fail
        refine (fractionRight_yes _ _ _ Hr1.out).mono ?_
        rintro e w1 ⟨rfl, hb⟩
        obtain ⟨hc, hf⟩ := bcell hb
        have hz := hb.size
        simp at hz
        have sz0_w1 : w.heap.size < w1.heap.size := (by omega); have sz1_w1 : w.heap.size + 1 < w1.heap.size := (by omega); have sz2_w1 : w.heap.size + 1 + 1 < w1.heap.size := (by omega)
        go_wp2_with fail
        refine (fractionRight_yes _ _ _ Hr2.out).mono ?_
        rintro e w2 ⟨rfl, hb2⟩
        obtain ⟨hc2, hf2⟩ := bcell hb2
        have hz2 := hb2.size
        have sz0_w2 : w.heap.size < w2.heap.size := (by omega); have sz1_w2 : w.heap.size + 1 < w2.heap.size := (by omega); have sz2_w2 : w.heap.size + 1 + 1 < w2.heap.size := (by omega)
        go_wp2_with fail
        refine (HP.out _).mono ?_
        rintro e w3 ⟨rfl, hb3⟩
        obtain ⟨hc3, hf3⟩ := bcell hb3
        have hz3 := hb3.size
        have sz0_w3 : w.heap.size < w3.heap.size := (by omega); have sz1_w3 : w.heap.size + 1 < w3.heap.size := (by omega); have sz2_w3 : w.heap.size + 1 + 1 < w3.heap.size := (by omega)
        go_wp2_with fail
        refine bodyPost_ret (v := .tuple #[.agg #[.int .i64 0, .int .i64 0], .int .i64 2]) (by simp only [results, Try.results6]; go_simp) rfl ⟨rfl, ?_⟩
        (repeat' (first | exact Below.refl _ _ | assumption | refine Below.setCell ?_ ?_ _ | refine below_drewN ?_ _ | refine Below.drew ?_ | refine Below.alloc ?_ ?_ _ | (with_reducible refine Below.trans ?_ (Below.mono hb ?_)) | (with_reducible refine Below.trans ?_ (Below.mono hb1 ?_)) | (with_reducible refine Below.trans ?_ (Below.mono hb2 ?_)) | (with_reducible refine Below.trans ?_ (Below.mono hb3 ?_)) | (with_reducible refine Below.trans ?_ (Below.mono hb4 ?_)) | (with_reducible refine Below.trans ?_ (Below.mono hb5 ?_)) | (with_reducible refine Below.trans ?_ (Below.mono hb6 ?_)) | omega | (simp; done) | (simp; omega)))
    · rw [if_neg hbig]
      have hd1 : decide (1000000000 < q1) = false := by simp; omega
      have hd2 : decide (1000000000 < q2) = false := by simp; omega
      clear hbig
      go_enter Try.func6, Try.ntmps6
      go_wp2_with fail
      refine (fractionRight_yes _ _ _ Hr1.out).mono ?_
      rintro e w1 ⟨rfl, hb⟩
      obtain ⟨hc, hf⟩ := bcell hb
      have hz := hb.size
      simp at hz
      have sz0_w1 : w.heap.size < w1.heap.size := (by omega); have sz1_w1 : w.heap.size + 1 < w1.heap.size := (by omega); have sz2_w1 : w.heap.size + 1 + 1 < w1.heap.size := (by omega)
      go_wp2_with fail
      refine (fractionRight_yes _ _ _ Hr2.out).mono ?_
      rintro e w2 ⟨rfl, hb2⟩
      obtain ⟨hc2, hf2⟩ := bcell hb2
      have hz2 := hb2.size
      have sz0_w2 : w.heap.size < w2.heap.size := (by omega); have sz1_w2 : w.heap.size + 1 < w2.heap.size := (by omega); have sz2_w2 : w.heap.size + 1 + 1 < w2.heap.size := (by omega)
      go_wp2_with fail
      refine (HP.out _).mono ?_
      rintro e w3 ⟨rfl, hb3⟩
      obtain ⟨hc3, hf3⟩ := bcell hb3
      have hz3 := hb3.size
      have sz0_w3 : w.heap.size < w3.heap.size := (by omega); have sz1_w3 : w.heap.size + 1 < w3.heap.size := (by omega); have sz2_w3 : w.heap.size + 1 + 1 < w3.heap.size := (by omega)
      go_wp2_with fail
      refine bodyPost_ret (v := .tuple #[.agg #[.int .i64 q1, .int .i64 q2], .int .i64 0]) (by simp only [results, Try.results6]; go_simp) rfl ⟨rfl, ?_⟩
      (repeat' (first | exact Below.refl _ _ | assumption | refine Below.setCell ?_ ?_ _ | refine below_drewN ?_ _ | refine Below.drew ?_ | refine Below.alloc ?_ ?_ _ | (with_reducible refine Below.trans ?_ (Below.mono hb ?_)) | (with_reducible refine Below.trans ?_ (Below.mono hb1 ?_)) | (with_reducible refine Below.trans ?_ (Below.mono hb2 ?_)) | (with_reducible refine Below.trans ?_ (Below.mono hb3 ?_)) | (with_reducible refine Below.trans ?_ (Below.mono hb4 ?_)) | (with_reducible refine Below.trans ?_ (Below.mono hb5 ?_)) | (with_reducible refine Below.trans ?_ (Below.mono hb6 ?_)) | omega | (simp; done) | (simp; omega)))

/-- -1, 0 or 1. -/
def cmpZ (a b : Int) : Int := if a < b then -1 else if b < a then 1 else 0

theorem cmpCompare_any (a b : Int) (w : World) : Calls Try.prog 21 #[.int .i64 a, .int .i64 b] w (fun e w' => e = .returned (.int .i64 (cmpZ a b)) ∧ w = w') := by
  have hn1 : (a != a) = false := by simp
  have hn2 : (b != b) = false := by simp
  by_cases h1 : a < b
  · have hz : cmpZ a b = -1 := by simp [cmpZ, h1]
    rw [hz]
    go_enter Try.func21, Try.ntmps21
    go_wp2
    go_ret
    exact ⟨rfl, rfl⟩
  · by_cases h2 : b < a
    · have hz : cmpZ a b = 1 := by simp [cmpZ, h1, h2]
      rw [hz]
      go_enter Try.func21, Try.ntmps21
      go_wp2
      go_ret
      exact ⟨rfl, rfl⟩
    · have hz : cmpZ a b = 0 := by simp [cmpZ, h1, h2]
      rw [hz]
      go_enter Try.func21, Try.ntmps21
      go_wp2
      go_ret
      exact ⟨rfl, rfl⟩

theorem compareFractions_any (a b c d : Int) (w : World) (h1 : -9223372036854775808 ≤ a * d) (h2 : a * d ≤ 9223372036854775807) (h3 : -9223372036854775808 ≤ c * b) (h4 : c * b ≤ 9223372036854775807) :
    Calls Try.prog 17 #[.agg #[.int .i64 a, .int .i64 b], .agg #[.int .i64 c, .int .i64 d]] w (Gives (.int .i64 (cmpZ (a * d) (c * b))) w) := by
  go_enter Try.func17, Try.ntmps17
  go_wp2_with fail
  refine (cmpCompare_any _ _ _).mono ?_
  rintro e w1 ⟨rfl, rfl⟩
  go_wp2_with fail
  go_ret
  exact ⟨rfl, by (repeat' (first | exact Below.refl _ _ | assumption | refine Below.setCell ?_ ?_ _ | refine below_drewN ?_ _ | refine Below.drew ?_ | refine Below.alloc ?_ ?_ _ | (with_reducible refine Below.trans ?_ (Below.mono hb ?_)) | (with_reducible refine Below.trans ?_ (Below.mono hb1 ?_)) | (with_reducible refine Below.trans ?_ (Below.mono hb2 ?_)) | (with_reducible refine Below.trans ?_ (Below.mono hb3 ?_)) | (with_reducible refine Below.trans ?_ (Below.mono hb4 ?_)) | (with_reducible refine Below.trans ?_ (Below.mono hb5 ?_)) | (with_reducible refine Below.trans ?_ (Below.mono hb6 ?_)) | omega | (simp; done) | (simp; omega)))⟩

theorem comparedOf_any (a b c d : Int) (w : World) (h1 : -9223372036854775808 ≤ a * d) (h2 : a * d ≤ 9223372036854775807) (h3 : -9223372036854775808 ≤ c * b) (h4 : c * b ≤ 9223372036854775807) :
    Calls Try.prog 10 #[.agg #[.int .i64 a, .int .i64 b], .agg #[.int .i64 c, .int .i64 d]] w (Gives (.int .i64 (cmpZ (a * d) (c * b))) w) := by
  go_enter Try.func10, Try.ntmps10
  go_wp2_with fail
  refine (compareFractions_any _ _ _ _ _ h1 h2 h3 h4).mono ?_
  rintro e w1 ⟨rfl, hb⟩
  go_wp2_with fail
  go_ret
  exact ⟨rfl, by (repeat' (first | exact Below.refl _ _ | assumption | refine Below.setCell ?_ ?_ _ | refine below_drewN ?_ _ | refine Below.drew ?_ | refine Below.alloc ?_ ?_ _ | (with_reducible refine Below.trans ?_ (Below.mono hb ?_)) | (with_reducible refine Below.trans ?_ (Below.mono hb1 ?_)) | (with_reducible refine Below.trans ?_ (Below.mono hb2 ?_)) | (with_reducible refine Below.trans ?_ (Below.mono hb3 ?_)) | (with_reducible refine Below.trans ?_ (Below.mono hb4 ?_)) | (with_reducible refine Below.trans ?_ (Below.mono hb5 ?_)) | (with_reducible refine Below.trans ?_ (Below.mono hb6 ?_)) | omega | (simp; done) | (simp; omega)))⟩

/-- The result of Compare. -/
def compareV (p q r t : Int) : Value := if rightB p q && rightB r t then .tuple #[.int .i64 (cmpZ (p * t) (r * q)), .int .i64 0] else .tuple #[.int .i64 0, .int .i64 3]

theorem less_yes (a b c d : Int) (w : World) (h1 : -9223372036854775808 ≤ a * d) (h2 : a * d ≤ 9223372036854775807) (h3 : -9223372036854775808 ≤ c * b) (h4 : c * b ≤ 9223372036854775807) (h : a * d < c * b) :
    Calls Try.prog 16 #[.agg #[.int .i64 a, .int .i64 b], .agg #[.int .i64 c, .int .i64 d]] w (Gives (.bool true) w) := by
  have := less_any a b c d w h1 h2 h3 h4; rwa [decide_eq_true h] at this
theorem less_no (a b c d : Int) (w : World) (h1 : -9223372036854775808 ≤ a * d) (h2 : a * d ≤ 9223372036854775807) (h3 : -9223372036854775808 ≤ c * b) (h4 : c * b ≤ 9223372036854775807) (h : c * b ≤ a * d) :
    Calls Try.prog 16 #[.agg #[.int .i64 a, .int .i64 b], .agg #[.int .i64 c, .int .i64 d]] w (Gives (.bool false) w) := by
  have := less_any a b c d w h1 h2 h3 h4; rwa [decide_eq_false (by omega)] at this

set_option maxHeartbeats 2000000 in
theorem compare_any (p q r t : Int) (w : World) :
    Calls Try.prog 7 #[.agg #[.int .i64 p, .int .i64 q], .agg #[.int .i64 r, .int .i64 t]] w (Gives (compareV p q r t) w) := by
  cases hr : rightB p q && rightB r t
  · have hE : bothE p q r t = 3 := by simp [bothE, hr]
    have hV : compareV p q r t = .tuple #[.int .i64 0, .int .i64 3] := by simp [compareV, hr]
    rw [hV]
    have HE := Lib.hid hE
    clear hE hV hr
    go_enter Try.func7, Try.ntmps7
    go_wp2_with fail
    refine (fractionsFault_any p q r t _ _ ?_ ?_ ?_ ?_ ?_).mono ?_; iterate 5 (· first | (simp; done) | go_simp)
    rintro e w1 ⟨rfl, hb⟩
    rw [HE.out]
    go_wp2_with fail
    go_ret2
    exact ⟨rfl, by (repeat' (first | exact Below.refl _ _ | assumption | refine Below.setCell ?_ ?_ _ | refine below_drewN ?_ _ | refine Below.drew ?_ | refine Below.alloc ?_ ?_ _ | (with_reducible refine Below.trans ?_ (Below.mono hb ?_)) | (with_reducible refine Below.trans ?_ (Below.mono hb1 ?_)) | (with_reducible refine Below.trans ?_ (Below.mono hb2 ?_)) | (with_reducible refine Below.trans ?_ (Below.mono hb3 ?_)) | (with_reducible refine Below.trans ?_ (Below.mono hb4 ?_)) | (with_reducible refine Below.trans ?_ (Below.mono hb5 ?_)) | (with_reducible refine Below.trans ?_ (Below.mono hb6 ?_)) | omega | (simp; done) | (simp; omega)))⟩
  · have hE : bothE p q r t = 0 := by simp [bothE, hr]
    obtain ⟨hr1, hr2⟩ := Bool.and_eq_true_iff.1 hr
    obtain ⟨a1, a2, a3, a4, _⟩ := (rightB_iff _ _).1 hr1
    obtain ⟨b1, b2, b3, b4, _⟩ := (rightB_iff _ _).1 hr2
    obtain ⟨c1, c2⟩ := mul_bd p t a3 a4 (by omega) b2
    obtain ⟨d1, d2⟩ := mul_bd r q b3 b4 (by omega) a2
    have hV : compareV p q r t = .tuple #[.int .i64 (cmpZ (p * t) (r * q)), .int .i64 0] := by simp [compareV, hr]
    rw [hV]
    have HE := Lib.hid hE
    clear hE hV hr hr1 hr2
    by_cases h1 : p * t < r * q
    · have hz : cmpZ (p * t) (r * q) = -1 := by simp [cmpZ, h1]
      rw [hz]
      clear hz
      go_enter Try.func7, Try.ntmps7
      go_wp2_with fail
      refine (fractionsFault_any p q r t _ _ ?_ ?_ ?_ ?_ ?_).mono ?_; iterate 5 (· first | (simp; done) | go_simp)
      rintro e w1 ⟨rfl, hb⟩
      rw [HE.out]
      obtain ⟨hc, hf⟩ := bcell hb
      have hz := hb.size
      simp at hz
      have sz0_w1 : w.heap.size < w1.heap.size := (by omega); have sz1_w1 : w.heap.size + 1 < w1.heap.size := (by omega); have sz2_w1 : w.heap.size + 1 + 1 < w1.heap.size := (by omega)
      go_wp2_with fail
      refine (less_yes _ _ _ _ _ (by omega) (by omega) (by omega) (by omega) h1).mono ?_
      rintro e w2 ⟨rfl, hb2⟩
      go_wp2_with fail
      go_ret2
      exact ⟨rfl, by (repeat' (first | exact Below.refl _ _ | assumption | refine Below.setCell ?_ ?_ _ | refine below_drewN ?_ _ | refine Below.drew ?_ | refine Below.alloc ?_ ?_ _ | (with_reducible refine Below.trans ?_ (Below.mono hb ?_)) | (with_reducible refine Below.trans ?_ (Below.mono hb1 ?_)) | (with_reducible refine Below.trans ?_ (Below.mono hb2 ?_)) | (with_reducible refine Below.trans ?_ (Below.mono hb3 ?_)) | (with_reducible refine Below.trans ?_ (Below.mono hb4 ?_)) | (with_reducible refine Below.trans ?_ (Below.mono hb5 ?_)) | (with_reducible refine Below.trans ?_ (Below.mono hb6 ?_)) | omega | (simp; done) | (simp; omega)))⟩
    · have hd : (r * q < p * t ∧ cmpZ (p * t) (r * q) = 1) ∨ (p * t ≤ r * q ∧ cmpZ (p * t) (r * q) = 0) := by
        by_cases h2 : r * q < p * t
        · exact .inl ⟨h2, by simp [cmpZ, h1, h2]⟩
        · exact .inr ⟨by omega, by simp [cmpZ, h1, h2]⟩
      rcases hd with ⟨h2, hz⟩ | ⟨h2, hz⟩
      all_goals
        rw [hz]
        clear hz
        have H1 : Hid (r * q ≤ p * t) := by show r * q ≤ p * t; omega
        have H2 := Lib.hid h2
        clear h1 h2
        go_enter Try.func7, Try.ntmps7
        go_wp2_with fail
        refine (fractionsFault_any p q r t _ _ ?_ ?_ ?_ ?_ ?_).mono ?_; iterate 5 (· first | (simp; done) | go_simp)
        rintro e w1 ⟨rfl, hb⟩
        rw [HE.out]
        obtain ⟨hc, hf⟩ := bcell hb
        have hz := hb.size
        simp at hz
        have sz0_w1 : w.heap.size < w1.heap.size := (by omega); have sz1_w1 : w.heap.size + 1 < w1.heap.size := (by omega); have sz2_w1 : w.heap.size + 1 + 1 < w1.heap.size := (by omega)
        go_wp2_with fail
        refine (less_no _ _ _ _ _ (by omega) (by omega) (by omega) (by omega) H1.out).mono ?_
        rintro e w2 ⟨rfl, hb2⟩
        obtain ⟨hc2, hf2⟩ := bcell hb2
        have hz2 := hb2.size
        have sz0_w2 : w.heap.size < w2.heap.size := (by omega); have sz1_w2 : w.heap.size + 1 < w2.heap.size := (by omega); have sz2_w2 : w.heap.size + 1 + 1 < w2.heap.size := (by omega)
        go_wp2_with fail
        first | refine (less_yes _ _ _ _ _ (by omega) (by omega) (by omega) (by omega) H2.out).mono ?_ | refine (less_no _ _ _ _ _ (by omega) (by omega) (by omega) (by omega) H2.out).mono ?_
        rintro e w3 ⟨rfl, hb3⟩
        go_wp2_with fail
        go_ret2
        exact ⟨rfl, by (repeat' (first | exact Below.refl _ _ | assumption | refine Below.setCell ?_ ?_ _ | refine below_drewN ?_ _ | refine Below.drew ?_ | refine Below.alloc ?_ ?_ _ | (with_reducible refine Below.trans ?_ (Below.mono hb ?_)) | (with_reducible refine Below.trans ?_ (Below.mono hb1 ?_)) | (with_reducible refine Below.trans ?_ (Below.mono hb2 ?_)) | (with_reducible refine Below.trans ?_ (Below.mono hb3 ?_)) | (with_reducible refine Below.trans ?_ (Below.mono hb4 ?_)) | (with_reducible refine Below.trans ?_ (Below.mono hb5 ?_)) | (with_reducible refine Below.trans ?_ (Below.mono hb6 ?_)) | omega | (simp; done) | (simp; omega)))⟩

set_option maxHeartbeats 1000000 in
theorem topics_any (w : World) : Calls Try.prog 9 #[] w (Gives (.bool true) w) := by
  have HV := Lib.hid (show addV 1 2 1 6 = .tuple #[.agg #[.int .i64 2, .int .i64 3], .int .i64 0] by kernel_rfl)
  go_enter Try.func9, Try.ntmps9
  go_wp2_with fail
  refine (add_any 1 2 1 6 _).mono ?_
  rintro e w1 ⟨rfl, hb⟩
  rw [HV.out]
  have hz := hb.size
  go_wp2_with fail
  go_ret
  exact ⟨rfl, by (repeat' (first | exact Below.refl _ _ | assumption | refine Below.setCell ?_ ?_ _ | refine below_drewN ?_ _ | refine Below.drew ?_ | refine Below.alloc ?_ ?_ _ | (with_reducible refine Below.trans ?_ (Below.mono hb ?_)) | (with_reducible refine Below.trans ?_ (Below.mono hb1 ?_)) | (with_reducible refine Below.trans ?_ (Below.mono hb2 ?_)) | (with_reducible refine Below.trans ?_ (Below.mono hb3 ?_)) | (with_reducible refine Below.trans ?_ (Below.mono hb4 ?_)) | (with_reducible refine Below.trans ?_ (Below.mono hb5 ?_)) | (with_reducible refine Below.trans ?_ (Below.mono hb6 ?_)) | omega | (simp; done) | (simp; omega)))⟩
end Go.Proofs.Ytfpoaggkjhcdnaa
