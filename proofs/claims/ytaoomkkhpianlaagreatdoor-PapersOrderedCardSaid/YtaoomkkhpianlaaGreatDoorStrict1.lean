/- How strict people are: the plain laws. -/
import Derived.Test.YtaoomkkhpianlaaGreatDoorKap1
namespace Go.Proofs.YtaoomkkhpianlaaGreatDoor
open Go.RowKit Go.Sort
set_option linter.unusedVariables false
set_option linter.unusedSimpArgs false

theorem low_leZ (m n B : Int) (hn : 1 ≤ n) (h1 : -(B * n) ≤ m) (h2 : m ≤ B * n) : -(B * lowD m n) ≤ lowN m n ∧ lowN m n ≤ B * lowD m n := by
  have hc := low_cross m n hn
  have hd := (lowD_bd m n hn).1
  have e : B * lowD m n * n = (B * n) * lowD m n := by rw [Int.mul_assoc, Int.mul_comm (lowD m n) n, ← Int.mul_assoc]
  constructor
  · have : -(B * lowD m n) * n ≤ lowN m n * n := by
      rw [hc, Int.neg_mul, e, ← Int.neg_mul]
      exact Int.mul_le_mul_of_nonneg_right h1 (by omega)
    exact Int.le_of_mul_le_mul_right this (by omega)
  · have : lowN m n * n ≤ B * lowD m n * n := by
      rw [hc, e]
      exact Int.mul_le_mul_of_nonneg_right h2 (by omega)
    exact Int.le_of_mul_le_mul_right this (by omega)
/-- The sum of two fractions keeps a common denominator and a bound. -/
theorem sum_keepsZ (a b c d K A B : Int) (hb : 1 ≤ b) (hd : 1 ≤ d) (hbK : b ∣ K) (hdK : d ∣ K) (hA1 : -(A * b) ≤ a) (hA : a ≤ A * b) (hB1 : -(B * d) ≤ c) (hB : c ≤ B * d) :
    lowD (a * d + c * b) (b * d) ∣ K ∧ 1 ≤ lowD (a * d + c * b) (b * d) ∧ -((A + B) * lowD (a * d + c * b) (b * d)) ≤ lowN (a * d + c * b) (b * d) ∧ lowN (a * d + c * b) (b * d) ≤ (A + B) * lowD (a * d + c * b) (b * d) := by
  have hbd : 1 ≤ b * d := mul_pos b d hb hd
  have h1 : a * d ≤ A * b * d := Int.mul_le_mul_of_nonneg_right hA (by omega)
  have h2 : c * b ≤ B * d * b := Int.mul_le_mul_of_nonneg_right hB (by omega)
  have h3 : -(A * b) * d ≤ a * d := Int.mul_le_mul_of_nonneg_right hA1 (by omega)
  have h4 : -(B * d) * b ≤ c * b := Int.mul_le_mul_of_nonneg_right hB1 (by omega)
  rw [Int.neg_mul] at h3 h4
  have e : (A + B) * (b * d) = A * b * d + B * d * b := by rw [Int.add_mul]; simp [Int.mul_comm, Int.mul_left_comm]
  refine ⟨?_, (lowD_bd _ _ hbd).1, low_leZ _ _ _ hbd (by omega) (by omega)⟩
  obtain ⟨u, hu⟩ := hbK
  obtain ⟨v, hv⟩ := hdK
  refine lowD_dvd_of _ _ K (a * u + c * v) hbd ?_
  have e1 : a * d * K = a * u * (b * d) := by rw [hu]; simp [Int.mul_comm, Int.mul_left_comm]
  have e2 : c * b * K = c * v * (b * d) := by rw [hv]; simp [Int.mul_comm, Int.mul_left_comm]
  rw [Int.add_mul, e1, e2, ← Int.add_mul]
theorem sum1_app (a b : List Mark) : sum1 (a ++ b) = sum1 a + sum1 b := by unfold sum1; simp
/-- What the others gave. -/
theorem others_bd {ms : List Mark} (h : okScores ms) {x : Mark} (hx : x ∈ ms) : 0 ≤ sum1 ms - x.2.2 ∧ sum1 ms - x.2.2 ≤ 10 * ((ms.length : Int) - 1) := by
  obtain ⟨s, t, rfl⟩ := List.append_of_mem hx
  have hs := sums_bd (l := s) (fun y hy => h y (by simp [hy]))
  have ht := sums_bd (l := t) (fun y hy => h y (by simp [hy]))
  have e : sum1 (s ++ x :: t) = sum1 s + (x.2.2 + sum1 t) := by
    rw [sum1_app]; rfl
  rw [e, List.length_append, List.length_cons]
  omega
/-- A mark less the mean of the others. -/
def beyT (l : List Mark) (m : Mark) : Int := m.2.2 * (((ofP l m.1).length : Int) - 1) - (sum1 (ofP l m.1) - m.2.2)
def beyN (l : List Mark) (m : Mark) : Int := lowN (beyT l m) (((ofP l m.1).length : Int) - 1)
def beyD (l : List Mark) (m : Mark) : Int := lowD (beyT l m) (((ofP l m.1).length : Int) - 1)
theorem bey_bd {l : List Mark} (h : marksFault l = 0) {m : Mark} (hm : m ∈ l) (h1 : 1 < (ofP l m.1).length) :
    (beyT l m).natAbs ≤ 200 ∧ 1 ≤ beyD l m ∧ beyD l m ≤ 12 ∧ beyD l m ∣ 27720 ∧ -(10 * beyD l m) ≤ beyN l m ∧ beyN l m ≤ 10 * beyD l m := by
  have h12 := paper_few h m.1
  have hok := fault_scores h
  have hms : m ∈ ofP l m.1 := ofP_mem.2 ⟨hm, rfl⟩
  have ho : 0 ≤ sum1 (ofP l m.1) - m.2.2 ∧ sum1 (ofP l m.1) - m.2.2 ≤ 10 * (((ofP l m.1).length : Int) - 1) := others_bd (okScores_sel (f := fun x => x.1) (p := m.1) hok) hms
  have hsc := hok m hm
  have hn : 1 ≤ (((ofP l m.1).length : Int) - 1) := by omega
  have hq := mul_in (x := m.2.2) (y := ((ofP l m.1).length : Int) - 1) (X := 10) (Y := 11) (by omega) (by omega) (by omega) (by omega)
  have hq2 : m.2.2 * (((ofP l m.1).length : Int) - 1) ≤ 10 * (((ofP l m.1).length : Int) - 1) := Int.mul_le_mul_of_nonneg_right hsc.2 (by omega)
  have hd := lowD_bd (beyT l m) _ hn
  have e : beyT l m = m.2.2 * (((ofP l m.1).length : Int) - 1) - (sum1 (ofP l m.1) - m.2.2) := rfl
  refine ⟨by omega, hd.1, ?_, small_dvd12 _ hd.1 ?_, low_leZ _ _ _ hn (by omega) (by omega)⟩
  · have := hd.2; unfold beyD; omega
  · have := hd.2; unfold beyD; omega
/-- One mark more of a person. -/
def sStep (l : List Mark) (acc : (Int × Int) × Int) (m : Mark) : (Int × Int) × Int :=
  if 1 < (ofP l m.1).length then
    ((lowN (acc.1.1 * beyD l m + beyN l m * acc.1.2) (acc.1.2 * beyD l m), lowD (acc.1.1 * beyD l m + beyN l m * acc.1.2) (acc.1.2 * beyD l m)), acc.2 + 1)
  else acc
def strictS (l : List Mark) (ms : List Mark) : (Int × Int) × Int := ms.foldl (sStep l) ((0, 1), 0)
theorem strictS_snoc (l ms : List Mark) (m : Mark) : strictS l (ms ++ [m]) = sStep l (strictS l ms) m := by unfold strictS; rw [List.foldl_append]; rfl
theorem strict_fit {l : List Mark} (h : marksFault l = 0) : ∀ (n : Nat) (ms : List Mark), ms.length = n → (∀ x ∈ ms, x ∈ l) →
    1 ≤ (strictS l ms).1.2 ∧ (strictS l ms).1.2 ∣ 27720 ∧ -((10 * (n : Int)) * (strictS l ms).1.2) ≤ (strictS l ms).1.1 ∧ (strictS l ms).1.1 ≤ (10 * (n : Int)) * (strictS l ms).1.2 ∧ 0 ≤ (strictS l ms).2 ∧ (strictS l ms).2 ≤ n
  | 0, ms, hn, _ => by
    have : ms = [] := List.length_eq_zero_iff.1 hn
    subst this
    simp [strictS]
  | n + 1, ms, hn, hm => by
    obtain ⟨ms', x, rfl⟩ : ∃ ms' x, ms = ms' ++ [x] := by
      have hne : ms ≠ [] := by intro e; simp [e] at hn
      exact ⟨ms.dropLast, ms.getLast hne, (List.dropLast_concat_getLast hne).symm⟩
    have ih := strict_fit h n ms' (by simpa using hn) (fun y hy => hm y (by simp [hy]))
    have hx := hm x (by simp)
    rw [strictS_snoc]
    unfold sStep
    by_cases h1 : 1 < (ofP l x.1).length
    · rw [if_pos h1]
      have hb := bey_bd h hx h1
      have hk := sum_keepsZ (strictS l ms').1.1 (strictS l ms').1.2 (beyN l x) (beyD l x) 27720 (10 * (n : Int)) 10 ih.1 hb.2.1 ih.2.1 hb.2.2.2.1 ih.2.2.1 ih.2.2.2.1 hb.2.2.2.2.1 hb.2.2.2.2.2
      have e : (10 * ((n + 1 : Nat) : Int)) = 10 * (n : Int) + 10 := by omega
      rw [e]
      exact ⟨hk.2.1, hk.1, hk.2.2.1, hk.2.2.2, by simp only; omega, by simp only; omega⟩
    · rw [if_neg h1]
      have h2 : (10 * (n : Int)) * (strictS l ms').1.2 ≤ (10 * ((n + 1 : Nat) : Int)) * (strictS l ms').1.2 := Int.mul_le_mul_of_nonneg_right (by omega) (by omega)
      exact ⟨ih.1, ih.2.1, by omega, by omega, ih.2.2.2.2.1, by omega⟩
/-- A key with a fraction. -/
abbrev Valued := ByteArray × Int × Int
instance : Cel Valued := ⟨3, fun t => [.string t.1, .int .i64 t.2.1, .int .i64 t.2.2], fun _ => rfl, by decide, by simp [Value.oneCell']⟩
def strict1 (l : List Mark) (p : ByteArray) : List Valued :=
  if 0 < (strictS l (sel (fun x => x.2.1) p l)).2 then [(p, lowN (strictS l (sel (fun x => x.2.1) p l)).1.1 ((strictS l (sel (fun x => x.2.1) p l)).1.2 * (strictS l (sel (fun x => x.2.1) p l)).2), lowD (strictS l (sel (fun x => x.2.1) p l)).1.1 ((strictS l (sel (fun x => x.2.1) p l)).1.2 * (strictS l (sel (fun x => x.2.1) p l)).2))] else []
def strictL (l : List Mark) (ks : List ByteArray) : List Valued := ks.flatMap (strict1 l)
theorem strictL_snoc (l : List Mark) (ks : List ByteArray) (p : ByteArray) : strictL l (ks ++ [p]) = strictL l ks ++ strict1 l p := by unfold strictL; rw [List.flatMap_append]; simp
theorem strictL_len (l : List Mark) : ∀ ks : List ByteArray, (strictL l ks).length ≤ ks.length
  | [] => by simp [strictL]
  | p :: r => by
    have ih := strictL_len l r
    have e : strictL l (p :: r) = strict1 l p ++ strictL l r := by unfold strictL; rw [List.flatMap_cons]
    rw [e, List.length_append, List.length_cons]
    have : (strict1 l p).length ≤ 1 := by unfold strict1; split <;> simp
    omega
/-- The mean of the others, and a mark less it. -/
theorem bey_ref (sc T n : Int) (hn : 1 ≤ n) : lowN (sc * lowD (T - sc) n - lowN (T - sc) n) (lowD (T - sc) n) = lowN (sc * n - (T - sc)) n ∧ lowD (sc * lowD (T - sc) n - lowN (T - sc) n) (lowD (T - sc) n) = lowD (sc * n - (T - sc)) n := by
  have hd := (lowD_bd (T - sc) n hn).1
  have hc := low_cross (T - sc) n hn
  refine low_same _ _ _ _ hd hn ?_
  generalize lowD (T - sc) n = d at *
  generalize lowN (T - sc) n = m at *
  rw [Int.sub_mul, Int.sub_mul, hc]
  congr 1
  rw [Int.mul_assoc, Int.mul_comm d n, ← Int.mul_assoc]
/-- Far from the others, with the fraction or with the others' mean. -/
theorem far_ref (sc T n least : Int) (hn : 1 ≤ n) : least * lowD (sc * n - (T - sc)) n ≤ max (lowN (sc * n - (T - sc)) n) (-(lowN (sc * n - (T - sc)) n)) ↔ least * lowD (T - sc) n ≤ max (sc * lowD (T - sc) n - lowN (T - sc) n) (lowN (T - sc) n - sc * lowD (T - sc) n) := by
  have d1 := (lowD_bd (T - sc) n hn).1
  have c1 := low_cross (T - sc) n hn
  have d2 := (lowD_bd (sc * n - (T - sc)) n hn).1
  have c2 := low_cross (sc * n - (T - sc)) n hn
  generalize lowD (T - sc) n = e at *
  generalize lowN (T - sc) n = m at *
  generalize lowD (sc * n - (T - sc)) n = d at *
  generalize lowN (sc * n - (T - sc)) n = b at *
  generalize T - sc = u at *
  -- b / d = (sc e - m) / e
  have key : b * e = (sc * e - m) * d := by
    have h1 : b * e * n = (sc * e - m) * d * n := by
      have a1 : b * e * n = b * n * e := by rw [Int.mul_assoc, Int.mul_comm e n, ← Int.mul_assoc]
      have a2 : (sc * e - m) * d * n = (sc * e * n - m * n) * d := by rw [Int.mul_assoc, Int.mul_comm d n, ← Int.mul_assoc, Int.sub_mul]
      rw [a1, c2, a2, c1]
      have a3 : sc * e * n = sc * n * e := by rw [Int.mul_assoc, Int.mul_comm e n, ← Int.mul_assoc]
      rw [a3]; grind
    exact Int.eq_of_mul_eq_mul_right (by omega) h1
  have hneg : m - sc * e = -(sc * e - m) := by omega
  rw [hneg]
  generalize sc * e - m = x at *
  have n1 : ∀ y z : Int, least * d ≤ y → y * e = z * d → least * e ≤ z := fun y z h k => by
    have := Int.mul_le_mul_of_nonneg_right h (show 0 ≤ e by omega)
    rw [k, Int.mul_assoc, Int.mul_comm d e, ← Int.mul_assoc] at this
    exact Int.le_of_mul_le_mul_right this (by omega)
  have n2 : ∀ y z : Int, least * e ≤ z → y * e = z * d → least * d ≤ y := fun y z h k => by
    have := Int.mul_le_mul_of_nonneg_right h (show 0 ≤ d by omega)
    rw [← k, Int.mul_assoc, Int.mul_comm e d, ← Int.mul_assoc] at this
    exact Int.le_of_mul_le_mul_right this (by omega)
  have key2 : -b * e = -x * d := by rw [Int.neg_mul, Int.neg_mul, key]
  have hm : ∀ a b c : Int, a ≤ max b c ↔ a ≤ b ∨ a ≤ c := by omega
  rw [hm, hm]
  constructor
  · rintro (h | h)
    · exact .inl (n1 b x h key)
    · exact .inr (n1 (-b) (-x) h key2)
  · rintro (h | h)
    · exact .inl (n2 b x h key)
    · exact .inr (n2 (-b) (-x) h key2)
end Go.Proofs.YtaoomkkhpianlaaGreatDoor
