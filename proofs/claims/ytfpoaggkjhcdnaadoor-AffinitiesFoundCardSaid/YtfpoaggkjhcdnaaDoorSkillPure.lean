/- Sums of fractions whose denominators divide a number. -/
import Derived.Test.YtfpoaggkjhcdnaaDoorSkill2
namespace Go.Proofs.YtfpoaggkjhcdnaaDoor
set_option linter.unusedVariables false

theorem low_cross (m n : Int) (hn : 1 ≤ n) : lowN m n * n = m * lowD m n := by
  unfold lowN lowD
  obtain ⟨k, hk⟩ : (Int.gcd m n : Int) ∣ m := Int.gcd_dvd_left ..
  obtain ⟨j, hj⟩ : (Int.gcd m n : Int) ∣ n := Int.gcd_dvd_right ..
  have hg := gcd_pos m n (by omega)
  have e1 : m / (Int.gcd m n : Int) = k := Int.ediv_eq_of_eq_mul_right (by omega) hk
  have e2 : n / (Int.gcd m n : Int) = j := Int.ediv_eq_of_eq_mul_right (by omega) hj
  rw [e1, e2]
  generalize (Int.gcd m n : Int) = g at *
  rw [hk, hj, ← Int.mul_assoc, Int.mul_comm k g]
theorem low_coprime (m n : Int) (hn : 1 ≤ n) : Int.gcd (lowN m n) (lowD m n) = 1 := by
  unfold lowN lowD
  exact Int.gcd_ediv_gcd_ediv_gcd (Int.gcd_pos_of_ne_zero_right m (by omega))
/-- A denominator that does for the fraction is a multiple of the lowest one. -/
theorem lowD_dvd_of (m n K M : Int) (hn : 1 ≤ n) (h : m * K = M * n) : lowD m n ∣ K := by
  have hc := low_cross m n hn
  have h1 : lowN m n * K * n = M * lowD m n * n := by
    have : lowN m n * n * K = m * lowD m n * K := by rw [hc]
    have e1 : lowN m n * K * n = lowN m n * n * K := by rw [Int.mul_assoc, Int.mul_comm K n, ← Int.mul_assoc]
    have e2 : M * lowD m n * n = M * n * lowD m n := by rw [Int.mul_assoc, Int.mul_comm (lowD m n) n, ← Int.mul_assoc]
    rw [e1, this, e2, ← h, Int.mul_assoc, Int.mul_comm (lowD m n) K, ← Int.mul_assoc]
  have h2 : lowN m n * K = M * lowD m n := Int.eq_of_mul_eq_mul_right (by omega) h1
  have h3 : lowD m n ∣ lowN m n * K := ⟨M, by rw [h2, Int.mul_comm]⟩
  have hco := low_coprime m n hn
  rw [Int.gcd_comm] at hco
  have hco' : Nat.Coprime (lowD m n).natAbs (lowN m n).natAbs := hco
  have h4 : (lowD m n).natAbs ∣ (lowN m n).natAbs * K.natAbs := by rw [← Int.natAbs_mul]; exact Int.natAbs_dvd_natAbs.2 h3
  exact Int.natAbs_dvd_natAbs.1 (Nat.Coprime.dvd_of_dvd_mul_left hco' h4)
theorem low_le (m n B : Int) (hm : 0 ≤ m) (hn : 1 ≤ n) (h : m ≤ B * n) : lowN m n ≤ B * lowD m n := by
  have hc := low_cross m n hn
  have hd := (lowD_bd m n hn).1
  have : lowN m n * n ≤ B * lowD m n * n := by
    rw [hc, show B * lowD m n * n = (B * n) * lowD m n by rw [Int.mul_assoc, Int.mul_comm (lowD m n) n, ← Int.mul_assoc]]
    exact Int.mul_le_mul_of_nonneg_right h (by omega)
  exact Int.le_of_mul_le_mul_right this (by omega)

/-- The sum of two fractions keeps a common denominator, and is not greater than the sum of their bounds. -/
theorem sum_keeps (a b c d K A B : Int) (ha : 0 ≤ a) (hb : 1 ≤ b) (hc : 0 ≤ c) (hd : 1 ≤ d) (hbK : b ∣ K) (hdK : d ∣ K) (hA : a ≤ A * b) (hB : c ≤ B * d) :
    lowD (a * d + c * b) (b * d) ∣ K ∧ 0 ≤ lowN (a * d + c * b) (b * d) ∧ lowN (a * d + c * b) (b * d) ≤ (A + B) * lowD (a * d + c * b) (b * d) ∧ 1 ≤ lowD (a * d + c * b) (b * d) := by
  have hbd : 1 ≤ b * d := mul_pos b d hb hd
  have h0 : 0 ≤ a * d + c * b := by have := Int.mul_nonneg ha (by omega : 0 ≤ d); have := Int.mul_nonneg hc (by omega : 0 ≤ b); omega
  refine ⟨?_, (lowN_bd _ _ h0 hbd).1, low_le _ _ _ h0 hbd ?_, (lowD_bd _ _ hbd).1⟩
  · obtain ⟨u, hu⟩ := hbK
    obtain ⟨v, hv⟩ := hdK
    refine lowD_dvd_of _ _ K (a * u + c * v) hbd ?_
    have e1 : a * d * K = a * u * (b * d) := by rw [hu]; simp [Int.mul_comm, Int.mul_left_comm]
    have e2 : c * b * K = c * v * (b * d) := by rw [hv]; simp [Int.mul_comm, Int.mul_left_comm]
    rw [Int.add_mul, e1, e2, ← Int.add_mul]
  · have h1 : a * d ≤ A * b * d := Int.mul_le_mul_of_nonneg_right hA (by omega)
    have h2 : c * b ≤ B * d * b := Int.mul_le_mul_of_nonneg_right hB (by omega)
    have e : (A + B) * (b * d) = A * b * d + B * d * b := by rw [Int.add_mul]; simp [Int.mul_comm, Int.mul_left_comm]
    omega

theorem small_dvd (n : Int) (h1 : 1 ≤ n) (h2 : n ≤ 10) : n ∣ 2520 := by
  have : n = 1 ∨ n = 2 ∨ n = 3 ∨ n = 4 ∨ n = 5 ∨ n = 6 ∨ n = 7 ∨ n = 8 ∨ n = 9 ∨ n = 10 := by omega
  rcases this with rfl | rfl | rfl | rfl | rfl | rfl | rfl | rfl | rfl | rfl <;> decide

/-- Skills of a right forest. -/
def SkillFit (l : List Topic) (s : List Skill) : Prop := ∀ x ∈ s, 1 ≤ (ab l x.1).length ∧ (ab l x.1).length ≤ 5 ∧ 0 ≤ x.2 ∧ x.2 ≤ 100
theorem SkillFit.ok {l : List Topic} {s : List Skill} (h : SkillFit l s) : SkillOk l s := fun x hx => ⟨(h x hx).1, (h x hx).2.2⟩
theorem near_dvd (l : List Topic) (a b : ByteArray) (h1 : 1 ≤ (ab l a).length) (h2 : (ab l a).length ≤ 5) (h3 : (ab l b).length ≤ 5) : nearD l a b ∣ 2520 := by
  unfold nearD
  split
  · decide
  · exact Int.dvd_trans (lowD_dvd _ _ (by omega)) (small_dvd _ (by omega) (by omega))
theorem part_fit {l : List Topic} {x : Skill} (t : ByteArray) (hlen : l.length ≤ 1000) (h : 1 ≤ (ab l x.1).length ∧ (ab l x.1).length ≤ 5 ∧ 0 ≤ x.2 ∧ x.2 ≤ 100) (ht : (ab l t).length ≤ 5) :
    partD l t x ∣ 252000 ∧ partN l t x ≤ 2002 * partD l t x := by
  obtain ⟨h1, h2, h3, h4⟩ := h
  obtain ⟨n1, n2, n3, n4⟩ := near_bd l x.1 t hlen h1
  obtain ⟨u, hu⟩ := near_dvd l x.1 t h1 h2 ht
  constructor
  · unfold partD
    refine Int.dvd_trans (lowD_dvd _ _ (by omega)) ⟨u, ?_⟩
    rw [Int.mul_assoc, ← hu]; rfl
  · unfold partN partD
    refine low_le _ _ _ (Int.mul_nonneg h3 n1) (by omega) ?_
    have := (mul_bd2 h3 h4 n1 n2).2
    omega
def KnownFit (o : Known) : Prop := 0 ≤ o.2.1 ∧ 1 ≤ o.2.2 ∧ o.2.2 ∣ 252000 ∧ o.2.1 ≤ 2002 * o.2.2
theorem best_fit {l : List Topic} {s : List Skill} (t : ByteArray) (hlen : l.length ≤ 1000) (h : SkillFit l s) (ht : (ab l t).length ≤ 5) : KnownFit (bestOf l s t) := by
  unfold bestOf
  have : ∀ (s : List Skill) (o : Known), SkillFit l s → KnownFit o → KnownFit (s.foldl (bestStep l t) o) := by
    intro s
    induction s with
    | nil => intro o _ h; exact h
    | cons x r ih =>
      intro o hs ho
      rw [List.foldl_cons]
      refine ih _ (fun y hy => hs y (List.mem_cons_of_mem _ hy)) ?_
      unfold bestStep
      split
      · have hx := hs x (List.mem_cons_self ..)
        have h1 := part_bd t hlen ⟨hx.1, hx.2.2⟩
        have h2 := part_fit t hlen hx ht
        exact ⟨h1.2.2.1.1, h1.2.2.2.1, h2.1, h2.2⟩
      · exact ho
  exact this s _ h ⟨by simp, by simp, by simp, by simp⟩

/-- The sum of what is known of some topics. -/
def affStep (o : Int × Int) (b : Known) : Int × Int := (lowN (o.1 * b.2.2 + b.2.1 * o.2) (o.2 * b.2.2), lowD (o.1 * b.2.2 + b.2.1 * o.2) (o.2 * b.2.2))
def affOf (bs : List Known) : Int × Int := bs.foldl affStep (0, 1)
theorem aff_fit {bs : List Known} (h : ∀ b ∈ bs, KnownFit b) : 0 ≤ (affOf bs).1 ∧ 1 ≤ (affOf bs).2 ∧ (affOf bs).2 ∣ 252000 ∧ (affOf bs).1 ≤ (2002 * bs.length : Int) * (affOf bs).2 := by
  have : ∀ (bs : List Known) (o : Int × Int) (A : Int), (∀ b ∈ bs, KnownFit b) → (0 ≤ o.1 ∧ 1 ≤ o.2 ∧ o.2 ∣ 252000 ∧ o.1 ≤ A * o.2) →
      (0 ≤ (bs.foldl affStep o).1 ∧ 1 ≤ (bs.foldl affStep o).2 ∧ (bs.foldl affStep o).2 ∣ 252000 ∧ (bs.foldl affStep o).1 ≤ (A + 2002 * bs.length) * (bs.foldl affStep o).2) := by
    intro bs
    induction bs with
    | nil => intro o A _ h; simpa using h
    | cons b r ih =>
      intro o A hb ho
      rw [List.foldl_cons]
      obtain ⟨o1, o2, o3, o4⟩ := ho
      obtain ⟨b1, b2, b3, b4⟩ := hb b (List.mem_cons_self ..)
      have hk := sum_keeps o.1 o.2 b.2.1 b.2.2 252000 A 2002 o1 o2 b1 b2 o3 b3 o4 b4
      have := ih (affStep o b) (A + 2002) (fun y hy => hb y (List.mem_cons_of_mem _ hy)) ⟨hk.2.1, hk.2.2.2, hk.1, hk.2.2.1⟩
      refine ⟨this.1, this.2.1, this.2.2.1, ?_⟩
      rw [List.length_cons]
      have e : A + 2002 * ((r.length + 1 : Nat) : Int) = A + 2002 + 2002 * (r.length : Int) := by omega
      rw [e]
      exact this.2.2.2
  have := this bs (0, 1) 0 h ⟨by simp, by simp, by simp, by simp⟩
  simpa [affOf] using this
end Go.Proofs.YtfpoaggkjhcdnaaDoor
