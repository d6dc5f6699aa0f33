/- The widest ways between papers, found in two ways; the least contradictions of each set of papers. Plain. -/
import Derived.Test.YtcjcdbhobehlpaaGreatDoorBase
namespace Go.Proofs.YtcjcdbhobehlpaaGreatDoor
set_option linter.unusedVariables false
set_option linter.unusedSimpArgs false

/-- A table, one cell changed. -/
def updM (f : Nat → Nat → Int) (i k : Nat) (v : Int) (a b : Nat) : Int := if a = i ∧ b = k then v else f a b
theorem updM_same (f : Nat → Nat → Int) (i k : Nat) (v : Int) : updM f i k v i k = v := by unfold updM; rw [if_pos ⟨rfl, rfl⟩]
theorem updM_other {f : Nat → Nat → Int} {i k : Nat} {v : Int} {a b : Nat} (h : ¬ (a = i ∧ b = k)) : updM f i k v a b = f a b := by unfold updM; rw [if_neg h]
/-- The widest ways, one more paper allowed between: row by row, in place. -/
def fwK (f : Nat → Nat → Int) (m i : Nat) : Nat → Nat → Nat → Int
  | 0 => f
  | k + 1 => updM (fwK f m i k) i k (max (fwK f m i k i k) (min (fwK f m i k i m) (fwK f m i k m k)))
def fwI (f : Nat → Nat → Int) (m n : Nat) : Nat → Nat → Nat → Int
  | 0 => f
  | i + 1 => fwK (fwI f m n i) m i n
def fwM (f : Nat → Nat → Int) (n : Nat) : Nat → Nat → Nat → Int
  | 0 => f
  | m + 1 => fwI (fwM f n m) m n n
/-- What one more paper between gives. -/
def viaM (f : Nat → Nat → Int) (m a b : Nat) : Int := max (f a b) (min (f a m) (f m b))
theorem viaM_row (f : Nat → Nat → Int) (m b : Nat) : viaM f m m b = f m b := by unfold viaM; omega
theorem viaM_col (f : Nat → Nat → Int) (m a : Nat) : viaM f m a m = f a m := by unfold viaM; omega
theorem fwK_at (f : Nat → Nat → Int) (m i : Nat) : ∀ k a b, fwK f m i k a b = if a = i ∧ b < k then viaM f m a b else f a b
  | 0, a, b => by unfold fwK; rw [if_neg (by omega)]
  | k + 1, a, b => by
    have ih := fwK_at f m i k
    unfold fwK
    by_cases h : a = i ∧ b = k
    · obtain ⟨rfl, rfl⟩ := h
      rw [updM_same, if_pos ⟨rfl, by omega⟩, ih, ih, ih, if_neg (by omega)]
      have h1 : (if a = a ∧ m < b then viaM f m a m else f a m) = f a m := by split; exact viaM_col f m a; rfl
      have h2 : (if m = a ∧ b < b then viaM f m m b else f m b) = f m b := by rw [if_neg (by omega)]
      rw [h1, h2]
      rfl
    · rw [updM_other h, ih]
      by_cases h2 : a = i ∧ b < k
      · rw [if_pos h2, if_pos ⟨h2.1, by omega⟩]
      · rw [if_neg h2, if_neg (by omega)]
theorem fwI_at (f : Nat → Nat → Int) (m n : Nat) : ∀ i a b, fwI f m n i a b = if a < i ∧ b < n then viaM f m a b else f a b
  | 0, a, b => by unfold fwI; rw [if_neg (by omega)]
  | i + 1, a, b => by
    have ih := fwI_at f m n i
    unfold fwI
    rw [fwK_at]
    have hrow : ∀ b, fwI f m n i m b = f m b := fun b => by rw [ih]; split; exact viaM_row f m b; rfl
    have hcol : ∀ a, fwI f m n i a m = f a m := fun a => by rw [ih]; split; exact viaM_col f m a; rfl
    by_cases h : a = i ∧ b < n
    · obtain ⟨rfl, hb⟩ := h
      rw [if_pos ⟨rfl, hb⟩, if_pos ⟨by omega, hb⟩]
      unfold viaM
      rw [hrow, hcol, ih, if_neg (by omega)]
    · rw [if_neg h, ih]
      by_cases h2 : a < i ∧ b < n
      · rw [if_pos h2, if_pos ⟨by omega, h2.2⟩]
      · rw [if_neg h2, if_neg (by omega)]
theorem fwM_at (f : Nat → Nat → Int) (n m : Nat) {a b : Nat} (ha : a < n) (hb : b < n) : fwM f n (m + 1) a b = viaM (fwM f n m) m a b := by
  show fwI (fwM f n m) m n n a b = _
  rw [fwI_at, if_pos ⟨ha, hb⟩]
/-- There is a way of at least t whose inner papers are below m. -/
inductive WayT (E : Nat → Nat → Int) (t : Int) (m : Nat) : Nat → Nat → Prop
  | one {a b : Nat} : t ≤ E a b → WayT E t m a b
  | two {a b c : Nat} : b < m → WayT E t m a b → WayT E t m b c → WayT E t m a c
theorem WayT.more {E : Nat → Nat → Int} {t : Int} {m m' a b : Nat} (h : WayT E t m a b) (hm : m ≤ m') : WayT E t m' a b := by
  induction h with
  | one h => exact .one h
  | two h _ _ ih1 ih2 => exact .two (by omega) ih1 ih2
/-- One more paper between: at most once. -/
theorem WayT.split {E : Nat → Nat → Int} {t : Int} {m a b : Nat} (h : WayT E t (m + 1) a b) : WayT E t m a b ∨ (WayT E t m a m ∧ WayT E t m m b) := by
  induction h with
  | one h => exact .inl (.one h)
  | @two a b c hb _ _ ih1 ih2 =>
    by_cases e : b = m
    · subst e
      have h1 : WayT E t b a b := ih1.elim id (fun h => h.1)
      have h2 : WayT E t b b c := ih2.elim id (fun h => h.2)
      exact .inr ⟨h1, h2⟩
    · have hb' : b < m := by omega
      rcases ih1 with h1 | ⟨h1, h1'⟩
      · rcases ih2 with h2 | ⟨h2, h2'⟩
        · exact .inl (.two hb' h1 h2)
        · exact .inr ⟨.two hb' h1 h2, h2'⟩
      · rcases ih2 with h2 | ⟨h2, h2'⟩
        · exact .inr ⟨h1, .two hb' h1' h2⟩
        · exact .inr ⟨h1, h2'⟩
theorem fwM_way (E : Nat → Nat → Int) (n : Nat) (t : Int) : ∀ m, m ≤ n → ∀ a b, a < n → b < n → (t ≤ fwM E n m a b ↔ WayT E t m a b)
  | 0, _, a, b, _, _ => by
    constructor
    · exact fun h => .one h
    · intro h
      cases h with
      | one h => exact h
      | two h => omega
  | m + 1, hm, a, b, ha, hb => by
    have ih := fwM_way E n t m (by omega)
    rw [fwM_at E n m ha hb]
    have h1 := ih a b ha hb
    have h2 := ih a m ha (by omega)
    have h3 := ih m b (by omega) hb
    constructor
    · intro h
      unfold viaM at h
      by_cases h4 : t ≤ fwM E n m a b
      · exact (h1.1 h4).more (by omega)
      · exact .two (Nat.lt_succ_self m) ((h2.1 (by omega)).more (by omega)) ((h3.1 (by omega)).more (by omega))
    · intro h
      unfold viaM
      rcases h.split with h | ⟨h4, h5⟩
      · have := h1.2 h; omega
      · have := h2.2 h4
        have := h3.2 h5
        omega
/-! The same ways, made longer as long as one becomes stronger. -/
def satOk (S : Nat → Nat → Int) (a b c : Nat) : Bool := decide (a ≠ c) && decide (S a c < min (S a b) (S b c))
abbrev SatS := (Nat → Nat → Int) × Bool
def sat1 (x : SatS) (a b c : Nat) : SatS := if satOk x.1 a b c = true then (updM x.1 a c (min (x.1 a b) (x.1 b c)), true) else x
def satC (x : SatS) (a b : Nat) : Nat → SatS
  | 0 => x
  | c + 1 => sat1 (satC x a b c) a b c
def satB (x : SatS) (a n : Nat) : Nat → SatS
  | 0 => x
  | b + 1 => satC (satB x a n b) a b n
def satA (x : SatS) (n : Nat) : Nat → SatS
  | 0 => x
  | a + 1 => satB (satA x n a) a n n
/-- A round in which nothing turned. -/
theorem satC_still {x : SatS} {a b : Nat} : ∀ k, (satC x a b k).2 = false → x.2 = false ∧ (satC x a b k).1 = x.1 ∧ ∀ c, c < k → satOk x.1 a b c = false
  | 0, h => ⟨h, rfl, fun c hc => by omega⟩
  | k + 1, h => by
    have ih := satC_still (x := x) (a := a) (b := b) k
    have e : satC x a b (k + 1) = sat1 (satC x a b k) a b k := rfl
    rw [e] at h ⊢
    unfold sat1 at h ⊢
    by_cases hc : satOk (satC x a b k).1 a b k = true
    · rw [if_pos hc] at h; cases h
    · rw [if_neg hc] at h ⊢
      obtain ⟨h1, h2, h3⟩ := ih h
      refine ⟨h1, h2, fun c hck => ?_⟩
      by_cases e2 : c = k
      · subst e2; rw [h2] at hc; simpa using hc
      · exact h3 c (by omega)
theorem satB_still {x : SatS} {a n : Nat} : ∀ k, (satB x a n k).2 = false → x.2 = false ∧ (satB x a n k).1 = x.1 ∧ ∀ b, b < k → ∀ c, c < n → satOk x.1 a b c = false
  | 0, h => ⟨h, rfl, fun c hc => by omega⟩
  | k + 1, h => by
    have ih := satB_still (x := x) (a := a) (n := n) k
    obtain ⟨h1, h2, h3⟩ := satC_still (x := satB x a n k) (a := a) (b := k) n h
    obtain ⟨i1, i2, i3⟩ := ih h1
    refine ⟨i1, h2.trans i2, fun b hb c hc => ?_⟩
    by_cases e : b = k
    · subst e; rw [← i2]; exact h3 c hc
    · exact i3 b (by omega) c hc
theorem satA_still {x : SatS} {n : Nat} : ∀ k, (satA x n k).2 = false → x.2 = false ∧ (satA x n k).1 = x.1 ∧ ∀ a, a < k → ∀ b, b < n → ∀ c, c < n → satOk x.1 a b c = false
  | 0, h => ⟨h, rfl, fun c hc => by omega⟩
  | k + 1, h => by
    have ih := satA_still (x := x) (n := n) k
    obtain ⟨h1, h2, h3⟩ := satB_still (x := satA x n k) (a := k) (n := n) n h
    obtain ⟨i1, i2, i3⟩ := ih h1
    refine ⟨i1, h2.trans i2, fun a ha b hb c hc => ?_⟩
    by_cases e : a = k
    · subst e; rw [← i2]; exact h3 b hb c hc
    · exact i3 a (by omega) b hb c hc
/-- A sum of naturals. -/
def totN (g : Nat → Nat) : Nat → Nat
  | 0 => 0
  | k + 1 => totN g k + g k
theorem totN_le {g h : Nat → Nat} : ∀ n, (∀ i, i < n → g i ≤ h i) → totN g n ≤ totN h n
  | 0, _ => Nat.le_refl _
  | n + 1, H => by
    have := totN_le n (fun i hi => H i (by omega))
    have := H n (by omega)
    show totN g n + g n ≤ totN h n + h n
    omega
theorem totN_lt {g h : Nat → Nat} : ∀ n, (∀ i, i < n → g i ≤ h i) → ∀ i, i < n → g i < h i → totN g n < totN h n
  | 0, _, _, hi, _ => by omega
  | n + 1, H, i, hi, hlt => by
    show totN g n + g n < totN h n + h n
    by_cases e : i = n
    · subst e
      have := totN_le i (fun j hj => H j (by omega))
      omega
    · have := totN_lt n (fun j hj => H j (by omega)) i (by omega) hlt
      have := H n (by omega)
      omega
/-- How much stronger the ways can still become. -/
def slackM (M : Int) (S : Nat → Nat → Int) (n : Nat) : Nat := totN (fun a => totN (fun c => (M - S a c).toNat) n) n
/-- What holds of the ways all the time. -/
structure SatInv (E : Nat → Nat → Int) (M : Int) (n : Nat) (S : Nat → Nat → Int) : Prop where
  up : ∀ a c, E a c ≤ S a c
  low : ∀ a c, 0 ≤ S a c
  top : ∀ a c, S a c ≤ M
  way : ∀ a c, a < n → c < n → ∀ t, 1 ≤ t → t ≤ S a c → WayT E t n a c
theorem sat1_inv {E : Nat → Nat → Int} {M : Int} {n : Nat} {x : SatS} {a b c : Nat} (h : SatInv E M n x.1) (hb : b < n) : SatInv E M n (sat1 x a b c).1 := by
  unfold sat1
  by_cases hc : satOk x.1 a b c = true
  · rw [if_pos hc]
    unfold satOk at hc
    rw [Bool.and_eq_true] at hc
    have hlt := of_decide_eq_true hc.2
    refine ⟨fun p q => ?_, fun p q => ?_, fun p q => ?_, fun p q hp hq t ht h1 => ?_⟩
    · show E p q ≤ updM _ _ _ _ _ _
      unfold updM
      split
      · next e => obtain ⟨rfl, rfl⟩ := e; have := h.up p q; omega
      · exact h.up p q
    · show 0 ≤ updM _ _ _ _ _ _
      unfold updM
      split
      · have := h.low a b; have := h.low b c; omega
      · exact h.low p q
    · show updM _ _ _ _ _ _ ≤ M
      unfold updM
      split
      · have := h.top a b; omega
      · exact h.top p q
    · have h1' : t ≤ updM x.1 a c (min (x.1 a b) (x.1 b c)) p q := h1
      unfold updM at h1'
      by_cases e : p = a ∧ q = c
      · rw [if_pos e] at h1'
        obtain ⟨rfl, rfl⟩ := e
        exact .two hb (h.way p b hp hb t ht (by omega)) (h.way b q hb hq t ht (by omega))
      · rw [if_neg e] at h1'
        exact h.way p q hp hq t ht h1'
  · rw [if_neg hc]; exact h
theorem sat1_slack {M : Int} {n : Nat} {x : SatS} {a b c : Nat} (ha : a < n) (hc : c < n) (ht : ∀ a c, x.1 a c ≤ M) : slackM M (sat1 x a b c).1 n ≤ slackM M x.1 n ∧ (satOk x.1 a b c = true → slackM M (sat1 x a b c).1 n < slackM M x.1 n) := by
  unfold sat1
  by_cases h : satOk x.1 a b c = true
  · rw [if_pos h]
    have h' := h
    unfold satOk at h'
    rw [Bool.and_eq_true] at h'
    have hlt := of_decide_eq_true h'.2
    have htop : min (x.1 a b) (x.1 b c) ≤ M := by have := ht a b; omega
    have hcell : ∀ p q, (M - updM x.1 a c (min (x.1 a b) (x.1 b c)) p q).toNat ≤ (M - x.1 p q).toNat := fun p q => by
      unfold updM
      split
      · next e => obtain ⟨rfl, rfl⟩ := e; omega
      · exact Nat.le_refl _
    have hs : slackM M (updM x.1 a c (min (x.1 a b) (x.1 b c))) n < slackM M x.1 n := by
      unfold slackM
      refine totN_lt n (fun p _ => totN_le n (fun q _ => hcell p q)) a ha (totN_lt n (fun q _ => hcell a q) c hc ?_)
      show (M - updM x.1 a c (min (x.1 a b) (x.1 b c)) a c).toNat < (M - x.1 a c).toNat
      rw [updM_same]
      omega
    exact ⟨Nat.le_of_lt hs, fun _ => hs⟩
  · rw [if_neg h]
    exact ⟨Nat.le_refl _, fun h2 => absurd h2 h⟩
theorem sat_flag {x : SatS} {a b c : Nat} : (sat1 x a b c).2 = true → x.2 = true ∨ satOk x.1 a b c = true := by
  unfold sat1
  split
  · next h => exact fun _ => .inr h
  · exact .inl
/-- Invariant, room, and: where the flag is up the room has become less. -/
def SatR (E : Nat → Nat → Int) (M : Int) (n m0 : Nat) (x : SatS) : Prop := SatInv E M n x.1 ∧ slackM M x.1 n ≤ m0 ∧ (x.2 = true → slackM M x.1 n < m0)
theorem satC_R {E : Nat → Nat → Int} {M : Int} {n m0 : Nat} {x : SatS} {a b : Nat} (h : SatR E M n m0 x) (ha : a < n) (hb : b < n) : ∀ k, k ≤ n → SatR E M n m0 (satC x a b k)
  | 0, _ => h
  | k + 1, hk => by
    have ih := satC_R h ha hb k (by omega)
    have e : satC x a b (k + 1) = sat1 (satC x a b k) a b k := rfl
    rw [e]
    obtain ⟨i1, i2, i3⟩ := ih
    obtain ⟨s1, s2⟩ := sat1_slack (b := b) (n := n) (x := satC x a b k) ha (show k < n by omega) i1.top
    refine ⟨sat1_inv i1 hb, by omega, fun hf => ?_⟩
    rcases sat_flag hf with h1 | h1
    · have := i3 h1; omega
    · have := s2 h1; omega
theorem satB_R {E : Nat → Nat → Int} {M : Int} {n m0 : Nat} {x : SatS} {a : Nat} (h : SatR E M n m0 x) (ha : a < n) : ∀ k, k ≤ n → SatR E M n m0 (satB x a n k)
  | 0, _ => h
  | k + 1, hk => satC_R (satB_R h ha k (by omega)) ha (by omega) n (Nat.le_refl _)
theorem satA_R {E : Nat → Nat → Int} {M : Int} {n m0 : Nat} {x : SatS} (h : SatR E M n m0 x) : ∀ k, k ≤ n → SatR E M n m0 (satA x n k)
  | 0, _ => h
  | k + 1, hk => satB_R (satA_R h k (by omega)) (by omega) n (Nat.le_refl _)
theorem way_sat {E : Nat → Nat → Int} {M : Int} {n : Nat} {S : Nat → Nat → Int} (hi : SatInv E M n S) (hs : ∀ a, a < n → ∀ b, b < n → ∀ c, c < n → satOk S a b c = false) {t : Int} {a c : Nat} (h : WayT E t n a c) : a < n → c < n → a ≠ c → t ≤ S a c := by
  induction h with
  | @one a b h => intro _ _ _; have := hi.up a b; omega
  | @two a b c hb _ _ ih1 ih2 =>
    intro ha hc hac
    by_cases e1 : a = b
    · subst e1; exact ih2 hb hc hac
    · by_cases e2 : b = c
      · subst e2; exact ih1 ha hb hac
      · have h1 := ih1 ha hb e1
        have h2 := ih2 hb hc e2
        have h3 := hs a ha b hb c hc
        unfold satOk at h3
        rw [decide_eq_true hac, Bool.true_and, decide_eq_false_iff_not] at h3
        omega
theorem fwM_low {E : Nat → Nat → Int} (h : ∀ a b, 0 ≤ E a b) (n : Nat) : ∀ m a b, 0 ≤ fwM E n m a b
  | 0, a, b => h a b
  | m + 1, a, b => by
    show 0 ≤ fwI (fwM E n m) m n n a b
    rw [fwI_at]
    have h1 := fwM_low h n m a b
    split
    · unfold viaM; omega
    · exact h1
/-- Both give the same ways between two papers. -/
theorem ways_same {E : Nat → Nat → Int} {M : Int} {n : Nat} {S : Nat → Nat → Int} (hE : ∀ a b, 0 ≤ E a b) (hi : SatInv E M n S) (hs : ∀ a, a < n → ∀ b, b < n → ∀ c, c < n → satOk S a b c = false) {a c : Nat} (ha : a < n) (hc : c < n) (hac : a ≠ c) : fwM E n n a c = S a c := by
  have h1 := fwM_low hE n n a c
  have h2 := hi.low a c
  have k1 : ∀ t, 1 ≤ t → (t ≤ fwM E n n a c ↔ t ≤ S a c) := fun t ht => by
    rw [fwM_way E n t n (Nat.le_refl _) a c ha hc]
    exact ⟨fun h => way_sat hi hs h ha hc hac, fun h => hi.way a c ha hc t ht h⟩
  generalize fwM E n n a c = x at *
  generalize S a c = y at *
  by_cases hx : 1 ≤ x
  · have := (k1 x hx).1 (Int.le_refl _)
    have := (k1 y (by omega)).2 (Int.le_refl _)
    omega
  · by_cases hy : 1 ≤ y
    · have := (k1 y hy).2 (Int.le_refl _)
      omega
    · omega
/-! The least contradictions of each set of papers, and the order that they come of. -/
def hasN (s k : Nat) : Bool := s.testBit k
/-- A set without one of its papers. -/
def drp (s k : Nat) : Nat := s ^^^ 2 ^ k
theorem drp_has (s k j : Nat) (h : hasN s k = true) : hasN (drp s k) j = (hasN s j && decide (j ≠ k)) := by
  unfold hasN drp at *
  rw [Nat.testBit_xor, Nat.testBit_two_pow]
  by_cases e : j = k
  · subst e; rw [h]; simp
  · have : ¬ k = j := fun h => e h.symm
    simp [e, this]
theorem lt_bits {n m : Nat} (i : Nat) (hn : n.testBit i = false) (hm : m.testBit i = true) (h : ∀ j, i < j → n.testBit j = m.testBit j) : n < m := by
  have h1 : n / 2 ^ (i + 1) = m / 2 ^ (i + 1) := Nat.eq_of_testBit_eq (fun j => by
    rw [Nat.testBit_div_two_pow, Nat.testBit_div_two_pow]
    exact h _ (by omega))
  rw [Nat.pow_succ, ← Nat.div_div_eq_div_mul, ← Nat.div_div_eq_div_mul] at h1
  rw [Nat.testBit_eq_decide_div_mod_eq] at hn hm
  have h2 := of_decide_eq_false hn
  have h3 := of_decide_eq_true hm
  refine Nat.lt_of_not_le (fun hle => ?_)
  have h4 : m / 2 ^ i ≤ n / 2 ^ i := Nat.div_le_div_right hle
  omega
theorem drp_lt (s k : Nat) (h : hasN s k = true) : drp s k < s := by
  refine lt_bits k ?_ h ?_
  · have := drp_has s k k h; unfold hasN at this; rw [this]; simp
  · intro j hj
    have := drp_has s k j h; unfold hasN at this; rw [this]
    simp; omega
/-- What of a set contradicts that paper i comes first. -/
def cstTo (W : Nat → Nat → Int) (s i : Nat) : Nat → Int
  | 0 => 0
  | k + 1 => cstTo W s i k + if (hasN s k && decide (k ≠ i)) = true then W k i else 0
/-- One look at each paper of a set: the least sum, and whose it is. -/
def scanTo (c : Nat → Int) (s : Nat) : Nat → Int × Nat
  | 0 => (-1, 0)
  | i + 1 => if hasN s i = true then (if (scanTo c s i).1 < 0 ∨ c i < (scanTo c s i).1 then (c i, i) else scanTo c s i) else scanTo c s i
/-- The tables behind all sets below s. -/
def dpTo (W : Nat → Nat → Int) (n : Nat) : Nat → (Nat → Int) × (Nat → Nat)
  | 0 => (fun _ => 0, fun _ => 0)
  | s + 1 => if s = 0 then dpTo W n 0 else
    (fun a => if a = s then (scanTo (fun i => (dpTo W n s).1 (drp s i) + cstTo W s i n) s n).1 else (dpTo W n s).1 a,
     fun a => if a = s then (scanTo (fun i => (dpTo W n s).1 (drp s i) + cstTo W s i n) s n).2 else (dpTo W n s).2 a)
theorem scan_spec {c : Nat → Int} {s : Nat} (hc : ∀ i, 0 ≤ c i) : ∀ n, ((scanTo c s n).1 < 0 ∧ ∀ i, i < n → hasN s i = false) ∨
    ((scanTo c s n).2 < n ∧ hasN s (scanTo c s n).2 = true ∧ (scanTo c s n).1 = c (scanTo c s n).2 ∧ (∀ i, i < n → hasN s i = true → (scanTo c s n).1 ≤ c i) ∧ ∀ i, i < (scanTo c s n).2 → hasN s i = true → (scanTo c s n).1 < c i)
  | 0 => .inl ⟨by show (-1 : Int) < 0; decide, fun i hi => by omega⟩
  | n + 1 => by
    have ih := scan_spec (s := s) hc n
    unfold scanTo
    by_cases hb : hasN s n = true
    · rw [if_pos hb]
      rcases ih with ⟨h1, h2⟩ | ⟨h1, h2, h3, h4, h5⟩
      · rw [if_pos (.inl h1)]
        refine .inr ⟨by simp, hb, rfl, fun i hi hbi => ?_, fun i hi hbi => ?_⟩
        · by_cases e : i = n
          · subst e; exact Int.le_refl _
          · have := h2 i (by omega); rw [this] at hbi; cases hbi
        · have := h2 i hi; rw [this] at hbi; cases hbi
      · have hnn := hc (scanTo c s n).2
        by_cases hlt : c n < (scanTo c s n).1
        · rw [if_pos (.inr hlt)]
          refine .inr ⟨by simp, hb, rfl, fun i hi hbi => ?_, fun i hi hbi => ?_⟩
          · by_cases e : i = n
            · subst e; exact Int.le_refl _
            · have := h4 i (by omega) hbi; show c n ≤ c i; omega
          · have hi' : i < n := hi
            have := h4 i hi' hbi; show c n < c i; omega
        · rw [if_neg (by omega)]
          refine .inr ⟨by omega, h2, h3, fun i hi hbi => ?_, h5⟩
          by_cases e : i = n
          · subst e; omega
          · exact h4 i (by omega) hbi
    · rw [if_neg hb]
      have hb' : hasN s n = false := by simpa using hb
      rcases ih with ⟨h1, h2⟩ | ⟨h1, h2, h3, h4, h5⟩
      · refine .inl ⟨h1, fun i hi => ?_⟩
        by_cases e : i = n
        · subst e; exact hb'
        · exact h2 i (by omega)
      · refine .inr ⟨by omega, h2, h3, fun i hi hbi => ?_, h5⟩
        by_cases e : i = n
        · subst e; rw [hb'] at hbi; cases hbi
        · exact h4 i (by omega) hbi
theorem cst_low {W : Nat → Nat → Int} (hW : ∀ a b, 0 ≤ W a b) (s i : Nat) : ∀ k, 0 ≤ cstTo W s i k
  | 0 => Int.le_refl _
  | k + 1 => by
    have := cst_low hW s i k
    have := hW k i
    show 0 ≤ cstTo W s i k + if (hasN s k && decide (k ≠ i)) = true then W k i else 0
    split <;> omega
/-- The sum for paper i at set s. -/
def cAt (W : Nat → Nat → Int) (n s i : Nat) : Int := (dpTo W n s).1 (drp s i) + cstTo W s i n
theorem dp_succ (W : Nat → Nat → Int) (n : Nat) {s : Nat} (h : s ≠ 0) : dpTo W n (s + 1) = (fun a => if a = s then (scanTo (cAt W n s) s n).1 else (dpTo W n s).1 a, fun a => if a = s then (scanTo (cAt W n s) s n).2 else (dpTo W n s).2 a) := by
  rw [dpTo, if_neg h]
  rfl
theorem dp_keep (W : Nat → Nat → Int) (n : Nat) {a s : Nat} (h : a < s) : ∀ t, s ≤ t → (dpTo W n t).1 a = (dpTo W n s).1 a ∧ (dpTo W n t).2 a = (dpTo W n s).2 a
  | 0, ht => by have : s = 0 := by omega
                omega
  | t + 1, ht => by
    by_cases e : s = t + 1
    · subst e; exact ⟨rfl, rfl⟩
    · have ih := dp_keep W n h t (by omega)
      rw [dp_succ W n (by omega : t ≠ 0)]
      simp only
      rw [if_neg (by omega), if_neg (by omega)]
      exact ih
/-- Ahead of a set its cells are empty; all that lies below it is not negative. -/
theorem dp_low {W : Nat → Nat → Int} (hW : ∀ a b, 0 ≤ W a b) {n : Nat} : ∀ s, s ≤ 2 ^ n → ∀ a, 0 ≤ (dpTo W n s).1 a
  | 0, _, a => by rw [dpTo]; exact Int.le_refl _
  | s + 1, hs, a => by
    by_cases h : s = 0
    · subst h
      rw [dpTo, if_pos rfl, dpTo]
      exact Int.le_refl _
    · have ih := dp_low hW (n := n) s (by omega)
      rw [dp_succ W n h]
      show 0 ≤ if a = s then (scanTo (cAt W n s) s n).1 else (dpTo W n s).1 a
      split
      · have hc : ∀ i, 0 ≤ cAt W n s i := fun i => by
          unfold cAt
          have := ih (drp s i)
          have := cst_low hW s i n
          omega
        rcases scan_spec (s := s) hc n with ⟨_, h2⟩ | ⟨h1, h2, h3, _⟩
        · exfalso
          refine h (Nat.eq_of_testBit_eq (fun i => ?_))
          rw [Nat.zero_testBit]
          by_cases hi : i < n
          · exact h2 i hi
          · exact Nat.testBit_lt_two_pow (Nat.lt_of_lt_of_le (by omega : s < 2 ^ n) (Nat.pow_le_pow_right (by omega) (by omega)))
        · rw [h3]; exact hc _
      · exact ih a
theorem set_bitN {n s : Nat} (h0 : s ≠ 0) (hs : s < 2 ^ n) : ∃ i, i < n ∧ hasN s i = true := by
  apply Classical.byContradiction
  intro hno
  refine h0 (Nat.eq_of_testBit_eq (fun i => ?_))
  rw [Nat.zero_testBit]
  by_cases hi : i < n
  · cases hb : s.testBit i
    · rfl
    · exact absurd ⟨i, hi, hb⟩ hno
  · exact Nat.testBit_lt_two_pow (Nat.lt_of_lt_of_le hs (Nat.pow_le_pow_right (by omega) (by omega)))
/-- Of each set: whose sum is the least, and nobody's ahead of it is as low. -/
theorem next_spec {W : Nat → Nat → Int} (hW : ∀ a b, 0 ≤ W a b) {n s : Nat} (h0 : s ≠ 0) (hs : s < 2 ^ n) :
    (dpTo W n (2 ^ n)).2 s < n ∧ hasN s ((dpTo W n (2 ^ n)).2 s) = true ∧ cAt W n s ((dpTo W n (2 ^ n)).2 s) = (dpTo W n (2 ^ n)).1 s ∧ ∀ i, i < (dpTo W n (2 ^ n)).2 s → hasN s i = true → cAt W n s i ≠ (dpTo W n (2 ^ n)).1 s := by
  have hk := dp_keep W n (Nat.lt_succ_self s) (2 ^ n) (by omega)
  rw [hk.1, hk.2, dp_succ W n h0]
  simp only [if_true]
  have hc : ∀ i, 0 ≤ cAt W n s i := fun i => by
    unfold cAt
    have := dp_low hW (n := n) s (by omega) (drp s i)
    have := cst_low hW s i n
    omega
  rcases scan_spec (s := s) hc n with ⟨_, h2⟩ | ⟨h1, h2, h3, h4, h5⟩
  · obtain ⟨i, hi, hb⟩ := set_bitN h0 hs
    rw [h2 i hi] at hb
    cases hb
  · exact ⟨h1, h2, h3.symm, fun i hi hb e => by have := h5 i hi hb; omega⟩
/-- The sum at set s in the full table. -/
theorem cAt_full (W : Nat → Nat → Int) (n : Nat) {s i : Nat} (hb : hasN s i = true) (hs : s ≤ 2 ^ n) : cAt W n s i = (dpTo W n (2 ^ n)).1 (drp s i) + cstTo W s i n := by
  unfold cAt
  rw [(dp_keep W n (drp_lt s i hb) (2 ^ n) hs).1]
/-- The order that comes of a set. -/
def ordOf (W : Nat → Nat → Int) (n : Nat) : Nat → Nat → List Nat
  | 0, _ => []
  | fuel + 1, s => if s = 0 then [] else (dpTo W n (2 ^ n)).2 s :: ordOf W n fuel (drp s ((dpTo W n (2 ^ n)).2 s))
/-! How many papers one is stronger than. -/
def cntTo (f : Nat → Nat → Int) (i : Nat) : Nat → Nat
  | 0 => 0
  | k + 1 => cntTo f i k + if f k i < f i k then 1 else 0
theorem cntTo_le (f : Nat → Nat → Int) (i : Nat) : ∀ k, cntTo f i k ≤ k
  | 0 => Nat.le_refl _
  | k + 1 => by
    have := cntTo_le f i k
    show cntTo f i k + (if f k i < f i k then 1 else 0) ≤ k + 1
    split <;> omega
theorem cntTo_same {f g : Nat → Nat → Int} {n i : Nat} (hi : i < n) (h : ∀ a c, a < n → c < n → a ≠ c → f a c = g a c) : ∀ k, k ≤ n → cntTo f i k = cntTo g i k
  | 0, _ => rfl
  | k + 1, hk => by
    have ih := cntTo_same hi h k (by omega)
    show cntTo f i k + (if f k i < f i k then 1 else 0) = cntTo g i k + (if g k i < g i k then 1 else 0)
    rw [ih]
    by_cases e : k = i
    · subst e
      rw [if_neg (by omega), if_neg (by omega)]
    · rw [h k i (by omega) hi e, h i k hi (by omega) (fun h => e h.symm)]
end Go.Proofs.YtcjcdbhobehlpaaGreatDoor
