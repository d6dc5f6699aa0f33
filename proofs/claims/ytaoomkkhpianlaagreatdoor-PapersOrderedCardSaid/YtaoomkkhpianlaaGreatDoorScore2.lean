/- Scores: sorted, summed, spread: the plain laws; slices.Sort of ints. -/
import Derived.Test.YtaoomkkhpianlaaGreatDoorScore1
import Derived.Sort.OwnSortedInts
namespace Go.Proofs.YtaoomkkhpianlaaGreatDoor
open Go.RowKit Go.Sort
set_option linter.unusedVariables false
set_option linter.unusedSimpArgs false

theorem ints_flatS (l : List Int) : l.map (Value.int .i64) = l.flatMap Cel.cells := by
  induction l with
  | nil => rfl
  | cons x r ih => rw [List.map_cons, List.flatMap_cons, ih]; rfl
/-- Numbers in their order. -/
def sortI (l : List Int) : List Int := l.mergeSort (fun x y => decide (x ≤ y))
theorem sortI_length (l : List Int) : (sortI l).length = l.length := by simp [sortI]
theorem sortI_perm (l : List Int) : (sortI l).Perm l := List.mergeSort_perm _ _
theorem sortI_mem (l : List Int) (p : Int) : p ∈ sortI l ↔ p ∈ l := (sortI_perm l).mem_iff
theorem perm_sum {a b : List Int} (h : a.Perm b) : a.sum = b.sum := by
  induction h with
  | nil => rfl
  | cons x _ ih => simp [ih]
  | swap x y l => simp; omega
  | trans _ _ h1 h2 => exact h1.trans h2
/-- The scores of marks. -/
def scL (ms : List Mark) : List Int := ms.map (fun m => m.2.2)
/-- Squares. -/
def sqI (l : List Int) : Int := (l.map (fun a => a * a)).sum
theorem sum1_scL (ms : List Mark) : sum1 ms = (scL ms).sum := rfl
theorem sum2_scL (ms : List Mark) : sum2 ms = sqI (scL ms) := by unfold sum2 sqI scL; rw [List.map_map]; rfl
theorem sqI_perm {a b : List Int} (h : a.Perm b) : sqI a = sqI b := perm_sum (h.map _)
/-- The squares of the differences of one number to all. -/
def dif1 (a : Int) (t : List Int) : Int := (t.map (fun b => (a - b) * (a - b))).sum
theorem dif1_eq (a : Int) : ∀ t : List Int, dif1 a t = t.length * (a * a) - 2 * a * t.sum + sqI t
  | [] => by simp [dif1, sqI]
  | b :: r => by
    have ih := dif1_eq a r
    have e1 : dif1 a (b :: r) = (a - b) * (a - b) + dif1 a r := by unfold dif1; rw [List.map_cons, List.sum_cons]
    have e2 : sqI (b :: r) = b * b + sqI r := by unfold sqI; rw [List.map_cons, List.sum_cons]
    rw [e1, e2, ih, List.length_cons, List.sum_cons]
    generalize sqI r = q
    generalize r.sum = s
    have : ((r.length + 1 : Nat) : Int) = (r.length : Int) + 1 := by omega
    rw [this]
    generalize (r.length : Int) = n
    grind
/-- The squares of the differences of numbers to all. -/
def dif2 (u t : List Int) : Int := (u.map (fun a => dif1 a t)).sum
theorem dif2_snoc (u t : List Int) (a : Int) : dif2 (u ++ [a]) t = dif2 u t + dif1 a t := by unfold dif2; simp
theorem dif1_snoc (a : Int) (t : List Int) (b : Int) : dif1 a (t ++ [b]) = dif1 a t + (a - b) * (a - b) := by unfold dif1; simp
theorem dif2_eq (t : List Int) : ∀ u : List Int, dif2 u t = t.length * sqI u - 2 * t.sum * u.sum + u.length * sqI t
  | [] => by simp [dif2, sqI]
  | a :: r => by
    have ih := dif2_eq t r
    have e1 : dif2 (a :: r) t = dif1 a t + dif2 r t := by unfold dif2; rw [List.map_cons, List.sum_cons]
    have e2 : sqI (a :: r) = a * a + sqI r := by unfold sqI; rw [List.map_cons, List.sum_cons]
    rw [e1, e2, ih, dif1_eq, List.length_cons, List.sum_cons]
    generalize sqI r = q
    generalize sqI t = qt
    generalize r.sum = s
    generalize t.sum = st
    have : ((r.length + 1 : Nat) : Int) = (r.length : Int) + 1 := by omega
    rw [this]
    generalize (r.length : Int) = n
    generalize (t.length : Int) = m
    grind
theorem dif2_self (t : List Int) : dif2 t t = 2 * (t.length * sqI t - t.sum * t.sum) := by
  rw [dif2_eq]
  generalize sqI t = q
  generalize t.sum = s
  generalize (t.length : Int) = n
  grind
theorem dif2_sort (ms : List Mark) : dif2 (sortI (scL ms)) (sortI (scL ms)) = 2 * ((ms.length : Int) * sum2 ms - sum1 ms * sum1 ms) := by
  rw [dif2_self, sortI_length, sqI_perm (sortI_perm _), perm_sum (sortI_perm _), ← sum2_scL, ← sum1_scL]
  unfold scL
  rw [List.length_map]
theorem low_double (x y : Int) : lowN (2 * x) (2 * y) = lowN x y ∧ lowD (2 * x) (2 * y) = lowD x y := by
  unfold lowN lowD
  have hg : (Int.gcd (2 * x) (2 * y) : Int) = 2 * (Int.gcd x y : Int) := by
    rw [Int.gcd_mul_left]; simp
  rw [hg]
  exact ⟨Int.mul_ediv_mul_of_pos _ _ (by omega), Int.mul_ediv_mul_of_pos _ _ (by omega)⟩
theorem ofE_fault {l : List Mark} {p : ByteArray} (h0 : ofE l p = 0) : marksFault l = 0 := by
  unfold ofE at h0
  by_cases hf : marksFault l = 0
  · exact hf
  · rw [if_pos hf] at h0; exact absurd h0 hf
def okI (l : List Int) : Prop := ∀ x ∈ l, 0 ≤ x ∧ x ≤ 10
theorem okI_scL {ms : List Mark} (h : okScores ms) : okI (scL ms) := fun x hx => by
  obtain ⟨m, hm, rfl⟩ := List.mem_map.1 hx; exact h m hm
theorem okI_sort {l : List Int} (h : okI l) : okI (sortI l) := fun x hx => h x ((sortI_mem l x).1 hx)
theorem okI_take {l : List Int} (h : okI l) (n : Nat) : okI (l.take n) := fun x hx => h x (List.mem_of_mem_take hx)
theorem sum_bd : ∀ {l : List Int}, okI l → 0 ≤ l.sum ∧ l.sum ≤ 10 * l.length
  | [], _ => by simp
  | x :: r, h => by
    have ih := sum_bd (l := r) (fun y hy => h y (by simp [hy]))
    have hx := h x (by simp)
    rw [List.sum_cons, List.length_cons]
    omega
theorem sqd_bd {a b : Int} (ha : 0 ≤ a ∧ a ≤ 10) (hb : 0 ≤ b ∧ b ≤ 10) : 0 ≤ (a - b) * (a - b) ∧ (a - b) * (a - b) ≤ 100 := by
  rcases Int.le_total b a with h | h
  · exact sq_bd (x := a - b) (by omega) (by omega)
  · have e : (a - b) * (a - b) = (b - a) * (b - a) := by grind
    rw [e]
    exact sq_bd (x := b - a) (by omega) (by omega)
theorem dif1_bd {a : Int} (ha : 0 ≤ a ∧ a ≤ 10) : ∀ {t : List Int}, okI t → 0 ≤ dif1 a t ∧ dif1 a t ≤ 100 * t.length
  | [], _ => by simp [dif1]
  | b :: r, h => by
    have ih := dif1_bd ha (t := r) (fun y hy => h y (by simp [hy]))
    have hb := sqd_bd ha (h b (by simp))
    have e1 : dif1 a (b :: r) = (a - b) * (a - b) + dif1 a r := by unfold dif1; rw [List.map_cons, List.sum_cons]
    rw [e1, List.length_cons]
    omega
theorem dif2_bd {t : List Int} (ht : okI t) (hl : t.length ≤ 1000) : ∀ {u : List Int}, okI u → 0 ≤ dif2 u t ∧ dif2 u t ≤ 100000 * u.length
  | [], _ => by simp [dif2]
  | a :: r, h => by
    have ih := dif2_bd ht hl (u := r) (fun y hy => h y (by simp [hy]))
    have hb := dif1_bd (h a (by simp)) ht
    have e1 : dif2 (a :: r) t = dif1 a t + dif2 r t := by unfold dif2; rw [List.map_cons, List.sum_cons]
    rw [e1, List.length_cons]
    omega
/-- Twice the median. -/
def medI (s : List Int) : Int := s.getD ((s.length - 1) / 2) 0 + s.getD (s.length / 2) 0
theorem mul_in {x y X Y : Int} (h1 : 0 ≤ x) (h2 : x ≤ X) (h3 : 0 ≤ y) (h4 : y ≤ Y) : 0 ≤ x * y ∧ x * y ≤ X * Y := ⟨Int.mul_nonneg h1 h3, Int.mul_le_mul h2 h4 h3 (by omega)⟩

theorem sortI_any (base : Nat) (l : List Int) (v : Value) (w : World) (h : Own base 3 w v l) (hlen : l.length ≤ 1000000000) :
    Calls Tryz.prog 135 #[v] w (fun e w' => e = .returned (.tuple #[]) ∧ Own base 3 w' v (sortI l) ∧ w.grownBy w' v.ownBlock) := by
  by_cases hl : l = []
  · subst hl
    obtain ⟨a, cap, rfl, _⟩ := h.form
    refine (Tryz.slices_Sort_int_none a cap w).mono ?_
    rintro e w' ⟨rfl, rfl⟩
    refine ⟨rfl, ?_, ⟨rfl, rfl, rfl, Nat.le_refl _, fun _ _ _ => rfl⟩⟩
    rw [show sortI [] = [] from List.length_eq_zero_iff.1 (sortI_length [])]
    exact h
  · obtain ⟨h1, h2⟩ := h
    rcases h2 with ⟨_, h2⟩ | ⟨g, cap, cur, rfl, r1, r2, r3, r4, r5, r6⟩
    · exact absurd (List.length_eq_zero_iff.1 h2) hl
    · have hH : Holds (Value.int .i64) w g 0 l.toArray := holds_of_blockI r2 (by rw [ints_flatS, ← r6, show Cel.k Int = 1 from rfl, Nat.mul_one])
      refine (Tryz.slices_Sort_int g 0 cap l w hH (Array.getElem?_eq_some_iff.1 r2).1 (by omega)).mono ?_
      rintro e w' ⟨rfl, n, os, rfl⟩
      refine ⟨rfl, ?_, grownBy_sortedI _⟩
      have := ownsRow_sortedI (w := w) (base := base) (n := n) (os := os) (ss := l) (ts := sortI l) (sortI_length l) r1 r2 r3 r4 r5
      rw [ints_flatS] at this
      unfold Own
      rw [sortI_length]
      exact this
end Go.Proofs.YtaoomkkhpianlaaGreatDoor
