/- Orders of strings, and counts in ordered lists of marks: plain laws. -/
import Derived.Test.YtcjcdbhobehlpaaGreatDoorList
import Derived.Test.YtcjcdbhobehlpaaGreatDoorOrd
import Derived.Test.YtcjcdbhobehlpaaGreatDoorKey
namespace Go.Proofs.YtcjcdbhobehlpaaGreatDoor
open Go.RowKit
set_option linter.unusedVariables false
set_option linter.unusedSimpArgs false

/-- A mark: its paper, its person, its score. -/
abbrev Mark := ByteArray × ByteArray × Int
instance : Cel Mark := ⟨3, fun t => [.string t.1, .string t.2.1, .int .i64 t.2.2], fun _ => rfl, by decide, by simp [Value.oneCell']⟩
theorem SA.mark {w : World} {a : Option Addr} {l : List Mark} (h : SA w a l) {i : Nat} (hi : i < l.length) :
  ∃ b off, a = some ⟨b, off, none⟩ ∧ w.cell? ⟨b, off + i * 3, none⟩ = some (.string l[i].1) ∧ w.cell? ⟨b, off + i * 3 + 1, none⟩ = some (.string l[i].2.1) ∧ w.cell? ⟨b, off + i * 3 + 2, none⟩ = some (.int .i64 l[i].2.2) := by
 obtain ⟨b, off, ha, hc⟩ := h.at hi
 exact ⟨b, off, ha, hc 0 (by decide), hc 1 (by decide), hc 2 (by decide)⟩

/-- Pairs are compared by paper, then by person. -/
def cmpP (x y : Mark) : Int := if cmpS x.1 y.1 ≠ 0 then cmpS x.1 y.1 else cmpS x.2.1 y.2.1
theorem cmpP_bd (x y : Mark) : -1 ≤ cmpP x y ∧ cmpP x y ≤ 1 := by unfold cmpP; split <;> exact cmpS_bd _ _
/-- The mark at i is not behind the one before it. -/
def badOrd (l : List Mark) : Nat → Bool
 | 0 => false
 | p + 1 => match l[p]?, l[p + 1]? with | some x, some y => decide (0 ≤ cmpP x y) | _, _ => false
/-- How many marks of the same paper stand in a row up to i. -/
def runN (l : List Mark) : Nat → Int
 | 0 => 1
 | p + 1 => if (l[p]?.map (·.1)) = (l[p + 1]?.map (·.1)) then runN l p + 1 else 1
/-- How many marks of its paper there are up to the one at i. -/
def cntM (l : List Mark) (i : Nat) : Int := ((l.take (i + 1)).countP (fun x => decide (some x.1 = l[i]?.map (·.1))) : Nat)
/-- The error of the mark at i, 'many' counted by f. -/
def markE (f : List Mark → Nat → Int) (l : List Mark) (i : Nat) : Int :=
 match l[i]? with
 | none => 0
 | some x => if !keyB x.1 || !keyB x.2.1 then 5 else if badOrd l i then 7 else if decide (x.2.2 < 0) || decide (10 < x.2.2) then 1 else if 12 < f l i then 2 else 0
def marksFault (l : List Mark) : Int := if 3000 < l.length then 2 else firstErr (markE cntM l) l.length

theorem papers_rise {l : List Mark} {k : Nat} (hk : k < l.length) (h : ∀ j, j ≤ k → badOrd l j = false) : ∀ j, (hj : j ≤ k) → (l[j]'(by omega)).1 = l[k].1 ∨ ltS (l[j]'(by omega)).1 l[k].1 := by
 induction k with
 | zero =>
  intro j hj
  obtain rfl : j = 0 := by omega
  exact .inl rfl
 | succ p ih =>
  have hb := h (p + 1) (Nat.le_refl _)
  rw [badOrd] at hb
  rw [List.getElem?_eq_getElem (show p < l.length by omega), List.getElem?_eq_getElem hk] at hb
  simp only [decide_eq_false_iff_not] at hb
  have hstep : l[p].1 = l[p + 1].1 ∨ ltS l[p].1 l[p + 1].1 := by
   unfold cmpP at hb
   split at hb
   ·
    exact .inr (cmpS_lt.1 (by omega))
   ·
    rename_i h0
    exact .inl (cmpS_zero.1 (by simpa using h0))
  intro j hj
  by_cases hjp : j = p + 1
  ·
   subst hjp; exact .inl rfl
  ·
   have := ih (by omega) (fun i hi => h i (by omega)) j (by omega)
   rcases this with e | e <;> rcases hstep with s | s
   ·
    exact .inl (e.trans s)
   ·
    exact .inr (by rw [e]; exact s)
   ·
    exact .inr (by rw [← s]; exact e)
   ·
    exact .inr (ltS_trans e s)

theorem run_cnt {l : List Mark} {k : Nat} (hk : k < l.length) (h : ∀ j, j ≤ k → badOrd l j = false) : runN l k = cntM l k := by
 induction k with
 | zero =>
  unfold runN cntM
  cases l with
  | nil => simp at hk
  | cons x r => simp
 | succ p ih =>
  have hr := papers_rise hk h
  have ihp := ih (by omega) (fun j hj => h j (by omega))
  have hp : p < l.length := by omega
  unfold runN
  by_cases he : (l[p]?.map (·.1)) = (l[p + 1]?.map (·.1))
  ·
   rw [if_pos he, ihp]
   unfold cntM
   rw [List.take_succ_eq_append_getElem hk, List.countP_append, he]
   simp [List.getElem?_eq_getElem hk]
  ·
   rw [if_neg he]
   unfold cntM
   rw [List.take_succ_eq_append_getElem hk, List.countP_append]
   have h0 : (l.take (p + 1)).countP (fun x => decide (some x.1 = l[p + 1]?.map (·.1))) = 0 := by
    rw [List.countP_eq_zero]
    intro x hx
    obtain ⟨j, hj, rfl⟩ := List.mem_iff_getElem.1 hx
    rw [List.length_take] at hj
    rw [List.getElem_take, List.getElem?_eq_getElem hk]
    simp only [Option.map_some, Option.some.injEq, decide_eq_true_eq]
    intro e
    have hne : ltS l[p].1 l[p + 1].1 := by
     rcases hr p (by omega) with e' | e'
     ·
      exact absurd (by rw [List.getElem?_eq_getElem hp, List.getElem?_eq_getElem hk]; simp [e']) he
     ·
      exact e'
    rcases papers_rise hp (fun i hi => h i (by omega)) j (by omega) with e' | e'
    ·
     rw [← e', e] at hne; exact ltS_irrefl _ hne
    ·
     have := ltS_trans e' hne; rw [e] at this; exact ltS_irrefl _ this
   rw [h0]
   simp [List.getElem?_eq_getElem hk]

theorem markE_ord {f : List Mark → Nat → Int} {l : List Mark} {i : Nat} (hi : i < l.length) (h : markE f l i = 0) : badOrd l i = false := by
 unfold markE at h
 rw [List.getElem?_eq_getElem hi] at h
 cases hb : badOrd l i
 ·
  rfl
 ·
  simp only [hb, if_true] at h
  split at h <;> simp at h
theorem markE_same {l : List Mark} {k : Nat} (hk : k < l.length) (h : ∀ j, j < k → markE runN l j = 0) : markE runN l k = markE cntM l k := by
 unfold markE
 rw [List.getElem?_eq_getElem hk]
 cases hb : badOrd l k
 ·
  simp only
  rw [run_cnt hk (fun j hj => by
   by_cases hjk : j = k
   ·
    rw [hjk]; exact hb
   ·
    exact markE_ord (by omega) (h j (by omega)))]
 ·
  simp
theorem firstErr_same {f g : Nat → Int} {n : Nat} (h : ∀ k, k < n → (∀ j, j < k → f j = 0) → f k = g k) : firstErr f n = firstErr g n := by
 induction n with
 | zero => rfl
 | succ n ih =>
  have hi := ih (fun k hk => h k (by omega))
  rw [firstErr, firstErr, ← hi]
  by_cases h0 : firstErr f n = 0
  ·
   rw [h0]
   simp only [ne_eq, not_true, if_false]
   exact h n (by omega) (firstErr_all h0)
  ·
   simp [h0]
theorem marksFault_run (l : List Mark) : marksFault l = if 3000 < l.length then 2 else firstErr (markE runN l) l.length := by
 unfold marksFault
 split
 ·
  rfl
 ·
  exact (firstErr_same fun k hk h => markE_same hk h).symm
end Go.Proofs.YtcjcdbhobehlpaaGreatDoor
