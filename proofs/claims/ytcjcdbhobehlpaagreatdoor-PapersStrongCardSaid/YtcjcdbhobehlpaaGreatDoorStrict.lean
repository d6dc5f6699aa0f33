/- How strict people are: the plain laws. -/
import Derived.Test.YtcjcdbhobehlpaaGreatDoorKap
import Derived.Test.YtcjcdbhobehlpaaGreatDoorAgree
/-! How strict people are: the plain laws. -/
namespace Go.Proofs.YtcjcdbhobehlpaaGreatDoor
open Go.RowKit Go.Sort
set_option linter.unusedVariables false
set_option linter.unusedSimpArgs false

theorem low_leZ (m n B : Int) (hn : 1 ≤ n) (h1 : -(B * n) ≤ m) (h2 : m ≤ B * n) : -(B * lowD m n) ≤ lowN m n ∧ lowN m n ≤ B * lowD m n := by
 have hc := low_cross m n hn
 have hd := (lowD_bd m n hn).1
 have e : B * lowD m n * n = (B * n) * lowD m n := by rw [Int.mul_assoc, Int.mul_comm (lowD m n) n, ← Int.mul_assoc]
 constructor
 ·
  have : -(B * lowD m n) * n ≤ lowN m n * n := by
   rw [hc, Int.neg_mul, e, ← Int.neg_mul]
   exact Int.mul_le_mul_of_nonneg_right h1 (by omega)
  exact Int.le_of_mul_le_mul_right this (by omega)
 ·
  have : lowN m n * n ≤ B * lowD m n * n := by
   rw [hc, e]
   exact Int.mul_le_mul_of_nonneg_right h2 (by omega)
  exact Int.le_of_mul_le_mul_right this (by omega)
/-- The sum of two fractions keeps a common denominator and a bound. -/
theorem sum_keepsZ (a b c d K A B : Int) (hb : 1 ≤ b) (hd : 1 ≤ d) (hbK : b ∣ K) (hdK : d ∣ K) (hA1 : -(A * b) ≤ a) (hA : a ≤ A * b) (hB1 : -(B * d) ≤ c) (hB : c ≤ B * d) :
  lowD (a * d + c * b) (b * d) ∣ K ∧ 1 ≤ lowD (a * d + c * b) (b * d) ∧ -((A + B) * lowD (a * d + c * b) (b * d)) ≤ lowN (a * d + c * b) (b * d) ∧ lowN (a * d + c * b) (b * d) ≤ (A + B) * lowD (a * d + c * b) (b * d) := by
 have hbd : 1 ≤ b * d := mul_pos b d hb hd
 have h1 : a * d ≤ A * b * d := Int.mul_le_mul_of_nonneg_right hA (by omega)
 have h2 : c * b ≤ B * d * b := Int.mul_le_mul_of_nonneg_right hB (by omega)
 have h3 : -(A * b) * d ≤ a * d := Int.mul_le_mul_of_nonneg_right hA1 (by omega)
 have h4 : -(B * d) * b ≤ c * b := Int.mul_le_mul_of_nonneg_right hB1 (by omega)
 rw [Int.neg_mul] at h3 h4
 have e : (A + B) * (b * d) = A * b * d + B * d * b := by rw [Int.add_mul]; simp [Int.mul_comm, Int.mul_left_comm]
 refine ⟨?_, (lowD_bd _ _ hbd).1, low_leZ _ _ _ hbd (by omega) (by omega)⟩
 obtain ⟨u, hu⟩ := hbK
 obtain ⟨v, hv⟩ := hdK
 refine lowD_dvd_of _ _ K (a * u + c * v) hbd ?_
 have e1 : a * d * K = a * u * (b * d) := by rw [hu]; simp [Int.mul_comm, Int.mul_left_comm]
 have e2 : c * b * K = c * v * (b * d) := by rw [hv]; simp [Int.mul_comm, Int.mul_left_comm]
 rw [Int.add_mul, e1, e2, ← Int.add_mul]
theorem sum1_app (a b : List Mark) : sum1 (a ++ b) = sum1 a + sum1 b := by unfold sum1; simp
/-- What the others gave. -/
theorem others_bd {ms : List Mark} (h : okScores ms) {x : Mark} (hx : x ∈ ms) : 0 ≤ sum1 ms - x.2.2 ∧ sum1 ms - x.2.2 ≤ 10 * ((ms.length : Int) - 1) := by
 obtain ⟨s, t, rfl⟩ := List.append_of_mem hx
 have hs := sums_bd (l := s) (fun y hy => h y (by simp [hy]))
 have ht := sums_bd (l := t) (fun y hy => h y (by simp [hy]))
 have e : sum1 (s ++ x :: t) = sum1 s + (x.2.2 + sum1 t) := by
  rw [sum1_app]; rfl
 rw [e, List.length_append, List.length_cons]
 omega
/-- A mark less the mean of the others. -/
def beyT (l : List Mark) (m : Mark) : Int := m.2.2 * (((ofP l m.1).length : Int) - 1) - (sum1 (ofP l m.1) - m.2.2)
def beyN (l : List Mark) (m : Mark) : Int := lowN (beyT l m) (((ofP l m.1).length : Int) - 1)
def beyD (l : List Mark) (m : Mark) : Int := lowD (beyT l m) (((ofP l m.1).length : Int) - 1)
theorem bey_bd {l : List Mark} (h : marksFault l = 0) {m : Mark} (hm : m ∈ l) (h1 : 1 < (ofP l m.1).length) :
  (beyT l m).natAbs ≤ 200 ∧ 1 ≤ beyD l m ∧ beyD l m ≤ 12 ∧ beyD l m ∣ 27720 ∧ -(10 * beyD l m) ≤ beyN l m ∧ beyN l m ≤ 10 * beyD l m := by
 have h12 := paper_few h m.1
 have hok := fault_scores h
 have hms : m ∈ ofP l m.1 := ofP_mem.2 ⟨hm, rfl⟩
 have ho : 0 ≤ sum1 (ofP l m.1) - m.2.2 ∧ sum1 (ofP l m.1) - m.2.2 ≤ 10 * (((ofP l m.1).length : Int) - 1) := others_bd (okScores_sel (f := fun x => x.1) (p := m.1) hok) hms
 have hsc := hok m hm
 have hn : 1 ≤ (((ofP l m.1).length : Int) - 1) := by omega
 have hq := mul_in (x := m.2.2) (y := ((ofP l m.1).length : Int) - 1) (X := 10) (Y := 11) (by omega) (by omega) (by omega) (by omega)
 have hq2 : m.2.2 * (((ofP l m.1).length : Int) - 1) ≤ 10 * (((ofP l m.1).length : Int) - 1) := Int.mul_le_mul_of_nonneg_right hsc.2 (by omega)
 have hd := lowD_bd (beyT l m) _ hn
 have e : beyT l m = m.2.2 * (((ofP l m.1).length : Int) - 1) - (sum1 (ofP l m.1) - m.2.2) := rfl
 refine ⟨by omega, hd.1, ?_, small_dvd12 _ hd.1 ?_, low_leZ _ _ _ hn (by omega) (by omega)⟩
 ·
  have := hd.2; unfold beyD; omega
 ·
  have := hd.2; unfold beyD; omega
/-- One mark more of a person. -/
def sStep (l : List Mark) (acc : (Int × Int) × Int) (m : Mark) : (Int × Int) × Int :=
 if 1 < (ofP l m.1).length then
  ((lowN (acc.1.1 * beyD l m + beyN l m * acc.1.2) (acc.1.2 * beyD l m), lowD (acc.1.1 * beyD l m + beyN l m * acc.1.2) (acc.1.2 * beyD l m)), acc.2 + 1)
 else acc
def strictS (l : List Mark) (ms : List Mark) : (Int × Int) × Int := ms.foldl (sStep l) ((0, 1), 0)
theorem strictS_snoc (l ms : List Mark) (m : Mark) : strictS l (ms ++ [m]) = sStep l (strictS l ms) m := by unfold strictS; rw [List.foldl_append]; rfl
theorem strict_fit {l : List Mark} (h : marksFault l = 0) : ∀ (n : Nat) (ms : List Mark), ms.length = n → (∀ x ∈ ms, x ∈ l) →
  1 ≤ (strictS l ms).1.2 ∧ (strictS l ms).1.2 ∣ 27720 ∧ -((10 * (n : Int)) * (strictS l ms).1.2) ≤ (strictS l ms).1.1 ∧ (strictS l ms).1.1 ≤ (10 * (n : Int)) * (strictS l ms).1.2 ∧ 0 ≤ (strictS l ms).2 ∧ (strictS l ms).2 ≤ n
 | 0, ms, hn, _ => by
  have : ms = [] := List.length_eq_zero_iff.1 hn
  subst this
  simp [strictS]
 | n + 1, ms, hn, hm => by
  obtain ⟨ms', x, rfl⟩ : ∃ ms' x, ms = ms' ++ [x] := by
   have hne : ms ≠ [] := by intro e; simp [e] at hn
   exact ⟨ms.dropLast, ms.getLast hne, (List.dropLast_concat_getLast hne).symm⟩
  have ih := strict_fit h n ms' (by simpa using hn) (fun y hy => hm y (by simp [hy]))
  have hx := hm x (by simp)
  rw [strictS_snoc]
  unfold sStep
  by_cases h1 : 1 < (ofP l x.1).length
  ·
   rw [if_pos h1]
   have hb := bey_bd h hx h1
   have hk := sum_keepsZ (strictS l ms').1.1 (strictS l ms').1.2 (beyN l x) (beyD l x) 27720 (10 * (n : Int)) 10 ih.1 hb.2.1 ih.2.1 hb.2.2.2.1 ih.2.2.1 ih.2.2.2.1 hb.2.2.2.2.1 hb.2.2.2.2.2
   have e : (10 * ((n + 1 : Nat) : Int)) = 10 * (n : Int) + 10 := by omega
   rw [e]
   exact ⟨hk.2.1, hk.1, hk.2.2.1, hk.2.2.2, by simp only; omega, by simp only; omega⟩
  ·
   rw [if_neg h1]
   have h2 : (10 * (n : Int)) * (strictS l ms').1.2 ≤ (10 * ((n + 1 : Nat) : Int)) * (strictS l ms').1.2 := Int.mul_le_mul_of_nonneg_right (by omega) (by omega)
   exact ⟨ih.1, ih.2.1, by omega, by omega, ih.2.2.2.2.1, by omega⟩
/-- A key with a fraction. -/
abbrev Valued := ByteArray × Int × Int
instance : Cel Valued := ⟨3, fun t => [.string t.1, .int .i64 t.2.1, .int .i64 t.2.2], fun _ => rfl, by decide, by simp [Value.oneCell']⟩
def strict1 (l : List Mark) (p : ByteArray) : List Valued :=
 if 0 < (strictS l (sel (fun x => x.2.1) p l)).2 then [(p, lowN (strictS l (sel (fun x => x.2.1) p l)).1.1 ((strictS l (sel (fun x => x.2.1) p l)).1.2 * (strictS l (sel (fun x => x.2.1) p l)).2), lowD (strictS l (sel (fun x => x.2.1) p l)).1.1 ((strictS l (sel (fun x => x.2.1) p l)).1.2 * (strictS l (sel (fun x => x.2.1) p l)).2))] else []
def strictL (l : List Mark) (ks : List ByteArray) : List Valued := ks.flatMap (strict1 l)
theorem strictL_snoc (l : List Mark) (ks : List ByteArray) (p : ByteArray) : strictL l (ks ++ [p]) = strictL l ks ++ strict1 l p := by unfold strictL; rw [List.flatMap_append]; simp
theorem strictL_len (l : List Mark) : ∀ ks : List ByteArray, (strictL l ks).length ≤ ks.length
 | [] => by simp [strictL]
 | p :: r => by
  have ih := strictL_len l r
  have e : strictL l (p :: r) = strict1 l p ++ strictL l r := by unfold strictL; rw [List.flatMap_cons]
  rw [e, List.length_append, List.length_cons]
  have : (strict1 l p).length ≤ 1 := by unfold strict1; split <;> simp
  omega
/-- The mean of the others, and a mark less it. -/
theorem bey_ref (sc T n : Int) (hn : 1 ≤ n) : lowN (sc * lowD (T - sc) n - lowN (T - sc) n) (lowD (T - sc) n) = lowN (sc * n - (T - sc)) n ∧ lowD (sc * lowD (T - sc) n - lowN (T - sc) n) (lowD (T - sc) n) = lowD (sc * n - (T - sc)) n := by
 have hd := (lowD_bd (T - sc) n hn).1
 have hc := low_cross (T - sc) n hn
 refine low_same _ _ _ _ hd hn ?_
 generalize lowD (T - sc) n = d at *
 generalize lowN (T - sc) n = m at *
 rw [Int.sub_mul, Int.sub_mul, hc]
 congr 1
 rw [Int.mul_assoc, Int.mul_comm d n, ← Int.mul_assoc]
/-- Far from the others, with the fraction or with the others' mean. -/
theorem far_ref (sc T n least : Int) (hn : 1 ≤ n) : least * lowD (sc * n - (T - sc)) n ≤ max (lowN (sc * n - (T - sc)) n) (-(lowN (sc * n - (T - sc)) n)) ↔ least * lowD (T - sc) n ≤ max (sc * lowD (T - sc) n - lowN (T - sc) n) (lowN (T - sc) n - sc * lowD (T - sc) n) := by
 have d1 := (lowD_bd (T - sc) n hn).1
 have c1 := low_cross (T - sc) n hn
 have d2 := (lowD_bd (sc * n - (T - sc)) n hn).1
 have c2 := low_cross (sc * n - (T - sc)) n hn
 generalize lowD (T - sc) n = e at *
 generalize lowN (T - sc) n = m at *
 generalize lowD (sc * n - (T - sc)) n = d at *
 generalize lowN (sc * n - (T - sc)) n = b at *
 generalize T - sc = u at *
 -- b / d = (sc e - m) / e
 have key : b * e = (sc * e - m) * d := by
  have h1 : b * e * n = (sc * e - m) * d * n := by
   have a1 : b * e * n = b * n * e := by rw [Int.mul_assoc, Int.mul_comm e n, ← Int.mul_assoc]
   have a2 : (sc * e - m) * d * n = (sc * e * n - m * n) * d := by rw [Int.mul_assoc, Int.mul_comm d n, ← Int.mul_assoc, Int.sub_mul]
   rw [a1, c2, a2, c1]
   have a3 : sc * e * n = sc * n * e := by rw [Int.mul_assoc, Int.mul_comm e n, ← Int.mul_assoc]
   rw [a3]; grind
  exact Int.eq_of_mul_eq_mul_right (by omega) h1
 have hneg : m - sc * e = -(sc * e - m) := by omega
 rw [hneg]
 generalize sc * e - m = x at *
 have n1 : ∀ y z : Int, least * d ≤ y → y * e = z * d → least * e ≤ z := fun y z h k => by
  have := Int.mul_le_mul_of_nonneg_right h (show 0 ≤ e by omega)
  rw [k, Int.mul_assoc, Int.mul_comm d e, ← Int.mul_assoc] at this
  exact Int.le_of_mul_le_mul_right this (by omega)
 have n2 : ∀ y z : Int, least * e ≤ z → y * e = z * d → least * d ≤ y := fun y z h k => by
  have := Int.mul_le_mul_of_nonneg_right h (show 0 ≤ d by omega)
  rw [← k, Int.mul_assoc, Int.mul_comm e d, ← Int.mul_assoc] at this
  exact Int.le_of_mul_le_mul_right this (by omega)
 have key2 : -b * e = -x * d := by rw [Int.neg_mul, Int.neg_mul, key]
 have hm : ∀ a b c : Int, a ≤ max b c ↔ a ≤ b ∨ a ≤ c := by omega
 rw [hm, hm]
 constructor
 ·
  rintro (h | h)
  ·
   exact .inl (n1 b x h key)
  ·
   exact .inr (n1 (-b) (-x) h key2)
 ·
  rintro (h | h)
  ·
   exact .inl (n2 b x h key)
  ·
   exact .inr (n2 (-b) (-x) h key2)
end Go.Proofs.YtcjcdbhobehlpaaGreatDoor

/-! Where a paper is among those that a person marked; shifted marks: the plain laws. -/
namespace Go.Proofs.YtcjcdbhobehlpaaGreatDoor
open Go.RowKit Go.Sort
set_option linter.unusedVariables false
set_option linter.unusedSimpArgs false

/-- cmp.Compare of ints. -/
def cmpI (a b : Int) : Int := if a < b then -1 else if b < a then 1 else 0
theorem cmpI_bd (a b : Int) : -1 ≤ cmpI a b ∧ cmpI a b ≤ 1 := by unfold cmpI; split; omega; split <;> omega
theorem cmpI_self (a : Int) : cmpI a a = 0 := by unfold cmpI; simp
/-- How many marks a mark beats, twice; an equal one counts once. -/
def rkS (sc : Int) (ms : List Mark) : Int := (ms.map (fun m => 1 - cmpI m.2.2 sc)).sum
theorem rkS_snoc (sc : Int) (ms : List Mark) (x : Mark) : rkS sc (ms ++ [x]) = rkS sc ms + (1 - cmpI x.2.2 sc) := by unfold rkS; simp
theorem rkS_bd (sc : Int) : ∀ ms : List Mark, 0 ≤ rkS sc ms ∧ rkS sc ms ≤ 2 * ms.length
 | [] => by simp [rkS]
 | x :: r => by
  have ih := rkS_bd sc r
  have hb := cmpI_bd x.2.2 sc
  have e : rkS sc (x :: r) = (1 - cmpI x.2.2 sc) + rkS sc r := by unfold rkS; rw [List.map_cons, List.sum_cons]
  rw [e, List.length_cons]
  omega
theorem rkS_perm {sc : Int} {a b : List Mark} (h : a.Perm b) : rkS sc a = rkS sc b := perm_sum (h.map _)
/-- The map of scores has an entry for each mark. -/
theorem scE_is : ∀ (ms : List Mark) (es : List (ByteArray × Value)), (ms.map (fun m => m.1)).Nodup → (∀ m ∈ ms, m.1 ∉ es.map (·.1)) →
  ms.foldl (fun es m => mput es m.1 (.int .i64 m.2.2)) es = es ++ ms.map (fun m => (m.1, Value.int .i64 m.2.2))
 | [], es, _, _ => by simp
 | x :: r, es, hn, hd => by
  have hnew : ∀ (es : List (ByteArray × Value)) (k : ByteArray) (v : Value), k ∉ es.map (·.1) → mput es k v = es ++ [(k, v)] := by
   intro es k v hk
   induction es with
   | nil => rfl
   | cons y s ih =>
    rw [List.map_cons, List.mem_cons, not_or] at hk
    unfold mput
    rw [if_neg (fun e => hk.1 e.symm), ih hk.2]; rfl
  rw [List.map_cons, List.nodup_cons] at hn
  rw [List.foldl_cons, hnew es _ _ (hd x (by simp)), scE_is r _ hn.2 ?_]
  ·
   simp
  ·
   intro m hm hc
   rw [List.map_append, List.mem_append] at hc
   rcases hc with hc | hc
   ·
    exact hd m (by simp [hm]) hc
   ·
    simp at hc
    exact hn.1 (hc ▸ List.mem_map_of_mem hm)
theorem scE_map {l : List Mark} (h : marksFault l = 0) (a : ByteArray) : scE (sel (fun x => x.2.1) a l) = (sel (fun x => x.2.1) a l).map (fun m => (m.1, Value.int .i64 m.2.2)) := by
 unfold scE; rw [scE_is _ _ (sel_papers h a) (by simp)]; rfl
/-- The marks of a person but the one of a paper. -/
def rest (l : List Mark) (a p : ByteArray) : List Mark := l.filter (fun x => decide (x.2.1 = a) && !decide (x.1 = p))
theorem rest_snoc (l : List Mark) (a p : ByteArray) (x : Mark) : rest (l ++ [x]) a p = if x.2.1 = a ∧ ¬ x.1 = p then rest l a p ++ [x] else rest l a p := by
 unfold rest
 rw [List.filter_append, List.filter_cons]
 by_cases h1 : x.2.1 = a <;> by_cases h2 : x.1 = p <;> simp [h1, h2]
theorem rest_len (l : List Mark) (a p : ByteArray) : (rest l a p).length ≤ l.length := List.length_filter_le _ _
theorem rest_law {l : List Mark} (h : marksFault l = 0) {a p : ByteArray} {sc : Int} (hs : scOf l p a = some sc) :
  rkS sc (sel (fun x => x.2.1) a l) = rkS sc (rest l a p) + 1 ∧ (sel (fun x => x.2.1) a l).length = (rest l a p).length + 1 := by
 have hm : (p, a, sc) ∈ sel (fun x => x.2.1) a l := List.mem_filter.2 ⟨scOf_some hs, by simp⟩
 have hn := sel_papers h a
 have hr : rest l a p = (sel (fun x => x.2.1) a l).filter (fun x => !decide (x.1 = p)) := by
  unfold rest sel; rw [List.filter_filter]
  apply List.filter_congr
  intro x _
  rw [Bool.and_comm]
 rw [hr]
 obtain ⟨s, t, e⟩ := List.append_of_mem hm
 rw [e] at hn ⊢
 rw [List.map_append, List.map_cons, List.nodup_append] at hn
 obtain ⟨h1, h2, h3⟩ := hn
 rw [List.nodup_cons] at h2
 have hs1 : s.filter (fun x => !decide (x.1 = p)) = s := by
  rw [List.filter_eq_self]
  intro x hx
  have := h3 x.1 (List.mem_map_of_mem hx) p (by simp)
  simpa using this
 have ht1 : t.filter (fun x => !decide (x.1 = p)) = t := by
  rw [List.filter_eq_self]
  intro x hx
  have : x.1 ≠ p := fun e => h2.1 (by show p ∈ _; rw [← e]; exact List.mem_map_of_mem (f := fun m : Mark => m.1) hx)
  simpa using this
 rw [List.filter_append, List.filter_cons, hs1, ht1]
 simp only [decide_true, Bool.not_true, Bool.false_eq_true, if_false]
 unfold rkS
 rw [List.map_append, List.map_cons, List.sum_append, List.sum_cons, List.map_append, List.sum_append, cmpI_self, List.length_append, List.length_append, List.length_cons]
 omega
/-- Rank's fraction. -/
def rankN (l : List Mark) (a p : ByteArray) : Int := match scOf l p a with | none => 0 | some sc => if rest l a p = [] then 1 else lowN (rkS sc (rest l a p)) (2 * (rest l a p).length)
def rankD (l : List Mark) (a p : ByteArray) : Int := match scOf l p a with | none => 0 | some sc => if rest l a p = [] then 2 else lowD (rkS sc (rest l a p)) (2 * (rest l a p).length)
def rankE (l : List Mark) (a p : ByteArray) : Int := match scOf l p a with | none => 8 | some _ => 0

/-- All marks of a person, shifted. -/
def shiftL (a : ByteArray) (d : Int) (l : List Mark) : List Mark := l.map (fun m => if m.2.1 = a then (m.1, m.2.1, m.2.2 + d) else m)
/-- A mark that cannot be shifted. -/
def shBad (a : ByteArray) (d : Int) (m : Mark) : Bool := decide (m.2.1 = a) && (decide (d < -m.2.2) || decide (10 - m.2.2 < d))
def shiftE (l : List Mark) (a : ByteArray) (d : Int) : Int := if sel (fun x => x.2.1) a l = [] then 8 else if l.any (shBad a d) then 1 else 0
end Go.Proofs.YtcjcdbhobehlpaaGreatDoor

/-! How strict people are: beyond, Strict of the program. -/
namespace Go.Proofs.YtcjcdbhobehlpaaGreatDoor
open Go.RowKit Go.Sort
set_option linter.unusedVariables false
set_option linter.unusedSimpArgs false

/-- What beyond gives. -/
def beyV (l : List Mark) (m : Mark) : Value := if 1 < (ofP l m.1).length then .tuple #[.agg #[.int .i64 (beyN l m), .int .i64 (beyD l m)], .bool true] else .tuple #[.agg #[.int .i64 0, .int .i64 0], .bool false]
theorem mul_inZ {x y X Y : Int} (h1 : -X ≤ x) (h2 : x ≤ X) (h3 : 0 ≤ y) (h4 : y ≤ Y) : -(X * Y) ≤ x * y ∧ x * y ≤ X * Y := by
 have hX : 0 ≤ X := by omega
 have e1 : X * y ≤ X * Y := Int.mul_le_mul_of_nonneg_left h4 hX
 have e2 : x * y ≤ X * y := Int.mul_le_mul_of_nonneg_right h2 h3
 have e3 : -X * y ≤ x * y := Int.mul_le_mul_of_nonneg_right h1 h3
 rw [Int.neg_mul] at e3
 omega
theorem strict_bd {l : List Mark} (h : marksFault l = 0) (ms : List Mark) (hm : ∀ x ∈ ms, x ∈ l) (hl : ms.length ≤ 400) :
  -110880000 ≤ (strictS l ms).1.1 ∧ (strictS l ms).1.1 ≤ 110880000 ∧ 1 ≤ (strictS l ms).1.2 ∧ (strictS l ms).1.2 ≤ 27720 ∧ 0 ≤ (strictS l ms).2 ∧ (strictS l ms).2 ≤ 400 := by
 have hf := strict_fit h ms.length ms rfl hm
 have hd := Int.le_of_dvd (by decide) hf.2.1
 have hm := mul_in (x := 10 * (ms.length : Int)) (y := (strictS l ms).1.2) (X := 4000) (Y := 27720) (by omega) (by omega) (by omega) hd
 omega
theorem ShSt.alloc1 {sb b1 b2 base : Nat} {a : Option Addr} {n cap : Nat} {l1 l2 : List Mark} {es1 es2 : List (ByteArray × Value)} {w : World} (h : ShSt sb b1 b2 base a n cap l1 l2 es1 es2 w) (o : Obj) : ShSt sb b1 b2 base a n cap l1 l2 es1 es2 (w.alloc o) := h.below ((Below.refl _ _).alloc (Nat.le_refl _) o)
end Go.Proofs.YtcjcdbhobehlpaaGreatDoor
