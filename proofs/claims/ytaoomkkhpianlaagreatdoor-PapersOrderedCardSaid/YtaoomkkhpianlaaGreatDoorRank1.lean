/- Where a paper is among those that a person marked; shifted marks: the plain laws. -/
import Derived.Test.YtaoomkkhpianlaaGreatDoorStrict1
namespace Go.Proofs.YtaoomkkhpianlaaGreatDoor
open Go.RowKit Go.Sort
set_option linter.unusedVariables false
set_option linter.unusedSimpArgs false

/-- cmp.Compare of ints. -/
def cmpI (a b : Int) : Int := if a < b then -1 else if b < a then 1 else 0
theorem cmpI_bd (a b : Int) : -1 ≤ cmpI a b ∧ cmpI a b ≤ 1 := by unfold cmpI; split; omega; split <;> omega
theorem cmpI_self (a : Int) : cmpI a a = 0 := by unfold cmpI; simp
/-- How many marks a mark beats, twice; an equal one counts once. -/
def rkS (sc : Int) (ms : List Mark) : Int := (ms.map (fun m => 1 - cmpI m.2.2 sc)).sum
theorem rkS_snoc (sc : Int) (ms : List Mark) (x : Mark) : rkS sc (ms ++ [x]) = rkS sc ms + (1 - cmpI x.2.2 sc) := by unfold rkS; simp
theorem rkS_bd (sc : Int) : ∀ ms : List Mark, 0 ≤ rkS sc ms ∧ rkS sc ms ≤ 2 * ms.length
  | [] => by simp [rkS]
  | x :: r => by
    have ih := rkS_bd sc r
    have hb := cmpI_bd x.2.2 sc
    have e : rkS sc (x :: r) = (1 - cmpI x.2.2 sc) + rkS sc r := by unfold rkS; rw [List.map_cons, List.sum_cons]
    rw [e, List.length_cons]
    omega
theorem rkS_perm {sc : Int} {a b : List Mark} (h : a.Perm b) : rkS sc a = rkS sc b := perm_sum (h.map _)
/-- The map of scores has an entry for each mark. -/
theorem scE_is : ∀ (ms : List Mark) (es : List (ByteArray × Value)), (ms.map (fun m => m.1)).Nodup → (∀ m ∈ ms, m.1 ∉ es.map (·.1)) →
    ms.foldl (fun es m => mput es m.1 (.int .i64 m.2.2)) es = es ++ ms.map (fun m => (m.1, Value.int .i64 m.2.2))
  | [], es, _, _ => by simp
  | x :: r, es, hn, hd => by
    have hnew : ∀ (es : List (ByteArray × Value)) (k : ByteArray) (v : Value), k ∉ es.map (·.1) → mput es k v = es ++ [(k, v)] := by
      intro es k v hk
      induction es with
      | nil => rfl
      | cons y s ih =>
        rw [List.map_cons, List.mem_cons, not_or] at hk
        unfold mput
        rw [if_neg (fun e => hk.1 e.symm), ih hk.2]; rfl
    rw [List.map_cons, List.nodup_cons] at hn
    rw [List.foldl_cons, hnew es _ _ (hd x (by simp)), scE_is r _ hn.2 ?_]
    · simp
    · intro m hm hc
      rw [List.map_append, List.mem_append] at hc
      rcases hc with hc | hc
      · exact hd m (by simp [hm]) hc
      · simp at hc
        exact hn.1 (hc ▸ List.mem_map_of_mem hm)
theorem scE_map {l : List Mark} (h : marksFault l = 0) (a : ByteArray) : scE (sel (fun x => x.2.1) a l) = (sel (fun x => x.2.1) a l).map (fun m => (m.1, Value.int .i64 m.2.2)) := by
  unfold scE; rw [scE_is _ _ (sel_papers h a) (by simp)]; rfl
/-- The marks of a person but the one of a paper. -/
def rest (l : List Mark) (a p : ByteArray) : List Mark := l.filter (fun x => decide (x.2.1 = a) && !decide (x.1 = p))
theorem rest_snoc (l : List Mark) (a p : ByteArray) (x : Mark) : rest (l ++ [x]) a p = if x.2.1 = a ∧ ¬ x.1 = p then rest l a p ++ [x] else rest l a p := by
  unfold rest
  rw [List.filter_append, List.filter_cons]
  by_cases h1 : x.2.1 = a <;> by_cases h2 : x.1 = p <;> simp [h1, h2]
theorem rest_len (l : List Mark) (a p : ByteArray) : (rest l a p).length ≤ l.length := List.length_filter_le _ _
theorem rest_law {l : List Mark} (h : marksFault l = 0) {a p : ByteArray} {sc : Int} (hs : scOf l p a = some sc) :
    rkS sc (sel (fun x => x.2.1) a l) = rkS sc (rest l a p) + 1 ∧ (sel (fun x => x.2.1) a l).length = (rest l a p).length + 1 := by
  have hm : (p, a, sc) ∈ sel (fun x => x.2.1) a l := List.mem_filter.2 ⟨scOf_some hs, by simp⟩
  have hn := sel_papers h a
  have hr : rest l a p = (sel (fun x => x.2.1) a l).filter (fun x => !decide (x.1 = p)) := by
    unfold rest sel; rw [List.filter_filter]
    apply List.filter_congr
    intro x _
    rw [Bool.and_comm]
  rw [hr]
  obtain ⟨s, t, e⟩ := List.append_of_mem hm
  rw [e] at hn ⊢
  rw [List.map_append, List.map_cons, List.nodup_append] at hn
  obtain ⟨h1, h2, h3⟩ := hn
  rw [List.nodup_cons] at h2
  have hs1 : s.filter (fun x => !decide (x.1 = p)) = s := by
    rw [List.filter_eq_self]
    intro x hx
    have := h3 x.1 (List.mem_map_of_mem hx) p (by simp)
    simpa using this
  have ht1 : t.filter (fun x => !decide (x.1 = p)) = t := by
    rw [List.filter_eq_self]
    intro x hx
    have : x.1 ≠ p := fun e => h2.1 (by show p ∈ _; rw [← e]; exact List.mem_map_of_mem (f := fun m : Mark => m.1) hx)
    simpa using this
  rw [List.filter_append, List.filter_cons, hs1, ht1]
  simp only [decide_true, Bool.not_true, Bool.false_eq_true, if_false]
  unfold rkS
  rw [List.map_append, List.map_cons, List.sum_append, List.sum_cons, List.map_append, List.sum_append, cmpI_self, List.length_append, List.length_append, List.length_cons]
  omega
/-- Rank's fraction. -/
def rankN (l : List Mark) (a p : ByteArray) : Int := match scOf l p a with | none => 0 | some sc => if rest l a p = [] then 1 else lowN (rkS sc (rest l a p)) (2 * (rest l a p).length)
def rankD (l : List Mark) (a p : ByteArray) : Int := match scOf l p a with | none => 0 | some sc => if rest l a p = [] then 2 else lowD (rkS sc (rest l a p)) (2 * (rest l a p).length)
def rankE (l : List Mark) (a p : ByteArray) : Int := match scOf l p a with | none => 8 | some _ => 0

/-- All marks of a person, shifted. -/
def shiftL (a : ByteArray) (d : Int) (l : List Mark) : List Mark := l.map (fun m => if m.2.1 = a then (m.1, m.2.1, m.2.2 + d) else m)
/-- A mark that cannot be shifted. -/
def shBad (a : ByteArray) (d : Int) (m : Mark) : Bool := decide (m.2.1 = a) && (decide (d < -m.2.2) || decide (10 - m.2.2 < d))
def shiftE (l : List Mark) (a : ByteArray) (d : Int) : Int := if sel (fun x => x.2.1) a l = [] then 8 else if l.any (shBad a d) then 1 else 0
end Go.Proofs.YtaoomkkhpianlaaGreatDoor
