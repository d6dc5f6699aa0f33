/- Runs of equal words. Plain. -/
import Derived.Test.YthajoedabjfaaaaGreatDoorArr
namespace Go.Proofs.YthajoedabjfaaaaGreatDoor
open Go.RowKit
set_option linter.unusedVariables false
set_option linter.unusedSimpArgs false

/-- How many words are equal from the beginnings on. -/
def cplL : List ByteArray → List ByteArray → Nat
  | a :: r, b :: s => if a = b then cplL r s + 1 else 0
  | [], _ => 0
  | _ :: _, [] => 0
def cpl (x y : List ByteArray) (i j : Nat) : Nat := cplL (x.drop i) (y.drop j)
theorem cplL_right (x : List ByteArray) : cplL x [] = 0 := by cases x <;> rfl
theorem cpl_eq {x y : List ByteArray} {i j : Nat} (hi : i < x.length) (hj : j < y.length) (h : x[i] = y[j]) : cpl x y i j = cpl x y (i + 1) (j + 1) + 1 := by
  unfold cpl
  rw [List.drop_eq_getElem_cons hi, List.drop_eq_getElem_cons hj, cplL, if_pos h]
theorem cpl_ne {x y : List ByteArray} {i j : Nat} (hi : i < x.length) (hj : j < y.length) (h : ¬ x[i] = y[j]) : cpl x y i j = 0 := by
  unfold cpl
  rw [List.drop_eq_getElem_cons hi, List.drop_eq_getElem_cons hj, cplL, if_neg h]
theorem cpl_outL {x y : List ByteArray} {i j : Nat} (h : x.length ≤ i) : cpl x y i j = 0 := by
  unfold cpl; rw [List.drop_eq_nil_of_le h]; cases y.drop j <;> rfl
theorem cpl_outR {x y : List ByteArray} {i j : Nat} (h : y.length ≤ j) : cpl x y i j = 0 := by
  unfold cpl; rw [List.drop_eq_nil_of_le h]; exact cplL_right _
theorem cplL_le : ∀ x y : List ByteArray, cplL x y ≤ x.length ∧ cplL x y ≤ y.length
  | [], y => ⟨Nat.zero_le _, by cases y <;> exact Nat.zero_le _⟩
  | a :: r, [] => ⟨Nat.zero_le _, Nat.zero_le _⟩
  | a :: r, b :: s => by
    have ih := cplL_le r s
    rw [cplL]
    split
    · simp only [List.length_cons]; omega
    · exact ⟨Nat.zero_le _, Nat.zero_le _⟩
theorem cpl_le (x y : List ByteArray) (i j : Nat) : cpl x y i j ≤ x.length - i ∧ cpl x y i j ≤ y.length - j := by
  have h := cplL_le (x.drop i) (y.drop j)
  rw [List.length_drop, List.length_drop] at h
  exact h
/-- The words before are equal: a run does not begin here. -/
def midB (x y : List ByteArray) (i j : Nat) : Bool := decide (0 < i ∧ 0 < j ∧ x[i - 1]? = y[j - 1]?)
abbrev Run3 := Int × Int × Int
instance instCelRun3 : Cel Run3 := ⟨3, fun t => [.int .i64 t.1, .int .i64 t.2.1, .int .i64 t.2.2], fun _ => rfl, by decide, by simp [Value.oneCell']⟩
theorem SA.run3 {w : World} {a : Option Addr} {l : List Run3} (h : SA w a l) {i : Nat} (hi : i < l.length) :
    ∃ b off, a = some ⟨b, off, none⟩ ∧ w.cell? ⟨b, off + i * 3, none⟩ = some (.int .i64 l[i].1) ∧ w.cell? ⟨b, off + i * 3 + 1, none⟩ = some (.int .i64 l[i].2.1) ∧ w.cell? ⟨b, off + i * 3 + 2, none⟩ = some (.int .i64 l[i].2.2) := by
  obtain ⟨b, off, ha, hc⟩ := h.at hi
  exact ⟨b, off, ha, hc 0 (by decide), hc 1 (by decide), hc 2 (by decide)⟩
def runAt (x y : List ByteArray) (least : Int) (i j : Nat) : List Run3 := if midB x y i j = false ∧ least ≤ (cpl x y i j : Int) then [((i : Int), (j : Int), (cpl x y i j : Int))] else []
def runRow (x y : List ByteArray) (least : Int) (i : Nat) : Nat → List Run3
  | 0 => []
  | j + 1 => runRow x y least i j ++ runAt x y least i j
def runsTo (x y : List ByteArray) (least : Int) : Nat → List Run3
  | 0 => []
  | i + 1 => runsTo x y least i ++ runRow x y least i y.length
def runsL (x y : List ByteArray) (least : Int) : List Run3 := runsTo x y least x.length
theorem runAt_len (x y : List ByteArray) (least : Int) (i j : Nat) : (runAt x y least i j).length ≤ 1 := by unfold runAt; split <;> simp
theorem runRow_len (x y : List ByteArray) (least : Int) (i : Nat) : ∀ j, (runRow x y least i j).length ≤ j
  | 0 => Nat.le_refl _
  | j + 1 => by
    have ih := runRow_len x y least i j
    have h := runAt_len x y least i j
    rw [runRow, List.length_append]; omega
theorem runsTo_len (x y : List ByteArray) (least : Int) : ∀ i, (runsTo x y least i).length ≤ i * y.length
  | 0 => Nat.zero_le _
  | i + 1 => by
    have ih := runsTo_len x y least i
    have h := runRow_len x y least i y.length
    rw [runsTo, List.length_append, Nat.succ_mul]; omega
end Go.Proofs.YthajoedabjfaaaaGreatDoor
