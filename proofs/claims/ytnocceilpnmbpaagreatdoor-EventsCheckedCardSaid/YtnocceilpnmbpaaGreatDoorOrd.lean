/- Orders of strings; lists of strings that rise. -/
import Derived.Test.YtnocceilpnmbpaaGreatDoorList
import Derived.Lib.Bytealg
namespace Go.Proofs.YtnocceilpnmbpaaGreatDoor
open Go.RowKit
set_option linter.unusedVariables false
set_option linter.unusedSimpArgs false

/-- strings.Compare. -/
def cmpS (a b : ByteArray) : Int := Lib.compareBytes a.data.toList b.data.toList
theorem cmpB_lt : ∀ a b : List UInt8, Lib.compareBytes a b < 0 ↔ a < b
 | [], [] => by simp [Lib.compareBytes]
 | [], y :: b => by simp [Lib.compareBytes]
 | x :: a, [] => by simp [Lib.compareBytes]
 | x :: a, y :: b => by
  rw [Lib.compareBytes, List.cons_lt_cons_iff]
  by_cases h1 : x < y
  ·
   simp [h1]
  ·
   by_cases h2 : y < x
   ·
    simp [h1, h2]
    rintro rfl; exact absurd h2 (UInt8.lt_irrefl _)
   ·
    have he : x = y := UInt8.le_antisymm (UInt8.not_lt.1 h2) (UInt8.not_lt.1 h1)
    simp [h1, h2, he, cmpB_lt a b]
theorem cmpB_zero : ∀ a b : List UInt8, Lib.compareBytes a b = 0 ↔ a = b
 | [], [] => by simp [Lib.compareBytes]
 | [], y :: b => by simp [Lib.compareBytes]
 | x :: a, [] => by simp [Lib.compareBytes]
 | x :: a, y :: b => by
  rw [Lib.compareBytes, List.cons.injEq]
  by_cases h1 : x < y
  ·
   simp [h1]
   rintro rfl; exact absurd h1 (UInt8.lt_irrefl _)
  ·
   by_cases h2 : y < x
   ·
    simp [h1, h2]
    rintro rfl; exact absurd h2 (UInt8.lt_irrefl _)
   ·
    have he : x = y := UInt8.le_antisymm (UInt8.not_lt.1 h2) (UInt8.not_lt.1 h1)
    simp [h1, h2, he, cmpB_zero a b]
theorem cmpB_bd : ∀ a b : List UInt8, -1 ≤ Lib.compareBytes a b ∧ Lib.compareBytes a b ≤ 1
 | [], [] => by simp [Lib.compareBytes]
 | [], y :: b => by simp [Lib.compareBytes]
 | x :: a, [] => by simp [Lib.compareBytes]
 | x :: a, y :: b => by
  rw [Lib.compareBytes]
  split
  ·
   omega
  ·
   split
   ·
    omega
   ·
    exact cmpB_bd a b
theorem ba_ext {a b : ByteArray} : a.data.toList = b.data.toList ↔ a = b := by
 rw [← ByteArray.toList_eq, ← ByteArray.toList_eq]; exact toList_inj
theorem cmpS_zero {a b : ByteArray} : cmpS a b = 0 ↔ a = b := by unfold cmpS; rw [cmpB_zero, ba_ext]
theorem cmpS_bd (a b : ByteArray) : -1 ≤ cmpS a b ∧ cmpS a b ≤ 1 := cmpB_bd _ _
/-- a < b. -/
def ltS (a b : ByteArray) : Prop := a.data.toList < b.data.toList
theorem cmpS_lt {a b : ByteArray} : cmpS a b < 0 ↔ ltS a b := cmpB_lt _ _
theorem ltS_irrefl (a : ByteArray) : ¬ ltS a a := List.lt_irrefl _
theorem ltS_trans {a b c : ByteArray} (h : ltS a b) (k : ltS b c) : ltS a c := List.lt_trans h k
theorem cmpB_gt : ∀ a b : List UInt8, 0 < Lib.compareBytes a b ↔ b < a
 | [], [] => by simp [Lib.compareBytes]
 | [], y :: b => by simp [Lib.compareBytes]
 | x :: a, [] => by simp [Lib.compareBytes]
 | x :: a, y :: b => by
  rw [Lib.compareBytes, List.cons_lt_cons_iff]
  by_cases h1 : x < y
  ·
   have h3 : ¬ y < x := fun h => UInt8.lt_irrefl _ (UInt8.lt_trans h1 h)
   have h4 : ¬ y = x := fun h => by subst h; exact UInt8.lt_irrefl _ h1
   simp [h1, h3, h4]
  ·
   by_cases h2 : y < x
   ·
    simp [h1, h2]
   ·
    have he : x = y := UInt8.le_antisymm (UInt8.not_lt.1 h2) (UInt8.not_lt.1 h1)
    simp [h1, h2, he, cmpB_gt a b]
theorem cmpS_gt {a b : ByteArray} : 0 < cmpS a b ↔ ltS b a := cmpB_gt _ _
theorem ltS_tri (a b : ByteArray) : ltS a b ∨ a = b ∨ ltS b a := by
 rcases Int.lt_trichotomy (cmpS a b) 0 with h | h | h
 ·
  exact .inl (cmpS_lt.1 h)
 ·
  exact .inr (.inl (cmpS_zero.1 h))
 ·
  exact .inr (.inr (cmpS_gt.1 h))
theorem ltS_asymm {a b : ByteArray} (h : ltS a b) : ¬ ltS b a := fun k => ltS_irrefl _ (ltS_trans h k)

theorem tl_eq {a b : ByteArray} (h : a = b) : (a.toList == b.toList) = true := by rw [beq_iff_eq, h]
theorem tl_ne {a b : ByteArray} (h : ¬ a = b) : (a.toList == b.toList) = false := by rw [beq_eq_false_iff_ne]; exact fun e => h (toList_inj.1 e)
theorem tl_ne' {a b : ByteArray} (h : ¬ a = b) : (a.toList != b.toList) = true := by rw [bne, tl_ne h]; rfl
theorem tl_eq' {a b : ByteArray} (h : a = b) : (a.toList != b.toList) = false := by rw [bne, tl_eq h]; rfl

/-- A list of strings that rises. -/
def Rise (l : List ByteArray) : Prop := l.Pairwise ltS
theorem Rise.nodup {l : List ByteArray} (h : Rise l) : l.Nodup := h.imp (fun {a b} h e => by subst e; exact ltS_irrefl _ h)
/-- Two lists that rise and have the same members are the same. -/
theorem rise_ext {a b : List ByteArray} (ha : Rise a) (hb : Rise b) (h : ∀ p, p ∈ a ↔ p ∈ b) : a = b := by
 have hp : a.Perm b := (List.perm_ext_iff_of_nodup ha.nodup hb.nodup).2 h
 exact List.Perm.eq_of_pairwise (le := ltS) (fun x y _ _ h1 h2 => absurd h2 (ltS_asymm h1)) ha hb hp
/-- A string is put into a list that rises. -/
def insS (x : ByteArray) : List ByteArray → List ByteArray
 | [] => [x]
 | y :: r => if cmpS x y < 0 then x :: y :: r else if x = y then y :: r else y :: insS x r
theorem insS_mem (x p : ByteArray) (l : List ByteArray) : p ∈ insS x l ↔ p = x ∨ p ∈ l := by
 induction l with
 | nil => simp [insS]
 | cons y r ih =>
  unfold insS
  by_cases h1 : cmpS x y < 0
  ·
   simp [h1]
  ·
   by_cases h2 : x = y
   ·
    subst h2; simp [h1]
   ·
    simp only [h1, h2, if_false, List.mem_cons, ih]
    constructor
    ·
     rintro (h | h | h) <;> simp [h]
    ·
     rintro (h | h | h) <;> simp [h]
theorem insS_rise (x : ByteArray) (l : List ByteArray) (h : Rise l) : Rise (insS x l) := by
 induction l with
 | nil => exact List.pairwise_singleton _ _
 | cons y r ih =>
  have hr := List.pairwise_cons.1 h
  unfold insS
  by_cases h1 : cmpS x y < 0
  ·
   rw [if_pos h1]
   refine List.pairwise_cons.2 ⟨fun z hz => ?_, h⟩
   rcases List.mem_cons.1 hz with rfl | hz
   ·
    exact cmpS_lt.1 h1
   ·
    exact ltS_trans (cmpS_lt.1 h1) (hr.1 z hz)
  ·
   rw [if_neg h1]
   by_cases h2 : x = y
   ·
    rw [if_pos h2]; exact h
   ·
    rw [if_neg h2]
    refine List.pairwise_cons.2 ⟨fun z hz => ?_, ih hr.2⟩
    rcases (insS_mem x z r).1 hz with rfl | hz
    ·
     rcases ltS_tri z y with h3 | h3 | h3
     ·
      exact absurd (cmpS_lt.2 h3) h1
     ·
      exact absurd h3 h2
     ·
      exact h3
    ·
     exact hr.1 z hz
/-- The strings of a list, rising, each once. -/
def keysS (l : List ByteArray) : List ByteArray := l.foldr insS []
theorem keysS_mem (l : List ByteArray) (p : ByteArray) : p ∈ keysS l ↔ p ∈ l := by
 induction l with
 | nil => simp [keysS]
 | cons x r ih =>
  rw [show keysS (x :: r) = insS x (keysS r) from rfl, insS_mem, ih, List.mem_cons]
theorem keysS_rise (l : List ByteArray) : Rise (keysS l) := by
 induction l with
 | nil => exact List.Pairwise.nil
 | cons x r ih => exact insS_rise x _ ih
theorem keysS_is {l ks : List ByteArray} (h : Rise ks) (hm : ∀ p, p ∈ ks ↔ p ∈ l) : ks = keysS l := rise_ext h (keysS_rise l) fun p => by rw [hm, keysS_mem]
theorem insS_length (x : ByteArray) (l : List ByteArray) : (insS x l).length ≤ l.length + 1 := by
 induction l with
 | nil => simp [insS]
 | cons y r ih => unfold insS; split; simp; split <;> simp; omega
theorem keysS_length (l : List ByteArray) : (keysS l).length ≤ l.length := by
 induction l with
 | nil => simp [keysS]
 | cons x r ih => have := insS_length x (keysS r); rw [show keysS (x :: r) = insS x (keysS r) from rfl, List.length_cons]; omega
end Go.Proofs.YtnocceilpnmbpaaGreatDoor
