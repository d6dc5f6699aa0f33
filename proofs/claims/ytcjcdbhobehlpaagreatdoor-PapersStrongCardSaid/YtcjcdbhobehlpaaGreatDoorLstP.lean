/- The least by sets: bounds, the order, bits of numbers as the program takes them. -/
import Derived.Test.YtcjcdbhobehlpaaGreatDoorStrP
import Derived.Laws.OwnMore
namespace Go.Proofs.YtcjcdbhobehlpaaGreatDoor
open Go.RowKit
set_option linter.unusedVariables false
set_option linter.unusedSimpArgs false

theorem pow_wrapN {n : Nat} (h : n ≤ 14) : ∃ N : Nat, N = 2 ^ n ∧ 1 ≤ N ∧ N ≤ 16384 ∧ wrap64 ((2 : Int) ^ n) = (N : Int) := by
 have h1 : 2 ^ n ≤ 2 ^ 14 := Nat.pow_le_pow_right (by omega) h
 have h2 : 0 < 2 ^ n := Nat.pow_pos (by omega)
 have e : ((2 : Int) ^ n) = ((2 ^ n : Nat) : Int) := (Int.natCast_pow 2 n).symm
 refine ⟨2 ^ n, rfl, h2, h1, ?_⟩
 rw [e]
 generalize 2 ^ n = N at *
 exact IntWalk.wrap64_in _ (by omega)
theorem and1N (n : Int) : bits .and .i64 n 1 = n % 2 := by
 have h1 : (BitVec.ofInt 64 1).toNat = 2 ^ 1 - 1 := by decide
 have key : (BitVec.ofInt 64 n &&& BitVec.ofInt 64 1).toNat = (n % ((2 ^ 64 : Nat) : Int)).toNat % 2 ^ 1 := by
  rw [BitVec.toNat_and, BitVec.toNat_ofInt, h1, Nat.and_two_pow_sub_one_eq_mod]
 show IntKind.i64.wrap ((BitVec.ofInt 64 n &&& BitVec.ofInt 64 1).toNat : Nat) = n % 2
 rw [key, IntKind.wrap_i64]
 omega
theorem bit_atN (s j : Nat) : bits .and .i64 ((s : Int) / (2 : Int) ^ j) 1 = if hasN s j = true then 1 else 0 := by
 rw [and1N]
 unfold hasN
 rw [Nat.testBit_eq_decide_div_mod_eq]
 have e : ((2 : Int) ^ j) = ((2 ^ j : Nat) : Int) := (Int.natCast_pow 2 j).symm
 rw [e]
 have e2 : ((s : Int) / ((2 ^ j : Nat) : Int)) = ((s / 2 ^ j : Nat) : Int) := rfl
 rw [e2]
 generalize s / 2 ^ j = q
 by_cases h : q % 2 = 1
 ·
  rw [if_pos (decide_eq_true h)]; omega
 ·
  rw [if_neg (by simpa using h)]; omega
theorem andNot_bv (s k : Nat) (hs : s < 2 ^ 64) (hk : k < 64) (h : hasN s k = true) : (BitVec.ofNat 64 s &&& ~~~BitVec.ofNat 64 (2 ^ k)).toNat = s ^^^ 2 ^ k := by
 have hlt : s ^^^ 2 ^ k < 2 ^ 64 := Nat.xor_lt_two_pow hs (Nat.pow_lt_pow_right (by omega) hk)
 have e : (BitVec.ofNat 64 s &&& ~~~BitVec.ofNat 64 (2 ^ k)) = BitVec.ofNat 64 (s ^^^ 2 ^ k) := by
  apply BitVec.eq_of_getLsbD_eq
  intro j hj
  unfold hasN at h
  simp only [BitVec.getLsbD_and, BitVec.getLsbD_not, BitVec.getLsbD_ofNat, Nat.testBit_xor, Nat.testBit_two_pow, hj, decide_true, Bool.true_and]
  by_cases e : k = j
  ·
   subst e; rw [h]; simp
  ·
   simp [e]
 rw [e, BitVec.toNat_ofNat, Nat.mod_eq_of_lt hlt]
theorem andNotN (s k : Nat) (hs : s ≤ 16384) (hk : k ≤ 14) (h : hasN s k = true) : bits .andNot .i64 (s : Int) (wrap64 ((2 : Int) ^ k)) = ((drp s k : Nat) : Int) := by
 obtain ⟨N, hN, hN1, hN2, hw⟩ := pow_wrapN hk
 rw [hw, hN]
 have h1 := andNot_bv s k (by omega) (by omega) h
 have h2 := drp_lt s k h
 show IntKind.i64.wrap ((BitVec.ofInt 64 ((s : Nat) : Int) &&& ~~~BitVec.ofInt 64 ((2 ^ k : Nat) : Int)).toNat : Nat) = _
 rw [BitVec.ofInt_natCast, BitVec.ofInt_natCast, h1]
 show IntKind.i64.wrap ((drp s k : Nat) : Int) = _
 rw [IntWalk.i64_in _ (by omega)]
theorem scan_high {c : Nat → Int} {s : Nat} {M : Int} (hM : -1 ≤ M) (hc : ∀ i, hasN s i = true → c i ≤ M) : ∀ n, (scanTo c s n).1 ≤ M
 | 0 => hM
 | n + 1 => by
  have ih := scan_high hM hc n
  unfold scanTo
  split
  ·
   next hb =>
   split
   ·
    exact hc n hb
   ·
    exact ih
  ·
   exact ih
theorem cst_high {W : Nat → Nat → Int} {M : Int} (hM : 0 ≤ M) (hW : ∀ a b, W a b ≤ M) (s i : Nat) : ∀ k : Nat, cstTo W s i k ≤ M * (k : Int)
 | 0 => by simp [cstTo]
 | k + 1 => by
  have ih := cst_high hM hW s i k
  have := hW k i
  show cstTo W s i k + (if (hasN s k && decide (k ≠ i)) = true then W k i else 0) ≤ _
  have e : M * ((k + 1 : Nat) : Int) = M * (k : Int) + M := by rw [Int.natCast_add, Int.mul_add]; simp
  rw [e]
  split <;> omega
theorem dp_high {W : Nat → Nat → Int} {M : Int} (hM : 0 ≤ M) (hW : ∀ a b, W a b ≤ M) (n : Nat) (hn : M * (n : Int) ≤ 4000) : ∀ s a, (dpTo W n s).1 a ≤ 4000 * (a : Int)
 | 0, a => by rw [dpTo]; show (0 : Int) ≤ _; omega
 | s + 1, a => by
  have ih := dp_high hM hW n hn s
  by_cases h0 : s = 0
  ·
   subst h0
   rw [dpTo, if_pos rfl, dpTo]
   show (0 : Int) ≤ _; omega
  ·
   rw [dp_succ W n h0]
   show (if a = s then (scanTo (cAt W n s) s n).1 else (dpTo W n s).1 a) ≤ _
   by_cases e : a = s
   ·
    rw [if_pos e, e]
    refine scan_high (by omega) (fun i hb => ?_) n
    have h1 := ih (drp s i)
    have h2 := cst_high hM hW s i n
    have h3 := drp_lt s i hb
    unfold cAt
    omega
   ·
    rw [if_neg e]; exact ih a
/-- The scan's best of a part of the round is never over its bound. -/
theorem scan_part {W : Nat → Nat → Int} {M : Int} (hM : 0 ≤ M) (hW : ∀ a b, W a b ≤ M) (n : Nat) (hn : M * (n : Int) ≤ 4000) (s i : Nat) : (scanTo (cAt W n s) s i).1 ≤ 4000 * (s : Int) := by
 refine scan_high (by omega) (fun i hb => ?_) i
 have h1 := dp_high hM hW n hn s (drp s i)
 have h2 := cst_high hM hW s i n
 have h3 := drp_lt s i hb
 unfold cAt
 omega
theorem ordOf_fuel (W : Nat → Nat → Int) {n : Nat} (hW : ∀ a b, 0 ≤ W a b) : ∀ f s, s < 2 ^ n → s ≤ f → ordOf W n f s = ordOf W n s s
 | 0, s, _, h => by
  obtain rfl : s = 0 := by omega
  rfl
 | f + 1, s, hs, h => by
  by_cases h0 : s = 0
  ·
   subst h0; unfold ordOf; rw [if_pos rfl]
  ·
   obtain ⟨t, rfl⟩ : ∃ t, s = t + 1 := ⟨s - 1, by omega⟩
   obtain ⟨-, h2, -, -⟩ := next_spec hW h0 hs
   have h3 := drp_lt _ _ h2
   unfold ordOf
   rw [if_neg h0, if_neg h0, ordOf_fuel W hW f _ (by omega) (by omega), ordOf_fuel W hW t _ (by omega) (by omega)]
/-- The order that comes of a set, without the fuel. -/
def ordS (W : Nat → Nat → Int) (n s : Nat) : List Nat := ordOf W n s s
theorem ordS_zero (W : Nat → Nat → Int) (n : Nat) : ordS W n 0 = [] := rfl
theorem ordS_step {W : Nat → Nat → Int} (hW : ∀ a b, 0 ≤ W a b) {n s : Nat} (h0 : s ≠ 0) (hs : s < 2 ^ n) : ordS W n s = (dpTo W n (2 ^ n)).2 s :: ordS W n (drp s ((dpTo W n (2 ^ n)).2 s)) := by
 obtain ⟨t, rfl⟩ : ∃ t, s = t + 1 := ⟨s - 1, by omega⟩
 obtain ⟨-, h2, -, -⟩ := next_spec hW h0 hs
 have h3 := drp_lt _ _ h2
 unfold ordS
 rw [show ordOf W n (t + 1) (t + 1) = (dpTo W n (2 ^ n)).2 (t + 1) :: ordOf W n t (drp (t + 1) ((dpTo W n (2 ^ n)).2 (t + 1))) from by show (if t + 1 = 0 then [] else _) = _; rw [if_neg h0], ordOf_fuel W hW t _ (by omega) (by omega)]
theorem ordS_len {W : Nat → Nat → Int} (hW : ∀ a b, 0 ≤ W a b) {n : Nat} : ∀ s, s < 2 ^ n → (ordS W n s).length ≤ s := by
 intro s
 induction s using Nat.strongRecOn with
 | _ s ih =>
  intro hs
  by_cases h0 : s = 0
  ·
   subst h0; exact Nat.le_refl _
  ·
   rw [ordS_step hW h0 hs]
   obtain ⟨-, h2, -, -⟩ := next_spec hW h0 hs
   have h3 := drp_lt _ _ h2
   have := ih _ h3 (by omega)
   simp only [List.length_cons]
   omega
theorem dp_tail (W : Nat → Nat → Int) (n : Nat) : ∀ s a, s ≤ a → (dpTo W n s).2 a = 0
 | 0, a, _ => by rw [dpTo]
 | s + 1, a, h => by
  have ih := dp_tail W n s
  by_cases h0 : s = 0
  ·
   subst h0; rw [dpTo, if_pos rfl, dpTo]
  ·
   rw [dp_succ W n h0]
   show (if a = s then _ else _) = _
   rw [if_neg (by omega)]
   exact ih a (by omega)
/-- The cost without the last: the set without i, paper by paper. -/
theorem cst_step (W : Nat → Nat → Int) {s i : Nat} (h : hasN s i = true) (k : Nat) : cstTo W s i (k + 1) = cstTo W s i k + if hasN (drp s i) k = true then W k i else 0 := by
 rw [drp_has s i k h]
 rfl
end Go.Proofs.YtcjcdbhobehlpaaGreatDoor
