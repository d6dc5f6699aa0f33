/- Balanced marks: the plain law; floor, floored. -/
import Derived.Test.YtcjcdbhobehlpaaGreatDoorScore
/-! Balanced marks: the plain law; floor, floored. -/
namespace Go.Proofs.YtcjcdbhobehlpaaGreatDoor
open Go.RowKit
set_option linter.unusedVariables false
set_option linter.unusedSimpArgs false

theorem floor_eq (a b : Int) (hb : 1 ≤ b) : (if a.tmod b < 0 then a.tdiv b - 1 else a.tdiv b) = a / b := by
 have h1 := Int.mul_tdiv_add_tmod a b
 obtain ⟨h2, h3⟩ := tmod_bd a b hb
 symm
 split
 ·
  refine ((Int.ediv_emod_unique (r := a.tmod b + b) (by omega)).2 ⟨?_, by omega, by omega⟩).1
  rw [Int.mul_sub]; omega
 ·
  refine ((Int.ediv_emod_unique (r := a.tmod b) (by omega)).2 ⟨?_, by omega, by omega⟩).1
  omega
theorem tdiv_ge (a b : Int) (hb : 1 ≤ b) : a < a.tdiv b * b ↔ a.tmod b < 0 := by
 have h1 := Int.mul_tdiv_add_tmod a b
 rw [Int.mul_comm] at h1
 omega
theorem tdiv_abs (a b M : Int) (hb : 1 ≤ b) (h1 : -M ≤ a) (h2 : a ≤ M) : -M ≤ a.tdiv b ∧ a.tdiv b ≤ M := by
 have h := Int.natAbs_tdiv_le_natAbs a b
 omega

/-- The sum of what a mark gives, without what its other key has. -/
def sumF (g : Mark → ByteArray) (B : ByteArray → Int) (ms : List Mark) : Int := (ms.map (fun m => 1000000 * m.2.2 - B (g m))).sum
theorem sumF_snoc (g : Mark → ByteArray) (B : ByteArray → Int) (ms : List Mark) (x : Mark) : sumF g B (ms ++ [x]) = sumF g B ms + (1000000 * x.2.2 - B (g x)) := by
 unfold sumF; rw [List.map_append, List.sum_append]; simp

theorem sumF_bd (g : Mark → ByteArray) (B : ByteArray → Int) (M : Int) (hB : ∀ q, -M ≤ B q ∧ B q ≤ M) : ∀ (ms : List Mark), okScores ms → -(ms.length * (10000000 + M)) ≤ sumF g B ms ∧ sumF g B ms ≤ ms.length * (10000000 + M)
 | [], _ => by simp [sumF]
 | x :: r, h => by
  have ih := sumF_bd g B M hB r (fun y hy => h y (by simp [hy]))
  have hx := h x (by simp)
  have hb := hB (g x)
  have e : sumF g B (x :: r) = (1000000 * x.2.2 - B (g x)) + sumF g B r := by unfold sumF; rw [List.map_cons, List.sum_cons]
  rw [e, List.length_cons, Int.natCast_add, Int.add_mul]
  simp only [Int.natCast_one, Int.one_mul]
  omega
theorem ediv_bd {x n K : Int} (hn : 1 ≤ n) (h1 : -(n * K) ≤ x) (h2 : x ≤ n * K) : -K ≤ x / n ∧ x / n ≤ K := by
 constructor
 ·
  refine Int.le_ediv_of_mul_le (by omega) ?_
  rw [Int.neg_mul, Int.mul_comm K n]; exact h1
 ·
  refine Int.ediv_le_of_le_mul (by omega) ?_
  rw [Int.mul_comm K n]; exact h2
/-- One half of a round. -/
def stepF (f g : Mark → ByteArray) (l : List Mark) (B : ByteArray → Int) (p : ByteArray) : Int :=
 if sel f p l = [] then 0 else sumF g B (sel f p l) / ((sel f p l).length : Int)

theorem stepF_bd (f g : Mark → ByteArray) (l : List Mark) (hl : okScores l) (B : ByteArray → Int) (M : Int) (hM : 0 ≤ M) (hB : ∀ q, -M ≤ B q ∧ B q ≤ M) (p : ByteArray) : -(10000000 + M) ≤ stepF f g l B p ∧ stepF f g l B p ≤ 10000000 + M := by
 unfold stepF
 split
 ·
  omega
 ·
  rename_i h
  have h1 := sumF_bd g B M hB (sel f p l) (okScores_sel hl)
  exact ediv_bd (by have := List.length_pos_iff.2 h; omega) h1.1 h1.2
/-- Worths and biases behind n rounds. -/
def bal (l : List Mark) : Nat → (ByteArray → Int) × (ByteArray → Int)
 | 0 => (fun _ => 0, fun _ => 0)
 | n + 1 => (stepF (fun x => x.1) (fun x => x.2.1) l (bal l n).2, stepF (fun x => x.2.1) (fun x => x.1) l (stepF (fun x => x.1) (fun x => x.2.1) l (bal l n).2))
theorem bal_bd (l : List Mark) (hl : okScores l) : ∀ n : Nat, (∀ q, -(20000000 * (n : Int)) ≤ (bal l n).1 q ∧ (bal l n).1 q ≤ 20000000 * (n : Int)) ∧ (∀ q, -(20000000 * (n : Int)) ≤ (bal l n).2 q ∧ (bal l n).2 q ≤ 20000000 * (n : Int))
 | 0 => by simp [bal]
 | n + 1 => by
  have ih := bal_bd l hl n
  have hw := stepF_bd (fun x => x.1) (fun x => x.2.1) l hl (bal l n).2 (20000000 * (n : Int)) (by omega) ih.2
  have hb := stepF_bd (fun x => x.2.1) (fun x => x.1) l hl (stepF (fun x => x.1) (fun x => x.2.1) l (bal l n).2) (10000000 + 20000000 * (n : Int)) (by omega) hw
  refine ⟨fun q => ?_, fun q => ?_⟩
  ·
   have := hw q
   rw [bal]
   simp only
   omega
  ·
   have := hb q
   rw [bal]
   simp only
   omega
/-- A function is changed at one place. -/
def updF (W : ByteArray → Int) (k : ByteArray) (v : Int) : ByteArray → Int := fun q => if k = q then v else W q
open Classical in
/-- Some keys are still to come. -/
noncomputable def mixF (left : List ByteArray) (Wo Wn : ByteArray → Int) : ByteArray → Int := fun q => if q ∈ left then Wo q else Wn q
theorem mixF_nil (Wo Wn : ByteArray → Int) : mixF [] Wo Wn = Wn := by funext q; simp [mixF]
theorem mixF_all {left : List ByteArray} {Wo Wn : ByteArray → Int} (h : ∀ q, q ∉ left → Wo q = Wn q) : mixF left Wo Wn = Wo := by
 funext q
 unfold mixF
 split
 ·
  rfl
 ·
  rename_i hq; exact (h q hq).symm
theorem mixF_step {p q : List ByteArray} {k : ByteArray} {Wo Wn : ByteArray → Int} (hn : (p ++ k :: q).Nodup) : updF (mixF (p ++ k :: q) Wo Wn) k (Wn k) = mixF (p ++ q) Wo Wn := by
 funext x
 unfold updF mixF
 have hk : k ∉ p ++ q := by
  intro h
  rw [List.nodup_append] at hn
  obtain ⟨_, h2, h3⟩ := hn
  rw [List.nodup_cons] at h2
  rcases List.mem_append.1 h with h | h
  ·
   exact h3 k h k (by simp) rfl
  ·
   exact h2.1 h
 by_cases hx : k = x
 ·
  subst hx
  rw [if_pos rfl, if_neg hk]
 ·
  rw [if_neg hx]
  have : x ∈ p ++ k :: q ↔ x ∈ p ++ q := by
   simp only [List.mem_append, List.mem_cons]
   constructor
   ·
    rintro (h | h | h)
    ·
     exact .inl h
    ·
     exact absurd h.symm hx
    ·
     exact .inr h
   ·
    rintro (h | h)
    ·
     exact .inl h
    ·
     exact .inr (.inr h)
  by_cases h : x ∈ p ++ q
  ·
   rw [if_pos (this.2 h), if_pos h]
  ·
   rw [if_neg (fun h' => h (this.1 h')), if_neg h]
theorem sel_nil_iff {f : Mark → ByteArray} {p : ByteArray} {l : List Mark} : sel f p l = [] ↔ ¬ ∃ x ∈ l, f x = p := by
 unfold sel
 rw [List.filter_eq_nil_iff]
 constructor
 ·
  rintro h ⟨x, hx, e⟩
  exact h x hx (by simp [e])
 ·
  intro h x hx e
  exact h ⟨x, hx, by simpa using e⟩
theorem stepF_none {f g : Mark → ByteArray} {l : List Mark} {B : ByteArray → Int} {p : ByteArray} (h : ¬ ∃ x ∈ l, f x = p) : stepF f g l B p = 0 := by
 unfold stepF; rw [if_pos (sel_nil_iff.2 h)]
theorem bal_none1 (l : List Mark) (n : Nat) (p : ByteArray) (h : ¬ ∃ x ∈ l, x.1 = p) : (bal l n).1 p = 0 := by
 cases n with
 | zero => rfl
 | succ n => exact stepF_none h
theorem bal_none2 (l : List Mark) (n : Nat) (p : ByteArray) (h : ¬ ∃ x ∈ l, x.2.1 = p) : (bal l n).2 p = 0 := by
 cases n with
 | zero => rfl
 | succ n => exact stepF_none h

/-- Block b is a map that gives W (0 where it has nothing). -/
def MI (w : World) (b : Nat) (W : ByteArray → Int) : Prop := ∃ es, MBox w b es ∧ ∀ p, (mget es p).getD (.int .i64 0) = .int .i64 (W p)
theorem MI.lt {w : World} {b : Nat} {W : ByteArray → Int} (h : MI w b W) : b < w.heap.size := by obtain ⟨es, h, _⟩ := h; exact h.lt
theorem MI.same {w w' : World} {b : Nat} {W : ByteArray → Int} (h : MI w b W) (k : w'.heap[b]? = w.heap[b]?) : MI w' b W := by obtain ⟨es, h1, h2⟩ := h; exact ⟨es, h1.same k, h2⟩
theorem MI.below {w w' : World} {b : Nat} {W : ByteArray → Int} (h : MI w b W) (k : Below w.heap.size w w') : MI w' b W := h.same (k.block _ h.lt)
theorem MI.alloc {w : World} {b : Nat} {W : ByteArray → Int} (h : MI w b W) (o : Obj) : MI (w.alloc o) b W := h.same (Below.heap_alloc _ _ _ h.lt)
theorem MI.grown {w w' : World} {b : Nat} {W : ByteArray → Int} {row : Option Nat} (h : MI w b W) (k : w.grownBy w' row) (hne : some b ≠ row) : MI w' b W := h.same (k.block _ h.lt hne)
theorem MI.new (w : World) : MI (w.alloc (.map #[] 0)) w.heap.size (fun _ => 0) := ⟨[], MBox.new w, fun p => rfl⟩
theorem MI.newAt (w : World) (n : Nat) (h : n = w.heap.size) : MI (w.alloc (.map #[] 0)) n (fun _ => 0) := by subst h; exact MI.new w
theorem Tryz.zeroI (w : World) : (zeroValue 3).run Tryz.prog w = .ok (.int .i64 0) w := Tryz.zeroValue3 w
theorem MI.look {w : World} {b : Nat} {W : ByteArray → Int} (h : MI w b W) (p : ByteArray) : (Instr.lookup 67 (.map (some b)) (.string p) false).run Tryz.prog w = .ok (.int .i64 (W p)) w := by
 obtain ⟨es, h1, h2⟩ := h
 rw [MBox.look h1 Tryz.underlying67 Tryz.underlying9 (.int .i64 0) Tryz.zeroI p false]
 unfold looked
 simp only [Bool.false_eq_true, if_false, h2]
/-- A store, for the walk. -/
theorem wpList_store_int {w : World} {ops : Array Oper} {rest : List Oper} {o : Oper} {a : Act} {Q : Exit → Act → World → Prop}
  (hg : o.guard = none) (m x y : Operand) (hop : o.op = Op.mapUpdate 67 m x y)
  (b : Nat) (W : ByteArray → Int) (hm : a.eval m = .map (some b)) (hbox : MI w b W) (k : ByteArray) (hx : a.eval x = .string k) (v : Int) (hv : a.eval y = .int .i64 v)
  (hK : ∀ w', MI w' b (updF W k v) → w.grownBy w' (some b) → w'.heap.size = w.heap.size → wpList Tryz.prog ops Q rest (a.put o.dst undef) w') :
  wpList Tryz.prog ops Q (o :: rest) a w := by
 obtain ⟨es, h1, h2⟩ := hbox
 refine wpList_mapUpdate_box hg m x y _ hop _ _ Tryz.underlying67 Tryz.underlying9 b es hm h1 k hx (.int .i64 v) hv ?_
 intro w' r1 r2 r3
 refine hK w' ⟨_, r1, fun p => ?_⟩ r2 r3
 rw [mget_mput]
 unfold updF
 split
 ·
  rfl
 ·
  exact h2 p

end Go.Proofs.YtcjcdbhobehlpaaGreatDoor

/-! Balanced marks: levels, balanced. -/
namespace Go.Proofs.YtcjcdbhobehlpaaGreatDoor
open Go.RowKit
set_option linter.unusedVariables false
set_option linter.unusedSimpArgs false

end Go.Proofs.YtcjcdbhobehlpaaGreatDoor

/-! Balanced marks: BalancedOf. -/
namespace Go.Proofs.YtcjcdbhobehlpaaGreatDoor
open Go.RowKit
set_option linter.unusedVariables false
set_option linter.unusedSimpArgs false




end Go.Proofs.YtcjcdbhobehlpaaGreatDoor
