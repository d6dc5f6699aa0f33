/- Balanced marks: the plain law; floor, floored. -/
import Derived.Test.YtgihommenknhoaaGreatDoorScore
/-! Balanced marks: the plain law; floor, floored. -/
namespace Go.Proofs.YtgihommenknhoaaGreatDoor
open Go.RowKit
set_option linter.unusedVariables false
set_option linter.unusedSimpArgs false

theorem floor_eq (a b : Int) (hb : 1 ≤ b) : (if a.tmod b < 0 then a.tdiv b - 1 else a.tdiv b) = a / b := by
  have h1 := Int.mul_tdiv_add_tmod a b
  obtain ⟨h2, h3⟩ := tmod_bd a b hb
  symm
  split
  · refine ((Int.ediv_emod_unique (r := a.tmod b + b) (by omega)).2 ⟨?_, by omega, by omega⟩).1
    rw [Int.mul_sub]; omega
  · refine ((Int.ediv_emod_unique (r := a.tmod b) (by omega)).2 ⟨?_, by omega, by omega⟩).1
    omega
theorem tdiv_ge (a b : Int) (hb : 1 ≤ b) : a < a.tdiv b * b ↔ a.tmod b < 0 := by
  have h1 := Int.mul_tdiv_add_tmod a b
  rw [Int.mul_comm] at h1
  omega
theorem tdiv_abs (a b M : Int) (hb : 1 ≤ b) (h1 : -M ≤ a) (h2 : a ≤ M) : -M ≤ a.tdiv b ∧ a.tdiv b ≤ M := by
  have h := Int.natAbs_tdiv_le_natAbs a b
  omega

/-- The sum of what a mark gives, without what its other key has. -/
def sumF (g : Mark → ByteArray) (B : ByteArray → Int) (ms : List Mark) : Int := (ms.map (fun m => 1000000 * m.2.2 - B (g m))).sum
theorem sumF_snoc (g : Mark → ByteArray) (B : ByteArray → Int) (ms : List Mark) (x : Mark) : sumF g B (ms ++ [x]) = sumF g B ms + (1000000 * x.2.2 - B (g x)) := by
  unfold sumF; rw [List.map_append, List.sum_append]; simp

theorem sumF_bd (g : Mark → ByteArray) (B : ByteArray → Int) (M : Int) (hB : ∀ q, -M ≤ B q ∧ B q ≤ M) : ∀ (ms : List Mark), okScores ms → -(ms.length * (10000000 + M)) ≤ sumF g B ms ∧ sumF g B ms ≤ ms.length * (10000000 + M)
  | [], _ => by simp [sumF]
  | x :: r, h => by
    have ih := sumF_bd g B M hB r (fun y hy => h y (by simp [hy]))
    have hx := h x (by simp)
    have hb := hB (g x)
    have e : sumF g B (x :: r) = (1000000 * x.2.2 - B (g x)) + sumF g B r := by unfold sumF; rw [List.map_cons, List.sum_cons]
    rw [e, List.length_cons, Int.natCast_add, Int.add_mul]
    simp only [Int.natCast_one, Int.one_mul]
    omega
theorem ediv_bd {x n K : Int} (hn : 1 ≤ n) (h1 : -(n * K) ≤ x) (h2 : x ≤ n * K) : -K ≤ x / n ∧ x / n ≤ K := by
  constructor
  · refine Int.le_ediv_of_mul_le (by omega) ?_
    rw [Int.neg_mul, Int.mul_comm K n]; exact h1
  · refine Int.ediv_le_of_le_mul (by omega) ?_
    rw [Int.mul_comm K n]; exact h2
/-- One half of a round. -/
def stepF (f g : Mark → ByteArray) (l : List Mark) (B : ByteArray → Int) (p : ByteArray) : Int :=
  if sel f p l = [] then 0 else sumF g B (sel f p l) / ((sel f p l).length : Int)

theorem stepF_bd (f g : Mark → ByteArray) (l : List Mark) (hl : okScores l) (B : ByteArray → Int) (M : Int) (hM : 0 ≤ M) (hB : ∀ q, -M ≤ B q ∧ B q ≤ M) (p : ByteArray) : -(10000000 + M) ≤ stepF f g l B p ∧ stepF f g l B p ≤ 10000000 + M := by
  unfold stepF
  split
  · omega
  · rename_i h
    have h1 := sumF_bd g B M hB (sel f p l) (okScores_sel hl)
    exact ediv_bd (by have := List.length_pos_iff.2 h; omega) h1.1 h1.2
/-- Worths and biases behind n rounds. -/
def bal (l : List Mark) : Nat → (ByteArray → Int) × (ByteArray → Int)
  | 0 => (fun _ => 0, fun _ => 0)
  | n + 1 => (stepF (fun x => x.1) (fun x => x.2.1) l (bal l n).2, stepF (fun x => x.2.1) (fun x => x.1) l (stepF (fun x => x.1) (fun x => x.2.1) l (bal l n).2))
theorem bal_bd (l : List Mark) (hl : okScores l) : ∀ n : Nat, (∀ q, -(20000000 * (n : Int)) ≤ (bal l n).1 q ∧ (bal l n).1 q ≤ 20000000 * (n : Int)) ∧ (∀ q, -(20000000 * (n : Int)) ≤ (bal l n).2 q ∧ (bal l n).2 q ≤ 20000000 * (n : Int))
  | 0 => by simp [bal]
  | n + 1 => by
    have ih := bal_bd l hl n
    have hw := stepF_bd (fun x => x.1) (fun x => x.2.1) l hl (bal l n).2 (20000000 * (n : Int)) (by omega) ih.2
    have hb := stepF_bd (fun x => x.2.1) (fun x => x.1) l hl (stepF (fun x => x.1) (fun x => x.2.1) l (bal l n).2) (10000000 + 20000000 * (n : Int)) (by omega) hw
    refine ⟨fun q => ?_, fun q => ?_⟩
    · have := hw q
      rw [bal]
      simp only
      omega
    · have := hb q
      rw [bal]
      simp only
      omega
/-- A function is changed at one place. -/
def updF (W : ByteArray → Int) (k : ByteArray) (v : Int) : ByteArray → Int := fun q => if k = q then v else W q
open Classical in
/-- Some keys are still to come. -/
noncomputable def mixF (left : List ByteArray) (Wo Wn : ByteArray → Int) : ByteArray → Int := fun q => if q ∈ left then Wo q else Wn q
theorem mixF_nil (Wo Wn : ByteArray → Int) : mixF [] Wo Wn = Wn := by funext q; simp [mixF]
theorem mixF_all {left : List ByteArray} {Wo Wn : ByteArray → Int} (h : ∀ q, q ∉ left → Wo q = Wn q) : mixF left Wo Wn = Wo := by
  funext q
  unfold mixF
  split
  · rfl
  · rename_i hq; exact (h q hq).symm
theorem mixF_step {p q : List ByteArray} {k : ByteArray} {Wo Wn : ByteArray → Int} (hn : (p ++ k :: q).Nodup) : updF (mixF (p ++ k :: q) Wo Wn) k (Wn k) = mixF (p ++ q) Wo Wn := by
  funext x
  unfold updF mixF
  have hk : k ∉ p ++ q := by
    intro h
    rw [List.nodup_append] at hn
    obtain ⟨_, h2, h3⟩ := hn
    rw [List.nodup_cons] at h2
    rcases List.mem_append.1 h with h | h
    · exact h3 k h k (by simp) rfl
    · exact h2.1 h
  by_cases hx : k = x
  · subst hx
    rw [if_pos rfl, if_neg hk]
  · rw [if_neg hx]
    have : x ∈ p ++ k :: q ↔ x ∈ p ++ q := by
      simp only [List.mem_append, List.mem_cons]
      constructor
      · rintro (h | h | h)
        · exact .inl h
        · exact absurd h.symm hx
        · exact .inr h
      · rintro (h | h)
        · exact .inl h
        · exact .inr (.inr h)
    by_cases h : x ∈ p ++ q
    · rw [if_pos (this.2 h), if_pos h]
    · rw [if_neg (fun h' => h (this.1 h')), if_neg h]
theorem sel_nil_iff {f : Mark → ByteArray} {p : ByteArray} {l : List Mark} : sel f p l = [] ↔ ¬ ∃ x ∈ l, f x = p := by
  unfold sel
  rw [List.filter_eq_nil_iff]
  constructor
  · rintro h ⟨x, hx, e⟩
    exact h x hx (by simp [e])
  · intro h x hx e
    exact h ⟨x, hx, by simpa using e⟩
theorem stepF_none {f g : Mark → ByteArray} {l : List Mark} {B : ByteArray → Int} {p : ByteArray} (h : ¬ ∃ x ∈ l, f x = p) : stepF f g l B p = 0 := by
  unfold stepF; rw [if_pos (sel_nil_iff.2 h)]
theorem bal_none1 (l : List Mark) (n : Nat) (p : ByteArray) (h : ¬ ∃ x ∈ l, x.1 = p) : (bal l n).1 p = 0 := by
  cases n with
  | zero => rfl
  | succ n => exact stepF_none h
theorem bal_none2 (l : List Mark) (n : Nat) (p : ByteArray) (h : ¬ ∃ x ∈ l, x.2.1 = p) : (bal l n).2 p = 0 := by
  cases n with
  | zero => rfl
  | succ n => exact stepF_none h

/-- Block b is a map that gives W (0 where it has nothing). -/
def MI (w : World) (b : Nat) (W : ByteArray → Int) : Prop := ∃ es, MBox w b es ∧ ∀ p, (mget es p).getD (.int .i64 0) = .int .i64 (W p)
theorem MI.lt {w : World} {b : Nat} {W : ByteArray → Int} (h : MI w b W) : b < w.heap.size := by obtain ⟨es, h, _⟩ := h; exact h.lt
theorem MI.same {w w' : World} {b : Nat} {W : ByteArray → Int} (h : MI w b W) (k : w'.heap[b]? = w.heap[b]?) : MI w' b W := by obtain ⟨es, h1, h2⟩ := h; exact ⟨es, h1.same k, h2⟩
theorem MI.below {w w' : World} {b : Nat} {W : ByteArray → Int} (h : MI w b W) (k : Below w.heap.size w w') : MI w' b W := h.same (k.block _ h.lt)
theorem MI.alloc {w : World} {b : Nat} {W : ByteArray → Int} (h : MI w b W) (o : Obj) : MI (w.alloc o) b W := h.same (Below.heap_alloc _ _ _ h.lt)
theorem MI.grown {w w' : World} {b : Nat} {W : ByteArray → Int} {row : Option Nat} (h : MI w b W) (k : w.grownBy w' row) (hne : some b ≠ row) : MI w' b W := h.same (k.block _ h.lt hne)
theorem MI.new (w : World) : MI (w.alloc (.map #[] 0)) w.heap.size (fun _ => 0) := ⟨[], MBox.new w, fun p => rfl⟩
theorem MI.newAt (w : World) (n : Nat) (h : n = w.heap.size) : MI (w.alloc (.map #[] 0)) n (fun _ => 0) := by subst h; exact MI.new w
theorem Tryz.zeroI (w : World) : (zeroValue 3).run Tryz.prog w = .ok (.int .i64 0) w := Tryz.zeroValue3 w
theorem MI.look {w : World} {b : Nat} {W : ByteArray → Int} (h : MI w b W) (p : ByteArray) : (Instr.lookup 102 (.map (some b)) (.string p) false).run Tryz.prog w = .ok (.int .i64 (W p)) w := by
  obtain ⟨es, h1, h2⟩ := h
  rw [MBox.look h1 Tryz.underlying102 Tryz.underlying9 (.int .i64 0) Tryz.zeroI p false]
  unfold looked
  simp only [Bool.false_eq_true, if_false, h2]
/-- A store, for the walk. -/
theorem wpList_store_int {w : World} {ops : Array Oper} {rest : List Oper} {o : Oper} {a : Act} {Q : Exit → Act → World → Prop}
    (hg : o.guard = none) (m x y : Operand) (hop : o.op = Op.mapUpdate 102 m x y)
    (b : Nat) (W : ByteArray → Int) (hm : a.eval m = .map (some b)) (hbox : MI w b W) (k : ByteArray) (hx : a.eval x = .string k) (v : Int) (hv : a.eval y = .int .i64 v)
    (hK : ∀ w', MI w' b (updF W k v) → w.grownBy w' (some b) → w'.heap.size = w.heap.size → wpList Tryz.prog ops Q rest (a.put o.dst undef) w') :
    wpList Tryz.prog ops Q (o :: rest) a w := by
  obtain ⟨es, h1, h2⟩ := hbox
  refine wpList_mapUpdate_box hg m x y _ hop _ _ Tryz.underlying102 Tryz.underlying9 b es hm h1 k hx (.int .i64 v) hv ?_
  intro w' r1 r2 r3
  refine hK w' ⟨_, r1, fun p => ?_⟩ r2 r3
  rw [mget_mput]
  unfold updF
  split
  · rfl
  · exact h2 p

theorem floorB_any (a b : Int) (w : World) (hb : 1 ≤ b) (h1 : -4000000000000000000 ≤ a) (h2 : a ≤ 4000000000000000000) :
    Calls Tryz.prog 198 #[.int .i64 a, .int .i64 b] w (fun e w' => e = .returned (.int .i64 (a / b)) ∧ w = w') := by
  have hq := tdiv_abs a b 4000000000000000000 hb h1 h2
  have HF := Lib.hid (floor_eq a b hb)
  by_cases hm : a.tmod b < 0
  · rw [if_pos hm] at HF
    have hb0 : (b == 0) = false := by simp; omega
    go_enter Tryz.func198, Tryz.ntmps198
    go_wp2
    go_ret
    exact ⟨ret_int HF.out, rfl⟩
  · rw [if_neg hm] at HF
    have hb0 : (b == 0) = false := by simp; omega
    go_enter Tryz.func198, Tryz.ntmps198
    go_wp2
    go_ret
    exact ⟨ret_int HF.out, rfl⟩
set_option maxHeartbeats 400000 in
theorem floored_any (a b : Int) (w : World) (hb : 1 ≤ b) (hb2 : b ≤ 1000000) (h1 : -1000000000000000 ≤ a) (h2 : a ≤ 1000000000000000) :
    Calls Tryz.prog 174 #[.int .i64 a, .int .i64 b] w (fun e w' => e = .returned (.int .i64 (a / b)) ∧ w = w') := by
  have hq0 := Int.mul_tdiv_add_tmod a b
  rw [Int.mul_comm] at hq0
  obtain ⟨ht1, ht2⟩ := tmod_bd a b hb
  have he0 := Int.mul_ediv_add_emod a b
  rw [Int.mul_comm] at he0
  have he1 := Int.emod_nonneg a (show b ≠ 0 by omega)
  have he2 := Int.emod_lt_of_pos a (show 0 < b by omega)
  have hle : a / b ≤ a.tdiv b := by rw [← floor_eq a b hb]; split <;> omega
  have hq := tdiv_abs a b 1000000000000000 hb h1 h2
  have hE : ∀ z : Int, a / b ≤ z → z ≤ a.tdiv b → a - b < z * b ∧ z * b < a + b ∧ (a < z * b → a / b ≤ z - 1) ∧ (¬ a < z * b → z = a / b) := fun z hz1 hz2 => by
    have k1 := Int.mul_le_mul_of_nonneg_right hz1 (show 0 ≤ b by omega)
    have k2 := Int.mul_le_mul_of_nonneg_right hz2 (show 0 ≤ b by omega)
    refine ⟨by omega, by omega, fun h => ?_, fun h => ?_⟩
    · have := (Int.ediv_lt_iff_lt_mul (show 0 < b by omega)).2 h; omega
    · have := (Int.le_ediv_iff_mul_le (show 0 < b by omega)).2 (Int.not_lt.1 h); omega
  have HE := Lib.hid hE
  have hbd : -1000000000000000 - 1 ≤ a / b := by rw [← floor_eq a b hb]; split <;> omega
  have hb0 : (b == 0) = false := by simp; omega
  clear hE hq0 he0 he1 he2 ht1 ht2
  generalize a / b = q at *
  go_enter Tryz.func174, Tryz.ntmps174
  go_wp2
  go_loop [5] (fun v => ∃ z : Int, v = .int .i64 z ∧ q ≤ z ∧ z ≤ a.tdiv b) (fun v => (intOf v - q).toNat)
  case atStart => exact ⟨_, rfl, hle, Int.le_refl _⟩
  case round =>
    obtain ⟨z, rfl, hz1, hz2⟩ := hrel
    obtain ⟨k1, k2, k3, k4⟩ := HE.out z hz1 hz2
    by_cases hc : a < z * b
    · have k5 := k3 hc
      clear k3 k4
      go_wp2
      go_round
      case rel => exact ⟨z - 1, rfl, k5, by omega⟩
      case measure => simp [intOf]; omega
    · have k5 := k4 (Int.not_lt.1 hc)
      clear k3 k4
      subst k5
      go_wp2
      go_ret
      exact ⟨rfl, rfl⟩
end Go.Proofs.YtgihommenknhoaaGreatDoor

/-! Balanced marks: levels, balanced. -/
namespace Go.Proofs.YtgihommenknhoaaGreatDoor
open Go.RowKit
set_option linter.unusedVariables false
set_option linter.unusedSimpArgs false

theorem Tryz.infoLevel : (Tryz.prog.info? 177).map (fun i => (i.zero, i.size, i.bytes)) = some (some (.agg #[.string ⟨#[]⟩, .int .i64 0]), 2, 24) := by kernel_rfl



set_option maxRecDepth 100000 in
set_option maxHeartbeats 4000000 in
theorem balanced_any (sb b1 b2 base : Nat) (a : Option Addr) (cap : Nat) (l : List Mark) (es1 es2 : List (ByteArray × Value)) (R : Nat) (w : World) (hst : ShSt sb b1 b2 base a l.length cap l l es1 es2 w) (hok : okScores l) (hl : l.length ≤ 100000) (hR : R ≤ 100) :
    Calls Tryz.prog 167 #[.pointer (some ⟨sb, 0, none⟩), .int .i64 R] w (fun e w' => e = .returned (.tuple #[.map (some w.heap.size), .map (some (w.heap.size + 1))]) ∧ MI w' w.heap.size (bal l R).1 ∧ MI w' (w.heap.size + 1) (bal l R).2 ∧ Below w.heap.size w w') := by
  have hmm := @run_makeMap Tryz.prog
  go_enter Tryz.func167, Tryz.ntmps167
  go_wp2_with fail
  go_loopg [19] R (fun gk i wr => ∃ n : Nat, i = .int .i64 n ∧ n ≤ R ∧ Hid (gk = R - n) ∧ MI wr w.heap.size (bal l n).1 ∧ MI wr (w.heap.size + 1) (bal l n).2 ∧ Below w.heap.size w wr ∧ w.heap.size + 1 < wr.heap.size)
  case atStart => exact ⟨0, rfl, by omega, rfl, (MI.new w).alloc _, MI.newAt _ _ (by simp), by (repeat' (first | exact Below.refl _ _ | assumption | refine Below.setCell ?_ ?_ _ | refine below_drewN ?_ _ | refine Below.drew ?_ | refine Below.alloc ?_ ?_ _ | (with_reducible refine Below.trans ?_ (Below.mono hb ?_)) | (with_reducible refine Below.trans ?_ (Below.mono hb0 ?_)) | (with_reducible refine Below.trans ?_ (Below.mono hb1 ?_)) | (with_reducible refine Below.trans ?_ (Below.mono hb2 ?_)) | (with_reducible refine Below.trans ?_ (Below.mono hb3 ?_)) | (with_reducible refine Below.trans ?_ (Below.mono hb4 ?_)) | (with_reducible refine Below.trans ?_ (Below.mono hb5 ?_)) | (with_reducible refine Below.trans ?_ (Below.mono hb6 ?_)) | (with_reducible refine Below.trans ?_ (Below.mono hb7 ?_)) | (with_reducible refine Below.trans ?_ (Below.mono hb8 ?_)) | (with_reducible refine Below.trans ?_ (Below.mono hb9 ?_)) | (with_reducible refine Below.trans ?_ (Below.mono hb10 ?_)) | (with_reducible refine Below.trans ?_ (Below.mono hb11 ?_)) | (with_reducible refine Below.trans ?_ (Below.mono hb12 ?_)) | (with_reducible refine Below.trans ?_ (Below.mono hb13 ?_)) | (with_reducible refine Below.trans ?_ (Below.mono hb14 ?_)) | (with_reducible refine Below.trans ?_ (Below.mono hb15 ?_)) | omega | (simp; done) | (simp; omega))), by simp⟩
  case round =>
    clear hmm
    obtain ⟨n, rfl, hn, hgk, hMd, hMs, hb, hz2⟩ := hrel
    by_cases hlt : n < R
    · obtain ⟨wo, rfl⟩ : ∃ wo : World, wo = wr := ⟨_, rfl⟩
      have hS := (hst.below hb).box
      have HW0 := Lib.hid (fun q h => (bal_none1 l n q h).trans (bal_none1 l (n + 1) q h).symm)
      have HW0b := Lib.hid (fun q h => (bal_none2 l n q h).trans (bal_none2 l (n + 1) q h).symm)
      have HWn : Hid (∀ p, sel (fun x => x.1) p l ≠ [] → (bal l (n + 1)).1 p = sumF (fun x => x.2.1) (bal l n).2 (sel (fun x => x.1) p l) / ((sel (fun x => x.1) p l).length : Int)) := fun p h => by rw [bal]; simp only; rw [stepF, if_neg h]
      have HWnb : Hid (∀ p, sel (fun x => x.2.1) p l ≠ [] → (bal l (n + 1)).2 p = sumF (fun x => x.1) (bal l (n + 1)).1 (sel (fun x => x.2.1) p l) / ((sel (fun x => x.2.1) p l).length : Int)) := fun p h => by rw [bal]; simp only; rw [stepF, if_neg h]
      have HB : Hid (∀ q, -3000000000 ≤ (bal l n).2 q ∧ (bal l n).2 q ≤ 3000000000) := fun q => by have := (bal_bd l hok n).2 q; omega
      have HBb : Hid (∀ q, -3000000000 ≤ (bal l (n + 1)).1 q ∧ (bal l (n + 1)).1 q ≤ 3000000000) := fun q => by have := (bal_bd l hok (n + 1)).1 q; omega
      generalize (bal l n).1 = Wo at *
      generalize (bal l n).2 = B at *
      generalize hWa : (bal l (n + 1)).1 = Wn at *
      have HWa := Lib.hid hWa
      clear hWa
      generalize hWb : (bal l (n + 1)).2 = Wnb at *
      have HWb := Lib.hid hWb
      clear hWb
      have hS_l := hS.lt; have hS_0 := hS.cell 0; have hS_1 := hS.cell 1; have hS_2 := hS.cell 2; simp at hS_0 hS_1 hS_2
      go_wp2_with ((refine wpList_range_box rfl _ 93 rfl 9 26 Tryz.underlying93 b1 es1 rfl (hst.below hb).one.box ?_; intro o' hI))
      go_frame
      generalize hro : wo.heap.size = ri at *
      have hri : w.heap.size + 1 < ri := by omega
      have hb0 := hb.alloc (by omega) o'
      have hMd0 := hMd.alloc o'
      have hMs0 := hMs.alloc o'
      have hz0 : ri < (wo.alloc o').heap.size := by simp; omega
      have hnd0 := hst.one.nodup
      have hky0 := hst.one.keys
      have hmx : mixF (es1.map (·.1)) Wo Wn = Wo := mixF_all fun q hq => HW0.out q (fun h => hq ((hky0 q).2 h))
      have Hnd0 := Lib.hid hnd0
      have Hky0 := Lib.hid hky0
      have Hmx := Lib.hid hmx
      clear hMd hMs hb hnd0 hky0 hmx hro hz2
      clear hS_l hS_0 hS_1 hS_2
      go_loopg [] es1.length (fun gk wr => ∃ left : List (ByteArray × Value), Hid (gk = left.length) ∧ IBox wr ri b1 es1 left ∧ Hid ((left.map (·.1)).Nodup) ∧ Hid (∀ p ∈ left, p ∈ es1) ∧ MI wr w.heap.size (mixF (left.map (·.1)) Wo Wn) ∧ MI wr (w.heap.size + 1) B ∧ Below w.heap.size w wr ∧ ri < wr.heap.size)
      case atStart => exact ⟨es1, rfl, hI, Hnd0.out, fun p hp => hp, by rw [Hmx.out]; exact hMd0, hMs0, hb0, hz0⟩
      clear hI hb0 hMd0 hMs0 hz0
      obtain ⟨left, hgk2, hI, hnd, hsub, hMd, hMs, hb, hz⟩ := hrel
      have hzz := hb.size
      go_wp2_with ((refine wpList_next_box rfl _ rfl ri b1 es1 left rfl hI ?_ ?_))
      rotate_left 1
      · intro p0 kk v q w' hleft hI2 hent hg hsz
        have hin : (kk, v) ∈ es1 := hsub.out _ (by rw [hleft]; simp)
        have hb2 : Below w.heap.size w w' := hb.grown hg (by omega) (by rintro j hj; cases hj; omega)
        have hMd2 := hMd.grown hg (by simp; omega)
        have hMs2 := hMs.grown hg (by simp; omega)
        have hbS : b1 < w.heap.size := hst.one.box.lt
        have hval := (hst.below hb2).one.vals kk
        rw [valOf_mem Hnd0.out hin] at hval
        have hne : sel (fun x => x.1) kk l ≠ [] := by rw [Ne, sel_nil_iff]; exact fun h => h ((Hky0.out kk).1 (List.mem_map_of_mem (f := (·.1)) hin))
        have HWk := Lib.hid (HWn.out kk hne)
        have hoks := okScores_sel (f := (fun x => x.1)) (p := kk) hok
        have hsell : (sel (fun x => x.1) kk l).length ≤ 100000 := Nat.le_trans (List.length_filter_le _ _) hl
        have hselp : 0 < (sel (fun x => x.1) kk l).length := List.length_pos_iff.2 hne
        have hleft' : left.map (·.1) = p0.map (·.1) ++ kk :: q.map (·.1) := by rw [hleft]; simp
        have hnd2 := hnd.out
        rw [hleft'] at hMd2 hnd2
        have Hmix := Lib.hid (mixF_step (Wo := Wo) (Wn := Wn) hnd2)
        have Hnd3 : Hid (((p0 ++ q).map (·.1)).Nodup) := by
          have := hnd2.sublist (List.Sublist.append (List.Sublist.refl _) (List.sublist_cons_self _ _))
          rw [List.map_append]; exact this
        have Hsub3 : Hid (∀ p ∈ p0 ++ q, p ∈ es1) := fun p hp => hsub.out p (by rw [hleft]; simp only [List.mem_append, List.mem_cons] at hp ⊢; exact hp.elim .inl (fun h => .inr (.inr h)))
        have hlen2 : (p0 ++ q).length < left.length := by rw [hleft]; simp
        obtain ⟨av, capv, rfl, hsa, _, _⟩ := hval.sa
        clear hne hin hval hleft hleft' hnd2 hsub hnd hMd hMs hI hb
        generalize sel (fun x => x.1) kk l = ms at *
        go_wp2_with fail
        go_loopg [8, 33] ms.length (fun gk nv iv wx => ∃ j : Nat, iv = .int .i64 j ∧ j ≤ ms.length ∧ Hid (gk = ms.length - j) ∧ nv = .int .i64 (sumF (fun x => x.2.1) B (ms.take j)) ∧ Below w'.heap.size w' wx)
        case atStart => exact ⟨0, rfl, by omega, rfl, rfl, Below.refl _ _⟩
        clear hent
        obtain ⟨j, rfl, hj, hgj, rfl, hbx⟩ := hrel
        have hzx := hbx.size
        by_cases hjl : j < ms.length
        · obtain ⟨mb, moff, ha', c0, c1, c2⟩ := (hsa.below hbx).mark hjl
          have htake := List.take_succ_eq_append_getElem hjl
          have Hsn := Lib.hid (show sumF (fun x => x.2.1) B (ms.take (j + 1)) = _ by rw [htake, sumF_snoc])
          have hbd := sumF_bd (fun x => x.2.1) B 3000000000 HB.out (ms.take j) (fun x hx => hoks x (List.mem_of_mem_take hx))
          have hxs := hoks ms[j] (List.getElem_mem hjl)
          have hbB := HB.out ((fun x => x.2.1) ms[j])
          rw [List.length_take] at hbd
          rw [ha']
          generalize hx : ms[j] = x at *
          obtain ⟨x1, x2, x3⟩ := x
          simp only at c0 c1 c2 hxs hbB Hsn
          clear hx htake
          generalize sumF (fun x => x.2.1) B (ms.take j) = sm at *
          have hlk := ((hMs2.below hbx).alloc (.cells #[.string x1, .string x2, .int .i64 x3] 88)).look x2
          generalize B x2 = bx at *
          go_wp2_with fail
          rw [← ha']
          go_roundg (ms.length - (j + 1))
          case measure => have := hgj.out; omega
          case rel => exact ⟨j + 1, by go_num, by omega, rfl, by rw [Hsn.out], by (repeat' (first | exact Below.refl _ _ | assumption | refine Below.setCell ?_ ?_ _ | refine below_drewN ?_ _ | refine Below.drew ?_ | refine Below.alloc ?_ ?_ _ | (with_reducible refine Below.trans ?_ (Below.mono hb ?_)) | (with_reducible refine Below.trans ?_ (Below.mono hb0 ?_)) | (with_reducible refine Below.trans ?_ (Below.mono hb1 ?_)) | (with_reducible refine Below.trans ?_ (Below.mono hb2 ?_)) | (with_reducible refine Below.trans ?_ (Below.mono hb3 ?_)) | (with_reducible refine Below.trans ?_ (Below.mono hb4 ?_)) | (with_reducible refine Below.trans ?_ (Below.mono hb5 ?_)) | (with_reducible refine Below.trans ?_ (Below.mono hb6 ?_)) | (with_reducible refine Below.trans ?_ (Below.mono hb7 ?_)) | (with_reducible refine Below.trans ?_ (Below.mono hb8 ?_)) | (with_reducible refine Below.trans ?_ (Below.mono hb9 ?_)) | (with_reducible refine Below.trans ?_ (Below.mono hb10 ?_)) | (with_reducible refine Below.trans ?_ (Below.mono hb11 ?_)) | (with_reducible refine Below.trans ?_ (Below.mono hb12 ?_)) | (with_reducible refine Below.trans ?_ (Below.mono hb13 ?_)) | (with_reducible refine Below.trans ?_ (Below.mono hb14 ?_)) | (with_reducible refine Below.trans ?_ (Below.mono hb15 ?_)) | omega | (simp; done) | (simp; omega)))⟩
        · obtain rfl : j = ms.length := by omega
          rw [List.take_length]
          have hbd := sumF_bd (fun x => x.2.1) B 3000000000 HB.out ms hoks
          have hMd3 := hMd2.below hbx
          have hMs3 := hMs2.below hbx
          have hI3 := hI2.below hbx
          have hb3 := hb2.trans (hbx.mono hb2.size)
          clear hjl hbx hMd2 hMs2 hI2 hb2 hgj
          generalize sumF (fun x => x.2.1) B ms = sm at *
          go_wp2_with fail
          refine (floorB_any _ _ _ (by omega) (by omega) (by omega)).mono ?_
          rintro e w'' ⟨rfl, rfl⟩
          go_wp2_with (at_mapUpdate; refine wpList_store_int rfl _ _ _ rfl w.heap.size _ rfl hMd3 kk rfl (sm / (ms.length : Int)) rfl ?_; intro W5 hM5 hg5 hs5)
          have hM6 : MI W5 w.heap.size (mixF ((p0 ++ q).map (·.1)) Wo Wn) := by
            rw [← HWk.out, Hmix.out, ← List.map_append] at hM5
            exact hM5
          have hI5 := hI3.same (hg5.block ri hI3.lt.1 (by simp; omega)) (hg5.block b1 hI3.lt.2 (by simp; omega))
          have hMs5 := hMs3.grown hg5 (by simp)
          have hb5 : Below w.heap.size w W5 := hb3.grown hg5 hb3.size (by rintro j hj; cases hj; omega)
          clear hM5 hMd3 hMs3 hI3 hb3 hg5
          go_wp2_with fail
          go_roundg (p0 ++ q).length
          case measure => have := hgk2.out; omega
          case rel => exact ⟨p0 ++ q, rfl, hI5, Hnd3, Hsub3, hM6, hMs5, hb5, by omega⟩
      intro hnil
      have hMd1 : MI wr w.heap.size Wn := by rw [hnil, List.map_nil, mixF_nil] at hMd; exact hMd
      clear hnil hMd hI hnd hsub Hnd0 Hky0 Hmx hgk2
      obtain ⟨wz, rfl⟩ : ∃ wz : World, wz = wr := ⟨_, rfl⟩
      have hz3 : w.heap.size + 1 < wz.heap.size := by omega
      clear hz hzz hri
      have hS := (hst.below hb).box
      have hMd := hMs
      have hMs := hMd1
      clear hMd1
      have hz2 := hz3
      clear hz3
      have hS_l := hS.lt; have hS_0 := hS.cell 0; have hS_1 := hS.cell 1; have hS_2 := hS.cell 2; simp at hS_0 hS_1 hS_2
      go_wp2_with ((refine wpList_range_box rfl _ 93 rfl 9 26 Tryz.underlying93 b2 es2 rfl (hst.below hb).two.box ?_; intro o' hI))
      go_frame
      generalize hro : wz.heap.size = ri at *
      have hri : w.heap.size + 1 < ri := by omega
      have hb0 := hb.alloc (by omega) o'
      have hMd0 := hMd.alloc o'
      have hMs0 := hMs.alloc o'
      have hz0 : ri < (wz.alloc o').heap.size := by simp; omega
      have hnd0 := hst.two.nodup
      have hky0 := hst.two.keys
      have hmx : mixF (es2.map (·.1)) B Wnb = B := mixF_all fun q hq => HW0b.out q (fun h => hq ((hky0 q).2 h))
      have Hnd0 := Lib.hid hnd0
      have Hky0 := Lib.hid hky0
      have Hmx := Lib.hid hmx
      clear hMd hMs hb hnd0 hky0 hmx hro hz2
      clear hS_l hS_0 hS_1 hS_2
      go_loopg [] es2.length (fun gk wr => ∃ left : List (ByteArray × Value), Hid (gk = left.length) ∧ IBox wr ri b2 es2 left ∧ Hid ((left.map (·.1)).Nodup) ∧ Hid (∀ p ∈ left, p ∈ es2) ∧ MI wr (w.heap.size + 1) (mixF (left.map (·.1)) B Wnb) ∧ MI wr w.heap.size Wn ∧ Below w.heap.size w wr ∧ ri < wr.heap.size)
      case atStart => exact ⟨es2, rfl, hI, Hnd0.out, fun p hp => hp, by rw [Hmx.out]; exact hMd0, hMs0, hb0, hz0⟩
      clear hI hb0 hMd0 hMs0 hz0
      obtain ⟨left, hgk2, hI, hnd, hsub, hMd, hMs, hb, hz⟩ := hrel
      have hzz := hb.size
      go_wp2_with ((refine wpList_next_box rfl _ rfl ri b2 es2 left rfl hI ?_ ?_))
      rotate_left 1
      · intro p0 kk v q w' hleft hI2 hent hg hsz
        have hin : (kk, v) ∈ es2 := hsub.out _ (by rw [hleft]; simp)
        have hb2 : Below w.heap.size w w' := hb.grown hg (by omega) (by rintro j hj; cases hj; omega)
        have hMd2 := hMd.grown hg (by simp; omega)
        have hMs2 := hMs.grown hg (by simp; omega)
        have hbS : b2 < w.heap.size := hst.two.box.lt
        have hval := (hst.below hb2).two.vals kk
        rw [valOf_mem Hnd0.out hin] at hval
        have hne : sel (fun x => x.2.1) kk l ≠ [] := by rw [Ne, sel_nil_iff]; exact fun h => h ((Hky0.out kk).1 (List.mem_map_of_mem (f := (·.1)) hin))
        have HWk := Lib.hid (HWnb.out kk hne)
        have hoks := okScores_sel (f := (fun x => x.2.1)) (p := kk) hok
        have hsell : (sel (fun x => x.2.1) kk l).length ≤ 100000 := Nat.le_trans (List.length_filter_le _ _) hl
        have hselp : 0 < (sel (fun x => x.2.1) kk l).length := List.length_pos_iff.2 hne
        have hleft' : left.map (·.1) = p0.map (·.1) ++ kk :: q.map (·.1) := by rw [hleft]; simp
        have hnd2 := hnd.out
        rw [hleft'] at hMd2 hnd2
        have Hmix := Lib.hid (mixF_step (Wo := B) (Wn := Wnb) hnd2)
        have Hnd3 : Hid (((p0 ++ q).map (·.1)).Nodup) := by
          have := hnd2.sublist (List.Sublist.append (List.Sublist.refl _) (List.sublist_cons_self _ _))
          rw [List.map_append]; exact this
        have Hsub3 : Hid (∀ p ∈ p0 ++ q, p ∈ es2) := fun p hp => hsub.out p (by rw [hleft]; simp only [List.mem_append, List.mem_cons] at hp ⊢; exact hp.elim .inl (fun h => .inr (.inr h)))
        have hlen2 : (p0 ++ q).length < left.length := by rw [hleft]; simp
        obtain ⟨av, capv, rfl, hsa, _, _⟩ := hval.sa
        clear hne hin hval hleft hleft' hnd2 hsub hnd hMd hMs hI hb
        generalize sel (fun x => x.2.1) kk l = ms at *
        go_wp2_with fail
        go_loopg [13, 67] ms.length (fun gk nv iv wx => ∃ j : Nat, iv = .int .i64 j ∧ j ≤ ms.length ∧ Hid (gk = ms.length - j) ∧ nv = .int .i64 (sumF (fun x => x.1) Wn (ms.take j)) ∧ Below w'.heap.size w' wx)
        case atStart => exact ⟨0, rfl, by omega, rfl, rfl, Below.refl _ _⟩
        clear hent
        obtain ⟨j, rfl, hj, hgj, rfl, hbx⟩ := hrel
        have hzx := hbx.size
        by_cases hjl : j < ms.length
        · obtain ⟨mb, moff, ha', c0, c1, c2⟩ := (hsa.below hbx).mark hjl
          have htake := List.take_succ_eq_append_getElem hjl
          have Hsn := Lib.hid (show sumF (fun x => x.1) Wn (ms.take (j + 1)) = _ by rw [htake, sumF_snoc])
          have hbd := sumF_bd (fun x => x.1) Wn 3000000000 HBb.out (ms.take j) (fun x hx => hoks x (List.mem_of_mem_take hx))
          have hxs := hoks ms[j] (List.getElem_mem hjl)
          have hbB := HBb.out ((fun x => x.1) ms[j])
          rw [List.length_take] at hbd
          rw [ha']
          generalize hx : ms[j] = x at *
          obtain ⟨x1, x2, x3⟩ := x
          simp only at c0 c1 c2 hxs hbB Hsn
          clear hx htake
          generalize sumF (fun x => x.1) Wn (ms.take j) = sm at *
          have hlk := ((hMs2.below hbx).alloc (.cells #[.string x1, .string x2, .int .i64 x3] 88)).look x1
          generalize Wn x1 = bx at *
          go_wp2_with fail
          rw [← ha']
          go_roundg (ms.length - (j + 1))
          case measure => have := hgj.out; omega
          case rel => exact ⟨j + 1, by go_num, by omega, rfl, by rw [Hsn.out], by (repeat' (first | exact Below.refl _ _ | assumption | refine Below.setCell ?_ ?_ _ | refine below_drewN ?_ _ | refine Below.drew ?_ | refine Below.alloc ?_ ?_ _ | (with_reducible refine Below.trans ?_ (Below.mono hb ?_)) | (with_reducible refine Below.trans ?_ (Below.mono hb0 ?_)) | (with_reducible refine Below.trans ?_ (Below.mono hb1 ?_)) | (with_reducible refine Below.trans ?_ (Below.mono hb2 ?_)) | (with_reducible refine Below.trans ?_ (Below.mono hb3 ?_)) | (with_reducible refine Below.trans ?_ (Below.mono hb4 ?_)) | (with_reducible refine Below.trans ?_ (Below.mono hb5 ?_)) | (with_reducible refine Below.trans ?_ (Below.mono hb6 ?_)) | (with_reducible refine Below.trans ?_ (Below.mono hb7 ?_)) | (with_reducible refine Below.trans ?_ (Below.mono hb8 ?_)) | (with_reducible refine Below.trans ?_ (Below.mono hb9 ?_)) | (with_reducible refine Below.trans ?_ (Below.mono hb10 ?_)) | (with_reducible refine Below.trans ?_ (Below.mono hb11 ?_)) | (with_reducible refine Below.trans ?_ (Below.mono hb12 ?_)) | (with_reducible refine Below.trans ?_ (Below.mono hb13 ?_)) | (with_reducible refine Below.trans ?_ (Below.mono hb14 ?_)) | (with_reducible refine Below.trans ?_ (Below.mono hb15 ?_)) | omega | (simp; done) | (simp; omega)))⟩
        · obtain rfl : j = ms.length := by omega
          rw [List.take_length]
          have hbd := sumF_bd (fun x => x.1) Wn 3000000000 HBb.out ms hoks
          have hMd3 := hMd2.below hbx
          have hMs3 := hMs2.below hbx
          have hI3 := hI2.below hbx
          have hb3 := hb2.trans (hbx.mono hb2.size)
          clear hjl hbx hMd2 hMs2 hI2 hb2 hgj
          generalize sumF (fun x => x.1) Wn ms = sm at *
          go_wp2_with fail
          refine (floorB_any _ _ _ (by omega) (by omega) (by omega)).mono ?_
          rintro e w'' ⟨rfl, rfl⟩
          go_wp2_with (at_mapUpdate; refine wpList_store_int rfl _ _ _ rfl (w.heap.size + 1) _ rfl hMd3 kk rfl (sm / (ms.length : Int)) rfl ?_; intro W5 hM5 hg5 hs5)
          have hM6 : MI W5 (w.heap.size + 1) (mixF ((p0 ++ q).map (·.1)) B Wnb) := by
            rw [← HWk.out, Hmix.out, ← List.map_append] at hM5
            exact hM5
          have hI5 := hI3.same (hg5.block ri hI3.lt.1 (by simp; omega)) (hg5.block b2 hI3.lt.2 (by simp; omega))
          have hMs5 := hMs3.grown hg5 (by simp)
          have hb5 : Below w.heap.size w W5 := hb3.grown hg5 hb3.size (by rintro j hj; cases hj; omega)
          clear hM5 hMd3 hMs3 hI3 hb3 hg5
          go_wp2_with fail
          go_roundg (p0 ++ q).length
          case measure => have := hgk2.out; omega
          case rel => exact ⟨p0 ++ q, rfl, hI5, Hnd3, Hsub3, hM6, hMs5, hb5, by omega⟩
      intro hnil
      have hMd1 : MI wr (w.heap.size + 1) Wnb := by rw [hnil, List.map_nil, mixF_nil] at hMd; exact hMd
      clear hnil hMd hI hnd hsub Hnd0 Hky0 Hmx hgk2
      obtain ⟨wz, rfl⟩ : ∃ wz : World, wz = wr := ⟨_, rfl⟩
      have hz3 : w.heap.size + 1 < wz.heap.size := by omega
      clear hz hzz hri
      go_wp2_with fail
      go_roundg (R - (n + 1))
      case measure => have := hgk.out; omega
      case rel => exact ⟨n + 1, by go_num, by omega, rfl, by rw [HWa.out]; exact hMs, by rw [HWb.out]; exact hMd1, hb, hz3⟩
    · obtain rfl : n = R := by omega
      clear hlt
      go_wp2_with fail
      go_ret2
      exact ⟨rfl, hMd, hMs, hb⟩
end Go.Proofs.YtgihommenknhoaaGreatDoor

/-! Balanced marks: BalancedOf. -/
namespace Go.Proofs.YtgihommenknhoaaGreatDoor
open Go.RowKit
set_option linter.unusedVariables false
set_option linter.unusedSimpArgs false




set_option maxRecDepth 100000 in
set_option maxHeartbeats 4000000 in
theorem balancedOf_any (l : List Mark) (a : Option Addr) (cap : Nat) (R : Nat) (w : World) (hs : SA w a l) (hok : okScores l) (hl : l.length ≤ 100000) (hR : R ≤ 100) :
    Calls Tryz.prog 129 #[.slice a l.length cap, .int .i64 R] w (fun e w' => ∃ v1 v2, e = .returned (.tuple #[v1, v2]) ∧ Own w.heap.size 177 w' v1 ((keysOf (fun x => x.1) l).map (fun k => ((k, (bal l R).1 k) : Skill))) ∧ Own w.heap.size 177 w' v2 ((keysOf (fun x => x.2.1) l).map (fun k => ((k, (bal l R).2 k) : Skill))) ∧ Below w.heap.size w w') := by
  have hmm := @run_makeMap Tryz.prog
  go_enter Tryz.func129, Tryz.ntmps129
  go_wp2_with fail
  go_loopg [27] R (fun gk i wr => ∃ n : Nat, i = .int .i64 n ∧ n ≤ R ∧ Hid (gk = R - n) ∧ MI wr w.heap.size (bal l n).1 ∧ MI wr (w.heap.size + 1) (bal l n).2 ∧ Below w.heap.size w wr ∧ w.heap.size + 1 < wr.heap.size)
  case atStart => exact ⟨0, rfl, by omega, rfl, (MI.new w).alloc _, MI.newAt _ _ (by simp), by (repeat' (first | exact Below.refl _ _ | assumption | refine Below.setCell ?_ ?_ _ | refine below_drewN ?_ _ | refine Below.drew ?_ | refine Below.alloc ?_ ?_ _ | (with_reducible refine Below.trans ?_ (Below.mono hb ?_)) | (with_reducible refine Below.trans ?_ (Below.mono hb0 ?_)) | (with_reducible refine Below.trans ?_ (Below.mono hb1 ?_)) | (with_reducible refine Below.trans ?_ (Below.mono hb2 ?_)) | (with_reducible refine Below.trans ?_ (Below.mono hb3 ?_)) | (with_reducible refine Below.trans ?_ (Below.mono hb4 ?_)) | (with_reducible refine Below.trans ?_ (Below.mono hb5 ?_)) | (with_reducible refine Below.trans ?_ (Below.mono hb6 ?_)) | (with_reducible refine Below.trans ?_ (Below.mono hb7 ?_)) | (with_reducible refine Below.trans ?_ (Below.mono hb8 ?_)) | (with_reducible refine Below.trans ?_ (Below.mono hb9 ?_)) | (with_reducible refine Below.trans ?_ (Below.mono hb10 ?_)) | (with_reducible refine Below.trans ?_ (Below.mono hb11 ?_)) | (with_reducible refine Below.trans ?_ (Below.mono hb12 ?_)) | (with_reducible refine Below.trans ?_ (Below.mono hb13 ?_)) | (with_reducible refine Below.trans ?_ (Below.mono hb14 ?_)) | (with_reducible refine Below.trans ?_ (Below.mono hb15 ?_)) | omega | (simp; done) | (simp; omega))), by simp⟩
  case round =>
    clear hmm
    obtain ⟨n, rfl, hn, hgk, hMd, hMs, hb, hz2⟩ := hrel
    by_cases hlt : n < R
    · obtain ⟨wo, rfl⟩ : ∃ wo : World, wo = wr := ⟨_, rfl⟩
      have HW0 := Lib.hid (fun q h => (bal_none1 l n q h).trans (bal_none1 l (n + 1) q h).symm)
      have HW0b := Lib.hid (fun q h => (bal_none2 l n q h).trans (bal_none2 l (n + 1) q h).symm)
      have HWn : Hid (∀ p, sel (fun x => x.1) p l ≠ [] → (bal l (n + 1)).1 p = sumF (fun x => x.2.1) (bal l n).2 (sel (fun x => x.1) p l) / ((sel (fun x => x.1) p l).length : Int)) := fun p h => by rw [bal]; simp only; rw [stepF, if_neg h]
      have HWnb : Hid (∀ p, sel (fun x => x.2.1) p l ≠ [] → (bal l (n + 1)).2 p = sumF (fun x => x.1) (bal l (n + 1)).1 (sel (fun x => x.2.1) p l) / ((sel (fun x => x.2.1) p l).length : Int)) := fun p h => by rw [bal]; simp only; rw [stepF, if_neg h]
      have HB : Hid (∀ q, -3000000000 ≤ (bal l n).2 q ∧ (bal l n).2 q ≤ 3000000000) := fun q => by have := (bal_bd l hok n).2 q; omega
      have HBb : Hid (∀ q, -3000000000 ≤ (bal l (n + 1)).1 q ∧ (bal l (n + 1)).1 q ≤ 3000000000) := fun q => by have := (bal_bd l hok (n + 1)).1 q; omega
      generalize (bal l n).1 = Wo at *
      generalize (bal l n).2 = B at *
      generalize hWa : (bal l (n + 1)).1 = Wn at *
      have HWa := Lib.hid hWa
      clear hWa
      generalize hWb : (bal l (n + 1)).2 = Wnb at *
      have HWb := Lib.hid hWb
      clear hWb
      go_wp2_with fail
      refine (MarkedPapers_any l a cap _ (hs.below hb) (by omega)).mono ?_
      rintro e w1 ⟨v1, rfl, hown1, hb1⟩
      have hMd1 := hMd.below hb1
      have hMs1 := hMs.below hb1
      have hbw1 := below_next hb hb1
      have hz1 := hb1.size
      obtain ⟨aK, capK, rfl, hsaK, hbK, _⟩ := hown1.sa
      have HbK := Lib.hid hbK
      clear hbK
      have hkl := keysOf_length (fun x => x.1) l
      have hkm := keysOf_mem (fun x => x.1) l
      have hkn : (keysOf (fun x => x.1) l).Nodup := (keysS_rise _).nodup
      have Hmx := Lib.hid (show mixF ((keysOf (fun x => x.1) l).drop 0) Wo Wn = Wo from mixF_all fun q hq => HW0.out q (fun h => hq (by rw [List.drop_zero]; exact (hkm q).2 h)))
      have Hkm := Lib.hid hkm
      have Hkn := Lib.hid hkn
      clear hMd hMs hb hb1 hown1 hkm hkn
      generalize keysOf (fun x => x.1) l = ks at *
      go_wp2_with fail
      go_loopg [32] ks.length (fun gk iv wr => ∃ k : Nat, iv = .int .i64 k ∧ k ≤ ks.length ∧ Hid (gk = ks.length - k) ∧ MI wr w.heap.size (mixF (ks.drop k) Wo Wn) ∧ MI wr (w.heap.size + 1) B ∧ Below w.heap.size w wr ∧ w1.heap.size ≤ wr.heap.size ∧ SA wr aK ks)
      case atStart => exact ⟨0, rfl, by omega, rfl, by rw [Hmx.out]; exact hMd1, hMs1, hbw1, Nat.le_refl _, hsaK⟩
      clear hMd1 hMs1 hbw1 hsaK
      obtain ⟨k, rfl, hk, hgk2, hMd, hMs, hb, hz, hsaK⟩ := hrel
      have hzz := hb.size
      by_cases hklt : k < ks.length
      · obtain ⟨kb, koff, haK, ck⟩ := hsaK.str hklt
        have hdrop := List.drop_eq_getElem_cons hklt
        have hmem := List.getElem_mem hklt
        have Hsame := Lib.hid haK
        rw [haK]
        clear haK
        generalize hpp : ks[k] = p at *
        have hne : sel (fun x => x.1) p l ≠ [] := by rw [Ne, sel_nil_iff]; exact fun h => h ((Hkm.out p).1 hmem)
        have HWk := Lib.hid (HWn.out p hne)
        have hselp : 0 < (sel (fun x => x.1) p l).length := List.length_pos_iff.2 hne
        have Hmix := Lib.hid (mixF_step (p := []) (k := p) (q := ks.drop (k + 1)) (Wo := Wo) (Wn := Wn) (by rw [List.nil_append, ← hdrop]; exact Hkn.out.sublist (List.drop_sublist _ _)))
        rw [hdrop] at hMd
        clear hdrop hpp hne hmem
        obtain ⟨wv, rfl⟩ : ∃ wv : World, wv = wr := ⟨_, rfl⟩
        go_wp2_with fail
        go_loopg [10, 11, 38] l.length (fun gk sv cv jv wr => ∃ j : Nat, jv = .int .i64 j ∧ j ≤ l.length ∧ Hid (gk = l.length - j) ∧ sv = .int .i64 (sumF (fun x => x.2.1) B (sel (fun x => x.1) p (l.take j))) ∧ cv = .int .i64 ((sel (fun x => x.1) p (l.take j)).length : Nat) ∧ Below wv.heap.size wv wr)
        case atStart => exact ⟨0, rfl, by omega, rfl, rfl, rfl, Below.refl _ _⟩
        clear ck
        obtain ⟨j, rfl, hj, hgj, rfl, rfl, hbx⟩ := hrel
        have hzx := hbx.size
        by_cases hjl : j < l.length
        · obtain ⟨mb, moff, ha', c0, c1, c2⟩ := (hs.below (hb.trans (hbx.mono hzz))).mark hjl
          have htake := List.take_succ_eq_append_getElem hjl
          have Hsn := Lib.hid (sel_snoc (fun x => x.1) p (l.take j) l[j])
          rw [← htake] at Hsn
          have hbd := sumF_bd (fun x => x.2.1) B 3000000000 HB.out (sel (fun x => x.1) p (l.take j)) (fun x hx => hok x (List.mem_of_mem_take (List.mem_filter.1 hx).1))
          have hcl := sel_len (fun x => x.1) p (l.take j)
          rw [List.length_take] at hcl
          have hxs := hok l[j] (List.getElem_mem hjl)
          have hbB := HB.out ((fun x => x.2.1) l[j])
          rw [ha']
          generalize hx : l[j] = x at *
          obtain ⟨x1, x2, x3⟩ := x
          simp only at c0 c1 c2 hxs hbB Hsn
          clear hx htake
          generalize hse : sel (fun x => x.1) p (l.take j) = se at *
          have hlk := ((hMs.below hbx).alloc (.cells #[.string x1, .string x2, .int .i64 x3] 88)).look x2
          have Hsf := Lib.hid (sumF_snoc (fun x => x.2.1) B se (x1, x2, x3))
          simp only at Hsf
          generalize B x2 = bx at *
          generalize hsm : sumF (fun x => x.2.1) B se = sm at *
          have HSm := Lib.hid hsm
          clear hsm
          clear hse
          by_cases hxp : x1 = p
          · have hxp' := tl_eq hxp
            rw [if_pos hxp] at Hsn
            have Hxp := Lib.hid hxp
            clear hxp
            go_wp2_with fail
            rw [← ha']
            go_roundg (l.length - (j + 1))
            case measure => have := hgj.out; omega
            case rel => exact ⟨j + 1, by go_num, by omega, rfl, by rw [Hsn.out, Hsf.out]; congr 1; omega, by rw [Hsn.out, List.length_append]; go_num, by (repeat' (first | exact Below.refl _ _ | assumption | refine Below.setCell ?_ ?_ _ | refine below_drewN ?_ _ | refine Below.drew ?_ | refine Below.alloc ?_ ?_ _ | (with_reducible refine Below.trans ?_ (Below.mono hb ?_)) | (with_reducible refine Below.trans ?_ (Below.mono hb0 ?_)) | (with_reducible refine Below.trans ?_ (Below.mono hb1 ?_)) | (with_reducible refine Below.trans ?_ (Below.mono hb2 ?_)) | (with_reducible refine Below.trans ?_ (Below.mono hb3 ?_)) | (with_reducible refine Below.trans ?_ (Below.mono hb4 ?_)) | (with_reducible refine Below.trans ?_ (Below.mono hb5 ?_)) | (with_reducible refine Below.trans ?_ (Below.mono hb6 ?_)) | (with_reducible refine Below.trans ?_ (Below.mono hb7 ?_)) | (with_reducible refine Below.trans ?_ (Below.mono hb8 ?_)) | (with_reducible refine Below.trans ?_ (Below.mono hb9 ?_)) | (with_reducible refine Below.trans ?_ (Below.mono hb10 ?_)) | (with_reducible refine Below.trans ?_ (Below.mono hb11 ?_)) | (with_reducible refine Below.trans ?_ (Below.mono hb12 ?_)) | (with_reducible refine Below.trans ?_ (Below.mono hb13 ?_)) | (with_reducible refine Below.trans ?_ (Below.mono hb14 ?_)) | (with_reducible refine Below.trans ?_ (Below.mono hb15 ?_)) | omega | (simp; done) | (simp; omega)))⟩
          · have hxp' := tl_ne hxp
            rw [if_neg hxp] at Hsn
            clear hxp
            go_wp2_with fail
            rw [← ha']
            go_roundg (l.length - (j + 1))
            case measure => have := hgj.out; omega
            case rel => exact ⟨j + 1, by go_num, by omega, rfl, by rw [Hsn.out, HSm.out], by rw [Hsn.out], by (repeat' (first | exact Below.refl _ _ | assumption | refine Below.setCell ?_ ?_ _ | refine below_drewN ?_ _ | refine Below.drew ?_ | refine Below.alloc ?_ ?_ _ | (with_reducible refine Below.trans ?_ (Below.mono hb ?_)) | (with_reducible refine Below.trans ?_ (Below.mono hb0 ?_)) | (with_reducible refine Below.trans ?_ (Below.mono hb1 ?_)) | (with_reducible refine Below.trans ?_ (Below.mono hb2 ?_)) | (with_reducible refine Below.trans ?_ (Below.mono hb3 ?_)) | (with_reducible refine Below.trans ?_ (Below.mono hb4 ?_)) | (with_reducible refine Below.trans ?_ (Below.mono hb5 ?_)) | (with_reducible refine Below.trans ?_ (Below.mono hb6 ?_)) | (with_reducible refine Below.trans ?_ (Below.mono hb7 ?_)) | (with_reducible refine Below.trans ?_ (Below.mono hb8 ?_)) | (with_reducible refine Below.trans ?_ (Below.mono hb9 ?_)) | (with_reducible refine Below.trans ?_ (Below.mono hb10 ?_)) | (with_reducible refine Below.trans ?_ (Below.mono hb11 ?_)) | (with_reducible refine Below.trans ?_ (Below.mono hb12 ?_)) | (with_reducible refine Below.trans ?_ (Below.mono hb13 ?_)) | (with_reducible refine Below.trans ?_ (Below.mono hb14 ?_)) | (with_reducible refine Below.trans ?_ (Below.mono hb15 ?_)) | omega | (simp; done) | (simp; omega)))⟩
        · obtain rfl : j = l.length := by omega
          rw [List.take_length]
          have hbd := sumF_bd (fun x => x.2.1) B 3000000000 HB.out (sel (fun x => x.1) p l) (okScores_sel hok)
          have hcl := sel_len (fun x => x.1) p l
          have hMd3 := hMd.below hbx
          have hMs3 := hMs.below hbx
          have hb3 := hb.trans (hbx.mono hb.size)
          have hsa3 := hsaK.below hbx
          clear hjl hbx hMd hMs hb hgj hsaK
          generalize sumF (fun x => x.2.1) B (sel (fun x => x.1) p l) = sm at *
          generalize (sel (fun x => x.1) p l).length = cn at *
          go_wp2_with fail
          refine (floored_any _ _ _ (by omega) (by omega) (by omega) (by omega)).mono ?_
          rintro e w'' ⟨rfl, rfl⟩
          go_wp2_with (at_mapUpdate; refine wpList_store_int rfl _ _ _ rfl w.heap.size _ rfl hMd3 p rfl (sm / (cn : Int)) rfl ?_; intro W5 hM5 hg5 hs5)
          have hM6 : MI W5 w.heap.size (mixF (ks.drop (k + 1)) Wo Wn) := by
            rw [← HWk.out] at hM5
            exact Hmix.out ▸ hM5
          have hMs5 := hMs3.grown hg5 (by simp)
          have hb5 : Below w.heap.size w W5 := hb3.grown hg5 hb3.size (by rintro j hj; cases hj; omega)
          have hsa5 : SA W5 aK ks := hsa3.grownS hg5 (fun x hx e => by have := (HbK.out x hx).1; have e' := Option.some.inj e; omega)
          clear hM5 hMd3 hMs3 hb3 hg5 hsa3
          rw [← Hsame.out]
          go_wp2_with fail
          go_roundg (ks.length - (k + 1))
          case measure => have := hgk2.out; omega
          case rel => exact ⟨k + 1, by go_num, by omega, rfl, hM6, hMs5, hb5, by omega, hsa5⟩
      obtain rfl : k = ks.length := by omega
      rw [List.drop_length, mixF_nil] at hMd
      clear hklt hgk2 hk hsaK Hkm Hkn Hmx
      obtain ⟨wz, rfl⟩ : ∃ wz : World, wz = wr := ⟨_, rfl⟩
      have hz3 : w.heap.size + 1 < wz.heap.size := by omega
      clear hz hzz hz1 hz2
      have hMx := hMd
      clear hMd
      have hMd := hMs
      clear hMs
      have hMs := hMx
      clear hMx
      have hz2 := hz3
      clear hz3
      go_wp2_with fail
      refine (Markers_any l a cap _ (hs.below hb) (by omega)).mono ?_
      rintro e w1 ⟨v1, rfl, hown1, hb1⟩
      have hMd1 := hMd.below hb1
      have hMs1 := hMs.below hb1
      have hbw1 := below_next hb hb1
      have hz1 := hb1.size
      obtain ⟨aK, capK, rfl, hsaK, hbK, _⟩ := hown1.sa
      have HbK := Lib.hid hbK
      clear hbK
      have hkl := keysOf_length (fun x => x.2.1) l
      have hkm := keysOf_mem (fun x => x.2.1) l
      have hkn : (keysOf (fun x => x.2.1) l).Nodup := (keysS_rise _).nodup
      have Hmx := Lib.hid (show mixF ((keysOf (fun x => x.2.1) l).drop 0) B Wnb = B from mixF_all fun q hq => HW0b.out q (fun h => hq (by rw [List.drop_zero]; exact (hkm q).2 h)))
      have Hkm := Lib.hid hkm
      have Hkn := Lib.hid hkn
      clear hMd hMs hb hb1 hown1 hkm hkn
      generalize keysOf (fun x => x.2.1) l = ks at *
      go_wp2_with fail
      go_loopg [70] ks.length (fun gk iv wr => ∃ k : Nat, iv = .int .i64 k ∧ k ≤ ks.length ∧ Hid (gk = ks.length - k) ∧ MI wr (w.heap.size + 1) (mixF (ks.drop k) B Wnb) ∧ MI wr w.heap.size Wn ∧ Below w.heap.size w wr ∧ w1.heap.size ≤ wr.heap.size ∧ SA wr aK ks)
      case atStart => exact ⟨0, rfl, by omega, rfl, by rw [Hmx.out]; exact hMd1, hMs1, hbw1, Nat.le_refl _, hsaK⟩
      clear hMd1 hMs1 hbw1 hsaK
      obtain ⟨k, rfl, hk, hgk2, hMd, hMs, hb, hz, hsaK⟩ := hrel
      have hzz := hb.size
      by_cases hklt : k < ks.length
      · obtain ⟨kb, koff, haK, ck⟩ := hsaK.str hklt
        have hdrop := List.drop_eq_getElem_cons hklt
        have hmem := List.getElem_mem hklt
        have Hsame := Lib.hid haK
        rw [haK]
        clear haK
        generalize hpp : ks[k] = p at *
        have hne : sel (fun x => x.2.1) p l ≠ [] := by rw [Ne, sel_nil_iff]; exact fun h => h ((Hkm.out p).1 hmem)
        have HWk := Lib.hid (HWnb.out p hne)
        have hselp : 0 < (sel (fun x => x.2.1) p l).length := List.length_pos_iff.2 hne
        have Hmix := Lib.hid (mixF_step (p := []) (k := p) (q := ks.drop (k + 1)) (Wo := B) (Wn := Wnb) (by rw [List.nil_append, ← hdrop]; exact Hkn.out.sublist (List.drop_sublist _ _)))
        rw [hdrop] at hMd
        clear hdrop hpp hne hmem
        obtain ⟨wv, rfl⟩ : ∃ wv : World, wv = wr := ⟨_, rfl⟩
        go_wp2_with fail
        go_loopg [16, 17, 76] l.length (fun gk sv cv jv wr => ∃ j : Nat, jv = .int .i64 j ∧ j ≤ l.length ∧ Hid (gk = l.length - j) ∧ sv = .int .i64 (sumF (fun x => x.1) Wn (sel (fun x => x.2.1) p (l.take j))) ∧ cv = .int .i64 ((sel (fun x => x.2.1) p (l.take j)).length : Nat) ∧ Below wv.heap.size wv wr)
        case atStart => exact ⟨0, rfl, by omega, rfl, rfl, rfl, Below.refl _ _⟩
        clear ck
        obtain ⟨j, rfl, hj, hgj, rfl, rfl, hbx⟩ := hrel
        have hzx := hbx.size
        by_cases hjl : j < l.length
        · obtain ⟨mb, moff, ha', c0, c1, c2⟩ := (hs.below (hb.trans (hbx.mono hzz))).mark hjl
          have htake := List.take_succ_eq_append_getElem hjl
          have Hsn := Lib.hid (sel_snoc (fun x => x.2.1) p (l.take j) l[j])
          rw [← htake] at Hsn
          have hbd := sumF_bd (fun x => x.1) Wn 3000000000 HBb.out (sel (fun x => x.2.1) p (l.take j)) (fun x hx => hok x (List.mem_of_mem_take (List.mem_filter.1 hx).1))
          have hcl := sel_len (fun x => x.2.1) p (l.take j)
          rw [List.length_take] at hcl
          have hxs := hok l[j] (List.getElem_mem hjl)
          have hbB := HBb.out ((fun x => x.1) l[j])
          rw [ha']
          generalize hx : l[j] = x at *
          obtain ⟨x1, x2, x3⟩ := x
          simp only at c0 c1 c2 hxs hbB Hsn
          clear hx htake
          generalize hse : sel (fun x => x.2.1) p (l.take j) = se at *
          have hlk := ((hMs.below hbx).alloc (.cells #[.string x1, .string x2, .int .i64 x3] 88)).look x1
          have Hsf := Lib.hid (sumF_snoc (fun x => x.1) Wn se (x1, x2, x3))
          simp only at Hsf
          generalize Wn x1 = bx at *
          generalize hsm : sumF (fun x => x.1) Wn se = sm at *
          have HSm := Lib.hid hsm
          clear hsm
          clear hse
          by_cases hxp : x2 = p
          · have hxp' := tl_eq hxp
            rw [if_pos hxp] at Hsn
            have Hxp := Lib.hid hxp
            clear hxp
            go_wp2_with fail
            rw [← ha']
            go_roundg (l.length - (j + 1))
            case measure => have := hgj.out; omega
            case rel => exact ⟨j + 1, by go_num, by omega, rfl, by rw [Hsn.out, Hsf.out]; congr 1; omega, by rw [Hsn.out, List.length_append]; go_num, by (repeat' (first | exact Below.refl _ _ | assumption | refine Below.setCell ?_ ?_ _ | refine below_drewN ?_ _ | refine Below.drew ?_ | refine Below.alloc ?_ ?_ _ | (with_reducible refine Below.trans ?_ (Below.mono hb ?_)) | (with_reducible refine Below.trans ?_ (Below.mono hb0 ?_)) | (with_reducible refine Below.trans ?_ (Below.mono hb1 ?_)) | (with_reducible refine Below.trans ?_ (Below.mono hb2 ?_)) | (with_reducible refine Below.trans ?_ (Below.mono hb3 ?_)) | (with_reducible refine Below.trans ?_ (Below.mono hb4 ?_)) | (with_reducible refine Below.trans ?_ (Below.mono hb5 ?_)) | (with_reducible refine Below.trans ?_ (Below.mono hb6 ?_)) | (with_reducible refine Below.trans ?_ (Below.mono hb7 ?_)) | (with_reducible refine Below.trans ?_ (Below.mono hb8 ?_)) | (with_reducible refine Below.trans ?_ (Below.mono hb9 ?_)) | (with_reducible refine Below.trans ?_ (Below.mono hb10 ?_)) | (with_reducible refine Below.trans ?_ (Below.mono hb11 ?_)) | (with_reducible refine Below.trans ?_ (Below.mono hb12 ?_)) | (with_reducible refine Below.trans ?_ (Below.mono hb13 ?_)) | (with_reducible refine Below.trans ?_ (Below.mono hb14 ?_)) | (with_reducible refine Below.trans ?_ (Below.mono hb15 ?_)) | omega | (simp; done) | (simp; omega)))⟩
          · have hxp' := tl_ne hxp
            rw [if_neg hxp] at Hsn
            clear hxp
            go_wp2_with fail
            rw [← ha']
            go_roundg (l.length - (j + 1))
            case measure => have := hgj.out; omega
            case rel => exact ⟨j + 1, by go_num, by omega, rfl, by rw [Hsn.out, HSm.out], by rw [Hsn.out], by (repeat' (first | exact Below.refl _ _ | assumption | refine Below.setCell ?_ ?_ _ | refine below_drewN ?_ _ | refine Below.drew ?_ | refine Below.alloc ?_ ?_ _ | (with_reducible refine Below.trans ?_ (Below.mono hb ?_)) | (with_reducible refine Below.trans ?_ (Below.mono hb0 ?_)) | (with_reducible refine Below.trans ?_ (Below.mono hb1 ?_)) | (with_reducible refine Below.trans ?_ (Below.mono hb2 ?_)) | (with_reducible refine Below.trans ?_ (Below.mono hb3 ?_)) | (with_reducible refine Below.trans ?_ (Below.mono hb4 ?_)) | (with_reducible refine Below.trans ?_ (Below.mono hb5 ?_)) | (with_reducible refine Below.trans ?_ (Below.mono hb6 ?_)) | (with_reducible refine Below.trans ?_ (Below.mono hb7 ?_)) | (with_reducible refine Below.trans ?_ (Below.mono hb8 ?_)) | (with_reducible refine Below.trans ?_ (Below.mono hb9 ?_)) | (with_reducible refine Below.trans ?_ (Below.mono hb10 ?_)) | (with_reducible refine Below.trans ?_ (Below.mono hb11 ?_)) | (with_reducible refine Below.trans ?_ (Below.mono hb12 ?_)) | (with_reducible refine Below.trans ?_ (Below.mono hb13 ?_)) | (with_reducible refine Below.trans ?_ (Below.mono hb14 ?_)) | (with_reducible refine Below.trans ?_ (Below.mono hb15 ?_)) | omega | (simp; done) | (simp; omega)))⟩
        · obtain rfl : j = l.length := by omega
          rw [List.take_length]
          have hbd := sumF_bd (fun x => x.1) Wn 3000000000 HBb.out (sel (fun x => x.2.1) p l) (okScores_sel hok)
          have hcl := sel_len (fun x => x.2.1) p l
          have hMd3 := hMd.below hbx
          have hMs3 := hMs.below hbx
          have hb3 := hb.trans (hbx.mono hb.size)
          have hsa3 := hsaK.below hbx
          clear hjl hbx hMd hMs hb hgj hsaK
          generalize sumF (fun x => x.1) Wn (sel (fun x => x.2.1) p l) = sm at *
          generalize (sel (fun x => x.2.1) p l).length = cn at *
          go_wp2_with fail
          refine (floored_any _ _ _ (by omega) (by omega) (by omega) (by omega)).mono ?_
          rintro e w'' ⟨rfl, rfl⟩
          go_wp2_with (at_mapUpdate; refine wpList_store_int rfl _ _ _ rfl (w.heap.size + 1) _ rfl hMd3 p rfl (sm / (cn : Int)) rfl ?_; intro W5 hM5 hg5 hs5)
          have hM6 : MI W5 (w.heap.size + 1) (mixF (ks.drop (k + 1)) B Wnb) := by
            rw [← HWk.out] at hM5
            exact Hmix.out ▸ hM5
          have hMs5 := hMs3.grown hg5 (by simp)
          have hb5 : Below w.heap.size w W5 := hb3.grown hg5 hb3.size (by rintro j hj; cases hj; omega)
          have hsa5 : SA W5 aK ks := hsa3.grownS hg5 (fun x hx e => by have := (HbK.out x hx).1; have e' := Option.some.inj e; omega)
          clear hM5 hMd3 hMs3 hb3 hg5 hsa3
          rw [← Hsame.out]
          go_wp2_with fail
          go_roundg (ks.length - (k + 1))
          case measure => have := hgk2.out; omega
          case rel => exact ⟨k + 1, by go_num, by omega, rfl, hM6, hMs5, hb5, by omega, hsa5⟩
      obtain rfl : k = ks.length := by omega
      rw [List.drop_length, mixF_nil] at hMd
      clear hklt hgk2 hk hsaK Hkm Hkn Hmx
      obtain ⟨wz, rfl⟩ : ∃ wz : World, wz = wr := ⟨_, rfl⟩
      have hz3 : w.heap.size + 1 < wz.heap.size := by omega
      clear hz hzz hz1 hz2
      go_wp2_with fail
      go_roundg (R - (n + 1))
      case measure => have := hgk.out; omega
      case rel => exact ⟨n + 1, by go_num, by omega, rfl, by rw [HWa.out]; exact hMs, by rw [HWb.out]; exact hMd, hb, hz3⟩
    · obtain rfl : n = R := by omega
      clear hlt hgk hn
      generalize hW1 : (bal l n).1 = W at *
      generalize hW2 : (bal l n).2 = B at *
      have HW1 := Lib.hid hW1
      have HW2 := Lib.hid hW2
      clear hW1 hW2
      go_wp2_with fail
      refine (MarkedPapers_any l a cap _ (hs.below hb) (by omega)).mono ?_
      rintro e wA ⟨v1, rfl, hown1, hb1⟩
      obtain ⟨aK, capK, rfl, hsaK, hbK, _⟩ := hown1.sa
      have hkl := keysOf_length (fun x => x.1) l
      have hMd1 := hMd.below hb1
      have hMs1 := hMs.below hb1
      have hbw := below_next hb hb1
      have hzw := hbw.size
      have HB1 := Lib.hid hb1
      clear hMd hMs hb hb1 hown1 hbK
      generalize hks : keysOf (fun x => x.1) l = ks1 at *
      have Hks1 := Lib.hid hks
      clear hks
      go_wp2_with fail
      go_loopg [4, 109] ks1.length (fun gk v i wr => ∃ k : Nat, i = .int .i64 k ∧ k ≤ ks1.length ∧ Hid (gk = ks1.length - k) ∧ Own wA.heap.size 177 wr v ((ks1.take k).map (fun k => ((k, W k) : Skill))) ∧ Below wA.heap.size wA wr)
      case atStart => exact ⟨0, rfl, by omega, rfl, Own.nil _ _ _, Below.refl _ _⟩
      obtain ⟨k, rfl, hk, hgk, hown, hb⟩ := hrel
      by_cases hlt : k < ks1.length
      · obtain ⟨ab, off, ha, c0⟩ := (hsaK.below hb).str hlt
        have htake := List.take_succ_eq_append_getElem hlt
        have hlen : ((ks1.take k).map (fun k => ((k, W k) : Skill))).length ≤ 1000000 := by rw [List.length_map, List.length_take]; omega
        have hz := hb.size
        rw [ha]
        generalize hx : ks1[k] = x at *
        have hlk := (hMd1.below hb).look x
        have Htake := Lib.hid (show (ks1.take (k + 1)).map (fun k => ((k, W k) : Skill)) = (ks1.take k).map (fun k => ((k, W k) : Skill)) ++ [(x, W x)] by rw [htake, List.map_append]; rfl)
        clear hx htake
        generalize (ks1.take k).map (fun k => ((k, W k) : Skill)) = ls at *
        have hown1 := hown.alloc (.cells #[.string x, .int .i64 (W x)] 177)
        have hbo := Box.new wr 177 #[.string x, .int .i64 (W x)]
        go_wp2_with (at_builtin; refine wpList_append_lie (α := Skill) rfl _ _ 168 rfl 177 24 (.agg #[.string ⟨#[]⟩, .int .i64 0]) Tryz.underlying168 Tryz.infoLevel rfl _ ls rfl hown1 (x, W x) wr.heap.size rfl hbo (by omega) (by omega) (by simp; omega) ?_; intro gg cap1 w1 hown2 hgrow hat)
        have hb1 : Below wA.heap.size wA w1 := Below.grown (w := wr.alloc (.cells #[.string x, .int .i64 (W x)] 177)) (by (repeat' (first | exact Below.refl _ _ | assumption | refine Below.setCell ?_ ?_ _ | refine below_drewN ?_ _ | refine Below.drew ?_ | refine Below.alloc ?_ ?_ _ | (with_reducible refine Below.trans ?_ (Below.mono hb ?_)) | (with_reducible refine Below.trans ?_ (Below.mono hb0 ?_)) | (with_reducible refine Below.trans ?_ (Below.mono hb1 ?_)) | (with_reducible refine Below.trans ?_ (Below.mono hb2 ?_)) | (with_reducible refine Below.trans ?_ (Below.mono hb3 ?_)) | (with_reducible refine Below.trans ?_ (Below.mono hb4 ?_)) | (with_reducible refine Below.trans ?_ (Below.mono hb5 ?_)) | (with_reducible refine Below.trans ?_ (Below.mono hb6 ?_)) | (with_reducible refine Below.trans ?_ (Below.mono hb7 ?_)) | (with_reducible refine Below.trans ?_ (Below.mono hb8 ?_)) | (with_reducible refine Below.trans ?_ (Below.mono hb9 ?_)) | (with_reducible refine Below.trans ?_ (Below.mono hb10 ?_)) | (with_reducible refine Below.trans ?_ (Below.mono hb11 ?_)) | (with_reducible refine Below.trans ?_ (Below.mono hb12 ?_)) | (with_reducible refine Below.trans ?_ (Below.mono hb13 ?_)) | (with_reducible refine Below.trans ?_ (Below.mono hb14 ?_)) | (with_reducible refine Below.trans ?_ (Below.mono hb15 ?_)) | omega | (simp; done) | (simp; omega)))) hgrow (by simp; omega) (fun j hj => (hown1.lt j hj).1)
        go_wp2_with fail
        rw [← ha]
        go_roundg (ks1.length - (k + 1))
        case measure => have := hgk.out; omega
        case rel => exact ⟨k + 1, by go_num, by omega, rfl, by rw [Htake.out]; exact hown2, hb1⟩
      obtain rfl : k = ks1.length := by omega
      rw [List.take_length] at hown
      have hMd := hMd1.below hb
      have hMs := hMs1.below hb
      have hbz := hbw.trans (hb.mono hzw)
      have hbl := below_next HB1.out hb
      clear HB1
      have hownz := hown.mono (base' := w.heap.size) hzw
      clear hlt hMd1 hMs1 hbw hown hgk hsaK hzw hk
      have hown0 := hownz
      have hb := hbz
      clear hownz hbz
      obtain ⟨wz, rfl⟩ : ∃ wz : World, wz = wr := ⟨_, rfl⟩
      obtain ⟨vz, rfl⟩ : ∃ vz : Value, vz = u4 := ⟨_, rfl⟩
      go_wp2_with fail
      refine (Markers_any l a cap _ (hs.below hb) (by omega)).mono ?_
      rintro e wB ⟨v1, rfl, hown1, hb1⟩
      obtain ⟨aK, capK, rfl, hsaK, hbK, _⟩ := hown1.sa
      have hkl := keysOf_length (fun x => x.2.1) l
      have hMd1 := hMd.below hb1
      have hMs1 := hMs.below hb1
      have hbw := below_next hb hb1
      have hzw := hbw.size
      have HB1 := Lib.hid hb1
      clear hMd hMs hb hb1 hown1 hbK
      generalize hks : keysOf (fun x => x.2.1) l = ks2 at *
      have Hks2 := Lib.hid hks
      clear hks
      go_wp2_with fail
      go_loopg [5, 125] ks2.length (fun gk v i wr => ∃ k : Nat, i = .int .i64 k ∧ k ≤ ks2.length ∧ Hid (gk = ks2.length - k) ∧ Own wB.heap.size 177 wr v ((ks2.take k).map (fun k => ((k, B k) : Skill))) ∧ Below wB.heap.size wB wr)
      case atStart => exact ⟨0, rfl, by omega, rfl, Own.nil _ _ _, Below.refl _ _⟩
      obtain ⟨k, rfl, hk, hgk, hown, hb⟩ := hrel
      by_cases hlt : k < ks2.length
      · obtain ⟨ab, off, ha, c0⟩ := (hsaK.below hb).str hlt
        have htake := List.take_succ_eq_append_getElem hlt
        have hlen : ((ks2.take k).map (fun k => ((k, B k) : Skill))).length ≤ 1000000 := by rw [List.length_map, List.length_take]; omega
        have hz := hb.size
        rw [ha]
        generalize hx : ks2[k] = x at *
        have hlk := (hMs1.below hb).look x
        have Htake := Lib.hid (show (ks2.take (k + 1)).map (fun k => ((k, B k) : Skill)) = (ks2.take k).map (fun k => ((k, B k) : Skill)) ++ [(x, B x)] by rw [htake, List.map_append]; rfl)
        clear hx htake
        generalize (ks2.take k).map (fun k => ((k, B k) : Skill)) = ls at *
        have hown1 := hown.alloc (.cells #[.string x, .int .i64 (B x)] 177)
        have hbo := Box.new wr 177 #[.string x, .int .i64 (B x)]
        go_wp2_with (at_builtin; refine wpList_append_lie (α := Skill) rfl _ _ 168 rfl 177 24 (.agg #[.string ⟨#[]⟩, .int .i64 0]) Tryz.underlying168 Tryz.infoLevel rfl _ ls rfl hown1 (x, B x) wr.heap.size rfl hbo (by omega) (by omega) (by simp; omega) ?_; intro gg cap1 w1 hown2 hgrow hat)
        have hb1 : Below wB.heap.size wB w1 := Below.grown (w := wr.alloc (.cells #[.string x, .int .i64 (B x)] 177)) (by (repeat' (first | exact Below.refl _ _ | assumption | refine Below.setCell ?_ ?_ _ | refine below_drewN ?_ _ | refine Below.drew ?_ | refine Below.alloc ?_ ?_ _ | (with_reducible refine Below.trans ?_ (Below.mono hb ?_)) | (with_reducible refine Below.trans ?_ (Below.mono hb0 ?_)) | (with_reducible refine Below.trans ?_ (Below.mono hb1 ?_)) | (with_reducible refine Below.trans ?_ (Below.mono hb2 ?_)) | (with_reducible refine Below.trans ?_ (Below.mono hb3 ?_)) | (with_reducible refine Below.trans ?_ (Below.mono hb4 ?_)) | (with_reducible refine Below.trans ?_ (Below.mono hb5 ?_)) | (with_reducible refine Below.trans ?_ (Below.mono hb6 ?_)) | (with_reducible refine Below.trans ?_ (Below.mono hb7 ?_)) | (with_reducible refine Below.trans ?_ (Below.mono hb8 ?_)) | (with_reducible refine Below.trans ?_ (Below.mono hb9 ?_)) | (with_reducible refine Below.trans ?_ (Below.mono hb10 ?_)) | (with_reducible refine Below.trans ?_ (Below.mono hb11 ?_)) | (with_reducible refine Below.trans ?_ (Below.mono hb12 ?_)) | (with_reducible refine Below.trans ?_ (Below.mono hb13 ?_)) | (with_reducible refine Below.trans ?_ (Below.mono hb14 ?_)) | (with_reducible refine Below.trans ?_ (Below.mono hb15 ?_)) | omega | (simp; done) | (simp; omega)))) hgrow (by simp; omega) (fun j hj => (hown1.lt j hj).1)
        go_wp2_with fail
        rw [← ha]
        go_roundg (ks2.length - (k + 1))
        case measure => have := hgk.out; omega
        case rel => exact ⟨k + 1, by go_num, by omega, rfl, by rw [Htake.out]; exact hown2, hb1⟩
      obtain rfl : k = ks2.length := by omega
      rw [List.take_length] at hown
      have hMd := hMd1.below hb
      have hMs := hMs1.below hb
      have hbz := hbw.trans (hb.mono hzw)
      have hbl := below_next HB1.out hb
      clear HB1
      have hownz := hown.mono (base' := w.heap.size) hzw
      clear hlt hMd1 hMs1 hbw hown hgk hsaK hzw hk
      go_wp2_with fail
      go_ret2
      exact ⟨vz, u5, rfl, by rw [Hks1.out, HW1.out]; exact hown0.below hbl, by rw [Hks2.out, HW2.out]; exact hownz, hbz⟩
end Go.Proofs.YtgihommenknhoaaGreatDoor
