/- The tables of strconv and math/bits beside those of unicode/utf8; strconv.Itoa, strings.Join. -/
import Derived.Test.YtnocceilpnmbpaaGreatDoorEnv
import Derived.Test.YtnocceilpnmbpaaGreatDoorEvP
import Derived.Lib.AppendIntMem
import Derived.Lib.LaidTab
namespace Go.Proofs.YtnocceilpnmbpaaGreatDoor
open Go.RowKit
set_option linter.unusedVariables false
set_option linter.unusedSimpArgs false

/-- The table of powers of ten, and one number of a table of math/bits. -/
def TabsE (w : World) : Prop := Lib.TabIs Tryz.prog w "internal/strconv.uint64pow10" .u64 Lib.pow10Tab ∧ w.cell? ⟨5, 15, none⟩ = some (.int .u8 4)
theorem powG : Tryz.prog.globalNamed "internal/strconv.uint64pow10" = some 3 := by kernel_rfl
theorem TabsE.keep {w w' : World} (h : TabsE w) (h1 : w'.heap[3]? = w.heap[3]?) (h2 : w'.heap[5]? = w.heap[5]?) : TabsE w' := by
 obtain ⟨g1, g2⟩ := h
 refine ⟨?_, ?_⟩
 ·
  unfold Lib.TabIs World.var? at *
  rw [powG] at *
  simp only [Option.bind_some] at *
  rw [h1]; exact g1
 ·
  rw [World.cell?_of_block (w := w) (a := ⟨5, 15, none⟩) h2]; exact g2
theorem TabsE.lt {w : World} (h : TabsE w) : 3 < w.heap.size ∧ 5 < w.heap.size := by
 obtain ⟨g1, g2⟩ := h
 refine ⟨?_, World.block_lt_of_cell? w _ g2⟩
 unfold Lib.TabIs World.var? at g1
 rw [powG] at g1
 simp only [Option.bind_some] at g1
 apply Classical.byContradiction
 intro hn
 rw [Array.getElem?_eq_none (by omega)] at g1
 cases g1
theorem TabsE.below {w w' : World} (h : TabsE w) (hb : Below w.heap.size w w') : TabsE w' := h.keep (hb.block _ h.lt.1) (hb.block _ h.lt.2)
def EnvE (w : World) : Prop := Env w ∧ TabsE w
theorem EnvE.below {w w' : World} (h : EnvE w) (hb : Below w.heap.size w w') : EnvE w' := ⟨h.1.below hb, h.2.keep (hb.block _ h.2.lt.1) (hb.block _ h.2.lt.2)⟩
theorem EnvE.alloc {w : World} (h : EnvE w) (o : Obj) : EnvE (w.alloc o) := h.below ((Below.refl _ _).alloc (Nat.le_refl _) o)
theorem EnvE.drew {w : World} (h : EnvE w) : EnvE w.drew := h.below (Below.refl _ _).drew
theorem EnvE.drewN {w : World} (h : EnvE w) (n : Nat) : EnvE (w.drewN n) := h.below (below_drewN (Below.refl _ _) n)
/-- The variables' blocks lie below block S. -/
def EnvSE (S : Nat) : Prop := EnvS S ∧ 3 < S ∧ 5 < S
theorem EnvE.envS {w : World} (h : EnvE w) : EnvSE w.heap.size := ⟨h.1.envS, h.2.lt⟩
theorem EnvE.kp {X : Nat → Prop} {S : Nat} {w w' : World} (h : EnvE w) (hb : Kp X w w') (hS : EnvSE S) (hX : ∀ j, X j → S ≤ j) : EnvE w' := by
 have hx : ∀ j, j < S → ¬ X j := fun j hj hx => by have := hX j hx; omega
 refine ⟨h.1.keep fun b hb' => hb.block b (h.1.lt b hb') (hx b ?_), h.2.keep (hb.block _ h.2.lt.1 (hx _ hS.2.1)) (hb.block _ h.2.lt.2 (hx _ hS.2.2))⟩
 obtain ⟨⟨h1, h2, h3⟩, -, -⟩ := hS
 rcases hb' with rfl | rfl | rfl <;> omega
theorem EnvE.stp {S : Nat} {w w' : World} (h : EnvE w) (hb : Stp S w w') (hS : EnvSE S) : EnvE w' := h.kp (X := fun j => j = S) (Kp.of_stp hb rfl) hS (fun j hj => by omega)
theorem EnvSE.mono {S S' : Nat} (h : EnvSE S) (hS : S ≤ S') : EnvSE S' := ⟨h.1.mono hS, by have := h.2.1; omega, by have := h.2.2; omega⟩

theorem itoa_any (n : Int) (w : World) (hE : EnvE w) (h0 : -9223372036854775808 ≤ n) (h1 : n ≤ 9223372036854775807) : Calls Tryz.prog 86 #[.int .i64 n] w (Gives (.string (itoaB n)) w) :=
 (Tryz.strconv_Itoa n h0 h1 w hE.2.1).mono fun e w' ⟨h2, k, os, h3⟩ => ⟨h2, by rw [h3]; exact Lib.below_grow _ _ (Nat.le_refl _) _ _⟩
theorem joinU_size : ∀ (xs : List ByteArray) (sep : ByteArray) (n : Nat), (∀ x ∈ xs, x.size ≤ n) → (joinU xs sep).size ≤ xs.length * (n + sep.size)
 | [], sep, n, h => by show ([] : List UInt8).toArray.size ≤ _; simp
 | x :: r, sep, n, h => by
  show (Lib.join ((x :: r).map (·.data.toList)) sep.data.toList).toArray.size ≤ _
  rw [List.size_toArray, List.map_cons, Lib.join_cons, List.length_append, Lib.joinTail_length]
  have h1 : Lib.lens (r.map (·.data.toList)) ≤ r.length * n := by
   have h2 : ∀ y ∈ r, y.size ≤ n := fun y hy => h y (List.mem_cons_of_mem _ hy)
   clear h
   induction r with
   | nil => simp [Lib.lens]
   | cons y r ih =>
    have := ih (fun z hz => h2 z (List.mem_cons_of_mem _ hz))
    have h3 : y.data.toList.length ≤ n := by have := h2 y (List.mem_cons_self ..); simpa using this
    simp only [Lib.lens, List.map_cons, List.sum_cons, List.length_cons, Nat.add_mul] at this ⊢
    omega
  have h2 : x.data.toList.length ≤ n := by have := h x (List.mem_cons_self ..); simpa using this
  have h3 : sep.data.toList.length = sep.size := by simp
  rw [List.length_map, h3, List.length_cons, Nat.add_mul, Nat.mul_add, Nat.mul_comm sep.size r.length]
  omega
theorem join_any (xs : List ByteArray) (sep : ByteArray) (a : Option Addr) (cap : Nat) (w : World) (h : SA w a xs) (hc : xs.length ≤ cap) (hl : xs.length ≤ 1000000) (hz : ∀ x ∈ xs, x.size ≤ 10000000) (hs : sep.size ≤ 10) :
  Calls Tryz.prog 85 #[.slice a xs.length cap, .string sep] w (Gives (.string (joinU xs sep)) w) := by
 have hj := joinU_size xs sep 10000000 hz
 have hj2 : xs.length * (10000000 + sep.size) ≤ 1000000 * (10000000 + 10) := Nat.mul_le_mul hl (by omega)
 rcases h with rfl | ⟨b, off, rfl, hA⟩
 ·
  exact (Tryz.strings_Join_none a cap sep w).mono fun e w' ⟨h1, h2⟩ => ⟨h1, by rw [h2]; exact Below.refl _ _⟩
 ·
  have hcell : ∀ (j : Nat) x, xs[j]? = some x → w.cell? ⟨b, off + j, none⟩ = some (.string x) := fun j x hx => by
   have := hA j 0 x hx (by decide)
   rw [show off + (j * Cel.k ByteArray + 0) = off + j from by show off + (j * 1 + 0) = _; omega] at this
   exact this
  by_cases hl0 : xs = []
  ·
   subst hl0
   exact (Tryz.strings_Join_none _ cap sep w).mono fun e w' ⟨h1, h2⟩ => ⟨h1, by rw [h2]; exact Below.refl _ _⟩
  ·
   refine Tryz.strings_Join b off cap xs sep w hcell (hA.lt hl0) (by omega) hc ?_
   have : (joinU xs sep).size = (Lib.join (xs.map (·.data.toList)) sep.data.toList).length := by
    show (Lib.join _ _).toArray.size = _
    rw [List.size_toArray]
   omega
end Go.Proofs.YtnocceilpnmbpaaGreatDoor
