/- General notions for the walks: results that are numbers with a property; the stream of raw numbers and what a maker may change. -/
import Derived.Test.YtnocceilpnmbpaaGreatDoorChecked
import Derived.WalkKit
import Derived.WalkLawsBesides
import Derived.WalkSpells
import Derived.ProofKit
import Derived.Below
import Derived.Lib.Hide
import Derived.Deep.QuietTactic
import Derived.BigQuiet
import Derived.Outline
import Derived.Deep.DeepFit
import Derived.Deep.DeepCutAuto
import Derived.Deep.LoopGhost
import Derived.Deep.Light
namespace Go.Proofs.YtnocceilpnmbpaaGreatDoor
open Go.RowKit
set_option linter.unusedVariables false

/-- A call that returns an int with a property and leaves the world. -/
def SomeInt (Q : Int → Prop) (w : World) (e : Ending) (w' : World) : Prop := ∃ n : Int, Q n ∧ e = .returned (.int .i64 n) ∧ w = w'

/-- A plain value is returned after some draws. -/
def Draws (v : Value) (w : World) (e : Ending) (w' : World) : Prop := e = .returned v ∧ ∃ n, w' = w.drewN n
/-- A plain value is returned; new memory may have come. -/
theorem lsetA {α : Type} (l : List α) (i : Nat) (a : α) : l.toArray.setIfInBounds i a = (l.set i a).toArray := List.setIfInBounds_toArray ..
theorem lsetZ {α : Type} (a b : α) (l : List α) : (a :: l).set 0 b = b :: l := List.set_cons_zero ..
theorem lsetS {α : Type} (a b : α) (l : List α) (i : Nat) : (a :: l).set (i + 1) b = a :: l.set i b := List.set_cons_succ ..
def Gives (v : Value) (w : World) (e : Ending) (w' : World) : Prop := e = .returned v ∧ Below w.heap.size w w'

/-- All blocks but block S (the stream's) are as they were. -/
structure Stp (S : Nat) (w w' : World) : Prop where
 os : w'.os = w.os
 tape : w'.tape = w.tape
 output : w'.output = w.output
 size : w.heap.size ≤ w'.heap.size
 block : ∀ k, k < w.heap.size → k ≠ S → w'.heap[k]? = w.heap[k]?

theorem Stp.refl (S : Nat) (w : World) : Stp S w w := ⟨rfl, rfl, rfl, Nat.le_refl _, fun _ _ _ => rfl⟩
theorem Stp.trans {S : Nat} {a b c : World} (h : Stp S a b) (k : Stp S b c) : Stp S a c :=
 ⟨k.os.trans h.os, k.tape.trans h.tape, k.output.trans h.output, Nat.le_trans h.size k.size, fun i hi hs => (k.block i (Nat.lt_of_lt_of_le hi h.size) hs).trans (h.block i hi hs)⟩
theorem Stp.drewN {S : Nat} {a w : World} (h : Stp S a w) (n : Nat) : Stp S a (w.drewN n) := ⟨h.os, h.tape, h.output, h.size, h.block⟩
theorem Stp.drew {S : Nat} {a w : World} (h : Stp S a w) : Stp S a w.drew := ⟨h.os, h.tape, h.output, h.size, h.block⟩
theorem Stp.alloc {S : Nat} {a w : World} (h : Stp S a w) (o : Obj) : Stp S a (w.alloc o) :=
 h.trans ⟨rfl, rfl, rfl, by simp, fun k hk _ => Below.heap_alloc _ _ _ hk⟩
/-- A store into the stream's block, or into a block that came later. -/
theorem Stp.setCell {S : Nat} {a w : World} (h : Stp S a w) {p : Addr} (hp : p.block = S ∨ a.heap.size ≤ p.block) (u : Value) : Stp S a (w.setCell p u) :=
 ⟨h.os, h.tape, h.output, by simpa [World.setCell] using h.size, fun k hk hs => by
  rw [Below.heap_setCell _ _ _ _ (by rcases hp with hp | hp <;> omega)]; exact h.block k hk hs⟩
theorem Stp.below {S : Nat} {w w' : World} (h : Stp S w w') : Below (min S w.heap.size) w w' :=
 ⟨h.os, h.tape, h.output, h.size, fun k hk => h.block k (by omega) (by omega)⟩
theorem Stp.of_below {S : Nat} {w w' : World} (h : Below w.heap.size w w') : Stp S w w' :=
 ⟨h.os, h.tape, h.output, h.size, fun k hk _ => h.block k hk⟩
theorem Stp.cell {S : Nat} {w w' : World} (h : Stp S w w') {p : Addr} (hp : p.block < w.heap.size) (hs : p.block ≠ S) : w'.cell? p = w.cell? p := World.cell?_of_block (w := w) (h.block p.block hp hs)
theorem Stp.frozen {S : Nat} {w w' : World} (h : Stp S w w') {p : Addr} (hp : p.block < w.heap.size) (hs : p.block ≠ S) : w'.frozen? p = w.frozen? p := World.frozen?_of_block (w := w) (h.block p.block hp hs)

/-- A slice of ints that lies below block S, or is empty. -/
def RowBelow (S : Nat) (w : World) (a : Option Addr) (len cap : Nat) (zs : List Int) : Prop :=
 len = 0 ∨
 ∃ b off, a = some ⟨b, off, none⟩ ∧ b < S ∧ len ≤ cap ∧ cap ≤ maxLen ∧ zs.length = cap ∧ (∀ i, i < zs.length → w.cell? ⟨b, off + i, none⟩ = some (.int .i64 (zs.getD i 0))) ∧ ∀ n ∈ zs, (Lit.int .i64 n).wf = true

theorem RowBelow.keep {S : Nat} {w w' : World} {a : Option Addr} {len cap : Nat} {zs : List Int} (h : RowBelow S w a len cap zs) (hk : ∀ k, k < S → w'.heap[k]? = w.heap[k]?) : RowBelow S w' a len cap zs := by
 rcases h with h | ⟨b, off, h1, h2, h3, h4, h5, h6, h7⟩
 ·
  exact .inl h
 ·
  exact .inr ⟨b, off, h1, h2, h3, h4, h5, fun i hi => by rw [← h6 i hi]; exact World.cell?_of_block (w := w) (hk b h2), h7⟩

/-- Block S is a stream at a place from 0 to B. -/
def Strm (S : Nat) (B : Int) (w : World) : Prop :=
 ∃ (a : Option Addr) (len cap : Nat) (zs : List Int) (k : Int), w.heap[S]? = some (.cells #[.slice a len cap, .int .i64 k] 25 (0, 0)) ∧ 0 ≤ k ∧ k ≤ B ∧ RowBelow S w a len cap zs

theorem Strm.lt {S : Nat} {B : Int} {w : World} (h : Strm S B w) : S < w.heap.size := by
 obtain ⟨a, len, cap, zs, k, h1, _⟩ := h
 exact (Array.getElem?_eq_some_iff.1 h1).1
theorem Strm.mono {S : Nat} {B B' : Int} {w : World} (h : Strm S B w) (hb : B ≤ B') : Strm S B' w := by
 obtain ⟨a, len, cap, zs, k, h1, h2, h3, h4⟩ := h
 exact ⟨a, len, cap, zs, k, h1, h2, by omega, h4⟩
theorem Strm.keep {S : Nat} {B : Int} {w w' : World} (h : Strm S B w) (hk : ∀ k, k < w.heap.size → w'.heap[k]? = w.heap[k]?) : Strm S B w' := by
 have hl := h.lt
 obtain ⟨a, len, cap, zs, k, h1, h2, h3, h4⟩ := h
 exact ⟨a, len, cap, zs, k, by rw [hk S hl]; exact h1, h2, h3, h4.keep fun j hj => hk j (by omega)⟩
theorem Strm.alloc {S : Nat} {B : Int} {w : World} (h : Strm S B w) (o : Obj) : Strm S B (w.alloc o) := h.keep fun k hk => Below.heap_alloc _ _ _ hk
theorem Strm.drewN {S : Nat} {B : Int} {w : World} (h : Strm S B w) (n : Nat) : Strm S B (w.drewN n) := h.keep fun _ _ => rfl
theorem Strm.drew {S : Nat} {B : Int} {w : World} (h : Strm S B w) : Strm S B w.drew := h.keep fun _ _ => rfl
theorem Strm.below {S : Nat} {B : Int} {w w' : World} (h : Strm S B w) (hb : Below w.heap.size w w') : Strm S B w' := h.keep hb.block

theorem ret_int {k : IntKind} {a b : Int} (h : a = b) : Ending.returned (.int k a) = .returned (.int k b) := by rw [h]

theorem bcell {W w1 : World} (hb : Below W.heap.size W w1) : (∀ b o, b < W.heap.size → w1.cell? ⟨b, o, none⟩ = W.cell? ⟨b, o, none⟩) ∧ (∀ b o, b < W.heap.size → w1.frozen? ⟨b, o, none⟩ = W.frozen? ⟨b, o, none⟩) :=
 ⟨fun b o h => hb.cell (p := ⟨b, o, none⟩) h, fun b o h => hb.frozen (p := ⟨b, o, none⟩) h⟩
theorem below_next {a b c : World} (h : Below a.heap.size a b) (k : Below b.heap.size b c) : Below a.heap.size a c := h.trans (k.mono h.size)
theorem scell {S : Nat} {W w1 : World} (hb : Stp S W w1) : (∀ b o, b < W.heap.size → S < b → w1.cell? ⟨b, o, none⟩ = W.cell? ⟨b, o, none⟩) ∧ (∀ b o, b < W.heap.size → S < b → w1.frozen? ⟨b, o, none⟩ = W.frozen? ⟨b, o, none⟩) :=
 ⟨fun b o h h2 => hb.cell (p := ⟨b, o, none⟩) h (by simp; omega), fun b o h h2 => hb.frozen (p := ⟨b, o, none⟩) h (by simp; omega)⟩

/-- Block b is a row of cells, all known, none frozen. -/
def Box (w : World) (b : Nat) (T : TypeId) (vs : Array Value) : Prop := w.heap[b]? = some (.cells vs T (0, 0))
section box
variable {w w' : World} {b : Nat} {T : TypeId} {vs : Array Value}
theorem Box.lt (h : Box w b T vs) : b < w.heap.size := (Array.getElem?_eq_some_iff.1 h).1
theorem Box.cell (h : Box w b T vs) (i : Nat) : w.cell? ⟨b, i, none⟩ = vs[i]? := by unfold Box at h; simp [World.cell?, h]
theorem Box.frozen (h : Box w b T vs) (i : Nat) : w.frozen? ⟨b, i, none⟩ = false := by unfold Box at h; simp [World.frozen?, h]
theorem Box.same (h : Box w b T vs) (k : w'.heap[b]? = w.heap[b]?) : Box w' b T vs := k.trans h
theorem Box.new (w : World) (T : TypeId) (vs : Array Value) : Box (w.alloc (.cells vs T)) w.heap.size T vs := by
 show (w.heap.push _)[w.heap.size]? = _; simp
theorem Box.alloc (h : Box w b T vs) (o : Obj) : Box (w.alloc o) b T vs := h.same (Below.heap_alloc _ _ _ h.lt)
theorem Box.drewN (h : Box w b T vs) (n : Nat) : Box (w.drewN n) b T vs := h
theorem Box.drew (h : Box w b T vs) : Box w.drew b T vs := h
theorem Box.below (h : Box w b T vs) (k : Below w.heap.size w w') : Box w' b T vs := h.same (k.block _ h.lt)
theorem Box.stp {S : Nat} (h : Box w b T vs) (k : Stp S w w') (hS : b ≠ S) : Box w' b T vs := h.same (k.block _ h.lt hS)
theorem Box.set (h : Box w b T vs) (i : Nat) (v : Value) : Box (w.setCell ⟨b, i, none⟩ v) b T (vs.setIfInBounds i v) := by
 unfold Box at *; simp [World.setCell, Array.getElem?_modify, h]
theorem Box.setOther (h : Box w b T vs) {p : Addr} (hp : p.block ≠ b) (v : Value) : Box (w.setCell p v) b T vs := h.same (Below.heap_setCell _ _ _ _ (Ne.symm hp))
end box
theorem Strm.setOther {S : Nat} {B : Int} {w : World} (h : Strm S B w) {p : Addr} (hp : S < p.block) (v : Value) : Strm S B (w.setCell p v) := by
 obtain ⟨a, len, cap, zs, k, h1, h2, h3, h4⟩ := h
 exact ⟨a, len, cap, zs, k, by rw [Below.heap_setCell _ _ _ _ (by omega)]; exact h1, h2, h3, h4.keep fun j hj => Below.heap_setCell _ _ _ _ (by omega)⟩

/-- WHAT THE WALK IS TOLD OF A SLICE OF INTEGERS THAT CAME IN: it is nil; or it leads to a row of 'cap' cells, the numbers 'zs'. -/
def IsRow (k : IntKind) (w : World) (a : Option Addr) (len cap : Nat) (zs : List Int) : Prop :=
 (a = none ∧ len = 0 ∧ cap = 0 ∧ zs = []) ∨
 ∃ x, a = some x ∧ len ≤ cap ∧ cap ≤ maxLen ∧ zs.length = cap ∧ (∀ i, i < zs.length → w.cell? (x.add i) = some (.int k (zs.getD i 0))) ∧ ∀ n ∈ zs, (Lit.int k n).wf = true

/-- The stream that a law makes of its argument. -/
theorem strm_new {w : World} {a : Option Addr} {len cap : Nat} {zs : List Int} (h : IsRow .i64 w a len cap zs) :
  Strm w.heap.size 0 (w.alloc (.cells #[.slice a len cap, .int .i64 0] 25)) := by
 refine ⟨a, len, cap, zs, 0, Box.new w _ _, by omega, by omega, ?_⟩
 refine RowBelow.keep (w := w) ?_ (fun k hk => Below.heap_alloc _ _ _ hk)
 rcases h with ⟨_, h, _, _⟩ | ⟨x, rfl, h1, h2, h3, h4, h5⟩
 ·
  exact .inl h
 ·
  by_cases h0 : len = 0
  ·
   exact .inl h0
  ·
   obtain ⟨b, off, spot⟩ := x
   have h40 := h4 0 (by omega)
   have hb : b < w.heap.size ∧ spot = none := by
    have hh : (w.cell? (Addr.add ⟨b, off, spot⟩ 0)).isSome = true := by rw [h40]; rfl
    unfold World.cell? Addr.add at hh
    cases hbl : w.heap[b]? with
    | none => simp [hbl] at hh
    | some o =>
     refine ⟨(Array.getElem?_eq_some_iff.1 hbl).1, ?_⟩
     cases o <;> simp [hbl] at hh
     cases spot <;> simp at hh ⊢
   obtain ⟨hb, rfl⟩ := hb
   exact .inr ⟨b, off, rfl, hb, h1, h2, h3, fun i hi => by have := h4 i hi; by_cases hi0 : i = 0 <;> simpa [Addr.add, hi0] using this, h5⟩
end Go.Proofs.YtnocceilpnmbpaaGreatDoor
