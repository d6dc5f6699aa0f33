/- Makers of lists of strings. -/
import Derived.Test.YtnocceilpnmbpaaGreatDoorList
namespace Go.Proofs.YtnocceilpnmbpaaGreatDoor
open Go.RowKit
set_option linter.unusedVariables false
set_option linter.unusedSimpArgs false

/-- A list of one's own is made, apart from the stream. -/
def SomeOwn {α : Type} [Cel α] (E : TypeId) (P : α → Prop) (S : Nat) (B : Int) (n : Nat) (w : World) (e : Ending) (w' : World) : Prop :=
 ∃ (v : Value) (l : List α), e = .returned v ∧ l.length ≤ n ∧ (∀ x ∈ l, P x) ∧ Own w.heap.size E w' v l ∧ Stp S w w' ∧ Strm S B w'
theorem all_snoc {α : Type} {P : α → Prop} {l : List α} {x : α} (h : ∀ y ∈ l, P y) (hx : P x) : ∀ y ∈ l ++ [x], P y := fun y hy => by
 rcases List.mem_append.1 hy with hy | hy
 ·
  exact h y hy
 ·
  rw [List.mem_singleton] at hy; subst hy; exact hx
def SmallS (x : ByteArray) : Prop := x.size ≤ 1000
theorem pick_box (S : Nat) (B : Int) (b T cap : Nat) (zs : List Int) (w : World) (hs : Strm S B w) (hB : B ≤ 1000000000) (hbox : Box w b T (zs.map (Value.int .i64)).toArray) (hbS : b ≠ S) (hl1 : 1 ≤ zs.length) (hl2 : zs.length ≤ 1000) :
  Calls Tryz.prog 14 #[.pointer (some ⟨S, 0, none⟩), .slice (some ⟨b, 0, none⟩) zs.length cap] w (fun e w' => SomePick S B zs w e w') :=
 pick_any S B b 0 zs.length cap zs w hs hB rfl hl1 hl2 hbox.lt hbS (fun i hi => by
  rw [Nat.zero_add, hbox.cell i]
  simp [List.getElem?_eq_getElem hi, List.getD_eq_getElem?_getD])
theorem SA.setOther {α : Type} [Cel α] {w : World} {a : Option Addr} {l : List α} (h : SA w a l) {p : Addr} (hp : ∀ x : Addr, a = some x → x.block ≠ p.block) (v : Value) : SA (w.setCell p v) a l := by
 rcases h with h | ⟨b, off, rfl, h⟩
 ·
  exact .inl h
 ·
  exact .inr ⟨b, off, rfl, h.same (Below.heap_setCell _ _ _ _ (hp _ rfl))⟩
theorem repeat_any (c : UInt8) (n : Nat) (w : World) (hn : n ≤ 100000) :
  Calls Tryz.prog 56 #[.string ⟨#[c]⟩, .int .i64 n] w (fun e w' => ∃ x : ByteArray, x.size ≤ n ∧ e = .returned (.string x) ∧ Below w.heap.size w w') :=
 (Tryz.strings_Repeat ⟨#[c]⟩ n w (by omega) (by show 1 * n ≤ _; omega)).mono fun e w' ⟨h1, h2⟩ => ⟨_, by
  show (Lib.repeatL [c] n).toArray.size ≤ n
  rw [List.size_toArray, Lib.repeatL_length]; simp, h1, h2⟩
end Go.Proofs.YtnocceilpnmbpaaGreatDoor
