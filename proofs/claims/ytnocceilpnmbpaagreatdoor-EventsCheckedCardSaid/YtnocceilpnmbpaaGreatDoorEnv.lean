/- What the library's variables hold, and that it stays; contracts of the library that rest on it. -/
import Derived.Test.YtnocceilpnmbpaaGreatDoorBase
import Derived.Test.YtnocceilpnmbpaaGreatDoorShelf
import Derived.Test.YtnocceilpnmbpaaGreatDoorKey
namespace Go.Proofs.YtnocceilpnmbpaaGreatDoor
open Go.RowKit
set_option linter.unusedVariables false

/-- The tables of unicode/utf8, and some number in bytealg.MaxLen. -/
def Env (w : World) : Prop := Lib.Utf8Tabs 1 2 w ∧ ∃ m : Int, w.cell? ⟨0, 0, none⟩ = some (.int .i64 m)

theorem Env.keep {w w' : World} (h : Env w) (hk : ∀ b, b = 1 ∨ b = 2 ∨ b = 0 → w'.heap[b]? = w.heap[b]?) : Env w' := by
 obtain ⟨⟨h1, h2⟩, m, h3⟩ := h
 have hc : ∀ b o, b = 1 ∨ b = 2 ∨ b = 0 → w'.cell? ⟨b, o, none⟩ = w.cell? ⟨b, o, none⟩ := fun b o hb => World.cell?_of_block (w := w) (a := ⟨b, o, none⟩) (hk b hb)
 refine ⟨⟨fun c hc' => ?_, fun i hi => ?_⟩, m, ?_⟩
 ·
  rw [hc _ _ (.inl rfl)]; exact h1 c hc'
 ·
  rw [hc _ _ (.inr (.inl rfl)), hc _ _ (.inr (.inl rfl))]; exact h2 i hi
 ·
  rw [hc _ _ (.inr (.inr rfl))]; exact h3
theorem Env.lt {w : World} (h : Env w) : ∀ b, b = 1 ∨ b = 2 ∨ b = 0 → b < w.heap.size := by
 obtain ⟨⟨h1, h2⟩, m, h3⟩ := h
 rintro b (rfl | rfl | rfl)
 ·
  exact World.block_lt_of_cell? w _ (h1 0 (by decide))
 ·
  exact World.block_lt_of_cell? w _ (h2 0 (by decide)).1
 ·
  exact World.block_lt_of_cell? w _ h3
theorem Env.below {w w' : World} (h : Env w) (hb : Below w.heap.size w w') : Env w' := h.keep fun b hb' => hb.block b (h.lt b hb')
theorem Env.alloc {w : World} (h : Env w) (o : Obj) : Env (w.alloc o) := h.below ((Below.refl _ _).alloc (Nat.le_refl _) o)
theorem Env.drewN {w : World} (h : Env w) (n : Nat) : Env (w.drewN n) := h.below (below_drewN (Below.refl _ _) n)
theorem Env.drew {w : World} (h : Env w) : Env w.drew := h.below (Below.refl _ _).drew
/-- The variables' blocks lie below block S. -/
def EnvS (S : Nat) : Prop := 1 < S ∧ 2 < S ∧ 0 < S
theorem Env.envS {w : World} (h : Env w) : EnvS w.heap.size := ⟨h.lt _ (.inl rfl), h.lt _ (.inr (.inl rfl)), h.lt _ (.inr (.inr rfl))⟩
theorem Env.stp {S : Nat} {w w' : World} (h : Env w) (hb : Stp S w w') (hS : EnvS S) : Env w' := h.keep fun b hb' => hb.block b (h.lt b hb') (by obtain ⟨h1, h2, h3⟩ := hS; omega)
theorem Env.setOther {w : World} (h : Env w) {p : Addr} (hp : EnvS p.block) (v : Value) : Env (w.setCell p v) := h.keep fun b hb => Below.heap_setCell _ _ _ _ (by obtain ⟨h1, h2, h3⟩ := hp; omega)
theorem EnvS.mono {S S' : Nat} (h : EnvS S) (hS : S ≤ S') : EnvS S' := by obtain ⟨h1, h2, h3⟩ := h; exact ⟨by omega, by omega, by omega⟩

theorem valid_any (s : ByteArray) (w : World) (hE : Env w) (hs : s.size ≤ 9223372036854775807) :
  Calls Tryz.prog 162 #[.string s] w (Gives (.bool (Lib.validD s.data.toList)) w) := Any.utf8_ValidString Tryz.laysValid s w hs hE.1
theorem containsS_any (s sub : ByteArray) (w : World) (hE : Env w) (hs : s.size < 4294967281) :
  Calls Tryz.prog 143 #[.string s, .string sub] w (fun e w' => e = .returned (.bool (Lib.contains s.data.toList sub.data.toList)) ∧ w = w') := by
 obtain ⟨m, hm⟩ := hE.2
 exact (Tryz.strings_Contains s sub m w hs hm).mono fun e w' ⟨h1, h2⟩ => ⟨h1, h2.symm⟩
end Go.Proofs.YtnocceilpnmbpaaGreatDoor
