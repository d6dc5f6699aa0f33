/- Comparisons of fractions and of the first difference, with all that the world keeps. -/
import Derived.Test.YtnocceilpnmbpaaGreatDoorSortF
import Derived.Test.YtnocceilpnmbpaaGreatDoorShelf
namespace Go.Proofs.YtnocceilpnmbpaaGreatDoor
open Go.RowKit Go.Sort
set_option linter.unusedVariables false
set_option linter.unusedSimpArgs false

theorem compareI_neg (a b : Int) : Lib.compareInt a b < 0 ↔ a < b := by
 unfold Lib.compareInt
 split
 ·
  constructor <;> intro <;> omega
 ·
  split
  ·
   constructor <;> intro <;> omega
  ·
   constructor <;> intro <;> omega
theorem SA.intT {w : World} {a : Option Addr} {l : List Int} (h : SA w a l) {i : Nat} (hi : i < l.length) :
  ∃ b off, a = some ⟨b, off, none⟩ ∧ w.cell? ⟨b, off + i, none⟩ = some (.int .i64 l[i]) := by
 obtain ⟨b, off, ha, hc⟩ := h.at hi
 have h1 := hc 0 (by decide)
 exact ⟨b, off, ha, by simpa [Cel.k, Cel.cells] using h1⟩
/-- The first number that is not 0. -/
theorem orI_any (l : List Int) (a : Option Addr) (cap : Nat) (w : World) (hs : SA w a l) (hl : l.length ≤ 1000) :
  Calls Tryz.prog 79 #[.slice a l.length cap] w (fun e w' => e = .returned (.int .i64 (firstOf l)) ∧ w' = w) := by
 go_enter Tryz.func79, Tryz.ntmps79
 go_wp2_with fail
 go_loopg [8] l.length (fun gk i wr => ∃ k : Nat, i = .int .i64 k ∧ k ≤ l.length ∧ Hid (gk = l.length - k) ∧ Hid (firstOf l = firstOf (l.drop k)) ∧ wr = w)
 case atStart => exact ⟨0, rfl, by omega, rfl, rfl, rfl⟩
 case round =>
  obtain ⟨k, rfl, hk, hgk, hf, rfl⟩ := hrel
  by_cases hlt : k < l.length
  ·
   obtain ⟨b, off, ha, c0⟩ := hs.intT hlt
   have hdr := List.drop_eq_getElem_cons hlt
   rw [hdr] at hf
   rw [ha]
   generalize l[k] = x at *
   clear hdr
   by_cases hx : x = 0
   ·
    subst hx
    have Hf := Lib.hid (show firstOf l = firstOf (l.drop (k + 1)) by rw [hf.out]; rfl)
    clear hf
    go_wp2_with fail
    rw [← ha]
    go_roundg (l.length - (k + 1))
    case measure => have := hgk.out; omega
    case rel => exact ⟨k + 1, by go_num, by omega, rfl, Hf.out, rfl⟩
   ·
    have hx' : (x != 0) = true := by simpa using hx
    have Hf := Lib.hid (show firstOf l = x by rw [hf.out]; unfold firstOf; rw [if_pos hx])
    clear hf
    go_wp2_with fail
    go_ret
    exact ⟨by rw [Hf.out] <;> rfl, rfl⟩
  ·
   obtain rfl : k = l.length := by omega
   have Hf := Lib.hid (show firstOf l = 0 by rw [hf.out, List.drop_length]; rfl)
   clear hlt hf
   go_wp2_with fail
   go_ret
   exact ⟨by rw [Hf.out] <;> rfl, rfl⟩
end Go.Proofs.YtnocceilpnmbpaaGreatDoor
