/- Comparisons of fractions and of the first difference, with all that the world keeps. -/
import Derived.Test.YtlpknpjfmacemaaGreatDoorSortF
import Derived.Test.YtlpknpjfmacemaaGreatDoorShelf
namespace Go.Proofs.YtlpknpjfmacemaaGreatDoor
open Go.RowKit Go.Sort
set_option linter.unusedVariables false
set_option linter.unusedSimpArgs false

theorem compareI_neg (a b : Int) : Lib.compareInt a b < 0 ↔ a < b := by
  unfold Lib.compareInt
  split
  · constructor <;> intro <;> omega
  · split
    · constructor <;> intro <;> omega
    · constructor <;> intro <;> omega
theorem SA.intT {w : World} {a : Option Addr} {l : List Int} (h : SA w a l) {i : Nat} (hi : i < l.length) :
    ∃ b off, a = some ⟨b, off, none⟩ ∧ w.cell? ⟨b, off + i, none⟩ = some (.int .i64 l[i]) := by
  obtain ⟨b, off, ha, hc⟩ := h.at hi
  have h1 := hc 0 (by decide)
  exact ⟨b, off, ha, by simpa [Cel.k, Cel.cells] using h1⟩
theorem cmpFracR_any (a b c d : Int) (w : World) (h1 : -4000000000000000000 ≤ a * d ∧ a * d ≤ 4000000000000000000) (h2 : -4000000000000000000 ≤ c * b ∧ c * b ≤ 4000000000000000000) :
    Calls Tryz.prog 81 #[.agg #[.int .i64 a, .int .i64 b], .agg #[.int .i64 c, .int .i64 d]] w (fun e w' => e = .returned (.int .i64 (Lib.compareInt (a * d) (c * b))) ∧ Grw w w') := by
  have HC := Lib.hid (fun W => Tryz.cmp_Compare_int (a * d) (c * b) W)
  have hw1 : IntKind.i64.wrap (a * d) = a * d := IntWalk.i64_in _ (by omega)
  have hw2 : IntKind.i64.wrap (c * b) = c * b := IntWalk.i64_in _ (by omega)
  generalize Lib.compareInt (a * d) (c * b) = z at *
  go_enter Tryz.func81, Tryz.ntmps81
  go_wp2_with fail
  refine (HC.out _).mono ?_
  rintro e w' ⟨rfl, rfl⟩
  go_wp2_with fail
  go_ret
  refine ⟨rfl, ?_⟩
  (repeat' (first | exact Grw.refl _ | refine Grw.alloc ?_ _ | refine Grw.drew ?_ | refine Grw.drewN ?_ _))
/-- The first number that is not 0. -/
theorem orI_any (l : List Int) (a : Option Addr) (cap : Nat) (w : World) (hs : SA w a l) (hl : l.length ≤ 1000) :
    Calls Tryz.prog 90 #[.slice a l.length cap] w (fun e w' => e = .returned (.int .i64 (firstOf l)) ∧ w' = w) := by
  go_enter Tryz.func90, Tryz.ntmps90
  go_wp2_with fail
  go_loopg [8] l.length (fun gk i wr => ∃ k : Nat, i = .int .i64 k ∧ k ≤ l.length ∧ Hid (gk = l.length - k) ∧ Hid (firstOf l = firstOf (l.drop k)) ∧ wr = w)
  case atStart => exact ⟨0, rfl, by omega, rfl, rfl, rfl⟩
  case round =>
    obtain ⟨k, rfl, hk, hgk, hf, rfl⟩ := hrel
    by_cases hlt : k < l.length
    · obtain ⟨b, off, ha, c0⟩ := hs.intT hlt
      have hdr := List.drop_eq_getElem_cons hlt
      rw [hdr] at hf
      rw [ha]
      generalize l[k] = x at *
      clear hdr
      by_cases hx : x = 0
      · subst hx
        have Hf := Lib.hid (show firstOf l = firstOf (l.drop (k + 1)) by rw [hf.out]; rfl)
        clear hf
        go_wp2_with fail
        rw [← ha]
        go_roundg (l.length - (k + 1))
        case measure => have := hgk.out; omega
        case rel => exact ⟨k + 1, by go_num, by omega, rfl, Hf.out, rfl⟩
      · have hx' : (x != 0) = true := by simpa using hx
        have Hf := Lib.hid (show firstOf l = x by rw [hf.out]; unfold firstOf; rw [if_pos hx])
        clear hf
        go_wp2_with fail
        go_ret
        exact ⟨by rw [Hf.out] <;> rfl, rfl⟩
    · obtain rfl : k = l.length := by omega
      have Hf := Lib.hid (show firstOf l = 0 by rw [hf.out, List.drop_length]; rfl)
      clear hlt hf
      go_wp2_with fail
      go_ret
      exact ⟨by rw [Hf.out] <;> rfl, rfl⟩
end Go.Proofs.YtlpknpjfmacemaaGreatDoor
