/- Runs of equal words: the door. -/
import Derived.Test.YtlpknpjfmacemaaGreatDoorRun2
import Derived.Test.YtlpknpjfmacemaaGreatDoorDraft1
namespace Go.Proofs.YtlpknpjfmacemaaGreatDoor
open Go.RowKit
set_option linter.unusedVariables false
set_option linter.unusedSimpArgs false

theorem shortE_len {s : ByteArray} (h : shortE s = 0) : (wordsS s).length ≤ 600 := by
  unfold shortE at h
  split at h
  · exact absurd h (by assumption)
  · split at h
    · exact absurd h (by decide)
    · omega
theorem pairE_len {a b : ByteArray} {least : Int} (h : pairE a b least = 0) : (wordsS a).length ≤ 600 ∧ (wordsS b).length ≤ 600 ∧ 1 ≤ least ∧ least ≤ 100 := by
  unfold pairE at h
  by_cases h1 : shortE a = 0
  · rw [if_neg (fun e => e h1)] at h
    by_cases h2 : shortE b = 0
    · rw [if_neg (fun e => e h2)] at h
      by_cases h3 : least < 1 ∨ 100 < least
      · rw [if_pos h3] at h; exact absurd h (by decide)
      · exact ⟨shortE_len h1, shortE_len h2, by omega, by omega⟩
    · rw [if_pos h2] at h; exact absurd h h2
  · rw [if_pos h1] at h; exact absurd h h1
theorem runsL_len {x y : List ByteArray} (least : Int) (hx : x.length ≤ 600) (hy : y.length ≤ 600) : (runsL x y least).length ≤ 360000 := by
  have h := runsTo_len x y least x.length
  have h2 : x.length * y.length ≤ 600 * 600 := Nat.mul_le_mul hx hy
  unfold runsL
  omega
/-- The error of Runs. -/
def runsE (a b : ByteArray) (least : Int) : Int := if pairE a b least ≠ 0 then pairE a b least else if 2000 < (runsL (wordsS a) (wordsS b) least).length then 12 else 0
set_option maxRecDepth 100000 in
set_option maxHeartbeats 4000000 in
theorem Runs_any (a b : ByteArray) (least : Int) (w : World) (hE : Env w) (ha : a.size ≤ 100000) (hb : b.size ≤ 100000) :
    Calls Tryz.prog 26 #[.string a, .string b, .int .i64 least] w (fun e w' => Below w.heap.size w w' ∧ ((runsE a b least ≠ 0 ∧ e = .returned (.tuple #[.slice none 0 0, .int .i64 (runsE a b least)])) ∨ (runsE a b least = 0 ∧ ∃ v, e = .returned (.tuple #[v, .int .i64 0]) ∧ Own w.heap.size 69 w' v (runsL (wordsS a) (wordsS b) least)))) := by
  have HP := Lib.hid (pair_any a b least w hE ha hb)
  have HR := Lib.hid (fun xa ya xc yc W h1 h2 h3 h4 => runs_any xa ya xc yc (wordsS a) (wordsS b) least W h1 h2 h3 h4)
  have HL := Lib.hid (fun h => pairE_len (a := a) (b := b) (least := least) h)
  have HX : Hid (runsE a b least = if pairE a b least ≠ 0 then pairE a b least else if 2000 < (runsL (wordsS a) (wordsS b) least).length then 12 else 0) := rfl
  have HN := Lib.hid (fun h1 h2 => runsL_len (x := wordsS a) (y := wordsS b) least h1 h2)
  generalize runsE a b least = ex at *
  generalize pairE a b least = ep at *
  generalize wordsS a = la at *
  generalize wordsS b = lb at *
  generalize runsL la lb least = rs at *
  go_enter Tryz.func26, Tryz.ntmps26
  go_wp2_with fail
  refine HP.out.mono ?_
  rintro e w1 ⟨hb1, hcase⟩
  rcases hcase with ⟨hne, rfl⟩ | ⟨rfl, xa, xc, ya, yc, rfl, hxa, hya⟩
  · have hq : (ep != 0) = true := by simpa using hne
    replace HX := Lib.hid (HX.out.trans (if_pos hne))
    have H0 := Lib.hid hne
    clear hne
    go_wp2_with fail
    go_ret2
    exact ⟨hb1, .inl ⟨by rw [HX.out]; exact H0.out, by rw [HX.out] <;> rfl⟩⟩
  · replace HX := Lib.hid (HX.out.trans (if_neg (by decide)))
    obtain ⟨hl1, hl2, -, -⟩ := HL.out rfl
    have hn := HN.out hl1 hl2
    go_wp2_with fail
    refine (HR.out xa ya xc yc _ hxa hya hl1 hl2).mono ?_
    rintro e w2 ⟨v2, rfl, hown, hb2⟩
    have hb12 := below_next hb1 hb2
    have hown2 := hown.mono (base' := w.heap.size) (by have := hb1.size; omega)
    obtain ⟨ra, rc, rfl, -, -, -⟩ := hown.sa
    clear hown
    by_cases hbig : 2000 < rs.length
    · replace HX := Lib.hid (HX.out.trans (if_pos hbig))
      have hd1 : decide (2000 < rs.length) = true := decide_eq_true hbig
      have hd2 : decide ((2000 : Int) < (rs.length : Int)) = true := decide_eq_true (by omega)
      go_wp2_with fail
      go_ret2
      exact ⟨hb12, .inl ⟨by rw [HX.out]; decide, by rw [HX.out] <;> rfl⟩⟩
    · replace HX := Lib.hid (HX.out.trans (if_neg hbig))
      have hd1 : decide (2000 < rs.length) = false := decide_eq_false hbig
      have hd2 : decide ((2000 : Int) < (rs.length : Int)) = false := decide_eq_false (by omega)
      go_wp2_with fail
      go_ret2
      exact ⟨hb12, .inr ⟨HX.out, _, rfl, hown2⟩⟩
end Go.Proofs.YtlpknpjfmacemaaGreatDoor
