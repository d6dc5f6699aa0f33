/- Drafts: the words of two texts, and what is wrong with them. -/
import Derived.Test.YtlpknpjfmacemaaGreatDoorLine1
import Derived.Test.YtlpknpjfmacemaaGreatDoorOutside
namespace Go.Proofs.YtlpknpjfmacemaaGreatDoor
open Go.RowKit
set_option linter.unusedVariables false
set_option linter.unusedSimpArgs false

def shortE (s : ByteArray) : Int := if bodyE s ≠ 0 then bodyE s else if 600 < (wordsS s).length then 2 else 0
set_option maxHeartbeats 4000000 in
theorem shortWords_any (s : ByteArray) (w : World) (hE : Env w) (hs : s.size ≤ 100000) : Calls Tryz.prog 83 #[.string s] w (fun e w' => Below w.heap.size w w' ∧ ((shortE s ≠ 0 ∧ e = .returned (.tuple #[.slice none 0 0, .int .i64 (shortE s)])) ∨ (shortE s = 0 ∧ ∃ a c, e = .returned (.tuple #[.slice a (wordsS s).length c, .int .i64 0]) ∧ SA w' a (wordsS s)))) := by
  have HB := Lib.hid (textFault_any s w hE (by omega))
  have HW := Lib.hid (fun W => words_any s W (by omega))
  have HX : Hid (shortE s = if bodyE s ≠ 0 then bodyE s else if 600 < (wordsS s).length then 2 else 0) := rfl
  generalize shortE s = ex at *
  generalize bodyE s = be at *
  generalize wordsS s = l at *
  by_cases h0 : be = 0
  · subst h0
    replace HX := Lib.hid (HX.out.trans (if_neg (by decide)))
    by_cases h6 : 600 < l.length
    · replace HX := Lib.hid (HX.out.trans (if_pos h6))
      have hd : (600 : Int) < (l.length : Int) := by omega
      go_enter Tryz.func83, Tryz.ntmps83
      go_wp2_with fail
      refine HB.out.mono ?_
      rintro e w1 ⟨rfl, hb1⟩
      go_wp2_with fail
      refine (HW.out _).mono ?_
      rintro e w2 ⟨v2, rfl, hown2, hb2⟩
      obtain ⟨oa, oc, rfl, hsa, -, -⟩ := hown2.sa
      clear hown2
      go_wp2_with fail
      go_ret2
      exact ⟨below_next hb1 hb2, .inl ⟨by rw [HX.out]; decide, by rw [HX.out] <;> rfl⟩⟩
    · replace HX := Lib.hid (HX.out.trans (if_neg h6))
      have hd : ¬ (600 : Int) < (l.length : Int) := by omega
      go_enter Tryz.func83, Tryz.ntmps83
      go_wp2_with fail
      refine HB.out.mono ?_
      rintro e w1 ⟨rfl, hb1⟩
      go_wp2_with fail
      refine (HW.out _).mono ?_
      rintro e w2 ⟨v2, rfl, hown2, hb2⟩
      obtain ⟨oa, oc, rfl, hsa, -, -⟩ := hown2.sa
      clear hown2
      go_wp2_with fail
      go_ret2
      exact ⟨below_next hb1 hb2, .inr ⟨HX.out, oa, oc, rfl, hsa⟩⟩
  · have hq : (be != 0) = true := by simpa using h0
    replace HX := Lib.hid (HX.out.trans (if_pos h0))
    have H0 := Lib.hid h0
    clear h0
    go_enter Tryz.func83, Tryz.ntmps83
    go_wp2_with fail
    refine HB.out.mono ?_
    rintro e w1 ⟨rfl, hb1⟩
    go_wp2_with fail
    go_ret2
    exact ⟨hb1, .inl ⟨by rw [HX.out]; exact H0.out, by rw [HX.out] <;> rfl⟩⟩
def pairE (a b : ByteArray) (least : Int) : Int := if shortE a ≠ 0 then shortE a else if shortE b ≠ 0 then shortE b else if least < 1 ∨ 100 < least then 1 else 0
set_option maxHeartbeats 4000000 in
theorem pair_any (a b : ByteArray) (least : Int) (w : World) (hE : Env w) (ha : a.size ≤ 100000) (hb : b.size ≤ 100000) : Calls Tryz.prog 76 #[.string a, .string b, .int .i64 least] w (fun e w' => Below w.heap.size w w' ∧ ((pairE a b least ≠ 0 ∧ e = .returned (.tuple #[.slice none 0 0, .slice none 0 0, .int .i64 (pairE a b least)])) ∨ (pairE a b least = 0 ∧ ∃ xa xc ya yc, e = .returned (.tuple #[.slice xa (wordsS a).length xc, .slice ya (wordsS b).length yc, .int .i64 0]) ∧ SA w' xa (wordsS a) ∧ SA w' ya (wordsS b)))) := by
  have HA := Lib.hid (shortWords_any a w hE ha)
  have HB := Lib.hid (fun W h => shortWords_any b W h hb)
  have HX : Hid (pairE a b least = if shortE a ≠ 0 then shortE a else if shortE b ≠ 0 then shortE b else if least < 1 ∨ 100 < least then 1 else 0) := rfl
  generalize pairE a b least = ex at *
  generalize shortE a = ea at *
  generalize shortE b = eb at *
  generalize wordsS a = la at *
  generalize wordsS b = lb at *
  go_enter Tryz.func76, Tryz.ntmps76
  go_wp2_with fail
  refine HA.out.mono ?_
  rintro e w1 ⟨hb1, hcase⟩
  rcases hcase with ⟨hne, rfl⟩ | ⟨rfl, xa, xc, rfl, hxa⟩
  · have hq : (ea != 0) = true := by simpa using hne
    replace HX := Lib.hid (HX.out.trans (if_pos hne))
    have H0 := Lib.hid hne
    clear hne
    go_wp2_with fail
    go_ret3
    exact ⟨hb1, .inl ⟨by rw [HX.out]; exact H0.out, by rw [HX.out] <;> rfl⟩⟩
  · replace HX := Lib.hid (HX.out.trans (if_neg (by decide)))
    go_wp2_with fail
    refine (HB.out _ (hE.below hb1)).mono ?_
    rintro e w2 ⟨hb2, hcase⟩
    have hb12 := below_next hb1 hb2
    rcases hcase with ⟨hne, rfl⟩ | ⟨rfl, ya, yc, rfl, hya⟩
    · have hq : (eb != 0) = true := by simpa using hne
      replace HX := Lib.hid (HX.out.trans (if_pos hne))
      have H0 := Lib.hid hne
      clear hne
      go_wp2_with fail
      go_ret3
      exact ⟨hb12, .inl ⟨by rw [HX.out]; exact H0.out, by rw [HX.out] <;> rfl⟩⟩
    · replace HX := Lib.hid (HX.out.trans (if_neg (by decide)))
      have hxa2 := hxa.below hb2
      by_cases hout : least < 1 ∨ 100 < least
      · replace HX := Lib.hid (HX.out.trans (if_pos hout))
        go_wp2_with fail
        refine (outside_yes least 1 100 _ hout).mono ?_
        rintro e w3 ⟨rfl, rfl⟩
        go_wp2_with fail
        go_ret3
        exact ⟨hb12, .inl ⟨by rw [HX.out]; decide, by rw [HX.out] <;> rfl⟩⟩
      · replace HX := Lib.hid (HX.out.trans (if_neg hout))
        go_wp2_with fail
        refine (outside_no least 1 100 _ (by omega) (by omega)).mono ?_
        rintro e w3 ⟨rfl, rfl⟩
        go_wp2_with fail
        go_ret3
        exact ⟨hb12, .inr ⟨HX.out, xa, xc, ya, yc, rfl, hxa2, hya⟩⟩
set_option maxRecDepth 100000 in
set_option maxHeartbeats 4000000 in
theorem runsFault_any (a b : ByteArray) (least : Int) (w : World) (hE : Env w) (ha : a.size ≤ 100000) (hb : b.size ≤ 100000) : Calls Tryz.prog 28 #[.string a, .string b, .int .i64 least] w (Gives (.int .i64 (pairE a b least)) w) := by
  have HBF := Lib.hid (fun (s : ByteArray) W h (hs : s.size ≤ 100000) => bodyFault_any s W h (by omega))
  have HW := Lib.hid (fun (s : ByteArray) W (hs : s.size ≤ 100000) => wordsOfR_any s W (by omega))
  have HX : Hid (pairE a b least = if shortE a ≠ 0 then shortE a else if shortE b ≠ 0 then shortE b else if least < 1 ∨ 100 < least then 1 else 0) := rfl
  have HS : Hid (∀ s, shortE s = if bodyE s ≠ 0 then bodyE s else if 600 < (wordsS s).length then 2 else 0) := fun s => rfl
  have hb0 : Below w.heap.size w (w.alloc (.cells #[.string a, .string b] 9)) := by (repeat' (first | exact Below.refl _ _ | assumption | refine Below.setCell ?_ ?_ _ | refine below_drewN ?_ _ | refine Below.drew ?_ | refine Below.alloc ?_ ?_ _ | (with_reducible refine Below.trans ?_ (Below.mono hb ?_)) | (with_reducible refine Below.trans ?_ (Below.mono hb0 ?_)) | (with_reducible refine Below.trans ?_ (Below.mono hb1 ?_)) | (with_reducible refine Below.trans ?_ (Below.mono hb2 ?_)) | (with_reducible refine Below.trans ?_ (Below.mono hb3 ?_)) | (with_reducible refine Below.trans ?_ (Below.mono hb4 ?_)) | (with_reducible refine Below.trans ?_ (Below.mono hb5 ?_)) | (with_reducible refine Below.trans ?_ (Below.mono hb6 ?_)) | (with_reducible refine Below.trans ?_ (Below.mono hb7 ?_)) | (with_reducible refine Below.trans ?_ (Below.mono hb8 ?_)) | (with_reducible refine Below.trans ?_ (Below.mono hb9 ?_)) | (with_reducible refine Below.trans ?_ (Below.mono hb10 ?_)) | (with_reducible refine Below.trans ?_ (Below.mono hb11 ?_)) | (with_reducible refine Below.trans ?_ (Below.mono hb12 ?_)) | (with_reducible refine Below.trans ?_ (Below.mono hb13 ?_)) | (with_reducible refine Below.trans ?_ (Below.mono hb14 ?_)) | (with_reducible refine Below.trans ?_ (Below.mono hb15 ?_)) | omega | (simp; done) | (simp; omega)))
  have hB := Box.new w 9 #[.string a, .string b]
  generalize pairE a b least = ex at *
  go_enter Tryz.func28, Tryz.ntmps28
  go_wp2_with fail
  go_loopg [14] 2 (fun gk i wr => ∃ k : Nat, i = .int .i64 k ∧ k ≤ 2 ∧ Hid (gk = 2 - k) ∧ Hid (1 ≤ k → shortE a = 0) ∧ Hid (2 ≤ k → shortE b = 0) ∧ Below (w.alloc (.cells #[.string a, .string b] 9)).heap.size (w.alloc (.cells #[.string a, .string b] 9)) wr)
  case atStart => exact ⟨0, rfl, by omega, rfl, fun h => (by omega), fun h => (by omega), Below.refl _ _⟩
  obtain ⟨k, rfl, hk, hgk, h1, h2, hbr⟩ := hrel
  have hbx := below_next hb0 hbr
  have hBr := hB.below hbr
  by_cases hlt : k < 2
  · obtain ⟨s, hc, hss, hshort, hnext⟩ : ∃ s : ByteArray, wr.cell? ⟨w.heap.size, k, none⟩ = some (.string s) ∧ s.size ≤ 100000 ∧ Hid (shortE s ≠ 0 → ex = shortE s) ∧ Hid (shortE s = 0 → (1 ≤ k + 1 → shortE a = 0) ∧ (2 ≤ k + 1 → shortE b = 0)) := by
      by_cases e : k = 0
      · subst e
        exact ⟨a, hBr.cell 0, ha, fun h => by rw [HX.out, if_pos h], fun h => ⟨fun _ => h, fun h3 => by omega⟩⟩
      · obtain rfl : k = 1 := by omega
        have e1 := h1.out (by omega)
        exact ⟨b, hBr.cell 1, hb, fun h => by rw [HX.out, e1, if_neg (by decide), if_pos h], fun h => ⟨fun _ => e1, fun _ => h⟩⟩
    have HSs := Lib.hid (HS.out s)
    have HBs := Lib.hid (HBF.out s wr (hE.below hbx) hss)
    have HWs := Lib.hid (fun W => HW.out s W hss)
    have hk1 : (0 : Int) ≤ (k : Int) := by omega
    have hk2 : (k : Int) < 2 := by omega
    generalize shortE s = es at *
    generalize bodyE s = be at *
    generalize wordsS s = l at *
    clear hBr
    by_cases hbe : be = 0
    · subst hbe
      replace HSs := Lib.hid (HSs.out.trans (if_neg (by decide)))
      go_wp2_with fail
      refine HBs.out.mono ?_
      rintro e w2 ⟨rfl, hb2⟩
      go_wp2_with fail
      refine (HWs.out _).mono ?_
      rintro e w3 ⟨v3, rfl, hown3, hb3⟩
      obtain ⟨oa, oc, rfl, -, -, -⟩ := hown3.sa
      have hbr3 := below_next hbr (below_next hb2 hb3)
      have hbx3 := below_next hbx (below_next hb2 hb3)
      clear hown3
      by_cases h6 : 600 < l.length
      · replace HSs := Lib.hid (HSs.out.trans (if_pos h6))
        have hd : (600 : Int) < (l.length : Int) := by omega
        have HE := Lib.hid (hshort.out (by rw [HSs.out]; decide))
        go_wp2_with fail
        go_ret
        exact ⟨by rw [HE.out, HSs.out] <;> rfl, hbx3⟩
      · replace HSs := Lib.hid (HSs.out.trans (if_neg h6))
        have hd : ¬ (600 : Int) < (l.length : Int) := by omega
        have HN := Lib.hid (hnext.out HSs.out)
        go_wp2_with fail
        go_roundg (2 - (k + 1))
        case measure => have := hgk.out; omega
        case rel => exact ⟨k + 1, by go_num, by omega, rfl, HN.out.1, HN.out.2, hbr3⟩
    · have hq : (be != 0) = true := by simpa using hbe
      replace HSs := Lib.hid (HSs.out.trans (if_pos hbe))
      have HE := Lib.hid (hshort.out (by rw [HSs.out]; exact hbe))
      clear hbe
      go_wp2_with fail
      refine HBs.out.mono ?_
      rintro e w2 ⟨rfl, hb2⟩
      go_wp2_with fail
      go_ret
      exact ⟨by rw [HE.out, HSs.out] <;> rfl, below_next hbx hb2⟩
  · obtain rfl : k = 2 := by omega
    have e1 := h1.out (by omega)
    have e2 := h2.out (by omega)
    replace HX := Lib.hid (HX.out.trans ((if_neg (by rw [e1]; decide)).trans (if_neg (by rw [e2]; decide))))
    clear e1 e2
    by_cases g1 : least < 1
    · replace HX := Lib.hid (HX.out.trans (if_pos (.inl g1)))
      go_wp2_with fail
      go_ret
      exact ⟨by rw [HX.out] <;> rfl, hbx⟩
    · by_cases g2 : 100 < least
      · replace HX := Lib.hid (HX.out.trans (if_pos (.inr g2)))
        go_wp2_with fail
        go_ret
        exact ⟨by rw [HX.out] <;> rfl, hbx⟩
      · replace HX := Lib.hid (HX.out.trans (if_neg (by omega)))
        go_wp2_with fail
        go_ret
        exact ⟨by rw [HX.out] <;> rfl, hbx⟩
end Go.Proofs.YtlpknpjfmacemaaGreatDoor
