/- The part of a text's words that lies in runs: the count of the reference. -/
import Derived.Test.YtlpknpjfmacemaaGreatDoorOverP
import Derived.Test.YtlpknpjfmacemaaGreatDoorPart
namespace Go.Proofs.YtlpknpjfmacemaaGreatDoor
open Go.RowKit
set_option linter.unusedVariables false
set_option linter.unusedSimpArgs false

/-- A part of a whole, 0 of nothing. -/
def partV (num den : Nat) : Value := if den = 0 then .agg #[.int .i64 0, .int .i64 1] else low num den
theorem partV_form (num den : Nat) : ∃ q1 q2 : Int, partV num den = .agg #[.int .i64 q1, .int .i64 q2] := by
  unfold partV
  split
  · exact ⟨_, _, rfl⟩
  · exact ⟨_, _, rfl⟩
set_option maxHeartbeats 2000000 in
theorem part0_any (num : Int) (w : World) : Calls Tryz.prog 80 #[.int .i64 num, .int .i64 0] w (Gives (.agg #[.int .i64 0, .int .i64 1]) w) := by
  go_enter Tryz.func80, Tryz.ntmps80
  go_wp2_with fail
  refine bodyPost_ret (v := .agg #[.int .i64 0, .int .i64 1]) (by simp only [results, Tryz.results80]; go_simp) rfl ⟨rfl, ?_⟩
  (repeat' (first | exact Below.refl _ _ | assumption | refine Below.setCell ?_ ?_ _ | refine below_drewN ?_ _ | refine Below.drew ?_ | refine Below.alloc ?_ ?_ _ | (with_reducible refine Below.trans ?_ (Below.mono hb ?_)) | (with_reducible refine Below.trans ?_ (Below.mono hb0 ?_)) | (with_reducible refine Below.trans ?_ (Below.mono hb1 ?_)) | (with_reducible refine Below.trans ?_ (Below.mono hb2 ?_)) | (with_reducible refine Below.trans ?_ (Below.mono hb3 ?_)) | (with_reducible refine Below.trans ?_ (Below.mono hb4 ?_)) | (with_reducible refine Below.trans ?_ (Below.mono hb5 ?_)) | (with_reducible refine Below.trans ?_ (Below.mono hb6 ?_)) | (with_reducible refine Below.trans ?_ (Below.mono hb7 ?_)) | (with_reducible refine Below.trans ?_ (Below.mono hb8 ?_)) | (with_reducible refine Below.trans ?_ (Below.mono hb9 ?_)) | (with_reducible refine Below.trans ?_ (Below.mono hb10 ?_)) | (with_reducible refine Below.trans ?_ (Below.mono hb11 ?_)) | (with_reducible refine Below.trans ?_ (Below.mono hb12 ?_)) | (with_reducible refine Below.trans ?_ (Below.mono hb13 ?_)) | (with_reducible refine Below.trans ?_ (Below.mono hb14 ?_)) | (with_reducible refine Below.trans ?_ (Below.mono hb15 ?_)) | omega | (simp; done) | (simp; omega)))
theorem partV_any (num den : Nat) (w : World) (hn : num ≤ 100000) (hd : den ≤ 100000) : Calls Tryz.prog 80 #[.int .i64 num, .int .i64 den] w (Gives (partV num den) w) := by
  unfold partV
  by_cases h : den = 0
  · subst h
    rw [if_pos rfl]
    exact part0_any _ w
  · rw [if_neg h]
    exact part_any num den w (by omega) (by omega) (by omega)
set_option maxRecDepth 100000 in
set_option maxHeartbeats 4000000 in
theorem count_any (b n c : Nat) (p : Nat → Bool) (w : World) (hm : Marks w b n p) (hn : n ≤ 100000) : Calls Tryz.prog 79 #[.slice (some ⟨b, 0, none⟩) n c] w (Gives (partV (cntB n p) n) w) := by
  have HV := Lib.hid (fun W => partV_any (cntB n p) n W (by have := cntB_le n p; omega) hn)
  obtain ⟨q1, q2, hV⟩ := partV_form (cntB n p) n
  rw [hV] at HV ⊢
  clear hV
  go_enter Tryz.func79, Tryz.ntmps79
  go_wp2_with fail
  go_loopg [3, 8] n (fun gk v i wr => ∃ k : Nat, v = .int .i64 (cntB k p) ∧ i = .int .i64 k ∧ k ≤ n ∧ Hid (gk = n - k) ∧ wr = w.alloc (.cells #[.int .i64 0, .int .i64 0] 62))
  case atStart => exact ⟨0, rfl, rfl, by omega, rfl, rfl⟩
  obtain ⟨k, rfl, rfl, hk, hgk, rfl⟩ := hrel
  have hcl := cntB_le k p
  by_cases hlt : k < n
  · have hk1 : (0 : Int) ≤ (k : Int) := by omega
    have hk2 : (k : Int) < (n : Int) := by omega
    have hc := (hm.alloc (.cells #[.int .i64 0, .int .i64 0] 62)).cell hlt
    have Hsucc : Hid (cntB (k + 1) p = cntB k p + (if p k then 1 else 0)) := cntB_succ k p
    have hwc : IntKind.i64.wrap ((cntB k p : Int) + 1) = (cntB k p : Int) + 1 := IntWalk.i64_in _ (by omega)
    cases hpk : p k
    · rw [hpk] at hc
      have Hs : Hid (cntB (k + 1) p = cntB k p) := by show _ = _; rw [Hsucc.out, hpk]; simp
      clear hpk Hsucc
      go_wp2_with fail
      go_roundg (n - (k + 1))
      case measure => have := hgk.out; omega
      case rel => exact ⟨k + 1, by rw [Hs.out], by go_num, by omega, rfl, rfl⟩
    · rw [hpk] at hc
      have Hs : Hid (cntB (k + 1) p = cntB k p + 1) := by show _ = _; rw [Hsucc.out, hpk]; simp
      clear hpk Hsucc
      go_wp2_with fail
      go_roundg (n - (k + 1))
      case measure => have := hgk.out; omega
      case rel => exact ⟨k + 1, by rw [Hs.out]; go_num, by go_num, by omega, rfl, rfl⟩
  · obtain rfl : k = n := by omega
    go_wp2_with fail
    refine (HV.out _).mono ?_
    rintro e w2 ⟨rfl, hb2⟩
    have hb3 := ((Below.refl w.heap.size w).alloc (Nat.le_refl _) (.cells #[.int .i64 0, .int .i64 0] 62)).trans (hb2.mono (by simp))
    have hB := (Box.new w 62 #[.int .i64 0, .int .i64 0]).below hb2
    have hB_l := hB.lt; have hB_0 := hB.cell 0; have hB_1 := hB.cell 1; simp at hB_0 hB_1
    have hB_f0 := hB.frozen 0; have hB_f1 := hB.frozen 1
    go_wp2_with fail
    refine bodyPost_ret (v := .agg #[.int .i64 q1, .int .i64 q2]) (by simp only [results, Tryz.results79]; go_simp) rfl ⟨rfl, ?_⟩
    exact (hb3.setCell (p := ⟨w.heap.size, 0, none⟩) (Nat.le_refl _) _).setCell (p := ⟨w.heap.size, 1, none⟩) (Nat.le_refl _) _
end Go.Proofs.YtlpknpjfmacemaaGreatDoor
