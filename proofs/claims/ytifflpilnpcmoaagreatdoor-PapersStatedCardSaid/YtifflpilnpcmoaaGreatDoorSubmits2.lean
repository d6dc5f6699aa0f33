/- submits(): the law's look at the package. -/
import Derived.Test.YtifflpilnpcmoaaGreatDoorSubmits
namespace Go.Proofs.YtifflpilnpcmoaaGreatDoor
open Go.RowKit
set_option linter.unusedVariables false
set_option linter.unusedSimpArgs false

theorem split12 : Lib.splitB ⟨#[10]⟩ 0 (Lib.countB ⟨#[111, 110, 101, 32, 116, 119, 111, 10]⟩ ⟨#[10]⟩) ⟨#[111, 110, 101, 32, 116, 119, 111, 10]⟩ = [⟨#[111, 110, 101, 32, 116, 119, 111]⟩, ⟨#[]⟩] := by kernel_rfl
theorem count12 : Lib.countB ⟨#[111, 110, 101, 32, 116, 119, 111, 10]⟩ ⟨#[10]⟩ = 1 := by kernel_rfl

set_option maxRecDepth 100000 in
set_option maxHeartbeats 4000000 in
theorem filled12_any (w : World) (hE : Env w) : Calls Tryz.prog 74 #[.string ⟨#[111, 110, 101, 32, 116, 119, 111, 10]⟩] w (Gives (.int .i64 1) w) := by
  obtain ⟨m, hm⟩ := hE.2
  have HS := Lib.hid (Tryz.strings_Split ⟨#[111, 110, 101, 32, 116, 119, 111, 10]⟩ ⟨#[10]⟩ m w (by decide) hm (by decide))
  rw [split12, count12] at HS
  have hB := Box.new w 9 #[.string ⟨#[111, 110, 101, 32, 116, 119, 111]⟩, .string ⟨#[]⟩]
  have T1 := Lib.hid (fun w => trim1_any ⟨#[111, 110, 101, 32, 116, 119, 111]⟩ w (by decide))
  have T2 := Lib.hid (fun w => trim1_any ⟨#[]⟩ w (by decide))
  rw [show Lib.trimB (⟨#[111, 110, 101, 32, 116, 119, 111]⟩ : ByteArray).data.toList 32 = [111, 110, 101, 32, 116, 119, 111] from by kernel_rfl] at T1
  rw [show Lib.trimB (⟨#[]⟩ : ByteArray).data.toList 32 = [] from by kernel_rfl] at T2
  clear hm
  go_enter Tryz.func74, Tryz.ntmps74
  go_wp2_with fail
  refine HS.out.mono ?_
  rintro e w1 ⟨rfl, rfl⟩
  have hB_l := hB.lt; have hB_0 := hB.cell 0; have hB_1 := hB.cell 1; simp at hB_0 hB_1
  go_wp2_with fail
  refine wp_loop_rounds 3 ?_
  rw [rounds_succ]
  go_wp2_with fail
  refine (T1.out _).mono ?_
  rintro e w2 ⟨rfl, n2, rfl⟩
  go_wp2_with fail
  rw [rounds_succ]
  go_wp2_with fail
  refine (T2.out _).mono ?_
  rintro e w3 ⟨rfl, n3, rfl⟩
  go_wp2_with fail
  rw [rounds_succ]
  go_wp2_with fail
  go_ret
  exact ⟨rfl, by (repeat' (first | exact Below.refl _ _ | assumption | refine Below.setCell ?_ ?_ _ | refine below_drewN ?_ _ | refine Below.drew ?_ | refine Below.alloc ?_ ?_ _ | (with_reducible refine Below.trans ?_ (Below.mono hb ?_)) | (with_reducible refine Below.trans ?_ (Below.mono hb0 ?_)) | (with_reducible refine Below.trans ?_ (Below.mono hb1 ?_)) | (with_reducible refine Below.trans ?_ (Below.mono hb2 ?_)) | (with_reducible refine Below.trans ?_ (Below.mono hb3 ?_)) | (with_reducible refine Below.trans ?_ (Below.mono hb4 ?_)) | (with_reducible refine Below.trans ?_ (Below.mono hb5 ?_)) | (with_reducible refine Below.trans ?_ (Below.mono hb6 ?_)) | (with_reducible refine Below.trans ?_ (Below.mono hb7 ?_)) | (with_reducible refine Below.trans ?_ (Below.mono hb8 ?_)) | (with_reducible refine Below.trans ?_ (Below.mono hb9 ?_)) | (with_reducible refine Below.trans ?_ (Below.mono hb10 ?_)) | (with_reducible refine Below.trans ?_ (Below.mono hb11 ?_)) | (with_reducible refine Below.trans ?_ (Below.mono hb12 ?_)) | (with_reducible refine Below.trans ?_ (Below.mono hb13 ?_)) | (with_reducible refine Below.trans ?_ (Below.mono hb14 ?_)) | (with_reducible refine Below.trans ?_ (Below.mono hb15 ?_)) | omega | (simp; done) | (simp; omega)))⟩

set_option maxHeartbeats 4000000 in
theorem textFault12_any (s : ByteArray) (w : World) (hE : Env w) (hs : s.size ≤ 1000000000) : Calls Tryz.prog 72 #[.string s] w (Gives (.int .i64 (if 20000 < s.size then 2 else if textB s = false then 3 else 0)) w) := by
  by_cases h : 20000 < s.size
  · rw [if_pos h]
    go_enter Tryz.func72, Tryz.ntmps72
    go_wp2_with fail
    go_ret
    exact ⟨rfl, Below.refl _ _⟩
  · rw [if_neg h]
    have HT := Lib.hid (isText_any s w hE hs)
    cases ht : textB s
    · rw [ht] at HT
      go_enter Tryz.func72, Tryz.ntmps72
      go_wp2_with fail
      refine HT.out.mono ?_
      rintro e w1 ⟨rfl, hb1⟩
      go_wp2_with fail
      go_ret
      exact ⟨rfl, hb1⟩
    · rw [ht] at HT
      go_enter Tryz.func72, Tryz.ntmps72
      go_wp2_with fail
      refine HT.out.mono ?_
      rintro e w1 ⟨rfl, hb1⟩
      go_wp2_with fail
      go_ret
      exact ⟨rfl, hb1⟩
set_option maxHeartbeats 4000000 in
theorem length12_any (w : World) (hE : Env w) : Calls Tryz.prog 46 #[.string ⟨#[111, 110, 101, 32, 116, 119, 111, 10]⟩] w (Gives (.tuple #[.int .i64 2, .int .i64 1, .int .i64 0]) w) := by
  have HT := Lib.hid (textFault12_any ⟨#[111, 110, 101, 32, 116, 119, 111, 10]⟩ w hE (by decide))
  rw [if_neg (by decide), show textB ⟨#[111, 110, 101, 32, 116, 119, 111, 10]⟩ = true from by kernel_rfl, if_neg (by decide)] at HT
  go_enter Tryz.func46, Tryz.ntmps46
  go_wp2_with fail
  refine HT.out.mono ?_
  rintro e w1 ⟨rfl, hb1⟩
  go_wp2_with fail
  refine (words12_any _).mono ?_
  rintro e w2 ⟨a2, cap2, rfl, hb2⟩
  have hb2' := below_next hb1 hb2
  go_wp2_with fail
  refine (filled12_any _ (hE.below hb2')).mono ?_
  rintro e w3 ⟨rfl, hb3⟩
  go_wp2_with fail
  go_ret3
  exact ⟨rfl, below_next hb2' hb3⟩
set_option maxHeartbeats 4000000 in
theorem submits_any (w : World) (hE : Env w) : Calls Tryz.prog 16 #[] w (Gives (.bool true) w) := by
  go_enter Tryz.func16, Tryz.ntmps16
  go_wp2_with fail
  refine (length12_any _ hE).mono ?_
  rintro e w1 ⟨rfl, hb1⟩
  go_wp2_with fail
  go_ret
  exact ⟨rfl, hb1⟩
end Go.Proofs.YtifflpilnpcmoaaGreatDoor
