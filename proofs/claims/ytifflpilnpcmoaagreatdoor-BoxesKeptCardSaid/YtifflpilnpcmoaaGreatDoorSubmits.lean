/- The package counts words: submits(). -/
import Derived.Test.YtifflpilnpcmoaaGreatDoorText1
import Derived.Test.YtifflpilnpcmoaaGreatDoorList
/-! The package counts words: submits(). -/
namespace Go.Proofs.YtifflpilnpcmoaaGreatDoor
open Go.RowKit
set_option linter.unusedVariables false
set_option linter.unusedSimpArgs false

theorem ret_bool {a b : Bool} (h : a = b) : Ending.returned (.bool a) = .returned (.bool b) := by rw [h]
def wordB (n : Int) : Bool := (decide (97 ≤ n) && decide (n ≤ 122)) || (decide (65 ≤ n) && decide (n ≤ 90)) || (decide (48 ≤ n) && decide (n ≤ 57)) || decide (128 ≤ n)
set_option maxHeartbeats 2000000 in
theorem isWordByte12_any (c : Int) (w : World) (hc : 0 ≤ c) (hc2 : c < 256) :
    Calls Tryz.prog 109 #[.int .u8 c] w (fun e w' => e = .returned (.bool (wordB c)) ∧ w = w') := by
  have H : Hid (wordB c = ((decide (97 ≤ c) && decide (c ≤ 122)) || (decide (65 ≤ c) && decide (c ≤ 90)) || (decide (48 ≤ c) && decide (c ≤ 57)) || decide (128 ≤ c))) := rfl
  go_enter Tryz.func109, Tryz.ntmps109
  go_wp2_with fail
  all_goals
    go_ret
    exact ⟨ret_bool (by rw [H.out]; go_light; rw [Bool.eq_iff_iff]; simp; try omega), rfl⟩

set_option maxRecDepth 100000 in
set_option maxHeartbeats 4000000 in
theorem lower_small (s : ByteArray) (w : World) (hs : s.size ≤ 1000000000) (hcap : ∀ j, (h : j < s.size) → ¬ (65 ≤ s[j].toNat ∧ s[j].toNat ≤ 90)) :
    Calls Tryz.prog 110 #[.string s] w (Gives (.string s) w) := by
  have hcv := Lib.run_convert_string_bytes (P := Tryz.prog) w 9 125 5 s (u := .string) Tryz.underlying9 Tryz.underlying125 Tryz.underlying5
  have hbb : Below w.heap.size w (Lib.bytesWorld w 5 s) := ⟨rfl, rfl, rfl, by rw [Lib.bytesWorld_size]; omega, fun k hk => Lib.bytesWorld_at_old w _ s k hk⟩
  have hcb : ∀ k, (h : k < s.size) → (Lib.bytesWorld w 5 s).cell? ⟨w.heap.size, k, none⟩ = some (.int .u8 s[k].toNat) := fun k h => by
    rw [Lib.bytesWorld_cell w _ s k h, List.getD_eq_getElem?_getD, List.getElem?_eq_getElem (by simpa using h)]; rfl
  have hback : ∀ cap, (convert 125 9 (.slice (some ⟨w.heap.size, 0, none⟩) s.size cap)).run Tryz.prog (Lib.bytesWorld w 5 s) = .ok (.string s) (Lib.bytesWorld w 5 s) := fun cap => by
    have := run_convert_bytes_back (P := Tryz.prog) (Lib.bytesWorld w 5 s) 125 9 5 ⟨w.heap.size, 0, none⟩ cap s.data.toList Tryz.underlying125 Tryz.underlying5 Tryz.underlying9 (fun j hj => by
      rw [show (Addr.add ⟨w.heap.size, 0, none⟩ j : Addr) = ⟨w.heap.size, j, none⟩ from by unfold Addr.add; split <;> simp_all]
      exact hcb j (by simpa using hj))
    simpa using this
  have Hcb := Lib.hid hcb
  have Hcap := Lib.hid hcap
  clear hcb hcap
  generalize Lib.bytesWorld w 5 s = wb at *
  generalize grownCap w s.size 0 5 = cp at *
  go_enter Tryz.func110, Tryz.ntmps110
  go_wp2_with fail
  go_loopg [10] s.size (fun gk i wr => ∃ k : Nat, i = .int .i64 k ∧ k ≤ s.size ∧ Hid (gk = s.size - k) ∧ Hid (wb = wr))
  case atStart => exact ⟨0, rfl, by omega, rfl, rfl⟩
  case round =>
    obtain ⟨k, rfl, hk, hgk, hw⟩ := hrel
    obtain rfl := hw.out
    clear hcv
    by_cases hlt : k < s.size
    · have hck := Hcb.out k hlt
      have hcc := Hcap.out k hlt
      generalize s[k].toNat = c at *
      go_wp2_with fail
      all_goals first
        | omega
        | (go_roundg (s.size - (k + 1))
           case measure => have := hgk.out; omega
           case rel => exact ⟨k + 1, by go_num, by omega, rfl, rfl⟩)
    · obtain rfl : k = s.size := by omega
      go_wp2_with fail
      go_ret
      exact ⟨rfl, hbb⟩

abbrev Word := ByteArray × Int × Int
instance : Cel Word := ⟨3, fun t => [.string t.1, .int .i64 t.2.1, .int .i64 t.2.2], fun _ => rfl, by decide, by simp [Value.oneCell']⟩
theorem Tryz.infoWord : (Tryz.prog.info? 155).map (fun i => (i.zero, i.size, i.bytes)) = some (some (.agg #[.string ⟨#[]⟩, .int .i64 0, .int .i64 0]), 3, 32) := by kernel_rfl

set_option maxRecDepth 100000 in
set_option maxHeartbeats 8000000 in
theorem words12_any (w : World) : Calls Tryz.prog 73 #[.string ⟨#[111, 110, 101, 32, 116, 119, 111, 10]⟩] w (fun e w' => ∃ a cap, e = .returned (.slice a 2 cap) ∧ Below w.heap.size w w') := by
  have HL := Lib.hid (fun (s : ByteArray) w h1 h2 => lower_small s w h1 h2)
  go_enter Tryz.func73, Tryz.ntmps73
  go_wp2_with fail
  refine wp_loop_rounds 10 ?_
  rw [rounds_succ]
  go_wp2_with fail
  refine (isWordByte12_any _ _ (Int.natCast_nonneg _) (Int.ofNat_lt.2 (UInt8.toNat_lt _))).mono ?_
  rintro e w' ⟨rfl, rfl⟩
  rw [show wordB ((⟨#[111, 110, 101, 32, 116, 119, 111, 10]⟩ : ByteArray)[0].toNat : Int) = true from by decide]
  go_wp2_with fail
  rw [rounds_succ]
  go_wp2_with fail
  refine (isWordByte12_any _ _ (Int.natCast_nonneg _) (Int.ofNat_lt.2 (UInt8.toNat_lt _))).mono ?_
  rintro e w' ⟨rfl, rfl⟩
  rw [show wordB ((⟨#[111, 110, 101, 32, 116, 119, 111, 10]⟩ : ByteArray)[1].toNat : Int) = true from by decide]
  go_wp2_with fail
  rw [rounds_succ]
  go_wp2_with fail
  refine (isWordByte12_any _ _ (Int.natCast_nonneg _) (Int.ofNat_lt.2 (UInt8.toNat_lt _))).mono ?_
  rintro e w' ⟨rfl, rfl⟩
  rw [show wordB ((⟨#[111, 110, 101, 32, 116, 119, 111, 10]⟩ : ByteArray)[2].toNat : Int) = true from by decide]
  go_wp2_with fail
  rw [rounds_succ]
  go_wp2_with fail
  refine (isWordByte12_any _ _ (Int.natCast_nonneg _) (Int.ofNat_lt.2 (UInt8.toNat_lt _))).mono ?_
  rintro e w' ⟨rfl, rfl⟩
  rw [show wordB ((⟨#[111, 110, 101, 32, 116, 119, 111, 10]⟩ : ByteArray)[3].toNat : Int) = false from by decide]
  go_wp2_with fail
  refine (HL.out _ w (by decide +kernel) (by decide +kernel)).mono ?_
  rintro e w1 ⟨rfl, hb1⟩
  have hz1 := hb1.size
  generalize (⟨#[111, 110, 101, 32, 116, 119, 111, 10]⟩ : ByteArray).extract 0 3 = x1
  have hown1 : Own w.heap.size 155 w1 (.slice none 0 0) ([] : List Word) := Own.nil _ _ _
  go_upto_region 11 with (at_builtin; refine wpList_append_one rfl _ _ 113 rfl w.heap.size 155 32 (.agg #[.string ⟨#[]⟩, .int .i64 0, .int .i64 0]) Tryz.underlying113 Tryz.infoWord rfl _ ([] : List Word) rfl (hown1.alloc _) (x1, 0, 3) _ rfl (Box.newAt _ _ _ _ ?c0) ?c1 ?c2 ?c3 ?_; rotate_left 4; intro v2 w2 hown2 hg2)
  case c0 => rfl
  case c1 => decide
  case c2 => decide
  case c3 => simp; omega
  have hb2 : Below w.heap.size w w2 := Below.grown (w := w1.alloc (.cells #[.string x1, .int .i64 0, .int .i64 3] 155)) (by (repeat' (first | exact Below.refl _ _ | assumption | refine Below.setCell ?_ ?_ _ | refine below_drewN ?_ _ | refine Below.drew ?_ | refine Below.alloc ?_ ?_ _ | (with_reducible refine Below.trans ?_ (Below.mono hb ?_)) | (with_reducible refine Below.trans ?_ (Below.mono hb0 ?_)) | (with_reducible refine Below.trans ?_ (Below.mono hb1 ?_)) | (with_reducible refine Below.trans ?_ (Below.mono hb2 ?_)) | (with_reducible refine Below.trans ?_ (Below.mono hb3 ?_)) | (with_reducible refine Below.trans ?_ (Below.mono hb4 ?_)) | (with_reducible refine Below.trans ?_ (Below.mono hb5 ?_)) | (with_reducible refine Below.trans ?_ (Below.mono hb6 ?_)) | (with_reducible refine Below.trans ?_ (Below.mono hb7 ?_)) | (with_reducible refine Below.trans ?_ (Below.mono hb8 ?_)) | (with_reducible refine Below.trans ?_ (Below.mono hb9 ?_)) | (with_reducible refine Below.trans ?_ (Below.mono hb10 ?_)) | (with_reducible refine Below.trans ?_ (Below.mono hb11 ?_)) | (with_reducible refine Below.trans ?_ (Below.mono hb12 ?_)) | (with_reducible refine Below.trans ?_ (Below.mono hb13 ?_)) | (with_reducible refine Below.trans ?_ (Below.mono hb14 ?_)) | (with_reducible refine Below.trans ?_ (Below.mono hb15 ?_)) | omega | (simp; done) | (simp; omega)))) hg2 (by simp; omega) (fun k hk => (hown1.lt k hk).1)
  have hz2 := hb2.size
  clear hb1 hg2 hown1
  go_wp2_with fail
  rw [rounds_succ]
  go_wp2_with fail
  refine (isWordByte12_any _ _ (Int.natCast_nonneg _) (Int.ofNat_lt.2 (UInt8.toNat_lt _))).mono ?_
  rintro e w' ⟨rfl, rfl⟩
  rw [show wordB ((⟨#[111, 110, 101, 32, 116, 119, 111, 10]⟩ : ByteArray)[4].toNat : Int) = true from by decide]
  go_wp2_with fail
  rw [rounds_succ]
  go_wp2_with fail
  refine (isWordByte12_any _ _ (Int.natCast_nonneg _) (Int.ofNat_lt.2 (UInt8.toNat_lt _))).mono ?_
  rintro e w' ⟨rfl, rfl⟩
  rw [show wordB ((⟨#[111, 110, 101, 32, 116, 119, 111, 10]⟩ : ByteArray)[5].toNat : Int) = true from by decide]
  go_wp2_with fail
  rw [rounds_succ]
  go_wp2_with fail
  refine (isWordByte12_any _ _ (Int.natCast_nonneg _) (Int.ofNat_lt.2 (UInt8.toNat_lt _))).mono ?_
  rintro e w' ⟨rfl, rfl⟩
  rw [show wordB ((⟨#[111, 110, 101, 32, 116, 119, 111, 10]⟩ : ByteArray)[6].toNat : Int) = true from by decide]
  go_wp2_with fail
  rw [rounds_succ]
  go_wp2_with fail
  refine (isWordByte12_any _ _ (Int.natCast_nonneg _) (Int.ofNat_lt.2 (UInt8.toNat_lt _))).mono ?_
  rintro e w' ⟨rfl, rfl⟩
  rw [show wordB ((⟨#[111, 110, 101, 32, 116, 119, 111, 10]⟩ : ByteArray)[7].toNat : Int) = false from by decide]
  go_wp2_with fail
  refine (HL.out _ w2 (by decide +kernel) (by decide +kernel)).mono ?_
  rintro e w3 ⟨rfl, hb3⟩
  have hz3 := hb3.size
  generalize (⟨#[111, 110, 101, 32, 116, 119, 111, 10]⟩ : ByteArray).extract 4 7 = x2
  have hown3 := hown2.below hb3
  have hb3' := below_next hb2 hb3
  go_upto_region 11 with (at_builtin; refine wpList_append_one rfl _ _ 113 rfl w.heap.size 155 32 (.agg #[.string ⟨#[]⟩, .int .i64 0, .int .i64 0]) Tryz.underlying113 Tryz.infoWord rfl _ ([] ++ [(x1, 0, 3)] : List Word) rfl (hown3.alloc _) (x2, 4, 7) _ rfl (Box.newAt _ _ _ _ ?c4) ?c5 ?c6 ?c7 ?_; rotate_left 4; intro v4 w4 hown4 hg4)
  case c4 => rfl
  case c5 => simp
  case c6 => simp
  case c7 => simp; omega
  have hb4 : Below w.heap.size w w4 := Below.grown (w := w3.alloc (.cells #[.string x2, .int .i64 4, .int .i64 7] 155)) (by (repeat' (first | exact Below.refl _ _ | assumption | refine Below.setCell ?_ ?_ _ | refine below_drewN ?_ _ | refine Below.drew ?_ | refine Below.alloc ?_ ?_ _ | (with_reducible refine Below.trans ?_ (Below.mono hb ?_)) | (with_reducible refine Below.trans ?_ (Below.mono hb0 ?_)) | (with_reducible refine Below.trans ?_ (Below.mono hb1 ?_)) | (with_reducible refine Below.trans ?_ (Below.mono hb2 ?_)) | (with_reducible refine Below.trans ?_ (Below.mono hb3 ?_)) | (with_reducible refine Below.trans ?_ (Below.mono hb4 ?_)) | (with_reducible refine Below.trans ?_ (Below.mono hb5 ?_)) | (with_reducible refine Below.trans ?_ (Below.mono hb6 ?_)) | (with_reducible refine Below.trans ?_ (Below.mono hb7 ?_)) | (with_reducible refine Below.trans ?_ (Below.mono hb8 ?_)) | (with_reducible refine Below.trans ?_ (Below.mono hb9 ?_)) | (with_reducible refine Below.trans ?_ (Below.mono hb10 ?_)) | (with_reducible refine Below.trans ?_ (Below.mono hb11 ?_)) | (with_reducible refine Below.trans ?_ (Below.mono hb12 ?_)) | (with_reducible refine Below.trans ?_ (Below.mono hb13 ?_)) | (with_reducible refine Below.trans ?_ (Below.mono hb14 ?_)) | (with_reducible refine Below.trans ?_ (Below.mono hb15 ?_)) | omega | (simp; done) | (simp; omega)))) hg4 (by simp; omega) (fun k hk => (hown3.lt k hk).1)
  obtain ⟨a5, cap5, rfl, _, _, _⟩ := hown4.sa
  clear hb3 hg4 hown3 hown2 hb2 hown4
  go_wp2_with fail
  rw [rounds_succ]
  go_wp2_with fail
  rw [rounds_succ]
  go_wp2_with fail
  go_ret
  exact ⟨_, _, rfl, hb4⟩
end Go.Proofs.YtifflpilnpcmoaaGreatDoor

/-! submits(): the law's look at the package. -/
namespace Go.Proofs.YtifflpilnpcmoaaGreatDoor
open Go.RowKit
set_option linter.unusedVariables false
set_option linter.unusedSimpArgs false

theorem split12 : Lib.splitB ⟨#[10]⟩ 0 (Lib.countB ⟨#[111, 110, 101, 32, 116, 119, 111, 10]⟩ ⟨#[10]⟩) ⟨#[111, 110, 101, 32, 116, 119, 111, 10]⟩ = [⟨#[111, 110, 101, 32, 116, 119, 111]⟩, ⟨#[]⟩] := by kernel_rfl
theorem count12 : Lib.countB ⟨#[111, 110, 101, 32, 116, 119, 111, 10]⟩ ⟨#[10]⟩ = 1 := by kernel_rfl

set_option maxRecDepth 100000 in
set_option maxHeartbeats 4000000 in
theorem filled12_any (w : World) (hE : Env w) : Calls Tryz.prog 74 #[.string ⟨#[111, 110, 101, 32, 116, 119, 111, 10]⟩] w (Gives (.int .i64 1) w) := by
  obtain ⟨m, hm⟩ := hE.2
  have HS := Lib.hid (Tryz.strings_Split ⟨#[111, 110, 101, 32, 116, 119, 111, 10]⟩ ⟨#[10]⟩ m w (by decide) hm (by decide))
  rw [split12, count12] at HS
  have hB := Box.new w 9 #[.string ⟨#[111, 110, 101, 32, 116, 119, 111]⟩, .string ⟨#[]⟩]
  have T1 := Lib.hid (fun w => trim1_any ⟨#[111, 110, 101, 32, 116, 119, 111]⟩ w (by decide))
  have T2 := Lib.hid (fun w => trim1_any ⟨#[]⟩ w (by decide))
  rw [show Lib.trimB (⟨#[111, 110, 101, 32, 116, 119, 111]⟩ : ByteArray).data.toList 32 = [111, 110, 101, 32, 116, 119, 111] from by kernel_rfl] at T1
  rw [show Lib.trimB (⟨#[]⟩ : ByteArray).data.toList 32 = [] from by kernel_rfl] at T2
  clear hm
  go_enter Tryz.func74, Tryz.ntmps74
  go_wp2_with fail
  refine HS.out.mono ?_
  rintro e w1 ⟨rfl, rfl⟩
  have hB_l := hB.lt; have hB_0 := hB.cell 0; have hB_1 := hB.cell 1; simp at hB_0 hB_1
  go_wp2_with fail
  refine wp_loop_rounds 3 ?_
  rw [rounds_succ]
  go_wp2_with fail
  refine (T1.out _).mono ?_
  rintro e w2 ⟨rfl, n2, rfl⟩
  go_wp2_with fail
  rw [rounds_succ]
  go_wp2_with fail
  refine (T2.out _).mono ?_
  rintro e w3 ⟨rfl, n3, rfl⟩
  go_wp2_with fail
  rw [rounds_succ]
  go_wp2_with fail
  go_ret
  exact ⟨rfl, by (repeat' (first | exact Below.refl _ _ | assumption | refine Below.setCell ?_ ?_ _ | refine below_drewN ?_ _ | refine Below.drew ?_ | refine Below.alloc ?_ ?_ _ | (with_reducible refine Below.trans ?_ (Below.mono hb ?_)) | (with_reducible refine Below.trans ?_ (Below.mono hb0 ?_)) | (with_reducible refine Below.trans ?_ (Below.mono hb1 ?_)) | (with_reducible refine Below.trans ?_ (Below.mono hb2 ?_)) | (with_reducible refine Below.trans ?_ (Below.mono hb3 ?_)) | (with_reducible refine Below.trans ?_ (Below.mono hb4 ?_)) | (with_reducible refine Below.trans ?_ (Below.mono hb5 ?_)) | (with_reducible refine Below.trans ?_ (Below.mono hb6 ?_)) | (with_reducible refine Below.trans ?_ (Below.mono hb7 ?_)) | (with_reducible refine Below.trans ?_ (Below.mono hb8 ?_)) | (with_reducible refine Below.trans ?_ (Below.mono hb9 ?_)) | (with_reducible refine Below.trans ?_ (Below.mono hb10 ?_)) | (with_reducible refine Below.trans ?_ (Below.mono hb11 ?_)) | (with_reducible refine Below.trans ?_ (Below.mono hb12 ?_)) | (with_reducible refine Below.trans ?_ (Below.mono hb13 ?_)) | (with_reducible refine Below.trans ?_ (Below.mono hb14 ?_)) | (with_reducible refine Below.trans ?_ (Below.mono hb15 ?_)) | omega | (simp; done) | (simp; omega)))⟩

set_option maxHeartbeats 4000000 in
theorem textFault12_any (s : ByteArray) (w : World) (hE : Env w) (hs : s.size ≤ 1000000000) : Calls Tryz.prog 72 #[.string s] w (Gives (.int .i64 (if 20000 < s.size then 2 else if textB s = false then 3 else 0)) w) := by
  by_cases h : 20000 < s.size
  · rw [if_pos h]
    go_enter Tryz.func72, Tryz.ntmps72
    go_wp2_with fail
    go_ret
    exact ⟨rfl, Below.refl _ _⟩
  · rw [if_neg h]
    have HT := Lib.hid (isText_any s w hE hs)
    cases ht : textB s
    · rw [ht] at HT
      go_enter Tryz.func72, Tryz.ntmps72
      go_wp2_with fail
      refine HT.out.mono ?_
      rintro e w1 ⟨rfl, hb1⟩
      go_wp2_with fail
      go_ret
      exact ⟨rfl, hb1⟩
    · rw [ht] at HT
      go_enter Tryz.func72, Tryz.ntmps72
      go_wp2_with fail
      refine HT.out.mono ?_
      rintro e w1 ⟨rfl, hb1⟩
      go_wp2_with fail
      go_ret
      exact ⟨rfl, hb1⟩
set_option maxHeartbeats 4000000 in
theorem length12_any (w : World) (hE : Env w) : Calls Tryz.prog 46 #[.string ⟨#[111, 110, 101, 32, 116, 119, 111, 10]⟩] w (Gives (.tuple #[.int .i64 2, .int .i64 1, .int .i64 0]) w) := by
  have HT := Lib.hid (textFault12_any ⟨#[111, 110, 101, 32, 116, 119, 111, 10]⟩ w hE (by decide))
  rw [if_neg (by decide), show textB ⟨#[111, 110, 101, 32, 116, 119, 111, 10]⟩ = true from by kernel_rfl, if_neg (by decide)] at HT
  go_enter Tryz.func46, Tryz.ntmps46
  go_wp2_with fail
  refine HT.out.mono ?_
  rintro e w1 ⟨rfl, hb1⟩
  go_wp2_with fail
  refine (words12_any _).mono ?_
  rintro e w2 ⟨a2, cap2, rfl, hb2⟩
  have hb2' := below_next hb1 hb2
  go_wp2_with fail
  refine (filled12_any _ (hE.below hb2')).mono ?_
  rintro e w3 ⟨rfl, hb3⟩
  go_wp2_with fail
  go_ret3
  exact ⟨rfl, below_next hb2' hb3⟩
set_option maxHeartbeats 4000000 in
theorem submits_any (w : World) (hE : Env w) : Calls Tryz.prog 16 #[] w (Gives (.bool true) w) := by
  go_enter Tryz.func16, Tryz.ntmps16
  go_wp2_with fail
  refine (length12_any _ hE).mono ?_
  rintro e w1 ⟨rfl, hb1⟩
  go_wp2_with fail
  go_ret
  exact ⟨rfl, hb1⟩
end Go.Proofs.YtifflpilnpcmoaaGreatDoor
