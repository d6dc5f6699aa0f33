/- Makers of lists: some strings; skills; wanted topics. -/
import Derived.Test.YtpgofjjcmldhpaaGreatDoorMakeList
import Derived.Test.YtpgofjjcmldhpaaGreatDoorTopicMake
import Derived.Test.YtpgofjjcmldhpaaGreatDoorSkill6
/-! Makers of lists: some strings; skills; wanted topics. -/
namespace Go.Proofs.YtpgofjjcmldhpaaGreatDoor
open Go.RowKit
set_option linter.unusedVariables false
set_option linter.unusedSimpArgs false





end Go.Proofs.YtpgofjjcmldhpaaGreatDoor

/-! The maker of skills. -/
namespace Go.Proofs.YtpgofjjcmldhpaaGreatDoor
open Go.RowKit
set_option linter.unusedVariables false
set_option linter.unusedSimpArgs false

def SmallK (x : Skill) : Prop := x.1.size ≤ 1000 ∧ 0 ≤ x.2 ∧ x.2 ≤ 101
theorem Tryz.infoSkill : (Tryz.prog.info? 139).map (fun i => (i.zero, i.size, i.bytes)) = some (some (.agg #[.string ⟨#[]⟩, .int .i64 0]), 2, 24) := by kernel_rfl

set_option maxRecDepth 100000 in
set_option maxHeartbeats 4000000 in
theorem skills_any (S : Nat) (B : Int) (w : World) (hs : Strm S B w) (hB : B ≤ 999990000) :
    Calls Tryz.prog 49 #[.pointer (some ⟨S, 0, none⟩)] w (SomeOwn 139 SmallK S (B + 20) 5 w) := by
  have hS := hs.lt
  have hX := Box.new w 9 #[.string ⟨#[97, 114, 116]⟩, .string ⟨#[98, 114, 101, 97, 100]⟩, .string ⟨#[99, 97, 107, 101]⟩, .string ⟨#[114, 121, 101]⟩]
  go_enter Tryz.func49, Tryz.ntmps49
  go_wp2_with fail
  go_loopg [3, 8] 4 (fun gk v i wr => ∃ (k : Nat) (acc : List Skill), i = .int .i64 k ∧ k ≤ 4 ∧ Hid (gk = 4 - k) ∧ acc.length ≤ k ∧ Hid (∀ x ∈ acc, SmallK x) ∧ Box wr w.heap.size 9 #[.string ⟨#[97, 114, 116]⟩, .string ⟨#[98, 114, 101, 97, 100]⟩, .string ⟨#[99, 97, 107, 101]⟩, .string ⟨#[114, 121, 101]⟩] ∧ Own (w.heap.size + 1) 139 wr v acc ∧ Stp S w wr ∧ Strm S (B + 2 * k) wr)
  case atStart => exact ⟨0, [], rfl, by omega, rfl, by simp, by simp [Hid], hX, Own.nil _ _ _, (Stp.refl _ _).alloc _, by simpa using hs.alloc _⟩
  case round =>
    clear hs hX
    obtain ⟨k, acc, rfl, hk, hgk, hal, hsa, hX, hown, hst, hs⟩ := hrel
    have hz := hst.size
    have hSr := hs.lt
    have hXl := hX.lt
    by_cases hlt : k < 4
    · obtain ⟨x, hx, hc⟩ : ∃ x : ByteArray, x.size ≤ 1000 ∧ wr.cell? ⟨w.heap.size, k, none⟩ = some (.string x) := by
        rw [hX.cell k]
        obtain rfl | rfl | rfl | rfl : k = 0 ∨ k = 1 ∨ k = 2 ∨ k = 3 := by omega
        · exact ⟨_, by decide, rfl⟩
        · exact ⟨_, by decide, rfl⟩
        · exact ⟨_, by decide, rfl⟩
        · exact ⟨_, by decide, rfl⟩
      go_wp2_with fail
      refine (flip_any S (B + 2 * k) 3 wr hs (by omega) (by omega) (by omega)).mono ?_
      rintro e w1 ⟨r, rfl, h1, s1⟩
      have hst1 := hst.trans h1
      have hown1 := hown.stp h1 (by omega)
      have hX1 := hX.stp h1 (by omega)
      have hz1 := h1.size
      clear h1 hst hown hs hc hX
      cases r
      · go_wp2_with fail
        go_roundg (4 - (k + 1))
        case measure => have := hgk.out; omega
        case rel => exact ⟨k + 1, acc, by go_num, by omega, rfl, by omega, hsa, hX1, hown1, hst1, s1.mono (by omega)⟩
      · go_wp2_with fail
        refine (pick_box S (B + 2 * k + 1) _ 3 6 [1, 33, 50, 99, 100, 100] _ (s1.alloc _) (by omega) (Box.new _ _ _) (by omega) (by decide) (by decide)).mono ?_
        rintro e w2 ⟨z, hzm, rfl, h2, s2⟩
        have hzb : 0 ≤ z ∧ z ≤ 101 := by simp at hzm; omega
        have hst2 := (hst1.alloc _).trans h2
        have hown2 := (hown1.alloc _).stp h2 (by omega)
        have hX2 := (hX1.alloc _).stp h2 (by omega)
        have hz2 := h2.size
        simp at hz2
        clear h2 hst1 hown1 s1 hX1 hzm
        go_upto_region 7 with (at_builtin; refine wpList_append_one rfl _ _ 89 rfl (w.heap.size + 1) 139 24 (.agg #[.string ⟨#[]⟩, .int .i64 0]) Tryz.underlying89 Tryz.infoSkill rfl _ acc rfl (hown2.alloc _) (x, z) _ rfl (Box.newAt _ _ _ _ ?c0) ?c1 ?c2 ?c3 ?_; rotate_left 4; intro v' w3 hown3 hg3)
        case c0 => rfl
        case c1 => omega
        case c2 => omega
        case c3 => simp; omega
        have s3 : Strm S (B + 2 * k + 1 + 1) w3 := (s2.alloc _).grown hg3 (fun k hk => by have := (hown2.lt k hk).1; omega)
        have h3 : Stp S w w3 := (hst2.alloc _).grown hg3 (fun k hk => .inr (by have := (hown2.lt k hk).1; omega))
        have hX3 := (hX2.alloc _).grown hg3 (fun h => by have := (hown2.lt _ h.symm).1; omega)
        go_wp2_with fail
        go_roundg (4 - (k + 1))
        case measure => have := hgk.out; omega
        case rel => exact ⟨k + 1, acc ++ [(x, z)], by go_num, by omega, rfl, by simp; omega, all_snoc hsa.out ⟨hx, hzb⟩, hX3, hown3, h3, s3.mono (by omega)⟩
    · obtain rfl : k = 4 := by omega
      clear hX
      go_wp2_with fail
      refine (flip_any S (B + 8) 15 wr (hs.mono (by omega)) (by omega) (by omega) (by omega)).mono ?_
      rintro e w1 ⟨r, rfl, h1, s1⟩
      have hst1 := hst.trans h1
      have hown1 := hown.stp h1 (by omega)
      have hz1 := h1.size
      clear h1 hst hown hs
      cases r
      · go_wp2_with fail
        go_ret
        exact ⟨_, acc, rfl, by omega, hsa.out, hown1.mono (by omega), hst1, s1.mono (by omega)⟩
      · go_wp2_with fail
        refine (one_any S (B + 8 + 1) _ 3 3 9 _ _ (s1.alloc _) (by omega) (Box.new _ _ _) (by omega) rfl (by omega) (by omega) (by simp; decide)).mono ?_
        rintro e w2 ⟨x, hx, rfl, h2, s2⟩
        have hst2 := (hst1.alloc _).trans h2
        have hown2 := (hown1.alloc _).stp h2 (by omega)
        have hz2 := h2.size
        simp at hz2
        clear h2 hst1 hown1 s1
        go_wp2_with fail
        refine (pick_box S (B + 8 + 1 + 1) _ 3 3 [0, 5, 101] _ (s2.alloc _) (by omega) (Box.new _ _ _) (by omega) (by decide) (by decide)).mono ?_
        rintro e w3 ⟨z, hzm, rfl, h3, s3⟩
        have hzb : 0 ≤ z ∧ z ≤ 101 := by simp at hzm; omega
        have hst3 := (hst2.alloc _).trans h3
        have hown3 := (hown2.alloc _).stp h3 (by omega)
        have hz3 := h3.size
        simp at hz3
        clear h3 hst2 hown2 s2 hzm
        go_upto_region 10 with (at_builtin; refine wpList_append_one rfl _ _ 89 rfl (w.heap.size + 1) 139 24 (.agg #[.string ⟨#[]⟩, .int .i64 0]) Tryz.underlying89 Tryz.infoSkill rfl _ acc rfl (hown3.alloc _) (x, z) _ rfl (Box.newAt _ _ _ _ ?c0) ?c1 ?c2 ?c3 ?_; rotate_left 4; intro v' w4 hown4 hg4)
        case c0 => rfl
        case c1 => omega
        case c2 => omega
        case c3 => simp; omega
        have s4 : Strm S (B + 8 + 1 + 1 + 1) w4 := (s3.alloc _).grown hg4 (fun k hk => by have := (hown3.lt k hk).1; omega)
        have h4 : Stp S w w4 := (hst3.alloc _).grown hg4 (fun k hk => .inr (by have := (hown3.lt k hk).1; omega))
        go_wp2_with fail
        go_ret
        exact ⟨_, _, rfl, by simp; omega, all_snoc hsa.out ⟨hx, hzb⟩, hown4.mono (by omega), h4, s4.mono (by omega)⟩
end Go.Proofs.YtpgofjjcmldhpaaGreatDoor
