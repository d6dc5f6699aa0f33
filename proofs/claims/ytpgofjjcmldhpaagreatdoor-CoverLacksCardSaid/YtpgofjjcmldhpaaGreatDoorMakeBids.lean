/- The makers of bids. -/
import Derived.Test.YtpgofjjcmldhpaaGreatDoorReaders
import Derived.Test.YtpgofjjcmldhpaaGreatDoorRange
import Derived.Test.YtpgofjjcmldhpaaGreatDoorMakeList
import Derived.Test.YtpgofjjcmldhpaaGreatDoorPaper1
import Derived.Deep.RegionLaw
namespace Go.Proofs.YtpgofjjcmldhpaaGreatDoor
open Go.RowKit
set_option linter.unusedVariables false
set_option linter.unusedSimpArgs false

def SmallB (x : Mark) : Prop := x.1.size ≤ 1000 ∧ x.2.1.size ≤ 1000
theorem Tryz.infoBid : (Tryz.prog.info? 96).map (fun i => (i.zero, i.size, i.bytes)) = some (some (.agg #[.string ⟨#[]⟩, .string ⟨#[]⟩, .int .i64 0]), 3, 40) := by kernel_rfl

set_option maxRecDepth 100000 in
set_option maxHeartbeats 4000000 in
theorem bids_any (S : Nat) (B : Int) (w : World) (hs : Strm S B w) (hB : B ≤ 999990000) :
    Calls Tryz.prog 8 #[.pointer (some ⟨S, 0, none⟩)] w (SomeOwn 96 SmallB S (B + 40) 13 w) := by
  have hS := hs.lt
  have hX := Box.new w 9 #[.string ⟨#[112, 97]⟩, .string ⟨#[112, 98]⟩, .string ⟨#[112, 99]⟩]
  go_enter Tryz.func8, Tryz.ntmps8
  go_wp2_with fail
  go_loopg [3, 10] 3 (fun gk v i wr => ∃ (k : Nat) (acc : List Mark), i = .int .i64 k ∧ k ≤ 3 ∧ Hid (gk = 3 - k) ∧ acc.length ≤ 4 * k ∧ Hid (∀ x ∈ acc, SmallB x) ∧ Box wr w.heap.size 9 #[.string ⟨#[112, 97]⟩, .string ⟨#[112, 98]⟩, .string ⟨#[112, 99]⟩] ∧ Own (w.heap.size + 1) 96 wr v acc ∧ Stp S w wr ∧ Strm S (B + 8 * k) wr)
  case atStart => exact ⟨0, [], rfl, by omega, rfl, by simp, by simp [Hid], hX, Own.nil _ _ _, (Stp.refl _ _).alloc _, by simpa using hs.alloc _⟩
  case round =>
    clear hs hX
    obtain ⟨k, acc, rfl, hk, hgk, hal, hsa, hX, hown, hst, hs⟩ := hrel
    have hz := hst.size
    have hSr := hs.lt
    have hXl := hX.lt
    by_cases hlt : k < 3
    · obtain ⟨x, hx, hc⟩ : ∃ x : ByteArray, x.size ≤ 1000 ∧ wr.cell? ⟨w.heap.size, k, none⟩ = some (.string x) := by
        rw [hX.cell k]
        obtain rfl | rfl | rfl : k = 0 ∨ k = 1 ∨ k = 2 := by omega
        · exact ⟨_, by decide, rfl⟩
        · exact ⟨_, by decide, rfl⟩
        · exact ⟨_, by decide, rfl⟩
      have hY := Box.new wr 9 #[.string ⟨#[97, 110, 110]⟩, .string ⟨#[98, 111]⟩, .string ⟨#[99, 121]⟩, .string ⟨#[100, 101, 101]⟩]
      have hXa := hX.alloc (.cells #[.string ⟨#[97, 110, 110]⟩, .string ⟨#[98, 111]⟩, .string ⟨#[99, 121]⟩, .string ⟨#[100, 101, 101]⟩] 9)
      have hoa := hown.alloc (.cells #[.string ⟨#[97, 110, 110]⟩, .string ⟨#[98, 111]⟩, .string ⟨#[99, 121]⟩, .string ⟨#[100, 101, 101]⟩] 9)
      have hna : Hid (∀ j, u3.ownBlock = some j → j ≠ wr.heap.size) := fun j hj => by have := (hown.lt j hj).2; omega
      have hsta := hst.alloc (.cells #[.string ⟨#[97, 110, 110]⟩, .string ⟨#[98, 111]⟩, .string ⟨#[99, 121]⟩, .string ⟨#[100, 101, 101]⟩] 9)
      have hsaa := hs.alloc (.cells #[.string ⟨#[97, 110, 110]⟩, .string ⟨#[98, 111]⟩, .string ⟨#[99, 121]⟩, .string ⟨#[100, 101, 101]⟩] 9)
      clear hown hst hs hX
      have hd3 : decide ((k : Int) < 3) = true := by simp; omega
      go_wp2_with fail
      clear hd3
      obtain ⟨wq, rfl⟩ : ∃ wq : World, wq = wr := ⟨_, rfl⟩
      go_loopg [3, 16] 4 (fun gk v i wx => ∃ (j : Nat) (acc : List Mark), i = .int .i64 j ∧ j ≤ 4 ∧ Hid (gk = 4 - j) ∧ acc.length ≤ 4 * k + j ∧ Hid (∀ x ∈ acc, SmallB x) ∧ Box wx w.heap.size 9 #[.string ⟨#[112, 97]⟩, .string ⟨#[112, 98]⟩, .string ⟨#[112, 99]⟩] ∧ Box wx wq.heap.size 9 #[.string ⟨#[97, 110, 110]⟩, .string ⟨#[98, 111]⟩, .string ⟨#[99, 121]⟩, .string ⟨#[100, 101, 101]⟩] ∧ Own (w.heap.size + 1) 96 wx v acc ∧ Hid (∀ j, v.ownBlock = some j → j ≠ wq.heap.size) ∧ Stp S w wx ∧ Strm S (B + 8 * k + 2 * j) wx)
      case atStart => exact ⟨0, acc, rfl, by omega, rfl, by omega, hsa, hXa, hY, hoa, hna, hsta, by simpa using hsaa⟩
      clear hXa hY hoa hna hsta hsaa hal hsa
      obtain ⟨j, acc, rfl, hj, hgj, hal, hsa, hX, hY, hown, hna, hst, hs⟩ := hrel
      have hzr := hst.size
      have hSr := hs.lt
      have hYl := hY.lt
      by_cases hjl : j < 4
      · obtain ⟨y, hy, hcy⟩ : ∃ y : ByteArray, y.size ≤ 1000 ∧ wr.cell? ⟨wq.heap.size, j, none⟩ = some (.string y) := by
          rw [hY.cell j]
          obtain rfl | rfl | rfl | rfl : j = 0 ∨ j = 1 ∨ j = 2 ∨ j = 3 := by omega
          · exact ⟨_, by decide, rfl⟩
          · exact ⟨_, by decide, rfl⟩
          · exact ⟨_, by decide, rfl⟩
          · exact ⟨_, by decide, rfl⟩
        go_wp2_with fail
        refine (flip_any S (B + 8 * k + 2 * j) 3 wr hs (by omega) (by omega) (by omega)).mono ?_
        rintro e w1 ⟨r, rfl, h1, s1⟩
        have hst1 := hst.trans h1
        have hown1 := hown.stp h1 (by omega)
        have hX1 := hX.stp h1 (by omega)
        have hY1 := hY.stp h1 (by omega)
        have hz1 := h1.size
        clear h1 hst hown hs hX hY hcy
        cases r
        · go_wp2_with fail
          go_roundg (4 - (j + 1))
          case measure => have := hgj.out; omega
          case rel => exact ⟨j + 1, acc, by go_num, by omega, rfl, by omega, hsa, hX1, hY1, hown1, hna, hst1, s1.mono (by omega)⟩
        · go_wp2_with fail
          refine (range_any S (B + 8 * k + 2 * j + 1) 1 4 _ s1 (by omega) (by omega) (by omega) (by omega)).mono ?_
          rintro e w2 ⟨z, hzm, rfl, h2, s2⟩
          have hst2 := hst1.trans h2
          have hown2 := hown1.stp h2 (by omega)
          have hX2 := hX1.stp h2 (by omega)
          have hY2 := hY1.stp h2 (by omega)
          have hz2 := h2.size
          clear h2 hst1 hown1 s1 hX1 hY1
          go_upto_region 10 with (at_builtin; refine wpList_append_lie rfl _ _ 32 rfl 96 40 (.agg #[.string ⟨#[]⟩, .string ⟨#[]⟩, .int .i64 0]) Tryz.underlying32 Tryz.infoBid rfl _ acc rfl (hown2.alloc _) (x, y, z) _ rfl (Box.newAt _ _ _ _ ?c0) ?c1 ?c2 ?c3 ?_; rotate_left 4; intro g9 cap9 w3 hown3 hg3 hat3)
          case c0 => rfl
          case c1 => omega
          case c2 => omega
          case c3 => simp; omega
          have s3 := (s2.alloc (.cells #[.string x, .string y, .int .i64 z] 96)).grown hg3 (fun k hk => by have := (hown2.lt k hk).1; omega)
          have h3 := (hst2.alloc (.cells #[.string x, .string y, .int .i64 z] 96)).grown hg3 (fun k hk => .inr (by have := (hown2.lt k hk).1; omega))
          have hX3 := (hX2.alloc (.cells #[.string x, .string y, .int .i64 z] 96)).grown hg3 (fun h => by have := (hown2.lt _ h.symm).1; omega)
          have hY3 := (hY2.alloc (.cells #[.string x, .string y, .int .i64 z] 96)).grown hg3 (fun h => hna.out _ h.symm rfl)
          have hna3 : Hid (∀ j, (Value.slice (some ⟨g9, 0, none⟩) (acc.length + 1) cap9).ownBlock = some j → j ≠ wq.heap.size) := fun i hi => by
            have e : g9 = i := by simpa [Value.ownBlock] using hi
            subst e
            rcases hat3 with h | h
            · exact hna.out _ h
            · rw [h]; simp; omega
          go_wp2_with fail
          go_roundg (4 - (j + 1))
          case measure => have := hgj.out; omega
          case rel => exact ⟨j + 1, acc ++ [(x, y, z)], by go_num, by omega, rfl, by simp; omega, all_snoc hsa.out ⟨hx, hy⟩, hX3, hY3, hown3, hna3, h3, s3.mono (by omega)⟩
      · obtain rfl : j = 4 := by omega
        clear hjl hY
        go_wp2_with fail
        go_roundg (3 - (k + 1))
        case measure => have := hgk.out; omega
        case rel => exact ⟨k + 1, acc, by go_num, by omega, rfl, by omega, hsa, hX, hown, hst, hs.mono (by omega)⟩
    · obtain rfl : k = 3 := by omega
      clear hX
      go_wp2_with fail
      refine (flip_any S (B + 24) 12 wr (hs.mono (by omega)) (by omega) (by omega) (by omega)).mono ?_
      rintro e w1 ⟨r, rfl, h1, s1⟩
      have hst1 := hst.trans h1
      have hown1 := hown.stp h1 (by omega)
      have hz1 := h1.size
      clear h1 hst hown hs
      cases r
      · go_wp2_with fail
        go_ret
        exact ⟨_, acc, rfl, by omega, hsa.out, hown1.mono (by omega), hst1, s1.mono (by omega)⟩
      · go_wp2_with fail
        refine (one_any S (B + 24 + 1) _ 4 4 9 _ _ (s1.alloc _) (by omega) (Box.new _ _ _) (by omega) rfl (by omega) (by omega) (by simp; decide)).mono ?_
        rintro e w2 ⟨x, hx, rfl, h2, s2⟩
        have hst2 := (hst1.alloc _).trans h2
        have hown2 := (hown1.alloc _).stp h2 (by omega)
        have hz2 := h2.size
        simp at hz2
        clear h2 hst1 hown1 s1
        go_wp2_with fail
        refine (one_any S (B + 24 + 1 + 1) _ 3 3 9 _ _ (s2.alloc _) (by omega) (Box.new _ _ _) (by omega) rfl (by omega) (by omega) (by simp; decide)).mono ?_
        rintro e w3 ⟨y, hy, rfl, h3, s3⟩
        have hst3 := (hst2.alloc _).trans h3
        have hown3 := (hown2.alloc _).stp h3 (by omega)
        have hz3 := h3.size
        simp at hz3
        clear h3 hst2 hown2 s2
        go_wp2_with fail
        refine (range_any S (B + 24 + 1 + 1 + 1) 0 5 _ s3 (by omega) (by omega) (by omega) (by omega)).mono ?_
        rintro e w4 ⟨z, hzm, rfl, h4, s4⟩
        have hst4 := hst3.trans h4
        have hown4 := hown3.stp h4 (by omega)
        have hz4 := h4.size
        clear h4 hst3 hown3 s3
        go_upto_region 14 with (at_builtin; refine wpList_append_one rfl _ _ 32 rfl (w.heap.size + 1) 96 40 (.agg #[.string ⟨#[]⟩, .string ⟨#[]⟩, .int .i64 0]) Tryz.underlying32 Tryz.infoBid rfl _ acc rfl (hown4.alloc _) (x, y, z) _ rfl (Box.newAt _ _ _ _ ?c0) ?c1 ?c2 ?c3 ?_; rotate_left 4; intro v' w5 hown5 hg5)
        case c0 => rfl
        case c1 => omega
        case c2 => omega
        case c3 => simp; omega
        have s5 : Strm S (B + 24 + 1 + 1 + 1 + 1) w5 := (s4.alloc _).grown hg5 (fun k hk => by have := (hown4.lt k hk).1; omega)
        have h5 : Stp S w w5 := (hst4.alloc _).grown hg5 (fun k hk => .inr (by have := (hown4.lt k hk).1; omega))
        go_wp2_with fail
        go_ret
        exact ⟨_, _, rfl, by simp; omega, all_snoc hsa.out ⟨hx, hy⟩, hown5.mono (by omega), h5, s5.mono (by omega)⟩
set_option maxRecDepth 100000 in
set_option maxHeartbeats 4000000 in
theorem bidsFor_any (S : Nat) (B : Int) (ps : List Paper) (pa : Option Addr) (pc : Nat) (rs : List Reader) (ra : Option Addr) (rc : Nat) (w : World) (hs : Strm S B w) (hB : B ≤ 999990000) (hp : SA w pa ps) (hpS : ∀ x : Addr, pa = some x → x.block ≠ S) (hr : SA w ra rs) (hrS : ∀ x : Addr, ra = some x → x.block ≠ S) (hpl : ps.length ≤ 20) (hrl : rs.length ≤ 20) (hpz : ∀ p ∈ ps, p.id.size ≤ 1000) (hrz : ∀ r ∈ rs, r.key.size ≤ 1000) :
    Calls Tryz.prog 10 #[.pointer (some ⟨S, 0, none⟩), .slice pa ps.length pc, .slice ra rs.length rc] w (SomeOwn 96 SmallB S (B + 1000) 400 w) := by
  have hS := hs.lt
  go_enter Tryz.func10, Tryz.ntmps10
  go_wp2_with fail
  go_loopg [7, 14] ps.length (fun gk v i wr => ∃ (k : Nat) (acc : List Mark), i = .int .i64 k ∧ k ≤ ps.length ∧ Hid (gk = ps.length - k) ∧ acc.length ≤ 20 * k ∧ Hid (∀ x ∈ acc, SmallB x) ∧ Own w.heap.size 96 wr v acc ∧ Stp S w wr ∧ Strm S (B + 40 * k) wr)
  case atStart => exact ⟨0, [], rfl, by omega, rfl, by simp, by simp [Hid], Own.nil _ _ _, Stp.refl _ _, by simpa using hs⟩
  case round =>
    clear hs
    obtain ⟨k, acc, rfl, hk, hgk, hal, hsa, hown, hst, hs⟩ := hrel
    have hz := hst.size
    have hSr := hs.lt
    by_cases hlt : k < ps.length
    · obtain ⟨pb, poff, ha, c0, c1, c2, c3, c4⟩ := (hp.stp hst hpS).paper hlt
      have hx := hpz ps[k] (List.getElem_mem hlt)
      have Ha := Lib.hid ha
      rw [ha]
      clear ha
      generalize ps[k] = p at *
      obtain ⟨x, x2, x3, au, tt, a1, n1, a2, n2⟩ := p
      simp only at c0 c1 c2 c3 c4 hx
      have hT := Box.new wr 86 #[.string x, .string x2, .string x3, .slice a1 au.length n1, .slice a2 tt.length n2]
      have hoa := hown.alloc (.cells #[.string x, .string x2, .string x3, .slice a1 au.length n1, .slice a2 tt.length n2] 86)
      have hna : Hid (∀ j, u7.ownBlock = some j → j ≠ wr.heap.size) := fun j hj => by have := (hown.lt j hj).2; omega
      have hsta := hst.alloc (.cells #[.string x, .string x2, .string x3, .slice a1 au.length n1, .slice a2 tt.length n2] 86)
      have hsaa := hs.alloc (.cells #[.string x, .string x2, .string x3, .slice a1 au.length n1, .slice a2 tt.length n2] 86)
      clear hown hst hs
      have hd3 : decide ((k : Int) < (ps.length : Int)) = true := by simp; omega
      go_wp2_with fail
      clear hd3 c0 c1 c2 c3 c4
      obtain ⟨wq, rfl⟩ : ∃ wq : World, wq = wr := ⟨_, rfl⟩
      go_loopg [7, 20] rs.length (fun gk v i wx => ∃ (j : Nat) (acc : List Mark), i = .int .i64 j ∧ j ≤ rs.length ∧ Hid (gk = rs.length - j) ∧ acc.length ≤ 20 * k + j ∧ Hid (∀ x ∈ acc, SmallB x) ∧ Box wx wq.heap.size 86 #[.string x, .string x2, .string x3, .slice a1 au.length n1, .slice a2 tt.length n2] ∧ Own w.heap.size 96 wx v acc ∧ Hid (∀ j, v.ownBlock = some j → j ≠ wq.heap.size) ∧ Stp S w wx ∧ Strm S (B + 40 * k + 2 * j) wx)
      case atStart => exact ⟨0, acc, rfl, by omega, rfl, by omega, hsa, hT, hoa, hna, hsta, by simpa using hsaa⟩
      clear hT hoa hna hsta hsaa hal hsa
      obtain ⟨j, acc, rfl, hj, hgj, hal, hsa, hT, hown, hna, hst, hs⟩ := hrel
      have hzr := hst.size
      have hSr := hs.lt
      have hTl := hT.lt
      by_cases hjl : j < rs.length
      · obtain ⟨rb, roff, hra, d0, d1⟩ := (hr.stp hst hrS).reader hjl
        have hy := hrz rs[j] (List.getElem_mem hjl)
        have Hra := Lib.hid hra
        rw [hra]
        clear hra
        generalize rs[j] = q at *
        obtain ⟨y, ysk, ya, yc⟩ := q
        simp only at d0 d1 hy
        have hR := Box.new wr 92 #[.string y, .slice ya ysk.length yc]
        go_wp2_with fail
        refine (flip_any S (B + 40 * k + 2 * j) 2 _ (hs.alloc _) (by omega) (by omega) (by omega)).mono ?_
        rintro e w1 ⟨r, rfl, h1, s1⟩
        have hst1 := (hst.alloc (.cells #[.string y, .slice ya ysk.length yc] 92)).trans h1
        have hown1 := (hown.alloc (.cells #[.string y, .slice ya ysk.length yc] 92)).stp h1 (by omega)
        have hT1 := (hT.alloc (.cells #[.string y, .slice ya ysk.length yc] 92)).stp h1 (by omega)
        have hR1 := hR.stp h1 (by omega)
        have hz1 := h1.size
        simp at hz1
        clear h1 hst hown hs hT hR d0 d1
        cases r
        · go_wp2_with fail
          rw [← Hra.out]
          go_roundg (rs.length - (j + 1))
          case measure => have := hgj.out; omega
          case rel => exact ⟨j + 1, acc, by go_num, by omega, rfl, by omega, hsa, hT1, hown1, hna, hst1, s1.mono (by omega)⟩
        · go_wp2_with fail
          generalize wr.heap.size = rbk at *
          have hT1_l := hT1.lt; have hT1_0 := hT1.cell 0; have hT1_1 := hT1.cell 1; have hT1_2 := hT1.cell 2; have hT1_3 := hT1.cell 3; have hT1_4 := hT1.cell 4; simp at hT1_0 hT1_1 hT1_2 hT1_3 hT1_4
          have hR1_l := hR1.lt; have hR1_0 := hR1.cell 0; have hR1_1 := hR1.cell 1; simp at hR1_0 hR1_1
          go_region_law (first | (go_simp; go_at_call 12; refine (range_any S (B + 40 * k + 2 * j + 1) 1 4 _ s1.drew (by omega) (by omega) (by omega) (by omega)).mono ?_; rintro e w2 ⟨z, hzm, rfl, h2, s2⟩; have hz2 := h2.size; have hT2 := hT1.drew.stp h2 (by omega); have hR2 := hR1.drew.stp h2 (by omega); have hT2_l := hT2.lt; have hT2_0 := hT2.cell 0; have hT2_1 := hT2.cell 1; have hT2_2 := hT2.cell 2; have hT2_3 := hT2.cell 3; have hT2_4 := hT2.cell 4; simp at hT2_0 hT2_1 hT2_2 hT2_3 hT2_4; have hR2_l := hR2.lt; have hR2_0 := hR2.cell 0; have hR2_1 := hR2.cell 1; simp at hR2_0 hR2_1; have hown2 := hown1.drew.stp h2 (by omega)) | (refine step_append_lie (by rfl) _ _ 32 (by rfl) 96 40 (.agg #[.string ⟨#[]⟩, .string ⟨#[]⟩, .int .i64 0]) Tryz.underlying32 Tryz.infoBid (by rfl) _ acc (by rfl) (hown2.alloc _) (x, y, z) w2.heap.size (by rfl) (Box.new _ _ _) (by omega) (by omega) (by simp; omega) ?_; intro g9 cap9 w3 hown3 hg3 hat3))
          all_goals
            have s3 := (s2.alloc (.cells #[.string x, .string y, .int .i64 z] 96)).grown hg3 (fun k hk => by have := (hown2.lt k hk).1; omega)
            have h3 := ((hst1.drew.trans h2).alloc (.cells #[.string x, .string y, .int .i64 z] 96)).grown hg3 (fun k hk => .inr (by have := (hown2.lt k hk).1; omega))
            have hT3 := (hT2.alloc (.cells #[.string x, .string y, .int .i64 z] 96)).grown hg3 (fun h => hna.out _ h.symm rfl)
            have hna3 : Hid (∀ j, (Value.slice (some ⟨g9, 0, none⟩) (acc.length + 1) cap9).ownBlock = some j → j ≠ wq.heap.size) := fun i hi => by
              have e : g9 = i := by simpa [Value.ownBlock] using hi
              subst e
              rcases hat3 with h | h
              · exact hna.out _ h
              · rw [h]; simp; omega
            go_wp2_with fail
            rw [← Hra.out]
            go_roundg (rs.length - (j + 1))
            case measure => have := hgj.out; omega
            case rel => exact ⟨j + 1, acc ++ [(x, y, z)], by go_num, by omega, rfl, by simp; omega, all_snoc hsa.out ⟨hx, hy⟩, hT3, hown3, hna3, h3, s3.mono (by omega)⟩
      · obtain rfl : j = rs.length := by omega
        clear hjl hT
        go_wp2_with fail
        rw [← Ha.out]
        go_roundg (ps.length - (k + 1))
        case measure => have := hgk.out; omega
        case rel => exact ⟨k + 1, acc, by go_num, by omega, rfl, by omega, hsa, hown, hst, hs.mono (by omega)⟩
    · obtain rfl : k = ps.length := by omega
      clear hlt
      go_wp2_with fail
      go_ret
      exact ⟨_, acc, rfl, by omega, hsa.out, hown, hst, hs.mono (by omega)⟩
end Go.Proofs.YtpgofjjcmldhpaaGreatDoor
