/- What an event is made of: the maker Happening. -/
import Derived.Test.YtnocceilpnmbpaaGreatDoorEvDel
import Derived.Test.YtnocceilpnmbpaaGreatDoorEv10
import Derived.Test.YtnocceilpnmbpaaGreatDoorMakeList
import Derived.Deep.CutBlock
namespace Go.Proofs.YtnocceilpnmbpaaGreatDoor
open Go.RowKit
set_option linter.unusedVariables false
set_option linter.unusedSimpArgs false

/-- A number between two was drawn. -/
def SomeRange (S : Nat) (B lo hi : Int) (w : World) (e : Ending) (w' : World) : Prop :=
 ∃ r : Int, (lo ≤ r ∧ r ≤ hi) ∧ e = .returned (.int .i64 r) ∧ Stp S w w' ∧ Strm S (B + 1) w'
set_option maxHeartbeats 400000 in
theorem rangeS_any (S : Nat) (B lo hi : Int) (w : World) (hs : Strm S B w) (hB : B ≤ 1000000000) (hn : lo ≤ hi) (h1 : -1000000 ≤ lo) (h2 : hi ≤ 1000000) :
  Calls Tryz.prog 41 #[.pointer (some ⟨S, 0, none⟩), .int .i64 lo, .int .i64 hi] w (fun e w' => SomeRange S B lo hi w e w') := by
 have hg : ¬ hi < lo := by omega
 have hw1 : IntKind.i64.wrap (hi - lo) = hi - lo := IntWalk.i64_in _ (by omega)
 have hw2 : IntKind.i64.wrap (hi - lo + 1) = hi - lo + 1 := IntWalk.i64_in _ (by omega)
 go_enter Tryz.func41, Tryz.ntmps41
 go_wp2_with fail
 refine (next_any S B (hi - lo + 1) _ hs hB (by omega) (by omega)).mono ?_
 rintro e w' ⟨r, ⟨hr, hr2⟩, rfl, h1, h2⟩
 have hw3 : IntKind.i64.wrap (lo + r) = lo + r := IntWalk.i64_in _ (by omega)
 go_wp2_with fail
 go_ret
 exact ⟨_, ⟨by omega, by omega⟩, rfl, h1, h2⟩
/-- What an event is made of was drawn. -/
def SomeHap (S : Nat) (B : Int) (w : World) (e : Ending) (w' : World) : Prop :=
 ∃ (k : Int) (who paper wth txt : ByteArray), e = .returned (.tuple #[.int .i64 k, .string who, .string paper, .string wth, .string txt]) ∧ 0 ≤ k ∧ k ≤ 8 ∧ who.size ≤ 1000 ∧ paper.size ≤ 1000 ∧ wth.size ≤ 1000 ∧ txt.size ≤ 1000 ∧ Stp S w w' ∧ Strm S (B + 10) w'
set_option maxRecDepth 100000 in
set_option maxHeartbeats 4000000 in
theorem happening_any (S : Nat) (B : Int) (w : World) (hs : Strm S B w) (hB : B ≤ 999990000) : Calls Tryz.prog 15 #[.pointer (some ⟨S, 0, none⟩)] w (SomeHap S B w) := by
 have hSl := hs.lt
 obtain ⟨b0, hb0⟩ : ∃ b0, b0 = w.heap.size := ⟨_, rfl⟩
 have HP := Lib.hid (pick_box S B b0 3 10 [1, 2, 3, 3, 3, 4, 5, 6, 6, 7] (w.alloc (.cells #[.int .i64 1, .int .i64 2, .int .i64 3, .int .i64 3, .int .i64 3, .int .i64 4, .int .i64 5, .int .i64 6, .int .i64 6, .int .i64 7] 3)) (hs.alloc _) (by omega) (Box.newAt _ _ _ _ hb0) (by omega) (by simp) (by simp))
 rw [hb0] at HP
 clear hb0
 go_enter Tryz.func15, Tryz.ntmps15
 go_wp2_with fail
 refine HP.out.mono ?_
 rintro e w1 ⟨z, hz, rfl, h1, s_w1⟩
 have h_w1 : Stp S w w1 := ((Stp.refl S w).alloc _).trans h1
 have hz0 : 1 ≤ z ∧ z ≤ 7 := by
  simp only [List.mem_cons, List.not_mem_nil, or_false] at hz
  omega
 clear hz h1 HP
 go_wp2_with fail
 refine (one_any S (B + 1) _ 3 3 9 _ _ (s_w1.alloc _) (by omega) (Box.new _ _ _) (by have := h_w1.size; omega) rfl (by omega) (by omega) (by simp; repeat' (first | apply And.intro | decide | omega))).mono ?_
 rintro e w2 ⟨who, hx_who, rfl, hq, s_w2⟩
 have h_w2 : Stp S w w2 := (h_w1.alloc _).trans hq
 clear hq
 go_wp2_with fail
 refine (one_any S (B + 1 + 1) _ 3 3 9 _ _ (s_w2.alloc _) (by omega) (Box.new _ _ _) (by have := h_w2.size; omega) rfl (by omega) (by omega) (by simp; repeat' (first | apply And.intro | decide | omega))).mono ?_
 rintro e w3 ⟨paper, hx_paper, rfl, hq, s_w3⟩
 have h_w3 : Stp S w w3 := (h_w2.alloc _).trans hq
 clear hq
 clear s_w1 s_w2 h_w1 h_w2
 go_upto_block 0 with (fail)
 go_cut [3, 5, 6] (fun v3 v5 v6 wx => ∃ who wth txt : ByteArray, v3 = .string who ∧ v5 = .string wth ∧ v6 = .string txt ∧ who.size ≤ 1000 ∧ wth.size ≤ 1000 ∧ txt.size ≤ 1000 ∧ Stp S w wx ∧ Strm S (B + 4) wx)
 case first =>
  obtain rfl | rfl | rfl | rfl | rfl | rfl | rfl : z = 1 ∨ z = 2 ∨ z = 3 ∨ z = 4 ∨ z = 5 ∨ z = 6 ∨ z = 7 := by omega
  ·
   go_wp2_with fail
   refine (one_any S (B + 1 + 1 + 1) _ 3 3 9 _ _ (s_w3.alloc _) (by omega) (Box.new _ _ _) (by have := h_w3.size; omega) rfl (by omega) (by omega) (by simp; repeat' (first | apply And.intro | decide | omega))).mono ?_
   rintro e w4 ⟨txt, hx_txt, rfl, hq, s_w4⟩
   have h_w4 : Stp S w w4 := (h_w3.alloc _).trans hq
   clear hq
   go_wp2_with fail
   go_meet
   exact ⟨who, ⟨#[]⟩, txt, rfl, rfl, rfl, hx_who, by decide, hx_txt, h_w4, s_w4.mono (by omega)⟩
  ·
   go_wp2_with fail
   go_meet
   exact ⟨who, ⟨#[]⟩, ⟨#[]⟩, rfl, rfl, rfl, hx_who, by decide, by decide, h_w3, s_w3.mono (by omega)⟩
  ·
   go_wp2_with fail
   go_meet
   exact ⟨who, ⟨#[]⟩, ⟨#[]⟩, rfl, rfl, rfl, hx_who, by decide, by decide, h_w3, s_w3.mono (by omega)⟩
  ·
   go_wp2_with fail
   go_meet
   exact ⟨who, ⟨#[]⟩, ⟨#[]⟩, rfl, rfl, rfl, hx_who, by decide, by decide, h_w3, s_w3.mono (by omega)⟩
  ·
   go_wp2_with fail
   refine (one_any S (B + 1 + 1 + 1) _ 2 2 9 _ _ (s_w3.alloc _) (by omega) (Box.new _ _ _) (by have := h_w3.size; omega) rfl (by omega) (by omega) (by simp; repeat' (first | apply And.intro | decide | omega))).mono ?_
   rintro e w4 ⟨txt, hx_txt, rfl, hq, s_w4⟩
   have h_w4 : Stp S w w4 := (h_w3.alloc _).trans hq
   clear hq
   go_wp2_with fail
   go_meet
   exact ⟨who, ⟨#[]⟩, txt, rfl, rfl, rfl, hx_who, by decide, hx_txt, h_w4, s_w4.mono (by omega)⟩
  ·
   go_wp2_with fail
   refine (one_any S (B + 1 + 1 + 1) _ 3 3 9 _ _ (s_w3.alloc _) (by omega) (Box.new _ _ _) (by have := h_w3.size; omega) rfl (by omega) (by omega) (by simp; repeat' (first | apply And.intro | decide | omega))).mono ?_
   rintro e w4 ⟨txt, hx_txt, rfl, hq, s_w4⟩
   have h_w4 : Stp S w w4 := (h_w3.alloc _).trans hq
   clear hq
   go_wp2_with fail
   go_meet
   exact ⟨who, txt, ⟨#[]⟩, rfl, rfl, rfl, hx_who, hx_txt, by decide, h_w4, s_w4.mono (by omega)⟩
  ·
   go_wp2_with fail
   go_meet
   exact ⟨⟨#[]⟩, ⟨#[]⟩, ⟨#[]⟩, rfl, rfl, rfl, by decide, by decide, by decide, h_w3, s_w3.mono (by omega)⟩
 case rest =>
  clear h_w3 s_w3
  obtain ⟨who2, wth, txt, rfl, rfl, rfl, hx2, hx5, hx6, h_wc, s_wc⟩ := hcut
  have hzc := h_wc.size
  go_wp2_with fail
  refine (flip_any S (B + 4) 15 _ s_wc (by omega) (by omega) (by omega)).mono ?_
  rintro e w5 ⟨r, rfl, hq, s_w5⟩
  have h_w5 : Stp S w w5 := h_wc.trans hq
  have hz5 := h_w5.size
  clear hq h_wc s_wc
  cases r
  ·
   go_wp2_with fail
   refine bodyPost_ret (v := .tuple #[.int .i64 z, .string who2, .string paper, .string wth, .string txt]) (by simp only [results, Tryz.results15]; go_simp) rfl ?_
   exact ⟨_, _, _, _, _, rfl, by omega, by omega, hx2, hx_paper, hx5, hx6, h_w5, s_w5.mono (by omega)⟩
  ·
   go_wp2_with fail
   refine (next_any S (B + 4 + 1) 5 _ s_w5 (by omega) (by omega) (by omega)).mono ?_
   rintro e w6 ⟨r, ⟨hr, hr2⟩, rfl, hq, s_w6⟩
   have h_w6 : Stp S w w6 := h_w5.trans hq
   have hz6 := h_w6.size
   clear hq h_w5 s_w5
   obtain rfl | rfl | rfl | rfl | rfl : r = 0 ∨ r = 1 ∨ r = 2 ∨ r = 3 ∨ r = 4 := by omega
   ·
    go_wp2_with fail
    refine (rangeS_any S (B + 4 + 1 + 1) 0 8 _ s_w6 (by omega) (by omega) (by omega) (by omega)).mono ?_
    rintro e w7 ⟨k, ⟨hk1, hk2⟩, rfl, hq, s_w7⟩
    have h_w7 : Stp S w w7 := h_w6.trans hq
    go_wp2_with fail
    refine bodyPost_ret (v := .tuple #[.int .i64 k, .string who2, .string paper, .string wth, .string txt]) (by simp only [results, Tryz.results15]; go_simp) rfl ?_
    exact ⟨_, _, _, _, _, rfl, by omega, by omega, hx2, hx_paper, hx5, hx6, h_w7, s_w7.mono (by omega)⟩
   ·
    go_wp2_with fail
    refine (one_any S (B + 4 + 1 + 1) _ 3 3 9 _ _ (s_w6.alloc _) (by omega) (Box.new _ _ _) (by have := h_w6.size; omega) rfl (by omega) (by omega) (by simp; repeat' (first | apply And.intro | decide | omega))).mono ?_
    rintro e w7 ⟨x, hx_x, rfl, hq, s_w7⟩
    have h_w7 : Stp S w w7 := (h_w6.alloc _).trans hq
    clear hq
    go_wp2_with fail
    refine bodyPost_ret (v := .tuple #[.int .i64 z, .string x, .string paper, .string wth, .string txt]) (by simp only [results, Tryz.results15]; go_simp) rfl ?_
    exact ⟨_, _, _, _, _, rfl, by omega, by omega, hx_x, hx_paper, hx5, hx6, h_w7, s_w7.mono (by omega)⟩
   ·
    go_wp2_with fail
    refine (one_any S (B + 4 + 1 + 1) _ 2 2 9 _ _ (s_w6.alloc _) (by omega) (Box.new _ _ _) (by have := h_w6.size; omega) rfl (by omega) (by omega) (by simp; repeat' (first | apply And.intro | decide | omega))).mono ?_
    rintro e w7 ⟨x, hx_x, rfl, hq, s_w7⟩
    have h_w7 : Stp S w w7 := (h_w6.alloc _).trans hq
    clear hq
    go_wp2_with fail
    refine bodyPost_ret (v := .tuple #[.int .i64 z, .string who2, .string x, .string wth, .string txt]) (by simp only [results, Tryz.results15]; go_simp) rfl ?_
    exact ⟨_, _, _, _, _, rfl, by omega, by omega, hx2, hx_x, hx5, hx6, h_w7, s_w7.mono (by omega)⟩
   ·
    go_wp2_with fail
    refine (one_any S (B + 4 + 1 + 1) _ 3 3 9 _ _ (s_w6.alloc _) (by omega) (Box.new _ _ _) (by have := h_w6.size; omega) rfl (by omega) (by omega) (by simp; repeat' (first | apply And.intro | decide | omega))).mono ?_
    rintro e w7 ⟨x, hx_x, rfl, hq, s_w7⟩
    have h_w7 : Stp S w w7 := (h_w6.alloc _).trans hq
    clear hq
    go_wp2_with fail
    refine bodyPost_ret (v := .tuple #[.int .i64 z, .string who2, .string paper, .string x, .string txt]) (by simp only [results, Tryz.results15]; go_simp) rfl ?_
    exact ⟨_, _, _, _, _, rfl, by omega, by omega, hx2, hx_paper, hx_x, hx6, h_w7, s_w7.mono (by omega)⟩
   ·
    go_wp2_with fail
    refine (repeat_any 116 200 _ (by omega)).mono ?_
    rintro e w7 ⟨y1, hy1, rfl, hb7⟩
    go_wp2_with fail
    refine (repeat_any 116 201 _ (by omega)).mono ?_
    rintro e w8 ⟨y2, hy2, rfl, hb8⟩
    have hb78 := below_next hb7 hb8
    have h_w8 : Stp S w w8 := h_w6.trans (Stp.of_below hb78)
    have s_w8 := s_w6.below hb78
    have hz8 := h_w8.size
    clear hb7 hb8 hb78
    go_wp2_with fail
    refine (one_any S (B + 4 + 1 + 1) _ 5 5 9 _ _ (s_w8.alloc _) (by omega) (Box.new _ _ _) (by have := h_w8.size; omega) rfl (by omega) (by omega) (by simp; repeat' (first | apply And.intro | decide | omega))).mono ?_
    rintro e w9 ⟨x, hx_x, rfl, hq, s_w9⟩
    have h_w9 : Stp S w w9 := (h_w8.alloc _).trans hq
    clear hq
    go_wp2_with fail
    refine bodyPost_ret (v := .tuple #[.int .i64 z, .string who2, .string paper, .string wth, .string x]) (by simp only [results, Tryz.results15]; go_simp) rfl ?_
    exact ⟨_, _, _, _, _, rfl, by omega, by omega, hx2, hx_paper, hx5, hx_x, h_w9, s_w9.mono (by omega)⟩
end Go.Proofs.YtnocceilpnmbpaaGreatDoor
