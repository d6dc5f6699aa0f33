/- Names of authors and institutions, places of a text, as they are made. -/
import Derived.Test.YthajoedabjfaaaaGreatDoorAuthQ
import Derived.Test.YthajoedabjfaaaaGreatDoorMakeText
import Derived.Test.YthajoedabjfaaaaGreatDoorRange
namespace Go.Proofs.YthajoedabjfaaaaGreatDoor
open Go.RowKit
set_option linter.unusedVariables false
set_option linter.unusedSimpArgs false

def SomeNames (S : Nat) (B : Int) (w : World) (e : Ending) (w' : World) : Prop :=
  ∃ (v : Value) (l : List ByteArray), e = .returned v ∧ l.length ≤ 10 ∧ (∀ x ∈ l, x.size ≤ 1000) ∧ Own w.heap.size 9 w' v l ∧ Stp S w w' ∧ Strm S B w'
set_option maxRecDepth 100000 in
set_option maxHeartbeats 8000000 in
theorem nameList_any (S : Nat) (B : Int) (w : World) (hs : Strm S B w) (hB : B ≤ 999990000) : Calls Tryz.prog 4 #[.pointer (some ⟨S, 0, none⟩)] w (SomeNames S (B + 20) w) := by
  have hS := hs.lt
  go_enter Tryz.func4, Tryz.ntmps4
  go_wp2_with fail
  generalize hn1 : (⟨#[65, 110, 110, 32, 76, 101, 101]⟩ : ByteArray) = n1 at *
  generalize hn3 : (⟨#[76, 101, 101]⟩ : ByteArray) = n3 at *
  generalize hn4 : (⟨#[88]⟩ : ByteArray) = n4 at *
  generalize hn5 : (⟨#[111, 110, 101, 32, 116, 119, 111, 32, 116, 104, 114, 101, 101]⟩ : ByteArray) = n5 at *
  generalize hn2 : (⟨#[195, 137, 109, 105, 108, 101, 32, 90]⟩ : ByteArray) = n2 at *
  have hxa := (Box.new w 9 #[.string n1, .string n2, .string n3, .string n4, .string n5]).sa ([n1, n2, n3, n4, n5] : List ByteArray) rfl
  have HSo := some_any S B 2 [n1, n2, n3, n4, n5] (some ⟨w.heap.size, 0, none⟩) 5 _ (hs.alloc (.cells #[.string n1, .string n2, .string n3, .string n4, .string n5] 9)) (by omega) (by omega) (by omega) hxa (fun x hx => by obtain rfl := Option.some.inj hx; show w.heap.size ≠ S; omega) (by show 5 ≤ 1000; omega) (fun x hx => by simp only [List.mem_cons, List.not_mem_nil, or_false] at hx; rcases hx with rfl | rfl | rfl | rfl | rfl <;> (first | rw [← hn1] | rw [← hn2] | rw [← hn3] | rw [← hn4] | rw [← hn5]) <;> (show _ ≤ _; decide))
  clear hn1 hn2 hn3 hn4 hn5
  refine HSo.mono ?_
  rintro e w5 ⟨v5, l, rfl, hl, hall, hown, h5, s5⟩
  have hst5 := ((Stp.refl S w).alloc (.cells #[.string n1, .string n2, .string n3, .string n4, .string n5] 9)).trans h5
  have hown5 := hown.mono (show w.heap.size ≤ _ by simp)
  replace s5 : Strm S (B + 5) w5 := s5
  replace hl : l.length ≤ 5 := hl
  replace hall : ∀ x ∈ l, x.size ≤ 1000 := hall
  clear HSo hxa hs h5 hown
  have hz5 := hst5.size
  go_wp2_with fail
  refine (flip_any S (B + 5) 12 _ s5 (by omega) (by omega) (by omega)).mono ?_
  rintro e w6 ⟨fl, rfl, h6, s6⟩
  have hst6 := hst5.trans h6
  have hown6 := hown5.stp h6 (by omega)
  have hz6 := hst6.size
  clear hst5 hown5 s5 h6
  cases fl
  · go_wp2_with fail
    go_ret
    exact ⟨_, l, rfl, by omega, hall, hown6, hst6, s6.mono (by omega)⟩
  · obtain ⟨ma, mc, rfl, hsa, hbl0, hcap⟩ := hown6.sa
    go_wp2_with fail
    refine (repeat_any 110 60 _ (by omega)).mono ?_
    rintro e w7 ⟨y1, hy1, rfl, hb7⟩
    go_wp2_with fail
    refine (repeat_any 110 61 _ (by omega)).mono ?_
    rintro e w7b ⟨y2, hy2, rfl, hb7b⟩
    have s7 := (s6.below hb7).below hb7b
    have hst7 := (hst6.trans (Stp.of_below hb7)).trans (Stp.of_below hb7b)
    have hown7 := (hown6.below hb7).below hb7b
    have hSl := s7.lt
    clear s6 hst6 hown6 hsa hbl0
    go_wp2_with fail
    refine (oneW_any 1000 S (B + 5 + 1) _ 7 7 9 _ _ (s7.alloc _) (by omega) (Box.new _ _ _) (by omega) rfl (by omega) (by omega) (fun v hv => by simp only [List.mem_cons, List.not_mem_nil, or_false] at hv; rcases hv with rfl | rfl | rfl | rfl | rfl | rfl | rfl <;> first | exact ⟨y1, rfl, by omega⟩ | exact ⟨y2, rfl, by omega⟩ | exact ⟨_, rfl, by decide⟩)).mono ?_
    rintro e w8 ⟨y, hy, rfl, h8, s8⟩
    have hst8 := (hst7.alloc _).trans h8
    have hown8 := (hown7.alloc _).stp h8 (by omega)
    clear hst7 hown7 s7 h8
    have hz8 := hst8.size
    have HlO := Lib.hid hown8.lt
    have hSl8 := s8.lt
    go_wp2_with (at_builtin; refine wpList_append_lie (α := ByteArray) rfl _ _ 26 rfl 9 16 (.string ⟨#[]⟩) Tryz.underlying26 Tryz.infoStrW rfl _ l rfl (hown8.alloc (.cells #[.string y] 9)) y _ rfl (Box.new _ _ _) (by omega) (by omega) (by simp; omega) ?_; intro g9 cap9 w9 hown9 hg9 hat9)
    have hst9 := (hst8.alloc (.cells #[.string y] 9)).grown hg9 (fun j hj => .inr ((HlO.out j hj).1))
    have s9 := (s8.alloc (.cells #[.string y] 9)).grown hg9 (fun j hj => by have := (HlO.out j hj).1; omega)
    (try go_wp2_with fail)
    go_ret
    exact ⟨_, l ++ [y], rfl, by rw [List.length_append]; simp; omega, all_snoc hall hy, hown9, hst9, s9.mono (by omega)⟩
set_option maxRecDepth 100000 in
set_option maxHeartbeats 8000000 in
theorem homes_any (S : Nat) (B : Int) (w : World) (hs : Strm S B w) (hB : B ≤ 999990000) : Calls Tryz.prog 5 #[.pointer (some ⟨S, 0, none⟩)] w (SomeNames S (B + 20) w) := by
  have hS := hs.lt
  go_enter Tryz.func5, Tryz.ntmps5
  go_wp2_with fail
  generalize hn1 : (⟨#[85, 108, 109]⟩ : ByteArray) = n1 at *
  generalize hn2 : (⟨#[85, 110, 105, 118, 101, 114, 115, 105, 116, 121, 32, 111, 102, 32, 85, 108, 109]⟩ : ByteArray) = n2 at *
  generalize hn3 : (⟨#[119, 111, 114, 107]⟩ : ByteArray) = n3 at *
  have hxa := (Box.new w 9 #[.string n1, .string n2, .string n3]).sa ([n1, n2, n3] : List ByteArray) rfl
  have HSo := some_any S B 2 [n1, n2, n3] (some ⟨w.heap.size, 0, none⟩) 3 _ (hs.alloc (.cells #[.string n1, .string n2, .string n3] 9)) (by omega) (by omega) (by omega) hxa (fun x hx => by obtain rfl := Option.some.inj hx; show w.heap.size ≠ S; omega) (by show 3 ≤ 1000; omega) (fun x hx => by simp only [List.mem_cons, List.not_mem_nil, or_false] at hx; rcases hx with rfl | rfl | rfl <;> (first | rw [← hn1] | rw [← hn2] | rw [← hn3]) <;> (show _ ≤ _; decide))
  clear hn1 hn2 hn3
  refine HSo.mono ?_
  rintro e w5 ⟨v5, l, rfl, hl, hall, hown, h5, s5⟩
  have hst5 := ((Stp.refl S w).alloc (.cells #[.string n1, .string n2, .string n3] 9)).trans h5
  have hown5 := hown.mono (show w.heap.size ≤ _ by simp)
  replace s5 : Strm S (B + 3) w5 := s5
  replace hl : l.length ≤ 3 := hl
  replace hall : ∀ x ∈ l, x.size ≤ 1000 := hall
  clear HSo hxa hs h5 hown
  have hz5 := hst5.size
  go_wp2_with fail
  refine (flip_any S (B + 3) 15 _ s5 (by omega) (by omega) (by omega)).mono ?_
  rintro e w6 ⟨fl, rfl, h6, s6⟩
  have hst6 := hst5.trans h6
  have hown6 := hown5.stp h6 (by omega)
  have hz6 := hst6.size
  clear hst5 hown5 s5 h6
  cases fl
  · go_wp2_with fail
    go_ret
    exact ⟨_, l, rfl, by omega, hall, hown6, hst6, s6.mono (by omega)⟩
  · obtain ⟨ma, mc, rfl, hsa, hbl0, hcap⟩ := hown6.sa
    have hSl := s6.lt
    go_wp2_with fail
    refine (oneW_any 1000 S (B + 3 + 1) _ 3 3 9 _ _ (s6.alloc _) (by omega) (Box.new _ _ _) (by omega) rfl (by omega) (by omega) (fun v hv => by simp only [List.mem_cons, List.not_mem_nil, or_false] at hv; rcases hv with rfl | rfl | rfl <;> exact ⟨_, rfl, by decide⟩)).mono ?_
    rintro e w8 ⟨y, hy, rfl, h8, s8⟩
    have hst8 := (hst6.alloc _).trans h8
    have hown8 := (hown6.alloc _).stp h8 (by omega)
    clear hst6 hown6 s6 h8 hsa hbl0
    have hz8 := hst8.size
    have HlO := Lib.hid hown8.lt
    have hSl8 := s8.lt
    go_wp2_with (at_builtin; refine wpList_append_lie (α := ByteArray) rfl _ _ 26 rfl 9 16 (.string ⟨#[]⟩) Tryz.underlying26 Tryz.infoStrW rfl _ l rfl (hown8.alloc (.cells #[.string y] 9)) y _ rfl (Box.new _ _ _) (by omega) (by omega) (by simp; omega) ?_; intro g9 cap9 w9 hown9 hg9 hat9)
    have hst9 := (hst8.alloc (.cells #[.string y] 9)).grown hg9 (fun j hj => .inr ((HlO.out j hj).1))
    have s9 := (s8.alloc (.cells #[.string y] 9)).grown hg9 (fun j hj => by have := (HlO.out j hj).1; omega)
    (try go_wp2_with fail)
    go_ret
    exact ⟨_, l ++ [y], rfl, by rw [List.length_append]; simp; omega, all_snoc hall hy, hown9, hst9, s9.mono (by omega)⟩
theorem Tryz.infoGv : (Tryz.prog.info? 42).map (fun i => (i.zero, i.size, i.bytes)) = some (some (.agg #[.int .i64 0, .int .i64 0, .int .i64 0, .string ⟨#[]⟩]), 4, 40) := by kernel_rfl
def SomeGives (S : Nat) (B : Int) (w : World) (e : Ending) (w' : World) : Prop :=
  ∃ (v : Value) (l : List Gv), e = .returned v ∧ l.length ≤ 10 ∧ Own w.heap.size 42 w' v l ∧ Stp S w w' ∧ Strm S B w'
set_option maxRecDepth 100000 in
set_option maxHeartbeats 8000000 in
theorem gives_any (S : Nat) (B : Int) (n : Nat) (w : World) (hs : Strm S B w) (hB : B ≤ 999990000) (hn : n ≤ 1000) : Calls Tryz.prog 14 #[.pointer (some ⟨S, 0, none⟩), .int .i64 n] w (SomeGives S (B + 20) w) := by
  have hS := hs.lt
  go_enter Tryz.func14, Tryz.ntmps14
  go_wp2_with fail
  refine (next_any S B 4 w hs (by omega) (by omega) (by omega)).mono ?_
  rintro e w0 ⟨r, ⟨hr, hr2⟩, rfl, h0, s0⟩
  obtain ⟨m, rfl⟩ := Int.eq_ofNat_of_zero_le hr
  have hz0 := h0.size
  clear hs
  go_wp2_with fail
  go_loopg [5, 9] m (fun gk v i wr => ∃ (k : Nat) (acc : List Gv), i = .int .i64 k ∧ k ≤ m ∧ Hid (gk = m - k) ∧ acc.length ≤ k ∧ Own w.heap.size 42 wr v acc ∧ Stp S w wr ∧ Strm S (B + 1 + 2 * k) wr)
  case atStart => exact ⟨0, [], rfl, by omega, rfl, Nat.le_refl _, Own.nil _ _ _, h0, by simpa using s0⟩
  clear h0 s0
  obtain ⟨k, acc, rfl, hk, hgk, hal, hown, hst, hsm⟩ := hrel
  have hz := hst.size
  have hSr := hsm.lt
  by_cases hlt : k < m
  · obtain ⟨mx, hmx⟩ : ∃ mx : Nat, max (n : Int) 1 = (mx : Int) := ⟨max n 1, by omega⟩
    have hmx1 : (1 : Int) ≤ (mx : Int) := by omega
    have hmx2 : (mx : Int) ≤ 1000 := by omega
    go_wp2_with fail
    refine (next_any S (B + 1 + 2 * k) mx _ hsm (by omega) (by omega) (by omega)).mono ?_
    rintro e w1 ⟨r1, ⟨hr1, hr3⟩, rfl, h1, s1⟩
    go_wp2_with fail
    refine (range_any S (B + 1 + 2 * k + 1) 1 9 _ s1 (by omega) (by omega) (by omega) (by omega)).mono ?_
    rintro e w2 ⟨z, ⟨hz1, hz2⟩, rfl, h2, s2⟩
    have hw : IntKind.i64.wrap (r1 + z) = r1 + z := IntWalk.i64_in _ (by omega)
    obtain ⟨mn, hmn⟩ : ∃ mn : Int, min (r1 + z) (n : Int) = mn := ⟨_, rfl⟩
    have hst2 := (hst.trans h1).trans h2
    have hown2 := (hown.stp h1 (by omega)).stp h2 (by omega)
    have hzz := hst2.size
    have HlO := Lib.hid hown2.lt
    clear hst hown hsm h1 s1 h2
    go_wp2_with (at_builtin; refine wpList_append_lie (α := Gv) rfl _ _ 34 rfl 42 40 (.agg #[.int .i64 0, .int .i64 0, .int .i64 0, .string ⟨#[]⟩]) Tryz.underlying34 Tryz.infoGv rfl _ acc rfl (hown2.alloc _) ((1 : Int), r1, mn, ⟨#[]⟩) _ rfl (Box.new _ _ _) (by omega) (by omega) (by simp; omega) ?_; intro g9 cap9 w9 hown9 hg9 hat9)
    have hst9 := (hst2.alloc (.cells #[.int .i64 1, .int .i64 r1, .int .i64 mn, .string ⟨#[]⟩] 42)).grown hg9 (fun j hj => .inr ((HlO.out j hj).1))
    have s9 := (s2.alloc (.cells #[.int .i64 1, .int .i64 r1, .int .i64 mn, .string ⟨#[]⟩] 42)).grown hg9 (fun j hj => by have := (HlO.out j hj).1; omega)
    (try go_wp2_with fail)
    go_roundg (m - (k + 1))
    case measure => have := hgk.out; omega
    case rel => exact ⟨k + 1, acc ++ [((1 : Int), r1, mn, ⟨#[]⟩)], by go_num, by omega, rfl, by rw [List.length_append]; simp; omega, hown9, hst9, s9.mono (by omega)⟩
  · obtain rfl : k = m := by omega
    clear hgk hk hlt hr
    go_wp2_with fail
    refine (flip_any S (B + 1 + 2 * k) _ _ hsm (by omega) (by omega) (by omega)).mono ?_
    rintro e w4 ⟨bf, rfl, h4, s4⟩
    have hst4 := hst.trans h4
    have hown4 := hown.stp h4 (by omega)
    have hz4 := h4.size
    clear hst hown hsm h4
    cases bf
    · go_wp2_with fail
      go_ret
      exact ⟨_, acc, rfl, by omega, hown4, hst4, s4.mono (by omega)⟩
    · have hwn : IntKind.i64.wrap ((n : Int) + 1) = (n : Int) + 1 := IntWalk.i64_in _ (by omega)
      have hSl := s4.lt
      go_wp2_with fail
      refine (pick_box S (B + 1 + 2 * k + 1) _ 3 3 [-1, 0, (n : Int)] _ (s4.alloc _) (by omega) (Box.new _ _ _) (by omega) (by simp) (by simp)).mono ?_
      rintro e w5 ⟨p1, -, rfl, h5, s5⟩
      have hst5 := (hst4.alloc _).trans h5
      have hown5 := (hown4.alloc _).stp h5 (by omega)
      have hSl5 := s5.lt
      clear hst4 hown4 s4 h5
      go_wp2_with fail
      refine (pick_box S (B + 1 + 2 * k + 1 + 1) _ 3 3 [0, (n : Int), (n : Int) + 1] _ (s5.alloc _) (by omega) (Box.new _ _ _) (by omega) (by simp) (by simp)).mono ?_
      rintro e w6 ⟨p2, -, rfl, h6, s6⟩
      have hst6 := (hst5.alloc _).trans h6
      have hown6 := (hown5.alloc _).stp h6 (by omega)
      have HlO := Lib.hid hown6.lt
      have hzz := hst6.size
      clear hst5 hown5 s5 h6
      go_wp2_with (at_builtin; refine wpList_append_lie (α := Gv) rfl _ _ 34 rfl 42 40 (.agg #[.int .i64 0, .int .i64 0, .int .i64 0, .string ⟨#[]⟩]) Tryz.underlying34 Tryz.infoGv rfl _ acc rfl (hown6.alloc _) ((0 : Int), p1, p2, ⟨#[]⟩) _ rfl (Box.new _ _ _) (by omega) (by omega) (by simp; omega) ?_; intro g9 cap9 w9 hown9 hg9 hat9)
      have hst9 := (hst6.alloc (.cells #[.int .i64 0, .int .i64 p1, .int .i64 p2, .string ⟨#[]⟩] 42)).grown hg9 (fun j hj => .inr ((HlO.out j hj).1))
      have s9 := (s6.alloc (.cells #[.int .i64 0, .int .i64 p1, .int .i64 p2, .string ⟨#[]⟩] 42)).grown hg9 (fun j hj => by have := (HlO.out j hj).1; omega)
      (try go_wp2_with fail)
      go_ret
      exact ⟨.slice (some ⟨g9, 0, none⟩) (acc.length + 1) cap9, acc ++ [((0 : Int), p1, p2, ⟨#[]⟩)], rfl, by rw [List.length_append]; simp; omega, hown9, hst9, s9.mono (by omega)⟩
end Go.Proofs.YthajoedabjfaaaaGreatDoor
