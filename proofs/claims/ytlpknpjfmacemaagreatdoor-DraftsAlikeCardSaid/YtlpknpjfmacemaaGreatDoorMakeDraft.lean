/- The makers of drafts. -/
import Derived.Test.YtlpknpjfmacemaaGreatDoorMakeText
import Derived.Test.YtlpknpjfmacemaaGreatDoorTwinP
namespace Go.Proofs.YtlpknpjfmacemaaGreatDoor
open Go.RowKit
set_option linter.unusedVariables false
set_option linter.unusedSimpArgs false

theorem repeat2_any (a b : UInt8) (n : Nat) (w : World) (hn : n ≤ 100000) :
    Calls Tryz.prog 53 #[.string ⟨#[a, b]⟩, .int .i64 n] w (fun e w' => ∃ x : ByteArray, x.size ≤ 2 * n ∧ e = .returned (.string x) ∧ Below w.heap.size w w') :=
  (Tryz.strings_Repeat ⟨#[a, b]⟩ n w (by omega) (by show 2 * n ≤ _; omega)).mono fun e w' ⟨h1, h2⟩ => ⟨_, by
    show (Lib.repeatL [a, b] n).toArray.size ≤ 2 * n
    rw [List.size_toArray, Lib.repeatL_length]; simp; omega, h1, h2⟩
set_option maxRecDepth 100000 in
set_option maxHeartbeats 8000000 in
theorem draft_any (S : Nat) (B : Int) (w : World) (hs : Strm S B w) (hB : B ≤ 999999000) : Calls Tryz.prog 24 #[.pointer (some ⟨S, 0, none⟩)] w (SomeText S B w) := by
  have hS := hs.lt
  have h10 : (⟨#[10]⟩ : ByteArray).size = 1 := rfl
  go_enter Tryz.func24, Tryz.ntmps24
  go_wp2_with fail
  refine (next_any S B _ _ hs (by omega) (by omega) (by omega)).mono ?_
  rintro e w1 ⟨r, ⟨hr, hr2⟩, rfl, h1, s1⟩
  obtain ⟨n, rfl⟩ := Int.eq_ofNat_of_zero_le hr
  have hn : n < 14 := by omega
  have hz1 := h1.size
  clear hr hr2 hs
  go_wp2_with fail
  go_loopg [3, 6] n (fun gk v i wr => ∃ (k : Nat) (t : ByteArray), v = .string t ∧ i = .int .i64 k ∧ k ≤ n ∧ Hid (gk = n - k) ∧ t.size ≤ k * 1000 ∧ Stp S w wr ∧ Strm S (B + 1 + (k : Int)) wr)
  case atStart => exact ⟨0, ⟨#[]⟩, rfl, rfl, by omega, rfl, Nat.zero_le _, h1, by simpa using s1⟩
  clear h1 s1
  obtain ⟨k, t, rfl, rfl, hk, hgk, ht, hst, hsm⟩ := hrel
  have hzr := hst.size
  by_cases hlt : k < n
  · go_wp2_with fail
    refine (one_any S (B + 1 + (k : Int)) _ 6 6 9 _ _ (hsm.alloc _) (by omega) (Box.new _ _ _) (by have := hsm.lt; omega) rfl (by omega) (by omega) (by simp; decide)).mono ?_
    rintro e w6 ⟨y, hy, rfl, h6, s6⟩
    have hst6 := (hst.alloc _).trans h6
    go_wp2_with fail
    go_roundg (n - (k + 1))
    case measure => have := hgk.out; omega
    case rel => exact ⟨k + 1, t ++ y, rfl, by go_num, by omega, rfl, by rw [ByteArray.size_append]; omega, hst6, s6.mono (by omega)⟩
  · obtain rfl : k = n := by omega
    have hie := isEmpty_size t
    clear hgk hk hlt
    rename World => w3
    by_cases h0 : t.size = 0
    · rw [decide_eq_true h0] at hie
      go_wp2_with fail
      refine (flip_any S (B + 1 + (k : Int)) _ _ hsm (by omega) (by omega) (by omega)).mono ?_
      rintro e w4 ⟨bf, rfl, h4, s4⟩
      have hst4 := hst.trans h4
      have hz4 := h4.size
      cases bf
      · go_wp2_with fail
        go_ret
        exact ⟨_, (by omega), rfl, hst4, s4.mono (by omega)⟩
      · go_wp2_with fail
        refine (repeat2_any 97 32 600 _ (by omega)).mono ?_
        rintro e w5 ⟨y0, hy0, rfl, hb5⟩
        have hst5 := hst4.trans (Stp.of_below hb5)
        have s5 := s4.below hb5
        have hz5 := hb5.size
        clear hst4 s4 hb5
        go_wp2_with fail
        refine (repeat2_any 97 32 601 _ (by omega)).mono ?_
        rintro e w6 ⟨y1, hy1, rfl, hb6⟩
        have hst6 := hst5.trans (Stp.of_below hb6)
        have s6 := s5.below hb6
        have hz6 := hb6.size
        clear hst5 s5 hb6
        go_wp2_with fail
        refine (repeat_any 97 20000 _ (by omega)).mono ?_
        rintro e w7 ⟨y2, hy2, rfl, hb7⟩
        have hst7 := hst6.trans (Stp.of_below hb7)
        have s7 := s6.below hb7
        have hz7 := hb7.size
        clear hst6 s6 hb7
        go_wp2_with fail
        refine (oneW_any 20001 S (B + 1 + (k : Int) + 1) _ 4 4 9 _ _ (s7.alloc _) (by omega) (Box.new _ _ _) (by omega) rfl (by omega) (by omega) ?hlens).mono ?_
        case hlens =>
          intro v hv
          have h10 : (⟨#[10]⟩ : ByteArray).size = 1 := rfl
          simp only [List.mem_cons, List.not_mem_nil, or_false] at hv
          rcases hv with rfl | rfl | rfl | rfl
          · exact ⟨_, rfl, by decide⟩
          · exact ⟨_, rfl, by rw [ByteArray.size_append]; omega⟩
          · exact ⟨_, rfl, by rw [ByteArray.size_append]; omega⟩
          · exact ⟨_, rfl, by rw [ByteArray.size_append]; omega⟩
        rintro e w8 ⟨y, hy, rfl, h8, s8⟩
        have hst8 := (hst7.alloc _).trans h8
        go_wp2_with fail
        go_ret
        exact ⟨_, by omega, rfl, hst8, s8.mono (by omega)⟩
    · rw [decide_eq_false h0] at hie
      go_wp2_with fail
      refine (flip_any S (B + 1 + (k : Int)) _ _ hsm (by omega) (by omega) (by omega)).mono ?_
      rintro e w4 ⟨bf, rfl, h4, s4⟩
      have hst4 := hst.trans h4
      have hz4 := h4.size
      cases bf
      · go_wp2_with fail
        go_ret
        exact ⟨_, (by rw [ByteArray.size_append]; omega), rfl, hst4, s4.mono (by omega)⟩
      · go_wp2_with fail
        refine (repeat2_any 97 32 600 _ (by omega)).mono ?_
        rintro e w5 ⟨y0, hy0, rfl, hb5⟩
        have hst5 := hst4.trans (Stp.of_below hb5)
        have s5 := s4.below hb5
        have hz5 := hb5.size
        clear hst4 s4 hb5
        go_wp2_with fail
        refine (repeat2_any 97 32 601 _ (by omega)).mono ?_
        rintro e w6 ⟨y1, hy1, rfl, hb6⟩
        have hst6 := hst5.trans (Stp.of_below hb6)
        have s6 := s5.below hb6
        have hz6 := hb6.size
        clear hst5 s5 hb6
        go_wp2_with fail
        refine (repeat_any 97 20000 _ (by omega)).mono ?_
        rintro e w7 ⟨y2, hy2, rfl, hb7⟩
        have hst7 := hst6.trans (Stp.of_below hb7)
        have s7 := s6.below hb7
        have hz7 := hb7.size
        clear hst6 s6 hb7
        go_wp2_with fail
        refine (oneW_any 20001 S (B + 1 + (k : Int) + 1) _ 4 4 9 _ _ (s7.alloc _) (by omega) (Box.new _ _ _) (by omega) rfl (by omega) (by omega) ?hlens).mono ?_
        case hlens =>
          intro v hv
          have h10 : (⟨#[10]⟩ : ByteArray).size = 1 := rfl
          simp only [List.mem_cons, List.not_mem_nil, or_false] at hv
          rcases hv with rfl | rfl | rfl | rfl
          · exact ⟨_, rfl, by decide⟩
          · exact ⟨_, rfl, by rw [ByteArray.size_append]; omega⟩
          · exact ⟨_, rfl, by rw [ByteArray.size_append]; omega⟩
          · exact ⟨_, rfl, by rw [ByteArray.size_append]; omega⟩
        rintro e w8 ⟨y, hy, rfl, h8, s8⟩
        have hst8 := (hst7.alloc _).trans h8
        go_wp2_with fail
        go_ret
        exact ⟨_, by omega, rfl, hst8, s8.mono (by omega)⟩

def SomeDrafts (S : Nat) (B : Int) (n : Nat) (w : World) (e : Ending) (w' : World) : Prop :=
  ∃ (v : Value) (ds : List Drf), e = .returned v ∧ ds.length ≤ n ∧ (∀ d ∈ ds, d.1.size ≤ 1000 ∧ d.2.size ≤ 30000) ∧ Own w.heap.size 131 w' v ds ∧ Stp S w w' ∧ Strm S B w'
theorem Tryz.infoDraft : (Tryz.prog.info? 131).map (fun i => (i.zero, i.size, i.bytes)) = some (some (.agg #[.string ⟨#[]⟩, .string ⟨#[]⟩]), 2, 32) := by kernel_rfl
theorem all_drf {l : List Drf} {d : Drf} (h : ∀ x ∈ l, x.1.size ≤ 1000 ∧ x.2.size ≤ 30000) (hd : d.1.size ≤ 1000 ∧ d.2.size ≤ 30000) : ∀ x ∈ l ++ [d], x.1.size ≤ 1000 ∧ x.2.size ≤ 30000 := fun x hx => by
  rcases List.mem_append.1 hx with hx | hx
  · exact h x hx
  · rw [List.mem_singleton.1 hx]; exact hd
set_option maxRecDepth 100000 in
set_option maxHeartbeats 8000000 in
theorem drafts_any (S : Nat) (B : Int) (most : Nat) (w : World) (hs : Strm S B w) (hB : B ≤ 999900000) (hm : most ≤ 20) :
    Calls Tryz.prog 32 #[.pointer (some ⟨S, 0, none⟩), .int .i64 most] w (SomeDrafts S (B + 20 * most + 10) most w) := by
  have hS := hs.lt
  go_enter Tryz.func32, Tryz.ntmps32
  go_wp2_with fail
  refine (next_any S B (most + 1) w hs (by omega) (by omega) (by omega)).mono ?_
  rintro e w0 ⟨r, ⟨hr, hr2⟩, rfl, h0, s0⟩
  obtain ⟨m, rfl⟩ := Int.eq_ofNat_of_zero_le hr
  have hz0 := h0.size
  clear hs
  go_wp2_with fail
  go_loopg [5, 11] m (fun gk v i wr => ∃ (k : Nat) (acc : List Drf), i = .int .i64 k ∧ k ≤ m ∧ Hid (gk = m - k) ∧ acc.length ≤ k ∧ Hid (∀ d ∈ acc, d.1.size ≤ 1000 ∧ d.2.size ≤ 30000) ∧ Own w.heap.size 131 wr v acc ∧ Stp S w wr ∧ Strm S (B + 1 + 20 * k) wr)
  case atStart => exact ⟨0, [], rfl, by omega, rfl, Nat.le_refl _, (fun d hd => (by cases hd)), Own.nil _ _ _, h0, by simpa using s0⟩
  clear h0 s0
  obtain ⟨k, acc, rfl, hk, hgk, hal, hsz, hown, hst, hsm⟩ := hrel
  have hz := hst.size
  have hSr := hsm.lt
  by_cases hlt : k < m
  · obtain ⟨x, hx, hcx⟩ : ∃ x : ByteArray, x.size ≤ 4 ∧ ∀ W, (convert 21 9 (.int .i32 (97 + (k : Int)))).run Tryz.prog W = .ok (.string x) W := ⟨_, encode_size_le _, fun W => run_convert_int_string W _ _ _ _ (by kernel_rfl) Tryz.underlying9⟩
    have hw32 : IntKind.i32.wrap (97 + (k : Int)) = 97 + (k : Int) := IntWalk.i32_in _ (by omega)
    go_wp2_with fail
    clear hcx hw32
    refine (draft_any S (B + 1 + 20 * k) _ hsm (by omega)).mono ?_
    rintro e w1 ⟨t, ht, rfl, h1, s1⟩
    have hst1 := hst.trans h1
    have hown1 := hown.stp h1 (by omega)
    have hz1 := h1.size
    have hidS : ((⟨#[112]⟩ : ByteArray) ++ x).size ≤ 1000 := by rw [ByteArray.size_append]; show 1 + _ ≤ _; omega
    generalize (⟨#[112]⟩ : ByteArray) ++ x = idS at *
    have HlO := Lib.hid hown1.lt
    clear hown hst hsm h1
    go_wp2_with (at_builtin; refine wpList_append_lie (α := Drf) rfl _ _ 71 rfl 131 32 (.agg #[.string ⟨#[]⟩, .string ⟨#[]⟩]) Tryz.underlying71 Tryz.infoDraft rfl _ acc rfl (hown1.alloc _) (idS, t) _ rfl (Box.new _ _ _) (by omega) (by omega) (by simp; omega) ?_; intro g9 cap9 w9 hown9 hg9 hat9)
    have hst9 := (hst1.alloc (.cells #[.string idS, .string t] 131)).grown hg9 (fun j hj => .inr ((HlO.out j hj).1))
    have s9 := (s1.alloc (.cells #[.string idS, .string t] 131)).grown hg9 (fun j hj => by have := (HlO.out j hj).1; omega)
    have hsz9 := all_drf hsz.out (d := (idS, t)) ⟨hidS, ht⟩
    (try go_wp2_with fail)
    go_roundg (m - (k + 1))
    case measure => have := hgk.out; omega
    case rel => exact ⟨k + 1, acc ++ [(idS, t)], by go_num, by omega, rfl, by rw [List.length_append]; simp; omega, hsz9, hown9, hst9, s9.mono (by omega)⟩
  · obtain rfl : k = m := by omega
    clear hgk hk hlt hr
    have hwz := hst.size
    go_wp2_with fail
    refine (flip_any S (B + 1 + 20 * k) _ _ hsm (by omega) (by omega) (by omega)).mono ?_
    rintro e w4 ⟨bf, rfl, h4, s4⟩
    have hst4 := hst.trans h4
    have hown4 := hown.stp h4 (by omega)
    have hz4 := h4.size
    clear hst hown hsm h4
    cases bf
    · go_wp2_with fail
      go_ret
      exact ⟨_, acc, rfl, by omega, hsz.out, hown4, hst4, s4.mono (by omega)⟩
    · obtain ⟨a5, c5, rfl, hsa, hbl, hcp⟩ := hown4.sa
      by_cases h0 : acc.length = 0
      · obtain rfl := List.length_eq_zero_iff.1 h0
        go_wp2_with fail
        go_ret
        exact ⟨_, [], rfl, by omega, hsz.out, hown4, hst4, s4.mono (by omega)⟩
      · have hd0 : decide ((0 : Int) < (acc.length : Int)) = true := decide_eq_true (by omega)
        obtain ⟨g, hg⟩ : ∃ g, a5 = some ⟨g, 0, none⟩ := by
          obtain ⟨a6, c6, e, -, h6⟩ := hown4.form
          cases e
          rcases h6 with h6 | ⟨g, h6, -⟩
          · rcases hsa with h | ⟨b, off, h, _⟩
            · rw [h] at h0; exact absurd rfl h0
            · rw [h6] at h; cases h
          · exact ⟨g, h6⟩
        subst hg
        go_wp2_with fail
        refine (next_any S (B + 1 + 20 * k + 1) _ _ s4 (by omega) (by omega) (by omega)).mono ?_
        rintro e w5 ⟨r, ⟨hr, hr2⟩, rfl, h5, s5⟩
        obtain ⟨n, rfl⟩ := Int.eq_ofNat_of_zero_le hr
        have hnl : n < acc.length := by omega
        have hst5 := hst4.trans h5
        have hown5 := hown4.stp h5 (by omega)
        have hz5 := h5.size
        clear hst4 hown4 s4 h5 hsa
        go_wp2_with fail
        refine (one_any S (B + 1 + 20 * k + 1 + 1) _ 3 3 9 _ _ (s5.alloc _) (by omega) (Box.new _ _ _) (by have := s5.lt; omega) rfl (by omega) (by omega) (by simp; decide)).mono ?_
        rintro e w6 ⟨y, hy, rfl, h6, s6⟩
        have hst6 := (hst5.alloc _).trans h6
        have hown6 := (hown5.alloc _).stp h6 (by omega)
        obtain ⟨cur, hbox⟩ := hown6.box
        have hsz9 : ∀ d ∈ acc.set n (y, acc[n].2), d.1.size ≤ 1000 ∧ d.2.size ≤ 30000 := fun d hd => by
          rcases List.mem_or_eq_of_mem_set hd with h | h
          · exact hsz.out d h
          · rw [h]; exact ⟨hy, (hsz.out _ (List.getElem_mem hnl)).2⟩
        have hown7 := hown6.put n 0 (y, acc[n].2) (.string y) hnl (by decide) rfl
        have hgl := (hbl _ rfl).1
        obtain ⟨a7, c7, e7, hsa7, -, -⟩ := hown6.sa
        obtain ⟨b6, o6, e6, d0, d1⟩ := hsa7.drf hnl
        cases e7
        cases e6
        rw [Nat.zero_add] at d0
        have hfr := hbox.frozen (n * 2)
        have hst7 := hst6.setCell (p := ⟨g, n * 2, none⟩) (.inr hgl) (.string y)
        have s7 := s6.setOther (p := ⟨g, n * 2, none⟩) (by show S < g; have : w.heap.size ≤ g := hgl; omega) (.string y)
        rw [show n * Cel.k Drf + 0 = n * 2 from rfl] at hown7
        clear hown6 hsa7 hbox hst6 s6 hst5 hown5 s5 h6
        go_wp2_with fail
        go_ret
        exact ⟨_, acc.set n (y, acc[n].2), rfl, by rw [List.length_set]; omega, hsz9, hown7, hst7, s7.mono (by omega)⟩
end Go.Proofs.YtlpknpjfmacemaaGreatDoor
