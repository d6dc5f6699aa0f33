/- The makers of texts and forms. -/
import Derived.Test.YtlpknpjfmacemaaGreatDoorMakeList
import Derived.Test.YtlpknpjfmacemaaGreatDoorRange
import Derived.Test.YtlpknpjfmacemaaGreatDoorForm1
import Derived.Test.YtlpknpjfmacemaaGreatDoorRegF
namespace Go.Proofs.YtlpknpjfmacemaaGreatDoor
open Go.RowKit
set_option linter.unusedVariables false
set_option linter.unusedSimpArgs false

set_option maxHeartbeats 400000 in
theorem oneW_any (M S : Nat) (B : Int) (b n cap T : Nat) (vs : Array Value) (w : World) (hs : Strm S B w) (hB : B ≤ 1000000000) (hbox : Box w b T vs) (hbS : b ≠ S) (hn : vs.size = n) (hl1 : 1 ≤ n) (hl2 : n ≤ 1000)
    (hc : ∀ v ∈ vs.toList, ∃ s : ByteArray, v = .string s ∧ s.size ≤ M) :
    Calls Tryz.prog 51 #[.pointer (some ⟨S, 0, none⟩), .slice (some ⟨b, 0, none⟩) n cap] w (fun e w' => ∃ x : ByteArray, x.size ≤ M ∧ e = .returned (.string x) ∧ Stp S w w' ∧ Strm S (B + 1) w') := by
  have Hc := Lib.hid hc
  clear hc
  go_enter Tryz.func51, Tryz.ntmps51
  go_wp2_with fail
  refine (next_any S B _ _ hs hB (by omega) (by omega)).mono ?_
  rintro e w' ⟨r, ⟨hr, hr2⟩, rfl, h1, h2⟩
  obtain ⟨i, rfl⟩ := Int.eq_ofNat_of_zero_le hr
  have hi : i < n := by omega
  obtain ⟨s, hs1, hs2⟩ := Hc.out vs[i] (by simp)
  have hc : w'.cell? ⟨b, i, none⟩ = some (.string s) := by rw [(hbox.stp h1 hbS).cell i, Array.getElem?_eq_getElem (by omega), hs1]
  clear hs1
  go_wp2_with fail
  go_ret
  exact ⟨_, hs2, rfl, h1, h2⟩
def SomeText (S : Nat) (B : Int) (w : World) (e : Ending) (w' : World) : Prop := ∃ x : ByteArray, x.size ≤ 30000 ∧ e = .returned (.string x) ∧ Stp S w w' ∧ Strm S (B + 20) w'
set_option maxRecDepth 100000 in
set_option maxHeartbeats 8000000 in
theorem paperText_any (S : Nat) (B : Int) (w : World) (hs : Strm S B w) (hB : B ≤ 999999000) : Calls Tryz.prog 6 #[.pointer (some ⟨S, 0, none⟩)] w (SomeText S B w) := by
  have hS := hs.lt
  go_enter Tryz.func6, Tryz.ntmps6
  go_wp2_with fail
  refine (next_any S B _ _ hs (by omega) (by omega) (by omega)).mono ?_
  rintro e w1 ⟨r, ⟨hr, hr2⟩, rfl, h1, s1⟩
  obtain ⟨n, rfl⟩ := Int.eq_ofNat_of_zero_le hr
  have hn : n < 12 := by omega
  have hz1 := h1.size
  clear hr hr2 hs
  go_wp2_with fail
  go_loopg [3, 6] n (fun gk v i wr => ∃ (k : Nat) (t : ByteArray), v = .string t ∧ i = .int .i64 k ∧ k ≤ n ∧ Hid (gk = n - k) ∧ t.size ≤ k * 1000 ∧ Stp S w wr ∧ Strm S (B + 1 + (k : Int)) wr)
  case atStart => exact ⟨0, ⟨#[]⟩, rfl, rfl, by omega, rfl, Nat.zero_le _, h1, by simpa using s1⟩
  clear h1 s1
  obtain ⟨k, t, rfl, rfl, hk, hgk, ht, hst, hsm⟩ := hrel
  have hzr := hst.size
  by_cases hlt : k < n
  · go_wp2_with fail
    refine (one_any S (B + 1 + (k : Int)) _ 21 21 9 _ _ (hsm.alloc _) (by omega) (Box.new _ _ _) (by have := hsm.lt; omega) rfl (by omega) (by omega) (by simp; decide)).mono ?_
    rintro e w6 ⟨y, hy, rfl, h6, s6⟩
    have hst6 := (hst.alloc _).trans h6
    go_wp2_with fail
    go_roundg (n - (k + 1))
    case measure => have := hgk.out; omega
    case rel => exact ⟨k + 1, t ++ y, rfl, by go_num, by omega, rfl, by rw [ByteArray.size_append]; omega, hst6, s6.mono (by omega)⟩
  · obtain rfl : k = n := by omega
    have hie := isEmpty_size t
    have hHS := Lib.hid (fun W => hasSuffix_any t ⟨#[10]⟩ W (by omega))
    clear hgk hk hlt
    rename World => w3
    by_cases h0 : t.size = 0
    · rw [decide_eq_true h0] at hie
      go_wp2_with fail
      refine (next_any S (B + 1 + (k : Int)) _ _ hsm (by omega) (by omega) (by omega)).mono ?_
      rintro e w4 ⟨r2, ⟨hr2, hr3⟩, rfl, h4, s4⟩
      have hst4 := hst.trans h4
      have hz4 := h4.size
      by_cases e0 : r2 = 0
      · subst e0
        go_wp2_with fail
        go_ret
        exact ⟨_, by simp only [ByteArray.size_append]; have : (⟨#[120]⟩ : ByteArray).size = 1 := rfl; have : (⟨#[10]⟩ : ByteArray).size = 1 := rfl; omega, rfl, hst4, s4.mono (by omega)⟩
      · by_cases e1 : r2 = 1
        · subst e1
          go_wp2_with fail
          refine (repeat_any 116 20000 _ (by omega)).mono ?_
          rintro e w5 ⟨y0, hy0, rfl, hb5⟩
          have hst5 := hst4.trans (Stp.of_below hb5)
          have s5 := s4.below hb5
          have hz5 := hb5.size
          clear hst4 s4 hb5
          go_wp2_with fail
          refine (oneW_any 20001 S (B + 1 + (k : Int) + 1) _ 3 3 9 _ _ (s5.alloc _) (by omega) (Box.new _ _ _) (by omega) rfl (by omega) (by omega) ?hlens).mono ?_
          case hlens =>
            intro v hv
            simp only [List.mem_cons, List.not_mem_nil, or_false] at hv
            rcases hv with rfl | rfl | rfl
            · exact ⟨_, rfl, by decide⟩
            · exact ⟨_, rfl, by decide⟩
            · exact ⟨_, rfl, by simp [ByteArray.size_append]; first | omega | (have : (⟨#[10]⟩ : ByteArray).size = 1 := rfl; omega)⟩
          rintro e w6 ⟨y, hy, rfl, h6, s6⟩
          have hst6 := (hst5.alloc _).trans h6
          go_wp2_with fail
          go_ret
          exact ⟨_, by omega, rfl, hst6, s6.mono (by omega)⟩
        · have hq0 : (r2 == 0) = false := by rw [beq_eq_false_iff_ne]; exact e0
          have hq1 : (r2 == 1) = false := by rw [beq_eq_false_iff_ne]; exact e1
          clear e0 e1
          go_wp2_with fail
          go_ret
          exact ⟨_, by (try simp only [ByteArray.size_append]); have : (⟨#[10]⟩ : ByteArray).size = 1 := rfl; omega, rfl, hst4, s4.mono (by omega)⟩
    · rw [decide_eq_false h0] at hie
      cases hsf : Lib.hasSuffix t.data.toList (⟨#[10]⟩ : ByteArray).data.toList
      all_goals
        rw [hsf] at hHS
        go_wp2_with fail
        refine (hHS.out _).mono ?_
        rintro e w2 ⟨rfl, rfl⟩
        go_wp2_with fail
      · refine (next_any S (B + 1 + (k : Int)) _ _ hsm (by omega) (by omega) (by omega)).mono ?_
        rintro e w4 ⟨r2, ⟨hr2, hr3⟩, rfl, h4, s4⟩
        have hst4 := hst.trans h4
        have hz4 := h4.size
        by_cases e0 : r2 = 0
        · subst e0
          go_wp2_with fail
          go_ret
          exact ⟨_, by simp only [ByteArray.size_append]; have : (⟨#[120]⟩ : ByteArray).size = 1 := rfl; have : (⟨#[10]⟩ : ByteArray).size = 1 := rfl; omega, rfl, hst4, s4.mono (by omega)⟩
        · by_cases e1 : r2 = 1
          · subst e1
            go_wp2_with fail
            refine (repeat_any 116 20000 _ (by omega)).mono ?_
            rintro e w5 ⟨y0, hy0, rfl, hb5⟩
            have hst5 := hst4.trans (Stp.of_below hb5)
            have s5 := s4.below hb5
            have hz5 := hb5.size
            clear hst4 s4 hb5
            go_wp2_with fail
            refine (oneW_any 20001 S (B + 1 + (k : Int) + 1) _ 3 3 9 _ _ (s5.alloc _) (by omega) (Box.new _ _ _) (by omega) rfl (by omega) (by omega) ?hlens).mono ?_
            case hlens =>
              intro v hv
              simp only [List.mem_cons, List.not_mem_nil, or_false] at hv
              rcases hv with rfl | rfl | rfl
              · exact ⟨_, rfl, by decide⟩
              · exact ⟨_, rfl, by decide⟩
              · exact ⟨_, rfl, by simp [ByteArray.size_append]; first | omega | (have : (⟨#[10]⟩ : ByteArray).size = 1 := rfl; omega)⟩
            rintro e w6 ⟨y, hy, rfl, h6, s6⟩
            have hst6 := (hst5.alloc _).trans h6
            go_wp2_with fail
            go_ret
            exact ⟨_, by omega, rfl, hst6, s6.mono (by omega)⟩
          · have hq0 : (r2 == 0) = false := by rw [beq_eq_false_iff_ne]; exact e0
            have hq1 : (r2 == 1) = false := by rw [beq_eq_false_iff_ne]; exact e1
            clear e0 e1
            go_wp2_with fail
            go_ret
            exact ⟨_, by (try simp only [ByteArray.size_append]); have : (⟨#[10]⟩ : ByteArray).size = 1 := rfl; omega, rfl, hst4, s4.mono (by omega)⟩
      · refine (next_any S (B + 1 + (k : Int)) _ _ hsm (by omega) (by omega) (by omega)).mono ?_
        rintro e w4 ⟨r2, ⟨hr2, hr3⟩, rfl, h4, s4⟩
        have hst4 := hst.trans h4
        have hz4 := h4.size
        by_cases e0 : r2 = 0
        · subst e0
          go_wp2_with fail
          go_ret
          exact ⟨_, by simp only [ByteArray.size_append]; have : (⟨#[120]⟩ : ByteArray).size = 1 := rfl; have : (⟨#[10]⟩ : ByteArray).size = 1 := rfl; omega, rfl, hst4, s4.mono (by omega)⟩
        · by_cases e1 : r2 = 1
          · subst e1
            go_wp2_with fail
            refine (repeat_any 116 20000 _ (by omega)).mono ?_
            rintro e w5 ⟨y0, hy0, rfl, hb5⟩
            have hst5 := hst4.trans (Stp.of_below hb5)
            have s5 := s4.below hb5
            have hz5 := hb5.size
            clear hst4 s4 hb5
            go_wp2_with fail
            refine (oneW_any 20001 S (B + 1 + (k : Int) + 1) _ 3 3 9 _ _ (s5.alloc _) (by omega) (Box.new _ _ _) (by omega) rfl (by omega) (by omega) ?hlens).mono ?_
            case hlens =>
              intro v hv
              simp only [List.mem_cons, List.not_mem_nil, or_false] at hv
              rcases hv with rfl | rfl | rfl
              · exact ⟨_, rfl, by decide⟩
              · exact ⟨_, rfl, by decide⟩
              · exact ⟨_, rfl, by simp [ByteArray.size_append]; first | omega | (have : (⟨#[10]⟩ : ByteArray).size = 1 := rfl; omega)⟩
            rintro e w6 ⟨y, hy, rfl, h6, s6⟩
            have hst6 := (hst5.alloc _).trans h6
            go_wp2_with fail
            go_ret
            exact ⟨_, by omega, rfl, hst6, s6.mono (by omega)⟩
          · have hq0 : (r2 == 0) = false := by rw [beq_eq_false_iff_ne]; exact e0
            have hq1 : (r2 == 1) = false := by rw [beq_eq_false_iff_ne]; exact e1
            clear e0 e1
            go_wp2_with fail
            go_ret
            exact ⟨_, by (try simp only [ByteArray.size_append]); have : (⟨#[10]⟩ : ByteArray).size = 1 := rfl; omega, rfl, hst4, s4.mono (by omega)⟩

def SomeForm (S : Nat) (B : Int) (w : World) (e : Ending) (w' : World) : Prop :=
  ∃ f : Frm, e = .returned (encForm f) ∧ f.must.length ≤ 10 ∧ f.must.length ≤ f.c ∧ (∀ x ∈ f.must, x.size ≤ 1000) ∧ SA w' f.a f.must ∧ (∀ x : Addr, f.a = some x → w.heap.size < x.block) ∧ Stp S w w' ∧ Strm S (B + 20) w'
set_option maxRecDepth 100000 in
set_option maxHeartbeats 8000000 in
theorem form_any (S : Nat) (B : Int) (w : World) (hs : Strm S B w) (hB : B ≤ 999990000) : Calls Tryz.prog 7 #[.pointer (some ⟨S, 0, none⟩)] w (SomeForm S B w) := by
  have hS := hs.lt
  have hst : Stp S w (w.alloc (.cells #[.int .i64 0, .int .i64 0, .int .i64 0, .slice none 0 0, .int .i64 0] 29)) := (Stp.refl S w).alloc _
  have hsm : Strm S (B + 0) (w.alloc (.cells #[.int .i64 0, .int .i64 0, .int .i64 0, .slice none 0 0, .int .i64 0] 29)) := by rw [Int.add_zero]; exact hs.alloc _
  have hR := Box.new w 29 #[.int .i64 0, .int .i64 0, .int .i64 0, .slice none 0 0, .int .i64 0]
  clear hs
  go_enter Tryz.func7, Tryz.ntmps7
  go_upto_region 1 with (fail)
  generalize w.alloc (.cells #[.int .i64 0, .int .i64 0, .int .i64 0, .slice none 0 0, .int .i64 0] 29) = w0 at *
  go_wp2_with fail
  refine (pick_box S (B + 0) _ 3 3 [0, 3, 10] _ (hsm.alloc _) (by omega) (Box.new _ _ _) (by have := hsm.lt; omega) (by decide) (by decide)).mono ?_
  rintro e w1 ⟨pw1, -, rfl, h1, s1⟩
  replace hst := (hst.alloc _).trans h1
  replace hsm := s1
  replace hR := (hR.alloc _).stp h1 (by omega)
  clear h1 s1
  go_wp2_with fail
  refine (pick_box S (B + 0 + 1) _ 3 3 [10, 20, 100] _ (hsm.alloc _) (by omega) (Box.new _ _ _) (by have := hsm.lt; omega) (by decide) (by decide)).mono ?_
  rintro e w2 ⟨pw2, -, rfl, h1, s1⟩
  replace hst := (hst.alloc _).trans h1
  replace hsm := s1
  replace hR := (hR.alloc _).stp h1 (by omega)
  clear h1 s1
  go_wp2_with fail
  refine (pick_box S (B + 0 + 1 + 1) _ 3 4 [0, 0, 3, 10] _ (hsm.alloc _) (by omega) (Box.new _ _ _) (by have := hsm.lt; omega) (by decide) (by decide)).mono ?_
  rintro e w3 ⟨pw3, -, rfl, h1, s1⟩
  replace hst := (hst.alloc _).trans h1
  replace hsm := s1
  replace hR := (hR.alloc _).stp h1 (by omega)
  clear h1 s1
  go_wp2_with fail
  refine (pick_box S (B + 0 + 1 + 1 + 1) _ 3 3 [1, 2, 4] _ (hsm.alloc _) (by omega) (Box.new _ _ _) (by have := hsm.lt; omega) (by decide) (by decide)).mono ?_
  rintro e w4 ⟨pw4, -, rfl, h1, s1⟩
  replace hst := (hst.alloc _).trans h1
  replace hsm := s1
  replace hR := (hR.alloc _).stp h1 (by omega)
  clear h1 s1
  go_wp2_with fail
  have hxa := (Box.new w4 9 #[.string ⟨#[105, 110, 116, 114, 111]⟩, .string ⟨#[109, 101, 116, 104, 111, 100]⟩, .string ⟨#[101, 110, 100]⟩]).sa ([⟨#[105, 110, 116, 114, 111]⟩, ⟨#[109, 101, 116, 104, 111, 100]⟩, ⟨#[101, 110, 100]⟩] : List ByteArray) rfl
  have hSl := hsm.lt
  have HSo := some_any S (B + 0 + 1 + 1 + 1 + 1) 2 [⟨#[105, 110, 116, 114, 111]⟩, ⟨#[109, 101, 116, 104, 111, 100]⟩, ⟨#[101, 110, 100]⟩] (some ⟨w4.heap.size, 0, none⟩) 3 _ (hsm.alloc (.cells #[.string ⟨#[105, 110, 116, 114, 111]⟩, .string ⟨#[109, 101, 116, 104, 111, 100]⟩, .string ⟨#[101, 110, 100]⟩] 9)) (by omega) (by omega) (by omega) hxa (fun x hx => by obtain rfl := Option.some.inj hx; show w4.heap.size ≠ S; omega) (by decide) (fun x hx => by simp only [List.mem_cons, List.not_mem_nil, or_false] at hx; rcases hx with rfl | rfl | rfl <;> (show _ ≤ _; decide))
  refine HSo.mono ?_
  rintro e w5 ⟨v5, l, rfl, hl, hall, hown, h5, s5⟩
  have hz4 := hst.size
  replace hst := (hst.alloc _).trans h5
  replace hR := (hR.alloc _).stp h5 (by omega)
  have hwl := hR.lt
  obtain ⟨ob, hob⟩ : ∃ ob, (w4.alloc (.cells #[.string ⟨#[105, 110, 116, 114, 111]⟩, .string ⟨#[109, 101, 116, 104, 111, 100]⟩, .string ⟨#[101, 110, 100]⟩] 9)).heap.size = ob := ⟨_, rfl⟩
  have hob2 : ob = w4.heap.size + 1 := by rw [← hob]; simp
  have hz5 := h5.size
  rw [hob] at hown hz5
  have hSob : S < ob := by omega
  have hwob : w.heap.size < ob := by omega
  clear hob hob2
  obtain ⟨ma, mc, rfl, hsa, hbl0, hcap⟩ := hown.sa
  have hbl : ∀ x : Addr, ma = some x → w.heap.size < x.block := fun x hx => by have := (hbl0 x hx).1; omega
  have hsm : Strm S (B + 8) w5 := s5.mono (by simp; omega)
  have hlen3 : l.length ≤ 3 := by simpa using hl
  have hlen : l.length ≤ 10 := by omega
  have hall : ∀ x ∈ l, x.size ≤ 1000 := hall
  have hst := hst.alloc (.cells #[.int .i64 pw1, .int .i64 pw2, .int .i64 pw3, .slice ma l.length mc, .int .i64 pw4] 29)
  have hR := hR.alloc (.cells #[.int .i64 pw1, .int .i64 pw2, .int .i64 pw3, .slice ma l.length mc, .int .i64 pw4] 29)
  have hsm := hsm.alloc (.cells #[.int .i64 pw1, .int .i64 pw2, .int .i64 pw3, .slice ma l.length mc, .int .i64 pw4] 29)
  have hsa := hsa.alloc (.cells #[.int .i64 pw1, .int .i64 pw2, .int .i64 pw3, .slice ma l.length mc, .int .i64 pw4] 29)
  have hownF := hown.alloc (.cells #[.int .i64 pw1, .int .i64 pw2, .int .i64 pw3, .slice ma l.length mc, .int .i64 pw4] 29)
  have hFb := Box.new w5 29 #[.int .i64 pw1, .int .i64 pw2, .int .i64 pw3, .slice ma l.length mc, .int .i64 pw4]
  have hSw := hSl
  have Hol := Lib.hid hown.lt
  have hbase5 : w.heap.size < w5.heap.size := by omega
  have hSq : S < w5.heap.size := by omega
  have hblq : ∀ x : Addr, ma = some x → x.block < w5.heap.size := fun x hx => (hbl0 x hx).2
  clear HSo hxa h5 s5 hown hbl0 hl
  go_upto_region 2 with (fail)
  have HolF := Lib.hid hownF.lt
  have hF6lt := hFb.lt
  generalize hq : w5.heap.size = q at *
  generalize w5.alloc (.cells #[.int .i64 pw1, .int .i64 pw2, .int .i64 pw3, .slice ma l.length mc, .int .i64 pw4] 29) = w6 at *
  clear hq
  go_wp2_with fail
  refine (flip_any S (B + 8) 12 _ hsm (by omega) (by omega) (by omega)).mono ?_
  rintro e w7 ⟨fl, rfl, h7, s7⟩
  replace hst := hst.trans h7
  replace hR := hR.stp h7 (by omega)
  replace hFb := hFb.stp h7 (by omega)
  replace hsa := hsa.stp h7 (fun x hx => by have := hbl x hx; omega)
  replace hownF := hownF.stp h7 (by omega)
  replace hsm := s7
  clear h7 s7
  cases fl
  · have hzW := hst.size
    have hKf := (((((Kp.refl (fun b => b = w.heap.size) w7).setCell (p := ⟨w.heap.size, 0, none⟩) (.inl rfl) (.int .i64 pw1)).setCell (p := ⟨w.heap.size, 1, none⟩) (.inl rfl) (.int .i64 pw2)).setCell (p := ⟨w.heap.size, 2, none⟩) (.inl rfl) (.int .i64 pw3)).setCell (p := ⟨w.heap.size, 3, none⟩) (.inl rfl) (.slice ma (l).length mc)).setCell (p := ⟨w.heap.size, 4, none⟩) (.inl rfl) (.int .i64 pw4)
    have hstf := ((((hst.setCell (p := ⟨w.heap.size, 0, none⟩) (.inr (Nat.le_refl _)) (.int .i64 pw1)).setCell (p := ⟨w.heap.size, 1, none⟩) (.inr (Nat.le_refl _)) (.int .i64 pw2)).setCell (p := ⟨w.heap.size, 2, none⟩) (.inr (Nat.le_refl _)) (.int .i64 pw3)).setCell (p := ⟨w.heap.size, 3, none⟩) (.inr (Nat.le_refl _)) (.slice ma (l).length mc)).setCell (p := ⟨w.heap.size, 4, none⟩) (.inr (Nat.le_refl _)) (.int .i64 pw4)
    have hsaf := hsa.kp hKf (fun x hx _ e => by have := hbl x hx; omega)
    have hsmf := hsm.kp hKf (fun j hj e => by omega)
    have hfr0 := hR.frozen 0
    have hfr1 := hR.frozen 1
    have hfr2 := hR.frozen 2
    have hfr3 := hR.frozen 3
    have hfr4 := hR.frozen 4
    have hR_l := hR.lt; have hR_0 := hR.cell 0; have hR_1 := hR.cell 1; have hR_2 := hR.cell 2; have hR_3 := hR.cell 3; have hR_4 := hR.cell 4; simp at hR_0 hR_1 hR_2 hR_3 hR_4
    have hFb_l := hFb.lt; have hFb_0 := hFb.cell 0; have hFb_1 := hFb.cell 1; have hFb_2 := hFb.cell 2; have hFb_3 := hFb.cell 3; have hFb_4 := hFb.cell 4; simp at hFb_0 hFb_1 hFb_2 hFb_3 hFb_4
    clear hsa hsm hst
    go_wp2_with fail
    exact bodyPost_ret (v := .agg #[.int .i64 pw1, .int .i64 pw2, .int .i64 pw3, .slice ma (l).length mc, .int .i64 pw4]) (by simp only [results, Tryz.results7]; go_simp) rfl ⟨⟨pw1, pw2, pw3, l, ma, mc, pw4⟩, rfl, hlen, hcap, hall, hsaf, hbl, hstf, hsmf.mono (by omega)⟩
  · go_wp2_with fail
    refine (next_any S (B + 8 + 1) 4 _ hsm (by omega) (by omega) (by omega)).mono ?_
    rintro e w8 ⟨r, ⟨hr, hr2⟩, rfl, h8, s8⟩
    replace hst := hst.trans h8
    replace hR := hR.stp h8 (by omega)
    replace hFb := hFb.stp h8 (by omega)
    replace hsa := hsa.stp h8 (fun x hx => by have := hbl x hx; omega)
    replace hownF := hownF.stp h8 (by omega)
    replace hsm := s8
    clear h8 s8
    obtain rfl | rfl | rfl | rfl : r = 0 ∨ r = 1 ∨ r = 2 ∨ r = 3 := by omega
    · go_wp2_with fail
      refine (pick_box S (B + 8 + 1 + 1) _ 3 3 [-1, 5, 30] _ (hsm.alloc _) (by omega) (Box.new _ _ _) (by have := hsm.lt; omega) (by decide) (by decide)).mono ?_
      rintro e w9 ⟨pw9, -, rfl, h1, s1⟩
      replace hst := (hst.alloc _).trans h1
      replace hsm := s1
      replace hR := (hR.alloc _).stp h1 (by omega)
      replace hFb := (hFb.alloc _).stp h1 (by omega)
      replace hsa := (hsa.alloc _).stp h1 (fun x hx => by have := hbl x hx; omega)
      replace hownF := (hownF.alloc _).stp h1 (by omega)
      clear h1 s1
      go_wp2_with fail
      refine (pick_box S (B + 8 + 1 + 1 + 1) _ 3 3 [4, 20000, 20001] _ (hsm.alloc _) (by omega) (Box.new _ _ _) (by have := hsm.lt; omega) (by decide) (by decide)).mono ?_
      rintro e w10 ⟨pw10, -, rfl, h1, s1⟩
      replace hst := (hst.alloc _).trans h1
      replace hsm := s1
      replace hR := (hR.alloc _).stp h1 (by omega)
      replace hFb := (hFb.alloc _).stp h1 (by omega)
      replace hsa := (hsa.alloc _).stp h1 (fun x hx => by have := hbl x hx; omega)
      replace hownF := (hownF.alloc _).stp h1 (by omega)
      clear h1 s1
      skip
      have hfq0 := hFb.frozen 0
      have hfq1 := hFb.frozen 1
      have hfq2 := hFb.frozen 2
      have hfq3 := hFb.frozen 3
      have hfq4 := hFb.frozen 4
      have hFb_l := hFb.lt; have hFb_0 := hFb.cell 0; have hFb_1 := hFb.cell 1; have hFb_2 := hFb.cell 2; have hFb_3 := hFb.cell 3; have hFb_4 := hFb.cell 4; simp at hFb_0 hFb_1 hFb_2 hFb_3 hFb_4
      have hKs := (Kp.refl (fun b => b = q) (w10)).setCell (p := ⟨q, 0, none⟩) (.inl rfl) (.int .i64 pw9)
      replace hsa := hsa.kp hKs (fun x hx _ e => by have := hblq x hx; omega)
      replace hst := hst.setCell (p := ⟨q, 0, none⟩) (.inr (by show w.heap.size ≤ q; omega)) (.int .i64 pw9)
      replace hsm := hsm.kp hKs (fun j hj e => by omega)
      replace hR := hR.kp hKs (by omega)
      replace hFb := hFb.set 0 (.int .i64 pw9)
      clear hKs
      have hKs := (Kp.refl (fun b => b = q) (w10.setCell ⟨q, 0, none⟩ (.int .i64 pw9))).setCell (p := ⟨q, 1, none⟩) (.inl rfl) (.int .i64 pw10)
      replace hsa := hsa.kp hKs (fun x hx _ e => by have := hblq x hx; omega)
      replace hst := hst.setCell (p := ⟨q, 1, none⟩) (.inr (by show w.heap.size ≤ q; omega)) (.int .i64 pw10)
      replace hsm := hsm.kp hKs (fun j hj e => by omega)
      replace hR := hR.kp hKs (by omega)
      replace hFb := hFb.set 1 (.int .i64 pw10)
      clear hKs
      have hzW := hst.size
      have hKf := (((((Kp.refl (fun b => b = w.heap.size) ((w10.setCell ⟨q, 0, none⟩ (.int .i64 pw9)).setCell ⟨q, 1, none⟩ (.int .i64 pw10))).setCell (p := ⟨w.heap.size, 0, none⟩) (.inl rfl) (.int .i64 pw9)).setCell (p := ⟨w.heap.size, 1, none⟩) (.inl rfl) (.int .i64 pw10)).setCell (p := ⟨w.heap.size, 2, none⟩) (.inl rfl) (.int .i64 pw3)).setCell (p := ⟨w.heap.size, 3, none⟩) (.inl rfl) (.slice ma (l).length mc)).setCell (p := ⟨w.heap.size, 4, none⟩) (.inl rfl) (.int .i64 pw4)
      have hstf := ((((hst.setCell (p := ⟨w.heap.size, 0, none⟩) (.inr (Nat.le_refl _)) (.int .i64 pw9)).setCell (p := ⟨w.heap.size, 1, none⟩) (.inr (Nat.le_refl _)) (.int .i64 pw10)).setCell (p := ⟨w.heap.size, 2, none⟩) (.inr (Nat.le_refl _)) (.int .i64 pw3)).setCell (p := ⟨w.heap.size, 3, none⟩) (.inr (Nat.le_refl _)) (.slice ma (l).length mc)).setCell (p := ⟨w.heap.size, 4, none⟩) (.inr (Nat.le_refl _)) (.int .i64 pw4)
      have hsaf := hsa.kp hKf (fun x hx _ e => by have := hbl x hx; omega)
      have hsmf := hsm.kp hKf (fun j hj e => by omega)
      have hfr0 := hR.frozen 0
      have hfr1 := hR.frozen 1
      have hfr2 := hR.frozen 2
      have hfr3 := hR.frozen 3
      have hfr4 := hR.frozen 4
      have hR_l := hR.lt; have hR_0 := hR.cell 0; have hR_1 := hR.cell 1; have hR_2 := hR.cell 2; have hR_3 := hR.cell 3; have hR_4 := hR.cell 4; simp at hR_0 hR_1 hR_2 hR_3 hR_4
      have hFb_l := hFb.lt; have hFb_0 := hFb.cell 0; have hFb_1 := hFb.cell 1; have hFb_2 := hFb.cell 2; have hFb_3 := hFb.cell 3; have hFb_4 := hFb.cell 4; simp at hFb_0 hFb_1 hFb_2 hFb_3 hFb_4
      clear hsa hsm hst
      go_wp2_with fail
      exact bodyPost_ret (v := .agg #[.int .i64 pw9, .int .i64 pw10, .int .i64 pw3, .slice ma (l).length mc, .int .i64 pw4]) (by simp only [results, Tryz.results7]; go_simp) rfl ⟨⟨pw9, pw10, pw3, l, ma, mc, pw4⟩, rfl, hlen, hcap, hall, hsaf, hbl, hstf, hsmf.mono (by omega)⟩
    · go_wp2_with fail
      refine (pick_box S (B + 8 + 1 + 1) _ 3 2 [-1, 20001] _ (hsm.alloc _) (by omega) (Box.new _ _ _) (by have := hsm.lt; omega) (by decide) (by decide)).mono ?_
      rintro e w9 ⟨pw9, -, rfl, h1, s1⟩
      replace hst := (hst.alloc _).trans h1
      replace hsm := s1
      replace hR := (hR.alloc _).stp h1 (by omega)
      replace hFb := (hFb.alloc _).stp h1 (by omega)
      replace hsa := (hsa.alloc _).stp h1 (fun x hx => by have := hbl x hx; omega)
      replace hownF := (hownF.alloc _).stp h1 (by omega)
      clear h1 s1
      skip
      have hfq0 := hFb.frozen 0
      have hfq1 := hFb.frozen 1
      have hfq2 := hFb.frozen 2
      have hfq3 := hFb.frozen 3
      have hfq4 := hFb.frozen 4
      have hFb_l := hFb.lt; have hFb_0 := hFb.cell 0; have hFb_1 := hFb.cell 1; have hFb_2 := hFb.cell 2; have hFb_3 := hFb.cell 3; have hFb_4 := hFb.cell 4; simp at hFb_0 hFb_1 hFb_2 hFb_3 hFb_4
      have hKs := (Kp.refl (fun b => b = q) (w9)).setCell (p := ⟨q, 2, none⟩) (.inl rfl) (.int .i64 pw9)
      replace hsa := hsa.kp hKs (fun x hx _ e => by have := hblq x hx; omega)
      replace hst := hst.setCell (p := ⟨q, 2, none⟩) (.inr (by show w.heap.size ≤ q; omega)) (.int .i64 pw9)
      replace hsm := hsm.kp hKs (fun j hj e => by omega)
      replace hR := hR.kp hKs (by omega)
      replace hFb := hFb.set 2 (.int .i64 pw9)
      clear hKs
      have hzW := hst.size
      have hKf := (((((Kp.refl (fun b => b = w.heap.size) (w9.setCell ⟨q, 2, none⟩ (.int .i64 pw9))).setCell (p := ⟨w.heap.size, 0, none⟩) (.inl rfl) (.int .i64 pw1)).setCell (p := ⟨w.heap.size, 1, none⟩) (.inl rfl) (.int .i64 pw2)).setCell (p := ⟨w.heap.size, 2, none⟩) (.inl rfl) (.int .i64 pw9)).setCell (p := ⟨w.heap.size, 3, none⟩) (.inl rfl) (.slice ma (l).length mc)).setCell (p := ⟨w.heap.size, 4, none⟩) (.inl rfl) (.int .i64 pw4)
      have hstf := ((((hst.setCell (p := ⟨w.heap.size, 0, none⟩) (.inr (Nat.le_refl _)) (.int .i64 pw1)).setCell (p := ⟨w.heap.size, 1, none⟩) (.inr (Nat.le_refl _)) (.int .i64 pw2)).setCell (p := ⟨w.heap.size, 2, none⟩) (.inr (Nat.le_refl _)) (.int .i64 pw9)).setCell (p := ⟨w.heap.size, 3, none⟩) (.inr (Nat.le_refl _)) (.slice ma (l).length mc)).setCell (p := ⟨w.heap.size, 4, none⟩) (.inr (Nat.le_refl _)) (.int .i64 pw4)
      have hsaf := hsa.kp hKf (fun x hx _ e => by have := hbl x hx; omega)
      have hsmf := hsm.kp hKf (fun j hj e => by omega)
      have hfr0 := hR.frozen 0
      have hfr1 := hR.frozen 1
      have hfr2 := hR.frozen 2
      have hfr3 := hR.frozen 3
      have hfr4 := hR.frozen 4
      have hR_l := hR.lt; have hR_0 := hR.cell 0; have hR_1 := hR.cell 1; have hR_2 := hR.cell 2; have hR_3 := hR.cell 3; have hR_4 := hR.cell 4; simp at hR_0 hR_1 hR_2 hR_3 hR_4
      have hFb_l := hFb.lt; have hFb_0 := hFb.cell 0; have hFb_1 := hFb.cell 1; have hFb_2 := hFb.cell 2; have hFb_3 := hFb.cell 3; have hFb_4 := hFb.cell 4; simp at hFb_0 hFb_1 hFb_2 hFb_3 hFb_4
      clear hsa hsm hst
      go_wp2_with fail
      exact bodyPost_ret (v := .agg #[.int .i64 pw1, .int .i64 pw2, .int .i64 pw9, .slice ma (l).length mc, .int .i64 pw4]) (by simp only [results, Tryz.results7]; go_simp) rfl ⟨⟨pw1, pw2, pw9, l, ma, mc, pw4⟩, rfl, hlen, hcap, hall, hsaf, hbl, hstf, hsmf.mono (by omega)⟩
    · go_wp2_with fail
      refine (pick_box S (B + 8 + 1 + 1) _ 3 2 [0, 5] _ (hsm.alloc _) (by omega) (Box.new _ _ _) (by have := hsm.lt; omega) (by decide) (by decide)).mono ?_
      rintro e w9 ⟨pw9, -, rfl, h1, s1⟩
      replace hst := (hst.alloc _).trans h1
      replace hsm := s1
      replace hR := (hR.alloc _).stp h1 (by omega)
      replace hFb := (hFb.alloc _).stp h1 (by omega)
      replace hsa := (hsa.alloc _).stp h1 (fun x hx => by have := hbl x hx; omega)
      replace hownF := (hownF.alloc _).stp h1 (by omega)
      clear h1 s1
      skip
      have hfq0 := hFb.frozen 0
      have hfq1 := hFb.frozen 1
      have hfq2 := hFb.frozen 2
      have hfq3 := hFb.frozen 3
      have hfq4 := hFb.frozen 4
      have hFb_l := hFb.lt; have hFb_0 := hFb.cell 0; have hFb_1 := hFb.cell 1; have hFb_2 := hFb.cell 2; have hFb_3 := hFb.cell 3; have hFb_4 := hFb.cell 4; simp at hFb_0 hFb_1 hFb_2 hFb_3 hFb_4
      have hKs := (Kp.refl (fun b => b = q) (w9)).setCell (p := ⟨q, 4, none⟩) (.inl rfl) (.int .i64 pw9)
      replace hsa := hsa.kp hKs (fun x hx _ e => by have := hblq x hx; omega)
      replace hst := hst.setCell (p := ⟨q, 4, none⟩) (.inr (by show w.heap.size ≤ q; omega)) (.int .i64 pw9)
      replace hsm := hsm.kp hKs (fun j hj e => by omega)
      replace hR := hR.kp hKs (by omega)
      replace hFb := hFb.set 4 (.int .i64 pw9)
      clear hKs
      have hzW := hst.size
      have hKf := (((((Kp.refl (fun b => b = w.heap.size) (w9.setCell ⟨q, 4, none⟩ (.int .i64 pw9))).setCell (p := ⟨w.heap.size, 0, none⟩) (.inl rfl) (.int .i64 pw1)).setCell (p := ⟨w.heap.size, 1, none⟩) (.inl rfl) (.int .i64 pw2)).setCell (p := ⟨w.heap.size, 2, none⟩) (.inl rfl) (.int .i64 pw3)).setCell (p := ⟨w.heap.size, 3, none⟩) (.inl rfl) (.slice ma (l).length mc)).setCell (p := ⟨w.heap.size, 4, none⟩) (.inl rfl) (.int .i64 pw9)
      have hstf := ((((hst.setCell (p := ⟨w.heap.size, 0, none⟩) (.inr (Nat.le_refl _)) (.int .i64 pw1)).setCell (p := ⟨w.heap.size, 1, none⟩) (.inr (Nat.le_refl _)) (.int .i64 pw2)).setCell (p := ⟨w.heap.size, 2, none⟩) (.inr (Nat.le_refl _)) (.int .i64 pw3)).setCell (p := ⟨w.heap.size, 3, none⟩) (.inr (Nat.le_refl _)) (.slice ma (l).length mc)).setCell (p := ⟨w.heap.size, 4, none⟩) (.inr (Nat.le_refl _)) (.int .i64 pw9)
      have hsaf := hsa.kp hKf (fun x hx _ e => by have := hbl x hx; omega)
      have hsmf := hsm.kp hKf (fun j hj e => by omega)
      have hfr0 := hR.frozen 0
      have hfr1 := hR.frozen 1
      have hfr2 := hR.frozen 2
      have hfr3 := hR.frozen 3
      have hfr4 := hR.frozen 4
      have hR_l := hR.lt; have hR_0 := hR.cell 0; have hR_1 := hR.cell 1; have hR_2 := hR.cell 2; have hR_3 := hR.cell 3; have hR_4 := hR.cell 4; simp at hR_0 hR_1 hR_2 hR_3 hR_4
      have hFb_l := hFb.lt; have hFb_0 := hFb.cell 0; have hFb_1 := hFb.cell 1; have hFb_2 := hFb.cell 2; have hFb_3 := hFb.cell 3; have hFb_4 := hFb.cell 4; simp at hFb_0 hFb_1 hFb_2 hFb_3 hFb_4
      clear hsa hsm hst
      go_wp2_with fail
      exact bodyPost_ret (v := .agg #[.int .i64 pw1, .int .i64 pw2, .int .i64 pw3, .slice ma (l).length mc, .int .i64 pw9]) (by simp only [results, Tryz.results7]; go_simp) rfl ⟨⟨pw1, pw2, pw3, l, ma, mc, pw9⟩, rfl, hlen, hcap, hall, hsaf, hbl, hstf, hsmf.mono (by omega)⟩
    · go_upto_region 4 with (fail)
      have hc3 := hFb.drew.cell 3
      refine wp_regionF (S := (fun wx => wx.cell? ⟨q, 3, none⟩ = some (.slice ma l.length mc))) 9 (by kernel_rfl) ?hS (fun hHeld => ?_)
      case hS => exact hc3
      refine rtakeF (i := 0) (d := (some 24)) (v := ?_) (n := 40) rfl (by kernel_rfl) (by kernel_rfl) (by kernel_rfl) (by kernel_rfl) (by kernel_rfl) (by kernel_rfl) (fun _ _ _ h => h) (by kernel_rfl) (by assumption) ?_ ?_
      rotate_left 1
      · (intro wI hSI; (try dsimp only at hSI); go_simp; (try with_reducible rfl))
      simp only [Act.put, List.setIfInBounds_toArray, List.set_cons_zero, List.set_cons_succ]
      refine rtakeF (i := 1) (d := (some 25)) (v := ?_) (n := 40) rfl (by kernel_rfl) (by kernel_rfl) (by kernel_rfl) (by kernel_rfl) (by kernel_rfl) (by kernel_rfl) (fun _ _ _ h => h) (by kernel_rfl) (by assumption) ?_ ?_
      rotate_left 1
      · (intro wI hSI; (try dsimp only at hSI); go_simp; (try with_reducible rfl))
      simp only [Act.put, List.setIfInBounds_toArray, List.set_cons_zero, List.set_cons_succ]
      refine rtakeF (i := 2) (d := (some 26)) (v := ?_) (n := 40) rfl (by kernel_rfl) (by kernel_rfl) (by kernel_rfl) (by kernel_rfl) (by kernel_rfl) (by kernel_rfl) (fun _ _ _ h => h) (by kernel_rfl) (by assumption) ?_ ?_
      rotate_left 1
      · (intro wI hSI; (try dsimp only at hSI); go_simp; (try with_reducible rfl))
      simp only [Act.put, List.setIfInBounds_toArray, List.set_cons_zero, List.set_cons_succ]
      refine rcallF (i := 3) (d := (some 27)) (by kernel_rfl) rfl (by kernel_rfl) (fun K hK => ?_)
      go_simp
      go_at_call 53; refine (repeat_any 109 61 _ (by omega)).mono ?_; rintro e w9 ⟨y0, hy0, rfl, hb9⟩
      refine hK.out _ _ (.inr ?hS) (fun hHeld0 => ?_)
      case hS => exact cell_later hb9 hHeld
      clear hK K
      have hHeld := hHeld0.resolve_left (by decide)
      simp only [Act.put, List.setIfInBounds_toArray, List.set_cons_zero, List.set_cons_succ]
      have hq9 := hFb.drew.below hb9
      have hs9 := hsm.drew.below hb9
      have ht9 := (hst.drew).trans (Stp.of_below hb9)
      have hR9 := hR.drew.below hb9
      have ho9 := hownF.drew.below hb9
      have hz9 := ht9.size
      refine rcallF (i := 4) (d := (some 28)) (by kernel_rfl) rfl (by kernel_rfl) (fun K hK => ?_)
      go_simp
      refine hK.out _ _ (.inr ?hS) (fun hHeld0 => ?_)
      case hS => exact (hq9.alloc _).cell 3
      clear hK K
      have hHeld := hHeld0.resolve_left (by decide)
      simp only [Act.put, List.setIfInBounds_toArray, List.set_cons_zero, List.set_cons_succ]
      have hSs := hs9.lt
      refine rcallF (i := 5) (d := (some 29)) (by kernel_rfl) rfl (by kernel_rfl) (fun K hK => ?_)
      go_simp
      go_at_call 51; refine (oneW_any 1000 S (B + 8 + 1 + 1) _ 5 5 9 _ _ (hs9.alloc _) (by omega) (Box.new _ _ _) (by omega) rfl (by omega) (by omega) (fun v hv => by simp only [List.mem_cons, List.not_mem_nil, or_false] at hv; rcases hv with rfl | rfl | rfl | rfl | rfl <;> first | exact ⟨y0, rfl, by omega⟩ | exact ⟨_, rfl, by decide⟩)).mono ?_; rintro e w10 ⟨y, hy, rfl, h10, s10⟩; have hq10 := (hq9.alloc _).stp h10 (by omega)
      refine hK.out _ _ (.inr ?hS) (fun hHeld0 => ?_)
      case hS => exact hq10.cell 3
      clear hK K
      have hHeld := hHeld0.resolve_left (by decide)
      simp only [Act.put, List.setIfInBounds_toArray, List.set_cons_zero, List.set_cons_succ]
      have ht10 := (ht9.alloc _).trans h10
      have hR10 := (hR9.alloc _).stp h10 (by omega)
      have ho10 := (ho9.alloc _).stp h10 (by omega)
      have hz10 := h10.size
      have hq10l := hq10.lt
      simp at hz10
      refine rcallF (i := 6) (d := (some 30)) (by kernel_rfl) rfl (by kernel_rfl) (fun K hK => ?_)
      go_simp
      refine hK.out _ _ (.inr ?hS) (fun hHeld0 => ?_)
      case hS => exact (hq10.alloc _).cell 3
      clear hK K
      have hHeld := hHeld0.resolve_left (by decide)
      simp only [Act.put, List.setIfInBounds_toArray, List.set_cons_zero, List.set_cons_succ]
      refine rcallF (i := 7) (d := (some 31)) (by kernel_rfl) rfl (by kernel_rfl) (fun K hK => ?_)
      refine step_append_lie (by rfl) _ _ 27 (by rfl) 9 16 (.string ⟨#[]⟩) Tryz.underlying27 Tryz.infoStrW (by rfl) (.slice ma l.length mc) l (by rfl) (ho10.alloc (.cells #[.string y] 9)) y _ (by rfl) (Box.new _ _ _) (by omega) (by omega) (by simp; omega) ?_; intro g9 cap9 w11 hown11 hg11 hat11; have hq11 := (hq10.alloc (.cells #[.string y] 9)).kp ((Kp.refl (fun b => (Value.slice ma l.length mc).ownBlock = some b) _).grown hg11 (fun j hj => .inl hj)) (fun e => by have := (Hol.out _ e).2; omega)
      refine hK.out _ _ (.inr ?hS) (fun hHeld0 => ?_)
      case hS => exact hq11.cell 3
      clear hK K
      have hHeld := hHeld0.resolve_left (by decide)
      simp only [Act.put, List.setIfInBounds_toArray, List.set_cons_zero, List.set_cons_succ]
      refine rtakeF (i := 8) (d := (some 32)) (v := ?_) (n := 40) rfl (by kernel_rfl) (by kernel_rfl) (by kernel_rfl) (by kernel_rfl) (by kernel_rfl) (by kernel_rfl) (fun _ _ _ h => h) (by kernel_rfl) (by assumption) ?_ ?_
      rotate_left 1
      · (intro wI hSI; (try dsimp only at hSI); go_simp; (try with_reducible rfl))
      simp only [Act.put, List.setIfInBounds_toArray, List.set_cons_zero, List.set_cons_succ]
      have hfq11 := hq11.frozen 3
      refine rcallF (i := 9) (d := none) (by kernel_rfl) rfl (by kernel_rfl) (fun K hK => ?_)
      go_simp
      refine hK.out undef _ (.inl rfl) (fun _ => ?_)
      clear hK K
      simp only [Act.put, List.setIfInBounds_toArray, List.set_cons_zero, List.set_cons_succ]
      refine wpAnyF_done (by kernel_rfl) ?_ _
      have hsm := (s10.alloc (.cells #[.string y] 9)).grown hg11 (fun k hk => by have := (Hol.out _ hk).1; omega)
      have hst := (ht10.alloc (.cells #[.string y] 9)).grown hg11 (fun k hk => .inr (by have := (Hol.out _ hk).1; omega))
      have hR := (hR10.alloc (.cells #[.string y] 9)).kp ((Kp.refl (fun b => (Value.slice ma l.length mc).ownBlock = some b) _).grown hg11 (fun j hj => .inl hj)) (fun e => by have := (Hol.out _ e).1; omega)
      have hg9q : g9 ≠ q := by
        rcases hat11 with h | h
        · have := (Hol.out _ h).2; omega
        · simp at h; omega
      obtain ⟨l2, hl2⟩ : ∃ l2, l ++ [y] = l2 := ⟨_, rfl⟩
      have hl2n : l.length + 1 = l2.length := by rw [← hl2]; simp
      have hall2 : ∀ x ∈ l2, x.size ≤ 1000 := by rw [← hl2]; exact all_snoc hall hy
      have hlen2 : l2.length ≤ 10 := by omega
      rw [hl2, hl2n] at hown11
      rw [hl2n]
      have hFb := hq11.set 3 (.slice (some ⟨g9, 0, none⟩) l2.length cap9)
      clear hsa hall hlen hbl hblq hcap
      obtain ⟨a11, c11, he11, hsa11, hbl11, hcap11⟩ := hown11.sa
      simp only [Value.slice.injEq] at he11
      obtain ⟨rfl, -, rfl⟩ := he11
      have hKs := (Kp.refl (fun b => b = q) w11).setCell (p := ⟨q, 3, none⟩) (.inl rfl) (.slice (some ⟨g9, 0, none⟩) l2.length cap9)
      have hsa := hsa11.kp hKs (fun x hx _ e => by cases hx; exact hg9q e)
      replace hst := hst.setCell (p := ⟨q, 3, none⟩) (.inr (by show w.heap.size ≤ q; omega)) (.slice (some ⟨g9, 0, none⟩) l2.length cap9)
      replace hsm := hsm.kp hKs (fun j hj e => by omega)
      replace hR := hR.kp hKs (by omega)
      have hbl : ∀ x : Addr, (some ⟨g9, 0, none⟩ : Option Addr) = some x → w.heap.size < x.block := fun x hx => by have := (hbl11 x hx).1; omega
      have hlen := hlen2
      have hall := hall2
      have hcap := hcap11
      clear hHeld hHeld0 hKs hown11 hg11 hat11 hsa11 hbl11 hcap11 hq11 hq10 hq9 hs9 ht9 hR9 ho9 ht10 hR10 ho10 h10 s10 hb9
      have hzW := hst.size
      have hKf := (((((Kp.refl (fun b => b = w.heap.size) (w11.setCell ⟨q, 3, none⟩ (.slice (some ⟨g9, 0, none⟩) l2.length cap9))).setCell (p := ⟨w.heap.size, 0, none⟩) (.inl rfl) (.int .i64 pw1)).setCell (p := ⟨w.heap.size, 1, none⟩) (.inl rfl) (.int .i64 pw2)).setCell (p := ⟨w.heap.size, 2, none⟩) (.inl rfl) (.int .i64 pw3)).setCell (p := ⟨w.heap.size, 3, none⟩) (.inl rfl) (.slice (some ⟨g9, 0, none⟩) (l2).length cap9)).setCell (p := ⟨w.heap.size, 4, none⟩) (.inl rfl) (.int .i64 pw4)
      have hstf := ((((hst.setCell (p := ⟨w.heap.size, 0, none⟩) (.inr (Nat.le_refl _)) (.int .i64 pw1)).setCell (p := ⟨w.heap.size, 1, none⟩) (.inr (Nat.le_refl _)) (.int .i64 pw2)).setCell (p := ⟨w.heap.size, 2, none⟩) (.inr (Nat.le_refl _)) (.int .i64 pw3)).setCell (p := ⟨w.heap.size, 3, none⟩) (.inr (Nat.le_refl _)) (.slice (some ⟨g9, 0, none⟩) (l2).length cap9)).setCell (p := ⟨w.heap.size, 4, none⟩) (.inr (Nat.le_refl _)) (.int .i64 pw4)
      have hsaf := hsa.kp hKf (fun x hx _ e => by have := hbl x hx; omega)
      have hsmf := hsm.kp hKf (fun j hj e => by omega)
      have hfr0 := hR.frozen 0
      have hfr1 := hR.frozen 1
      have hfr2 := hR.frozen 2
      have hfr3 := hR.frozen 3
      have hfr4 := hR.frozen 4
      have hR_l := hR.lt; have hR_0 := hR.cell 0; have hR_1 := hR.cell 1; have hR_2 := hR.cell 2; have hR_3 := hR.cell 3; have hR_4 := hR.cell 4; simp at hR_0 hR_1 hR_2 hR_3 hR_4
      have hFb_l := hFb.lt; have hFb_0 := hFb.cell 0; have hFb_1 := hFb.cell 1; have hFb_2 := hFb.cell 2; have hFb_3 := hFb.cell 3; have hFb_4 := hFb.cell 4; simp at hFb_0 hFb_1 hFb_2 hFb_3 hFb_4
      clear hsa hsm hst
      go_wp2_with fail
      exact bodyPost_ret (v := .agg #[.int .i64 pw1, .int .i64 pw2, .int .i64 pw3, .slice (some ⟨g9, 0, none⟩) (l2).length cap9, .int .i64 pw4]) (by simp only [results, Tryz.results7]; go_simp) rfl ⟨⟨pw1, pw2, pw3, l2, (some ⟨g9, 0, none⟩), cap9, pw4⟩, rfl, hlen, hcap, hall, hsaf, hbl, hstf, hsmf.mono (by omega)⟩
end Go.Proofs.YtlpknpjfmacemaaGreatDoor
