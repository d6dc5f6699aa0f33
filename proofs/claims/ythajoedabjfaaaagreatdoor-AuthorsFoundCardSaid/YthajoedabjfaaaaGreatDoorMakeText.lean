/- The makers of texts and forms. -/
import Derived.Test.YthajoedabjfaaaaGreatDoorMakeList
import Derived.Test.YthajoedabjfaaaaGreatDoorRange
import Derived.Test.YthajoedabjfaaaaGreatDoorForm1
import Derived.Test.YthajoedabjfaaaaGreatDoorRegF
namespace Go.Proofs.YthajoedabjfaaaaGreatDoor
open Go.RowKit
set_option linter.unusedVariables false
set_option linter.unusedSimpArgs false

set_option maxHeartbeats 400000 in
theorem oneW_any (M S : Nat) (B : Int) (b n cap T : Nat) (vs : Array Value) (w : World) (hs : Strm S B w) (hB : B ≤ 1000000000) (hbox : Box w b T vs) (hbS : b ≠ S) (hn : vs.size = n) (hl1 : 1 ≤ n) (hl2 : n ≤ 1000)
    (hc : ∀ v ∈ vs.toList, ∃ s : ByteArray, v = .string s ∧ s.size ≤ M) :
    Calls Tryz.prog 21 #[.pointer (some ⟨S, 0, none⟩), .slice (some ⟨b, 0, none⟩) n cap] w (fun e w' => ∃ x : ByteArray, x.size ≤ M ∧ e = .returned (.string x) ∧ Stp S w w' ∧ Strm S (B + 1) w') := by
  have Hc := Lib.hid hc
  clear hc
  go_enter Tryz.func21, Tryz.ntmps21
  go_wp2_with fail
  refine (next_any S B _ _ hs hB (by omega) (by omega)).mono ?_
  rintro e w' ⟨r, ⟨hr, hr2⟩, rfl, h1, h2⟩
  obtain ⟨i, rfl⟩ := Int.eq_ofNat_of_zero_le hr
  have hi : i < n := by omega
  obtain ⟨s, hs1, hs2⟩ := Hc.out vs[i] (by simp)
  have hc : w'.cell? ⟨b, i, none⟩ = some (.string s) := by rw [(hbox.stp h1 hbS).cell i, Array.getElem?_eq_getElem (by omega), hs1]
  clear hs1
  go_wp2_with fail
  go_ret
  exact ⟨_, hs2, rfl, h1, h2⟩
def SomeText (S : Nat) (B : Int) (w : World) (e : Ending) (w' : World) : Prop := ∃ x : ByteArray, x.size ≤ 30000 ∧ e = .returned (.string x) ∧ Stp S w w' ∧ Strm S (B + 20) w'
set_option maxRecDepth 100000 in
set_option maxHeartbeats 8000000 in
theorem paperText_any (S : Nat) (B : Int) (w : World) (hs : Strm S B w) (hB : B ≤ 999999000) : Calls Tryz.prog 6 #[.pointer (some ⟨S, 0, none⟩)] w (SomeText S B w) := by
  have hS := hs.lt
  go_enter Tryz.func6, Tryz.ntmps6
  go_wp2_with fail
  refine (next_any S B _ _ hs (by omega) (by omega) (by omega)).mono ?_
  rintro e w1 ⟨r, ⟨hr, hr2⟩, rfl, h1, s1⟩
  obtain ⟨n, rfl⟩ := Int.eq_ofNat_of_zero_le hr
  have hn : n < 12 := by omega
  have hz1 := h1.size
  clear hr hr2 hs
  go_wp2_with fail
  go_loopg [3, 6] n (fun gk v i wr => ∃ (k : Nat) (t : ByteArray), v = .string t ∧ i = .int .i64 k ∧ k ≤ n ∧ Hid (gk = n - k) ∧ t.size ≤ k * 1000 ∧ Stp S w wr ∧ Strm S (B + 1 + (k : Int)) wr)
  case atStart => exact ⟨0, ⟨#[]⟩, rfl, rfl, by omega, rfl, Nat.zero_le _, h1, by simpa using s1⟩
  clear h1 s1
  obtain ⟨k, t, rfl, rfl, hk, hgk, ht, hst, hsm⟩ := hrel
  have hzr := hst.size
  by_cases hlt : k < n
  · go_wp2_with fail
    refine (one_any S (B + 1 + (k : Int)) _ 21 21 9 _ _ (hsm.alloc _) (by omega) (Box.new _ _ _) (by have := hsm.lt; omega) rfl (by omega) (by omega) (by simp; decide)).mono ?_
    rintro e w6 ⟨y, hy, rfl, h6, s6⟩
    have hst6 := (hst.alloc _).trans h6
    go_wp2_with fail
    go_roundg (n - (k + 1))
    case measure => have := hgk.out; omega
    case rel => exact ⟨k + 1, t ++ y, rfl, by go_num, by omega, rfl, by rw [ByteArray.size_append]; omega, hst6, s6.mono (by omega)⟩
  · obtain rfl : k = n := by omega
    have hie := isEmpty_size t
    have hHS := Lib.hid (fun W => hasSuffix_any t ⟨#[10]⟩ W (by omega))
    clear hgk hk hlt
    rename World => w3
    by_cases h0 : t.size = 0
    · rw [decide_eq_true h0] at hie
      go_wp2_with fail
      refine (next_any S (B + 1 + (k : Int)) _ _ hsm (by omega) (by omega) (by omega)).mono ?_
      rintro e w4 ⟨r2, ⟨hr2, hr3⟩, rfl, h4, s4⟩
      have hst4 := hst.trans h4
      have hz4 := h4.size
      by_cases e0 : r2 = 0
      · subst e0
        go_wp2_with fail
        go_ret
        exact ⟨_, by simp only [ByteArray.size_append]; have : (⟨#[120]⟩ : ByteArray).size = 1 := rfl; have : (⟨#[10]⟩ : ByteArray).size = 1 := rfl; omega, rfl, hst4, s4.mono (by omega)⟩
      · by_cases e1 : r2 = 1
        · subst e1
          go_wp2_with fail
          refine (repeat_any 116 20000 _ (by omega)).mono ?_
          rintro e w5 ⟨y0, hy0, rfl, hb5⟩
          have hst5 := hst4.trans (Stp.of_below hb5)
          have s5 := s4.below hb5
          have hz5 := hb5.size
          clear hst4 s4 hb5
          go_wp2_with fail
          refine (oneW_any 20001 S (B + 1 + (k : Int) + 1) _ 3 3 9 _ _ (s5.alloc _) (by omega) (Box.new _ _ _) (by omega) rfl (by omega) (by omega) ?hlens).mono ?_
          case hlens =>
            intro v hv
            simp only [List.mem_cons, List.not_mem_nil, or_false] at hv
            rcases hv with rfl | rfl | rfl
            · exact ⟨_, rfl, by decide⟩
            · exact ⟨_, rfl, by decide⟩
            · exact ⟨_, rfl, by simp [ByteArray.size_append]; first | omega | (have : (⟨#[10]⟩ : ByteArray).size = 1 := rfl; omega)⟩
          rintro e w6 ⟨y, hy, rfl, h6, s6⟩
          have hst6 := (hst5.alloc _).trans h6
          go_wp2_with fail
          go_ret
          exact ⟨_, by omega, rfl, hst6, s6.mono (by omega)⟩
        · have hq0 : (r2 == 0) = false := by rw [beq_eq_false_iff_ne]; exact e0
          have hq1 : (r2 == 1) = false := by rw [beq_eq_false_iff_ne]; exact e1
          clear e0 e1
          go_wp2_with fail
          go_ret
          exact ⟨_, by (try simp only [ByteArray.size_append]); have : (⟨#[10]⟩ : ByteArray).size = 1 := rfl; omega, rfl, hst4, s4.mono (by omega)⟩
    · rw [decide_eq_false h0] at hie
      cases hsf : Lib.hasSuffix t.data.toList (⟨#[10]⟩ : ByteArray).data.toList
      all_goals
        rw [hsf] at hHS
        go_wp2_with fail
        refine (hHS.out _).mono ?_
        rintro e w2 ⟨rfl, rfl⟩
        go_wp2_with fail
      · refine (next_any S (B + 1 + (k : Int)) _ _ hsm (by omega) (by omega) (by omega)).mono ?_
        rintro e w4 ⟨r2, ⟨hr2, hr3⟩, rfl, h4, s4⟩
        have hst4 := hst.trans h4
        have hz4 := h4.size
        by_cases e0 : r2 = 0
        · subst e0
          go_wp2_with fail
          go_ret
          exact ⟨_, by simp only [ByteArray.size_append]; have : (⟨#[120]⟩ : ByteArray).size = 1 := rfl; have : (⟨#[10]⟩ : ByteArray).size = 1 := rfl; omega, rfl, hst4, s4.mono (by omega)⟩
        · by_cases e1 : r2 = 1
          · subst e1
            go_wp2_with fail
            refine (repeat_any 116 20000 _ (by omega)).mono ?_
            rintro e w5 ⟨y0, hy0, rfl, hb5⟩
            have hst5 := hst4.trans (Stp.of_below hb5)
            have s5 := s4.below hb5
            have hz5 := hb5.size
            clear hst4 s4 hb5
            go_wp2_with fail
            refine (oneW_any 20001 S (B + 1 + (k : Int) + 1) _ 3 3 9 _ _ (s5.alloc _) (by omega) (Box.new _ _ _) (by omega) rfl (by omega) (by omega) ?hlens).mono ?_
            case hlens =>
              intro v hv
              simp only [List.mem_cons, List.not_mem_nil, or_false] at hv
              rcases hv with rfl | rfl | rfl
              · exact ⟨_, rfl, by decide⟩
              · exact ⟨_, rfl, by decide⟩
              · exact ⟨_, rfl, by simp [ByteArray.size_append]; first | omega | (have : (⟨#[10]⟩ : ByteArray).size = 1 := rfl; omega)⟩
            rintro e w6 ⟨y, hy, rfl, h6, s6⟩
            have hst6 := (hst5.alloc _).trans h6
            go_wp2_with fail
            go_ret
            exact ⟨_, by omega, rfl, hst6, s6.mono (by omega)⟩
          · have hq0 : (r2 == 0) = false := by rw [beq_eq_false_iff_ne]; exact e0
            have hq1 : (r2 == 1) = false := by rw [beq_eq_false_iff_ne]; exact e1
            clear e0 e1
            go_wp2_with fail
            go_ret
            exact ⟨_, by (try simp only [ByteArray.size_append]); have : (⟨#[10]⟩ : ByteArray).size = 1 := rfl; omega, rfl, hst4, s4.mono (by omega)⟩
      · refine (next_any S (B + 1 + (k : Int)) _ _ hsm (by omega) (by omega) (by omega)).mono ?_
        rintro e w4 ⟨r2, ⟨hr2, hr3⟩, rfl, h4, s4⟩
        have hst4 := hst.trans h4
        have hz4 := h4.size
        by_cases e0 : r2 = 0
        · subst e0
          go_wp2_with fail
          go_ret
          exact ⟨_, by simp only [ByteArray.size_append]; have : (⟨#[120]⟩ : ByteArray).size = 1 := rfl; have : (⟨#[10]⟩ : ByteArray).size = 1 := rfl; omega, rfl, hst4, s4.mono (by omega)⟩
        · by_cases e1 : r2 = 1
          · subst e1
            go_wp2_with fail
            refine (repeat_any 116 20000 _ (by omega)).mono ?_
            rintro e w5 ⟨y0, hy0, rfl, hb5⟩
            have hst5 := hst4.trans (Stp.of_below hb5)
            have s5 := s4.below hb5
            have hz5 := hb5.size
            clear hst4 s4 hb5
            go_wp2_with fail
            refine (oneW_any 20001 S (B + 1 + (k : Int) + 1) _ 3 3 9 _ _ (s5.alloc _) (by omega) (Box.new _ _ _) (by omega) rfl (by omega) (by omega) ?hlens).mono ?_
            case hlens =>
              intro v hv
              simp only [List.mem_cons, List.not_mem_nil, or_false] at hv
              rcases hv with rfl | rfl | rfl
              · exact ⟨_, rfl, by decide⟩
              · exact ⟨_, rfl, by decide⟩
              · exact ⟨_, rfl, by simp [ByteArray.size_append]; first | omega | (have : (⟨#[10]⟩ : ByteArray).size = 1 := rfl; omega)⟩
            rintro e w6 ⟨y, hy, rfl, h6, s6⟩
            have hst6 := (hst5.alloc _).trans h6
            go_wp2_with fail
            go_ret
            exact ⟨_, by omega, rfl, hst6, s6.mono (by omega)⟩
          · have hq0 : (r2 == 0) = false := by rw [beq_eq_false_iff_ne]; exact e0
            have hq1 : (r2 == 1) = false := by rw [beq_eq_false_iff_ne]; exact e1
            clear e0 e1
            go_wp2_with fail
            go_ret
            exact ⟨_, by (try simp only [ByteArray.size_append]); have : (⟨#[10]⟩ : ByteArray).size = 1 := rfl; omega, rfl, hst4, s4.mono (by omega)⟩

def SomeForm (S : Nat) (B : Int) (w : World) (e : Ending) (w' : World) : Prop :=
  ∃ f : Frm, e = .returned (encForm f) ∧ f.must.length ≤ 10 ∧ f.must.length ≤ f.c ∧ (∀ x ∈ f.must, x.size ≤ 1000) ∧ SA w' f.a f.must ∧ (∀ x : Addr, f.a = some x → w.heap.size < x.block) ∧ Stp S w w' ∧ Strm S (B + 20) w'
end Go.Proofs.YthajoedabjfaaaaGreatDoor
