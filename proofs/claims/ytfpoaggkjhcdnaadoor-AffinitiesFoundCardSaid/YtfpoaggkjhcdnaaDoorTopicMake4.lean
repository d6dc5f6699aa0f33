/- The maker Forest. -/
import Derived.Test.YtfpoaggkjhcdnaaDoorTopicMake3
import Derived.Test.YtfpoaggkjhcdnaaDoorForest
namespace Go.Proofs.YtfpoaggkjhcdnaaDoor
open Go.RowKit
set_option linter.unusedVariables false

theorem Own.stp {α : Type} [Cel α] {w w' : World} {base S : Nat} {E : TypeId} {v : Value} {l : List α} (h : Own base E w v l) (k : Stp S w w') (hS : S < base) : Own base E w' v l :=
  h.same fun b hb => k.block b (h.lt b hb).2 (by have := (h.lt b hb).1; omega)
theorem Own.setOther {α : Type} [Cel α] {w : World} {base : Nat} {E : TypeId} {v : Value} {l : List α} (h : Own base E w v l) {p : Addr} (hp : ∀ b, v.ownBlock = some b → b ≠ p.block) (u : Value) : Own base E (w.setCell p u) v l :=
  h.same fun b hb => Below.heap_setCell _ _ _ _ (hp b hb)
theorem Own.form {α : Type} [Cel α] {w : World} {base : Nat} {E : TypeId} {v : Value} {l : List α} (h : Own base E w v l) : ∃ a cap, v = .slice a l.length cap ∧ SA w a l ∧ (a = none ∨ ∃ b, a = some ⟨b, 0, none⟩ ∧ base ≤ b ∧ b < w.heap.size) ∧ l.length ≤ cap := by
  obtain ⟨a, cap, rfl, h1, h2, h3⟩ := h.sa
  refine ⟨a, cap, rfl, h1, ?_, h3⟩
  obtain ⟨_, k⟩ := h
  rcases k with ⟨k, _⟩ | ⟨g, cap', cur, he, r1, r2, _⟩
  · simp at k; exact .inl k.1
  · simp at he
    obtain ⟨rfl, -⟩ := he
    exact .inr ⟨g, rfl, h2 _ rfl⟩
theorem Own.forest {S : Nat} {B : Int} {n base : Nat} {w w' : World} {v : Value} {l : List Topic} (h : Own base 65 w' v l) (hS : S < base) (hn : l.length ≤ n) (hsm : SmallT l) (hst : Stp S w w') (hs : Strm S B w') : SomeForest S B n w (.returned v) w' := by
  obtain ⟨a, cap, rfl, h1, h2, h3⟩ := h.form
  refine ⟨a, cap, l, rfl, hn, h3, hsm, h1, ?_, hst, hs⟩
  rcases h2 with h2 | ⟨b, h2, h4⟩
  · exact .inl h2
  · exact .inr ⟨b, 0, h2, by omega⟩
theorem Strm.keepS {S : Nat} {B : Int} {w w' : World} (h : Strm S B w) (hk : ∀ k, k ≤ S → w'.heap[k]? = w.heap[k]?) : Strm S B w' := by
  obtain ⟨a, len, cap, zs, k, h1, h2, h3, h4⟩ := h
  exact ⟨a, len, cap, zs, k, by rw [hk S (Nat.le_refl _)]; exact h1, h2, h3, h4.keep fun j hj => hk j (by omega)⟩
theorem Strm.grown {S : Nat} {B : Int} {w w' : World} {row : Option Nat} (h : Strm S B w) (hg : w.grownBy w' row) (hr : ∀ k, row = some k → S < k) : Strm S B w' :=
  h.keepS fun k hk => hg.block k (by have := h.lt; omega) (fun e => by have := hr k e.symm; omega)
theorem Strm.belowB {S base : Nat} {B : Int} {w w' : World} (h : Strm S B w) (hb : Below base w w') (hS : S < base) : Strm S B w' := h.keepS fun k hk => hb.block k (by omega)
theorem Stp.belowB {S base : Nat} {w0 w w' : World} (h : Stp S w0 w) (hb : Below base w w') (hB : w0.heap.size ≤ base) : Stp S w0 w' :=
  ⟨hb.os.trans h.os, hb.tape.trans h.tape, hb.output.trans h.output, Nat.le_trans h.size hb.size, fun k hk hs => (hb.block k (by omega)).trans (h.block k hk hs)⟩
theorem SmallT.snoc {l : List Topic} {k v : ByteArray} (h : SmallT l) (hk : k.size ≤ 1000) (hv : v.size ≤ 1000) : SmallT (l ++ [(k, v)]) := fun t ht => by
  rcases List.mem_append.1 ht with ht | ht
  · exact h t ht
  · rw [List.mem_singleton] at ht; subst ht; exact ⟨by show k.size ≤ _; omega, by show v.size ≤ _; omega⟩

set_option maxRecDepth 100000 in
set_option maxHeartbeats 4000000 in
theorem forest_any (S : Nat) (B : Int) (w : World) (hs : Strm S B w) (hB : B ≤ 999999900) :
    Calls Tryd.prog 5 #[.pointer (some ⟨S, 0, none⟩)] w (SomeForest S (B + 20) 12 w) := by
  go_enter Tryd.func5, Tryd.ntmps5
  go_wp2_with fail
  refine (rightForest_any S B w hs hB).mono ?_
  rintro e w1 ⟨a, cap, l, rfl, hl6, hcap, hsm, hsa, hp, h1, s1⟩
  go_wp2_with fail
  refine (flip_any S (B + 5) 12 w1 s1 (by omega) (by omega) (by omega)).mono ?_
  rintro e w2 ⟨r, rfl, h2, s2⟩
  have h2' := h1.trans h2
  have hsa2 : SA w2 a l := hsa.stp h2 (fun x hx => by rcases hp with hp | ⟨b, off, hp, hS⟩ <;> rw [hp] at hx <;> cases hx; exact hS)
  have hp2 : a = none ∨ ∃ b off, a = some ⟨b, off, none⟩ := by
    rcases hp with hp | ⟨b, off, hp, _⟩
    · exact .inl hp
    · exact .inr ⟨b, off, hp⟩
  have hS2 := s2.lt
  have hz0 := h2'.size
  cases r
  · go_wp2_with fail
    go_ret
    exact ⟨a, cap, l, rfl, by omega, hcap, hsm, hsa2, hp, h2', s2.mono (by omega)⟩
  go_wp2_with fail
  refine (cloneTopic_any l a cap w2 hsa2 hp2 (by omega)).mono ?_
  rintro e w3 ⟨v, rfl, hown, hb3⟩
  have h3' := h2'.trans (Stp.of_below hb3)
  have s3 := s2.below hb3
  have hz3 := hb3.size
  clear hp hp2 hsa hsa2 h1 h2 s1 s2 hb3 h2'
  go_wp2_with fail
  refine (next_any S (B + 5 + 1) 4 w3 s3 (by omega) (by omega) (by omega)).mono ?_
  rintro e w4 ⟨r, ⟨hr, hr2⟩, rfl, h4, s4⟩
  have h4' := h3'.trans h4
  have hown4 := hown.stp h4 hS2
  have hS4 := s4.lt
  have hz2 : w2.heap.size ≤ w4.heap.size := Nat.le_trans hz3 h4.size
  clear h4 h3' s3 hown
  obtain rfl | rfl | rfl | rfl : r = 0 ∨ r = 1 ∨ r = 2 ∨ r = 3 := by omega
  · go_wp2_with fail
    refine (one_any S (B + 5 + 1 + 1) _ 4 4 9 _ _ (s4.alloc _) (by omega) (Box.new _ _ _) (by omega) rfl (by omega) (by omega) (by simp; decide)).mono ?_
    rintro e w5 ⟨x, hx, rfl, h5, s5⟩
    have h5' := (h4'.alloc _).trans h5
    have hown5 := (hown4.alloc _).stp h5 hS2
    have hS5 := s5.lt
    have hz5 := h5.size
    simp at hz5
    clear h5 s4 h4' hown4
    go_wp2_with fail
    refine (one_any S (B + 5 + 1 + 1 + 1) _ 4 4 9 _ _ (s5.alloc _) (by omega) (Box.new _ _ _) (by omega) rfl (by omega) (by omega) (by simp; decide)).mono ?_
    rintro e w6 ⟨y, hy, rfl, h6, s6⟩
    have h6' := (h5'.alloc _).trans h6
    have hown6 := (hown5.alloc _).stp h6 hS2
    have hS6 := s6.lt
    have hz6 := h6.size
    simp at hz6
    clear h6 s5 h5' hown5
    go_upto_region 20 with (at_builtin; refine wpList_append_one rfl _ _ 26 rfl w2.heap.size 65 32 (.agg #[.string ⟨#[]⟩, .string ⟨#[]⟩]) Tryd.underlying26 Tryd.infoTopic rfl _ l rfl (hown6.alloc _) (x, y) _ rfl (Box.newAt _ _ _ _ ?c0) ?c1 ?c2 ?c3 ?_; rotate_left 4; intro v' w7 hown7 hg7)
    case c0 => rfl
    case c1 => omega
    case c2 => omega
    case c3 => simp; omega
    have s7 : Strm S (B + 5 + 1 + 1 + 1 + 1) w7 := (s6.alloc _).grown hg7 (fun k hk => by have := (hown6.lt k hk).1; omega)
    have h7 : Stp S w w7 := (h6'.alloc _).grown hg7 (fun k hk => .inr (by have := (hown6.lt k hk).1; omega))
    go_wp2_with fail
    go_ret
    exact hown7.forest hS2 (by simp; omega) (hsm.snoc hx hy) h7 (s7.mono (by omega))
  · obtain ⟨a4, cap4, rfl, hsa4, hf4, _⟩ := hown4.form
    by_cases hl0 : l.length = 0
    · have hfin : SomeForest S (B + 20) 12 w _ w4 := hown4.forest hS2 (by omega) hsm h4' (s4.mono (by omega))
      rw [hl0] at hfin ⊢
      go_wp2_with fail
      go_ret
      exact hfin
    · obtain ⟨g, rfl, hg1, hg2⟩ : ∃ b, a4 = some ⟨b, 0, none⟩ ∧ w2.heap.size ≤ b ∧ b < w4.heap.size := by
        rcases hf4 with hf4 | hf4
        · obtain ⟨b, off, h, _⟩ := hsa4.at (i := 0) (by omega)
          rw [hf4] at h; cases h
        · exact hf4
      have hlp : 0 < l.length := by omega
      obtain ⟨n, hn⟩ : ∃ n, l.length = n := ⟨_, rfl⟩
      rw [hn] at hlp hl6 hown4 ⊢
      have Hn := Lib.hid hn
      clear hn hl0
      go_wp2_with fail
      refine (next_any S (B + 5 + 1 + 1) n w4 s4 (by omega) (by omega) (by omega)).mono ?_
      rintro e w5 ⟨r, ⟨hr, hr2⟩, rfl, h5, s5⟩
      obtain ⟨i, rfl⟩ := Int.eq_ofNat_of_zero_le hr
      have hi : i < n := by omega
      have h5' := h4'.trans h5
      have hown5 := hown4.stp h5 hS2
      have hS5 := s5.lt
      have hz5 := h5.size
      clear h5 s4 h4' hown4 hr
      go_wp2_with fail
      refine (one_any S (B + 5 + 1 + 1 + 1) _ 5 5 9 _ _ (s5.alloc _) (by omega) (Box.new _ _ _) (by omega) rfl (by omega) (by omega) (by simp; decide)).mono ?_
      rintro e w6 ⟨y, hy, rfl, h6, s6⟩
      have h6' := (h5'.alloc _).trans h6
      have hown6 := (hown5.alloc _).stp h6 hS2
      have hS6 := s6.lt
      have hz6 := h6.size
      simp at hz6
      clear h6 s5 h5' hown5
      obtain ⟨cur, hbx⟩ := hown6.box
      obtain ⟨a6, cap6, he, hsa6, _, _⟩ := hown6.form
      simp only [Value.slice.injEq] at he
      obtain ⟨rfl, -, rfl⟩ := he
      have hil : i < l.length := by have := Hn.out; omega
      obtain ⟨b, off, ha, c0, c1⟩ := hsa6.topic hil
      cases ha
      rw [Nat.zero_add] at c0 c1
      have f0 := hbx.frozen (i * 2 + 1)
      have hown7 := hown6.put i 1 (l[i].1, y) (.string y) hil (by decide) rfl
      have hsm7 : SmallT (l.set i (l[i].1, y)) := fun t ht => by
        rcases List.mem_or_eq_of_mem_set ht with ht | rfl
        · exact hsm t ht
        · exact ⟨(hsm _ (List.getElem_mem hil)).1, by show y.size ≤ _; omega⟩
      have hn7 : (l.set i (l[i].1, y)).length ≤ 12 := by rw [List.length_set, Hn.out]; omega
      generalize l.set i (l[i].1, y) = l7 at hown7 hsm7 hn7
      generalize l[i].1 = x1 at *
      generalize l[i].2 = x2 at *
      go_wp2_with fail
      go_ret
      exact hown7.forest hS2 hn7 hsm7 (h6'.setCell (.inr (by simp; omega)) _) ((s6.setOther (by simp; omega) _).mono (by omega))
  · go_wp2_with fail
    go_loopg [3, 45] 6 (fun gk v i wr => ∃ (k : Nat) (l' : List Topic), i = .int .i64 k ∧ k ≤ 6 ∧ Hid (gk = 6 - k) ∧ Hid (l'.length ≤ 6 + k) ∧ Hid (SmallT l') ∧ Own w2.heap.size 65 wr v l' ∧ Stp S w wr ∧ Strm S (B + 5 + 1 + 1) wr ∧ w2.heap.size ≤ wr.heap.size)
    case atStart => exact ⟨0, l, rfl, by omega, rfl, by show l.length ≤ 6 + 0; omega, hsm, hown4, h4', s4, hz2⟩
    case round =>
      obtain ⟨k, l', rfl, hk, hgk, hl', hs', hown', hst, hsm', hz⟩ := hrel
      by_cases hlt : k < 6
      · have hal : l'.length ≤ 11 := by have := hl'.out; omega
        have Hal := Lib.hid hal
        clear hal
        by_cases hk0 : k = 0
        · subst hk0
          have e1 := encode_size_le 97
          have hsz : ((⟨#[120]⟩ : ByteArray) ++ Utf8.encode 97).size ≤ 1000 := by rw [ByteArray.size_append]; show 1 + _ ≤ _; omega
          go_upto_region 19 with (at_builtin; refine wpList_append_one rfl _ _ 26 rfl w2.heap.size 65 32 (.agg #[.string ⟨#[]⟩, .string ⟨#[]⟩]) Tryd.underlying26 Tryd.infoTopic rfl _ l' rfl ((hown'.alloc _).alloc _) (_, ⟨#[]⟩) _ rfl (Box.newAt _ _ _ _ ?c0) ?c1 ?c2 ?c3 ?_; rotate_left 4; intro v' w7 hown7 hg7)
          case c0 => simp
          case c1 => have := Hal.out; omega
          case c2 => have := Hal.out; omega
          case c3 => simp; omega
          have s7 : Strm S (B + 5 + 1 + 1) w7 := ((hsm'.alloc _).alloc _).grown hg7 (fun k hk => by have := (hown'.lt k hk).1; omega)
          have h7 : Stp S w w7 := ((hst.alloc _).alloc _).grown hg7 (fun k hk => .inr (by have := (hown'.lt k hk).1; omega))
          have hz7 := hg7.size
          simp at hz7
          go_wp2_with fail
          go_roundg (6 - (0 + 1))
          case measure => have := hgk.out; omega
          case rel => exact ⟨1, _, rfl, by omega, rfl, by have := hl'.out; show List.length _ ≤ 6 + 1; simp; omega, hs'.out.snoc (v := ⟨#[]⟩) hsz (by decide), hown7, h7, s7, by omega⟩
        · obtain rfl | rfl | rfl | rfl | rfl : k = 1 ∨ k = 2 ∨ k = 3 ∨ k = 4 ∨ k = 5 := by omega
          · have e1 := encode_size_le 98
            have e2 := encode_size_le 97
            have hsz : ((⟨#[120]⟩ : ByteArray) ++ Utf8.encode 98).size ≤ 1000 := by rw [ByteArray.size_append]; show 1 + _ ≤ _; omega
            have hsz2 : ((⟨#[120]⟩ : ByteArray) ++ Utf8.encode 97).size ≤ 1000 := by rw [ByteArray.size_append]; show 1 + _ ≤ _; omega
            go_upto_region 19 with (at_builtin; refine wpList_append_one rfl _ _ 26 rfl w2.heap.size 65 32 (.agg #[.string ⟨#[]⟩, .string ⟨#[]⟩]) Tryd.underlying26 Tryd.infoTopic rfl _ l' rfl ((hown'.alloc _).alloc _) (_, _) _ rfl (Box.newAt _ _ _ _ ?c0) ?c1 ?c2 ?c3 ?_; rotate_left 4; intro v' w7 hown7 hg7)
            case c0 => simp
            case c1 => have := Hal.out; omega
            case c2 => have := Hal.out; omega
            case c3 => simp; omega
            have s7 : Strm S (B + 5 + 1 + 1) w7 := ((hsm'.alloc _).alloc _).grown hg7 (fun k hk => by have := (hown'.lt k hk).1; omega)
            have h7 : Stp S w w7 := ((hst.alloc _).alloc _).grown hg7 (fun k hk => .inr (by have := (hown'.lt k hk).1; omega))
            have hz7 := hg7.size
            simp at hz7
            go_wp2_with fail
            go_roundg (6 - (1 + 1))
            case measure => have := hgk.out; omega
            case rel => exact ⟨2, _, rfl, by omega, rfl, by have := hl'.out; show List.length _ ≤ 6 + 2; simp; omega, hs'.out.snoc hsz hsz2, hown7, h7, s7, by omega⟩
          · have e1 := encode_size_le 99
            have e2 := encode_size_le 98
            have hsz : ((⟨#[120]⟩ : ByteArray) ++ Utf8.encode 99).size ≤ 1000 := by rw [ByteArray.size_append]; show 1 + _ ≤ _; omega
            have hsz2 : ((⟨#[120]⟩ : ByteArray) ++ Utf8.encode 98).size ≤ 1000 := by rw [ByteArray.size_append]; show 1 + _ ≤ _; omega
            go_upto_region 19 with (at_builtin; refine wpList_append_one rfl _ _ 26 rfl w2.heap.size 65 32 (.agg #[.string ⟨#[]⟩, .string ⟨#[]⟩]) Tryd.underlying26 Tryd.infoTopic rfl _ l' rfl ((hown'.alloc _).alloc _) (_, _) _ rfl (Box.newAt _ _ _ _ ?c0) ?c1 ?c2 ?c3 ?_; rotate_left 4; intro v' w7 hown7 hg7)
            case c0 => simp
            case c1 => have := Hal.out; omega
            case c2 => have := Hal.out; omega
            case c3 => simp; omega
            have s7 : Strm S (B + 5 + 1 + 1) w7 := ((hsm'.alloc _).alloc _).grown hg7 (fun k hk => by have := (hown'.lt k hk).1; omega)
            have h7 : Stp S w w7 := ((hst.alloc _).alloc _).grown hg7 (fun k hk => .inr (by have := (hown'.lt k hk).1; omega))
            have hz7 := hg7.size
            simp at hz7
            go_wp2_with fail
            go_roundg (6 - (2 + 1))
            case measure => have := hgk.out; omega
            case rel => exact ⟨3, _, rfl, by omega, rfl, by have := hl'.out; show List.length _ ≤ 6 + 3; simp; omega, hs'.out.snoc hsz hsz2, hown7, h7, s7, by omega⟩
          · have e1 := encode_size_le 100
            have e2 := encode_size_le 99
            have hsz : ((⟨#[120]⟩ : ByteArray) ++ Utf8.encode 100).size ≤ 1000 := by rw [ByteArray.size_append]; show 1 + _ ≤ _; omega
            have hsz2 : ((⟨#[120]⟩ : ByteArray) ++ Utf8.encode 99).size ≤ 1000 := by rw [ByteArray.size_append]; show 1 + _ ≤ _; omega
            go_upto_region 19 with (at_builtin; refine wpList_append_one rfl _ _ 26 rfl w2.heap.size 65 32 (.agg #[.string ⟨#[]⟩, .string ⟨#[]⟩]) Tryd.underlying26 Tryd.infoTopic rfl _ l' rfl ((hown'.alloc _).alloc _) (_, _) _ rfl (Box.newAt _ _ _ _ ?c0) ?c1 ?c2 ?c3 ?_; rotate_left 4; intro v' w7 hown7 hg7)
            case c0 => simp
            case c1 => have := Hal.out; omega
            case c2 => have := Hal.out; omega
            case c3 => simp; omega
            have s7 : Strm S (B + 5 + 1 + 1) w7 := ((hsm'.alloc _).alloc _).grown hg7 (fun k hk => by have := (hown'.lt k hk).1; omega)
            have h7 : Stp S w w7 := ((hst.alloc _).alloc _).grown hg7 (fun k hk => .inr (by have := (hown'.lt k hk).1; omega))
            have hz7 := hg7.size
            simp at hz7
            go_wp2_with fail
            go_roundg (6 - (3 + 1))
            case measure => have := hgk.out; omega
            case rel => exact ⟨4, _, rfl, by omega, rfl, by have := hl'.out; show List.length _ ≤ 6 + 4; simp; omega, hs'.out.snoc hsz hsz2, hown7, h7, s7, by omega⟩
          · have e1 := encode_size_le 101
            have e2 := encode_size_le 100
            have hsz : ((⟨#[120]⟩ : ByteArray) ++ Utf8.encode 101).size ≤ 1000 := by rw [ByteArray.size_append]; show 1 + _ ≤ _; omega
            have hsz2 : ((⟨#[120]⟩ : ByteArray) ++ Utf8.encode 100).size ≤ 1000 := by rw [ByteArray.size_append]; show 1 + _ ≤ _; omega
            go_upto_region 19 with (at_builtin; refine wpList_append_one rfl _ _ 26 rfl w2.heap.size 65 32 (.agg #[.string ⟨#[]⟩, .string ⟨#[]⟩]) Tryd.underlying26 Tryd.infoTopic rfl _ l' rfl ((hown'.alloc _).alloc _) (_, _) _ rfl (Box.newAt _ _ _ _ ?c0) ?c1 ?c2 ?c3 ?_; rotate_left 4; intro v' w7 hown7 hg7)
            case c0 => simp
            case c1 => have := Hal.out; omega
            case c2 => have := Hal.out; omega
            case c3 => simp; omega
            have s7 : Strm S (B + 5 + 1 + 1) w7 := ((hsm'.alloc _).alloc _).grown hg7 (fun k hk => by have := (hown'.lt k hk).1; omega)
            have h7 : Stp S w w7 := ((hst.alloc _).alloc _).grown hg7 (fun k hk => .inr (by have := (hown'.lt k hk).1; omega))
            have hz7 := hg7.size
            simp at hz7
            go_wp2_with fail
            go_roundg (6 - (4 + 1))
            case measure => have := hgk.out; omega
            case rel => exact ⟨5, _, rfl, by omega, rfl, by have := hl'.out; show List.length _ ≤ 6 + 5; simp; omega, hs'.out.snoc hsz hsz2, hown7, h7, s7, by omega⟩
          · have e1 := encode_size_le 102
            have e2 := encode_size_le 101
            have hsz : ((⟨#[120]⟩ : ByteArray) ++ Utf8.encode 102).size ≤ 1000 := by rw [ByteArray.size_append]; show 1 + _ ≤ _; omega
            have hsz2 : ((⟨#[120]⟩ : ByteArray) ++ Utf8.encode 101).size ≤ 1000 := by rw [ByteArray.size_append]; show 1 + _ ≤ _; omega
            go_upto_region 19 with (at_builtin; refine wpList_append_one rfl _ _ 26 rfl w2.heap.size 65 32 (.agg #[.string ⟨#[]⟩, .string ⟨#[]⟩]) Tryd.underlying26 Tryd.infoTopic rfl _ l' rfl ((hown'.alloc _).alloc _) (_, _) _ rfl (Box.newAt _ _ _ _ ?c0) ?c1 ?c2 ?c3 ?_; rotate_left 4; intro v' w7 hown7 hg7)
            case c0 => simp
            case c1 => have := Hal.out; omega
            case c2 => have := Hal.out; omega
            case c3 => simp; omega
            have s7 : Strm S (B + 5 + 1 + 1) w7 := ((hsm'.alloc _).alloc _).grown hg7 (fun k hk => by have := (hown'.lt k hk).1; omega)
            have h7 : Stp S w w7 := ((hst.alloc _).alloc _).grown hg7 (fun k hk => .inr (by have := (hown'.lt k hk).1; omega))
            have hz7 := hg7.size
            simp at hz7
            go_wp2_with fail
            go_roundg (6 - (5 + 1))
            case measure => have := hgk.out; omega
            case rel => exact ⟨6, _, rfl, by omega, rfl, by have := hl'.out; show List.length _ ≤ 6 + 6; simp; omega, hs'.out.snoc hsz hsz2, hown7, h7, s7, by omega⟩
      · obtain rfl : k = 6 := by omega
        go_wp2_with fail
        go_ret
        exact hown'.forest hS2 hl'.out hs'.out hst (hsm'.mono (by omega))
  · obtain ⟨a4, cap4, rfl, hsa4, _, _⟩ := hown4.form
    go_wp2_with fail
    refine (reverse_any _ l a4 cap4 w4 hown4 (by omega) hsm).mono ?_
    rintro e w5 ⟨l5, rfl, hl5, hsm5, hown5, hb5⟩
    have s5 : Strm S (B + 5 + 1 + 1) w5 := s4.belowB hb5 hS2
    have h5 : Stp S w w5 := h4'.belowB hb5 hz0
    go_wp2_with fail
    go_ret
    exact hown5.forest hS2 (by omega) hsm5 h5 (s5.mono (by omega))
end Go.Proofs.YtfpoaggkjhcdnaaDoor
