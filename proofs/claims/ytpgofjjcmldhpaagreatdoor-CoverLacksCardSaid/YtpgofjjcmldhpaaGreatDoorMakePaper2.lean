/- The maker Order. -/
import Derived.Test.YtpgofjjcmldhpaaGreatDoorMakeList
import Derived.RegionTactic
import Derived.ChangeAlike
import Derived.BigRegion
import Derived.Test.YtpgofjjcmldhpaaGreatDoorPaper1
import Derived.Test.YtpgofjjcmldhpaaGreatDoorStrs
import Derived.Test.YtpgofjjcmldhpaaGreatDoorKeep
import Derived.Deep.RegionLaw
/-! The maker Order. -/
namespace Go.Proofs.YtpgofjjcmldhpaaGreatDoor
open Go.RowKit
set_option linter.unusedVariables false
set_option linter.unusedSimpArgs false

theorem Tryz.infoInt : (Tryz.prog.info? 3).map (fun i => (i.zero, i.size, i.bytes)) = some (some (.int .i64 0), 1, 8) := by kernel_rfl
theorem SA.int {w : World} {a : Option Addr} {l : List Int} (h : SA w a l) {i : Nat} (hi : i < l.length) :
    ∃ b off, a = some ⟨b, off, none⟩ ∧ w.cell? ⟨b, off + i, none⟩ = some (.int .i64 l[i]) := by
  obtain ⟨b, off, ha, hc⟩ := h.at hi
  refine ⟨b, off, ha, ?_⟩
  have := hc 0 (by decide)
  rw [show off + (i * Cel.k Int + 0) = off + i from by show off + (i * 1 + 0) = _; omega] at this
  exact this
def InR (n : Nat) (x : Int) : Prop := 0 ≤ x ∧ x < n
/-- The numbers from 0 to n-1, or others of that range. -/
def SomeOrder (S : Nat) (B : Int) (n : Nat) (w : World) (e : Ending) (w' : World) : Prop :=
  ∃ (v : Value) (l : List Int), e = .returned v ∧ l.length = n ∧ (∀ x ∈ l, InR n x) ∧ Own w.heap.size 3 w' v l ∧ Stp S w w' ∧ Strm S B w'

set_option maxRecDepth 100000 in
set_option maxHeartbeats 8000000 in
theorem order_any (S : Nat) (B : Int) (n : Nat) (w : World) (hs : Strm S B w) (hB : B ≤ 999990000) (hn : n ≤ 1000) :
    Calls Tryz.prog 47 #[.pointer (some ⟨S, 0, none⟩), .int .i64 n] w (SomeOrder S (B + n) n w) := by
  have hS := hs.lt
  go_enter Tryz.func47, Tryz.ntmps47
  go_wp2_with fail
  go_loopg [5, 10] n (fun gk v i wr => ∃ (k : Nat) (acc : List Int), i = .int .i64 k ∧ k ≤ n ∧ Hid (gk = n - k) ∧ Hid (acc.length = k) ∧ Hid (∀ x ∈ acc, InR n x) ∧ Own w.heap.size 3 wr v acc ∧ Stp S w wr ∧ Strm S B wr)
  case atStart => exact ⟨0, [], rfl, by omega, rfl, rfl, by simp [Hid], Own.nil _ _ _, Stp.refl _ _, hs⟩
  case round =>
    clear hs
    obtain ⟨k, acc, rfl, hk, hgk, hal, hsa, hown, hst, hs⟩ := hrel
    have hz := hst.size
    by_cases hlt : k < n
    · go_upto_region 6 with (at_builtin; refine wpList_append_one rfl _ _ 22 rfl w.heap.size 3 8 (.int .i64 0) Tryz.underlying22 Tryz.infoInt rfl _ acc rfl (hown.alloc _) (k : Int) _ rfl (Box.newAt _ _ _ _ ?c0) ?c1 ?c2 ?c3 ?_; rotate_left 4; intro v' w2 hown2 hg2)
      case c0 => rfl
      case c1 => have := hal.out; omega
      case c2 => have := hal.out; omega
      case c3 => simp; omega
      have s2 : Strm S B w2 := (hs.alloc _).grown hg2 (fun k hk => by have := (hown.lt k hk).1; omega)
      have h2 : Stp S w w2 := (hst.alloc _).grown hg2 (fun k hk => .inr (by have := (hown.lt k hk).1; omega))
      go_wp2_with fail
      go_roundg (n - (k + 1))
      case measure => have := hgk.out; omega
      case rel => exact ⟨k + 1, acc ++ [(k : Int)], by go_num, by omega, rfl, by show _ = _; rw [List.length_append, hal.out]; rfl, all_snoc hsa.out ⟨by omega, by omega⟩, hown2, h2, s2⟩
    · obtain rfl : k = n := by omega
      clear hgk hz
      obtain ⟨a, cap, rfl, hsa0, hform, hcap⟩ := hown.form
      rw [hal.out] at hown ⊢
      clear hsa0
      go_wp2_with fail
      go_loopg [7] k (fun gk s7 wr => ∃ (i : Int) (l : List Int), s7 = .int .i64 i ∧ -1 ≤ i ∧ i < k ∧ Hid (gk = (i + 1).toNat) ∧ Hid (l.length = k) ∧ Hid (∀ x ∈ l, InR k x) ∧ Own w.heap.size 3 wr (.slice a k cap) l ∧ Stp S w wr ∧ Strm S (B + (k - 1 - i)) wr)
      case atStart => exact ⟨(k : Int) - 1, acc, rfl, by omega, by omega, by show _ = _; omega, hal, hsa, hown, hst, hs.mono (by omega)⟩
      case round =>
        clear hs hst hown hsa hal
        obtain ⟨i, l, rfl, hi1, hi2, hgk, hal, hsa, hown, hst, hs⟩ := hrel
        have hz := hst.size
        by_cases hi0 : 0 < i
        · obtain ⟨ni, rfl⟩ := Int.eq_ofNat_of_zero_le (by omega : 0 ≤ i)
          go_wp2_with fail
          refine (next_any S (B + (k - 1 - ni)) (ni + 1) _ hs (by omega) (by omega) (by omega)).mono ?_
          rintro e w1 ⟨r, ⟨hr, hr2⟩, rfl, h1, s1⟩
          obtain ⟨nk, rfl⟩ := Int.eq_ofNat_of_zero_le hr
          have hst1 := hst.trans h1
          have hown1 := hown.stp h1 hS
          have hz1 := h1.size
          clear h1 hst hown hs
          have hil : ni < l.length := by rw [hal.out]; omega
          have hkl : nk < l.length := by rw [hal.out]; omega
          obtain ⟨a', cap', he, hsa1, hf1, _⟩ := hown1.form
          simp only [Value.slice.injEq] at he
          obtain ⟨rfl, -, -⟩ := he
          obtain ⟨g, off, ha, ci⟩ := hsa1.int hil
          obtain ⟨g', off', ha', ck⟩ := hsa1.int hkl
          rw [ha] at ha'
          cases ha'
          obtain ⟨g2, hg2, hg3, hg4⟩ : ∃ b, some (⟨g, off, none⟩ : Addr) = some ⟨b, 0, none⟩ ∧ w.heap.size ≤ b ∧ b < w1.heap.size := by
            rw [ha] at hf1
            rcases hf1 with hf1 | hf1
            · cases hf1
            · exact hf1
          cases hg2
          rw [Nat.zero_add] at ci ck
          rw [ha] at hown1 ⊢
          obtain ⟨cur, hbx⟩ := hown1.box
          have fi := hbx.frozen ni
          have fk := hbx.frozen nk
          have hp1 := hown1.put ni 0 l[nk] (.int .i64 l[nk]) hil (by decide) rfl
          have hp2 := hp1.put nk 0 l[ni] (.int .i64 l[ni]) (by simpa using hkl) (by decide) rfl
          have hsa2 : ∀ x ∈ (l.set ni l[nk]).set nk l[ni], InR k x := fun x hx => by
            rcases List.mem_or_eq_of_mem_set hx with hx | rfl
            · rcases List.mem_or_eq_of_mem_set hx with hx | rfl
              · exact hsa.out x hx
              · exact hsa.out _ (List.getElem_mem hkl)
            · exact hsa.out _ (List.getElem_mem hil)
          have Hl2 : Hid (((l.set ni l[nk]).set nk l[ni]).length = k) := by show _ = _; simp [hal.out]
          have Hsa2 := Lib.hid hsa2
          rw [show ni * Cel.k Int + 0 = ni from by show ni * 1 + 0 = ni; omega, show nk * Cel.k Int + 0 = nk from by show nk * 1 + 0 = nk; omega] at hp2
          generalize (l.set ni l[nk]).set nk l[ni] = l2 at *
          generalize l[ni] = xi at *
          generalize l[nk] = xk at *
          clear hsa2 hp1 hsa1 hf1 hbx
          have hni : (ni : Int) < (k : Int) := by omega
          have hnk : (nk : Int) < (k : Int) := by omega
          by_cases hek : ni = nk
          · subst hek
            obtain rfl : xk = xi := by rw [ci] at ck; simpa using ck.symm
            go_wp2_with fail
            go_region
            all_goals
              go_wp2_with fail
              rw [← ha]
              go_roundg ni
              case measure => have := hgk.out; omega
              case rel => exact ⟨(ni : Int) - 1, l2, rfl, by omega, by omega, by show _ = _; omega, Hl2, Hsa2, by rw [ha]; exact hp2.drew, by (repeat' (first | with_reducible assumption | with_reducible exact Stp.refl _ _ | with_reducible refine Stp.setCell ?_ (Or.inr ?_) _ | with_reducible refine Stp.drewN ?_ _ | with_reducible refine Stp.drew ?_ | with_reducible refine Stp.alloc ?_ _ | omega | (simp; done) | (simp; omega))), Strm.mono (B := B + ((k : Int) - 1 - ni) + 1) (by (repeat' (first | with_reducible assumption | with_reducible refine Strm.setOther ?_ ?_ _ | with_reducible refine Strm.drewN ?_ _ | with_reducible refine Strm.drew ?_ | with_reducible refine Strm.alloc ?_ _ | omega | (simp; done) | (simp; omega)))) (by omega)⟩
          · have hek2 : ¬ nk = ni := fun h => hek h.symm
            go_wp2_with fail
            go_region
            all_goals
              go_wp2_with fail
              rw [← ha]
              go_roundg ni
              case measure => have := hgk.out; omega
              case rel => exact ⟨(ni : Int) - 1, l2, rfl, by omega, by omega, by show _ = _; omega, Hl2, Hsa2, by rw [ha]; exact hp2.drew, by (repeat' (first | with_reducible assumption | with_reducible exact Stp.refl _ _ | with_reducible refine Stp.setCell ?_ (Or.inr ?_) _ | with_reducible refine Stp.drewN ?_ _ | with_reducible refine Stp.drew ?_ | with_reducible refine Stp.alloc ?_ _ | omega | (simp; done) | (simp; omega))), Strm.mono (B := B + ((k : Int) - 1 - ni) + 1) (by (repeat' (first | with_reducible assumption | with_reducible refine Strm.setOther ?_ ?_ _ | with_reducible refine Strm.drewN ?_ _ | with_reducible refine Strm.drew ?_ | with_reducible refine Strm.alloc ?_ _ | omega | (simp; done) | (simp; omega)))) (by omega)⟩
        · go_wp2_with fail
          go_ret
          exact ⟨_, l, rfl, hal.out, hsa.out, hown, hst, hs.mono (by omega)⟩
end Go.Proofs.YtpgofjjcmldhpaaGreatDoor

/-! The maker SpoiledPaper. -/
namespace Go.Proofs.YtpgofjjcmldhpaaGreatDoor
open Go.RowKit
set_option linter.unusedVariables false
set_option linter.unusedSimpArgs false

/-- Sizes of a paper; its lists have at most n elements. -/
def PSz (n : Nat) (p : Paper) : Prop := p.id.size ≤ 1000 ∧ p.track.size ≤ 1000 ∧ p.title.size ≤ 1000 ∧ p.authors.length ≤ n ∧ p.topics.length ≤ n ∧ (∀ x ∈ p.authors, x.size ≤ 1000) ∧ ∀ x ∈ p.topics, x.size ≤ 1000
theorem PSz.small {n : Nat} {p : Paper} (h : PSz n p) (hn : n ≤ 1000) : PSmall p := ⟨h.1, h.2.1, h.2.2.1, by have := h.2.2.2.1; omega, by have := h.2.2.2.2.1; omega, h.2.2.2.2.2⟩
theorem PSz.mono {n m : Nat} {p : Paper} (h : PSz n p) (hn : n ≤ m) : PSz m p := ⟨h.1, h.2.1, h.2.2.1, by have := h.2.2.2.1; omega, by have := h.2.2.2.2.1; omega, h.2.2.2.2.2⟩
/-- Its lists lie apart from the stream. -/
def NoS (S : Nat) (p : Paper) : Prop := (∀ x : Addr, p.a1 = some x → x.block ≠ S) ∧ ∀ x : Addr, p.a2 = some x → x.block ≠ S
theorem PRd.stp {S : Nat} {w w' : World} {p : Paper} (h : PRd w p) (hb : Stp S w w') (hS : NoS S p) : PRd w' p := ⟨h.1.stp hb hS.1, h.2.1.stp hb hS.2, h.2.2⟩
/-- Its lists lie in blocks that are there. -/
def LtP (w : World) (p : Paper) : Prop := (∀ x : Addr, p.a1 = some x → x.block < w.heap.size) ∧ ∀ x : Addr, p.a2 = some x → x.block < w.heap.size
theorem LtP.mono {w w' : World} {p : Paper} (h : LtP w p) (hz : w.heap.size ≤ w'.heap.size) : LtP w' p := ⟨fun x hx => by have := h.1 x hx; omega, fun x hx => by have := h.2 x hx; omega⟩
/-- The lists of p are those of p0, or new ones. -/
def FromP (w : World) (p0 p : Paper) : Prop := (∀ x : Addr, p.a1 = some x → p0.a1 = some x ∨ w.heap.size ≤ x.block) ∧ ∀ x : Addr, p.a2 = some x → p0.a2 = some x ∨ w.heap.size ≤ x.block
/-- A paper is made. -/
def SomePaper (S : Nat) (B : Int) (n : Nat) (p0 : Paper) (w : World) (e : Ending) (w' : World) : Prop :=
  ∃ p : Paper, e = .returned p.agg ∧ PSz n p ∧ PRd w' p ∧ NoS S p ∧ FromP w p0 p ∧ LtP w' p ∧ Stp S w w' ∧ Strm S B w'

theorem SomePaper.of {S : Nat} {B : Int} {n : Nat} {w W : World} {p0 p : Paper} (hst : Stp S w W) (hs : Strm S B W) (hrd : Stp S w W → PRd W p) (hz : PSz n p) (hS : NoS S p) (hf : FromP w p0 p) (hl : LtP W p) : SomePaper S B n p0 w (.returned p.agg) W := ⟨p, rfl, hz, hrd hst, hS, hf, hl, hst, hs⟩


set_option maxRecDepth 100000 in
set_option maxHeartbeats 8000000 in
theorem spoiled_any (S : Nat) (B : Int) (n : Nat) (p : Paper) (w : World) (hs : Strm S B w) (hB : B ≤ 999990000) (hp : PRd w p) (hlp : LtP w p) (hz : PSz n p) (hn : n ≤ 900) (hS : NoS S p) :
    Calls Tryz.prog 48 #[.pointer (some ⟨S, 0, none⟩), p.agg] w (SomePaper S (B + 3) (n + 1) p w) := by
  obtain ⟨id, track, title, authors, topics, a1, c1, a2, c2⟩ := p
  have hSl := hs.lt
  unfold Paper.agg
  simp only
  have hP0 := (Box.new w 86 #[.string id, .string track, .string title, .slice a1 authors.length c1, .slice a2 topics.length c2]).alloc (.cells #[.string ⟨#[]⟩, .string ⟨#[]⟩, .string ⟨#[]⟩, .slice none 0 0, .slice none 0 0] 86)
  have hR0 := Box.newAt (w.alloc (.cells #[.string id, .string track, .string title, .slice a1 authors.length c1, .slice a2 topics.length c2] 86)) (w.heap.size + 1) 86 #[.string ⟨#[]⟩, .string ⟨#[]⟩, .string ⟨#[]⟩, .slice none 0 0, .slice none 0 0] (by simp)
  go_enter Tryz.func48, Tryz.ntmps48
  go_wp2_with fail
  refine (next_any S B 6 _ ((hs.alloc _).alloc _) (by omega) (by omega) (by omega)).mono ?_
  rintro e w1 ⟨r, ⟨hr, hr2⟩, rfl, h1, s1⟩
  have hz1 := h1.size
  simp at hz1
  have hP := hP0.stp h1 (by omega)
  have hR := hR0.stp h1 (by omega)
  have hst : Stp S w w1 := (((Stp.refl S w).alloc _).alloc _).trans h1
  have hpr : PRd w1 ⟨id, track, title, authors, topics, a1, c1, a2, c2⟩ := hp.stp hst hS
  clear hP0 hR0 h1
  obtain rfl | rfl | rfl | rfl | rfl | rfl : r = 0 ∨ r = 1 ∨ r = 2 ∨ r = 3 ∨ r = 4 ∨ r = 5 := by omega
  · go_wp2_with fail
    refine (repeat_any 112 40 _ (by omega)).mono ?_
    rintro e w2 ⟨x2, hx2, rfl, hb2⟩
    go_wp2_with fail
    refine (repeat_any 112 41 _ (by omega)).mono ?_
    rintro e w3 ⟨x3, hx3, rfl, hb3⟩
    have hb3' := below_next hb2 hb3
    have hzz := hb3'.size
    have hP3 := hP.below hb3'
    have hR3 := hR.below hb3'
    have hst3 : Stp S w w3 := hst.trans (Stp.of_below hb3')
    have s3 := s1.below hb3'
    clear hP hR hst s1 hpr hb2 hb3
    go_wp2_with fail
    refine (one_any S (B + 1) _ 5 5 9 _ _ (s3.alloc _) (by omega) (Box.new _ _ _) (by omega) rfl (by omega) (by omega) (by simp; repeat' (first | apply And.intro | decide | omega))).mono ?_
    rintro e w4 ⟨x, hx, rfl, h4, s4⟩
    have hz4 := h4.size
    simp at hz4
    have hP4 := (hP3.alloc _).stp h4 (by omega)
    have hR4 := (hR3.alloc _).stp h4 (by omega)
    have hst4 : Stp S w w4 := (hst3.alloc _).trans h4
    clear h4 hst3 s3 hP3 hR3
    have hP4_l := hP4.lt; have hP4_0 := hP4.cell 0; have hP4_1 := hP4.cell 1; have hP4_2 := hP4.cell 2; have hP4_3 := hP4.cell 3; have hP4_4 := hP4.cell 4; simp at hP4_0 hP4_1 hP4_2 hP4_3 hP4_4
    have hP4_f0 := hP4.frozen 0; have hP4_f1 := hP4.frozen 1; have hP4_f2 := hP4.frozen 2; have hP4_f3 := hP4.frozen 3; have hP4_f4 := hP4.frozen 4
    have hR4_l := hR4.lt; have hR4_0 := hR4.cell 0; have hR4_1 := hR4.cell 1; have hR4_2 := hR4.cell 2; have hR4_3 := hR4.cell 3; have hR4_4 := hR4.cell 4; simp at hR4_0 hR4_1 hR4_2 hR4_3 hR4_4
    have hR4_f0 := hR4.frozen 0; have hR4_f1 := hR4.frozen 1; have hR4_f2 := hR4.frozen 2; have hR4_f3 := hR4.frozen 3; have hR4_f4 := hR4.frozen 4
    go_wp2_with fail
    refine bodyPost_ret (v := Paper.agg ⟨x, track, title, authors, topics, a1, c1, a2, c2⟩) (by simp only [results, Tryz.results48]; go_simp; first | rfl | simp [Paper.agg]) rfl ?_
    exact SomePaper.of (by (repeat' (first | with_reducible assumption | with_reducible exact Stp.refl _ _ | with_reducible refine Stp.setCell ?_ (Or.inr ?_) _ | with_reducible refine Stp.drewN ?_ _ | with_reducible refine Stp.drew ?_ | with_reducible refine Stp.alloc ?_ _ | omega | (simp; done) | (simp; omega)))) (Strm.mono (B := B + 1 + 1) (by (repeat' (first | with_reducible assumption | with_reducible refine Strm.setOther ?_ ?_ _ | with_reducible refine Strm.drewN ?_ _ | with_reducible refine Strm.drew ?_ | with_reducible refine Strm.alloc ?_ _ | omega | (simp; done) | (simp; omega)))) (by omega)) (fun h => hp.stp (p := ⟨id, track, title, authors, topics, a1, c1, a2, c2⟩) h hS) ((show PSz n ⟨x, track, title, authors, topics, a1, c1, a2, c2⟩ from ⟨hx, hz.2.1, hz.2.2.1, hz.2.2.2.1, hz.2.2.2.2.1, hz.2.2.2.2.2⟩).mono (by omega)) hS ⟨fun y hy => .inl hy, fun y hy => .inl hy⟩ ⟨fun y hy => by have := hlp.1 y hy; simp; omega, fun y hy => by have := hlp.2 y hy; simp; omega⟩
  · have hb2 := Below.refl w1.heap.size w1
    obtain ⟨w3, hw3⟩ : ∃ w3, w3 = w1 := ⟨_, rfl⟩
    have hb3' : Below w1.heap.size w1 w3 := by rw [hw3]; exact hb2
    rw [← hw3] at s1 hP hR hst hpr ⊢
    clear hw3 hb2
    have hzz := hb3'.size
    have hP3 := hP
    have hR3 := hR
    have hst3 := hst
    have s3 := s1
    clear hP hR hst s1 hpr
    go_wp2_with fail
    refine (one_any S (B + 1) _ 2 2 9 _ _ (s3.alloc _) (by omega) (Box.new _ _ _) (by omega) rfl (by omega) (by omega) (by simp; repeat' (first | apply And.intro | decide | omega))).mono ?_
    rintro e w4 ⟨x, hx, rfl, h4, s4⟩
    have hz4 := h4.size
    simp at hz4
    have hP4 := (hP3.alloc _).stp h4 (by omega)
    have hR4 := (hR3.alloc _).stp h4 (by omega)
    have hst4 : Stp S w w4 := (hst3.alloc _).trans h4
    clear h4 hst3 s3 hP3 hR3
    have hP4_l := hP4.lt; have hP4_0 := hP4.cell 0; have hP4_1 := hP4.cell 1; have hP4_2 := hP4.cell 2; have hP4_3 := hP4.cell 3; have hP4_4 := hP4.cell 4; simp at hP4_0 hP4_1 hP4_2 hP4_3 hP4_4
    have hP4_f0 := hP4.frozen 0; have hP4_f1 := hP4.frozen 1; have hP4_f2 := hP4.frozen 2; have hP4_f3 := hP4.frozen 3; have hP4_f4 := hP4.frozen 4
    have hR4_l := hR4.lt; have hR4_0 := hR4.cell 0; have hR4_1 := hR4.cell 1; have hR4_2 := hR4.cell 2; have hR4_3 := hR4.cell 3; have hR4_4 := hR4.cell 4; simp at hR4_0 hR4_1 hR4_2 hR4_3 hR4_4
    have hR4_f0 := hR4.frozen 0; have hR4_f1 := hR4.frozen 1; have hR4_f2 := hR4.frozen 2; have hR4_f3 := hR4.frozen 3; have hR4_f4 := hR4.frozen 4
    go_wp2_with fail
    refine bodyPost_ret (v := Paper.agg ⟨id, x, title, authors, topics, a1, c1, a2, c2⟩) (by simp only [results, Tryz.results48]; go_simp; first | rfl | simp [Paper.agg]) rfl ?_
    exact SomePaper.of (by (repeat' (first | with_reducible assumption | with_reducible exact Stp.refl _ _ | with_reducible refine Stp.setCell ?_ (Or.inr ?_) _ | with_reducible refine Stp.drewN ?_ _ | with_reducible refine Stp.drew ?_ | with_reducible refine Stp.alloc ?_ _ | omega | (simp; done) | (simp; omega)))) (Strm.mono (B := B + 1 + 1) (by (repeat' (first | with_reducible assumption | with_reducible refine Strm.setOther ?_ ?_ _ | with_reducible refine Strm.drewN ?_ _ | with_reducible refine Strm.drew ?_ | with_reducible refine Strm.alloc ?_ _ | omega | (simp; done) | (simp; omega)))) (by omega)) (fun h => hp.stp (p := ⟨id, track, title, authors, topics, a1, c1, a2, c2⟩) h hS) ((show PSz n ⟨id, x, title, authors, topics, a1, c1, a2, c2⟩ from ⟨hz.1, hx, hz.2.2.1, hz.2.2.2.1, hz.2.2.2.2.1, hz.2.2.2.2.2⟩).mono (by omega)) hS ⟨fun y hy => .inl hy, fun y hy => .inl hy⟩ ⟨fun y hy => by have := hlp.1 y hy; simp; omega, fun y hy => by have := hlp.2 y hy; simp; omega⟩
  · go_wp2_with fail
    refine (repeat_any 116 200 _ (by omega)).mono ?_
    rintro e w2 ⟨x2, hx2, rfl, hb2⟩
    go_wp2_with fail
    refine (repeat_any 116 201 _ (by omega)).mono ?_
    rintro e w3 ⟨x3, hx3, rfl, hb3⟩
    have hb3' := below_next hb2 hb3
    have hzz := hb3'.size
    have hP3 := hP.below hb3'
    have hR3 := hR.below hb3'
    have hst3 : Stp S w w3 := hst.trans (Stp.of_below hb3')
    have s3 := s1.below hb3'
    clear hP hR hst s1 hpr hb2 hb3
    go_wp2_with fail
    refine (one_any S (B + 1) _ 6 6 9 _ _ (s3.alloc _) (by omega) (Box.new _ _ _) (by omega) rfl (by omega) (by omega) (by simp; repeat' (first | apply And.intro | decide | omega))).mono ?_
    rintro e w4 ⟨x, hx, rfl, h4, s4⟩
    have hz4 := h4.size
    simp at hz4
    have hP4 := (hP3.alloc _).stp h4 (by omega)
    have hR4 := (hR3.alloc _).stp h4 (by omega)
    have hst4 : Stp S w w4 := (hst3.alloc _).trans h4
    clear h4 hst3 s3 hP3 hR3
    have hP4_l := hP4.lt; have hP4_0 := hP4.cell 0; have hP4_1 := hP4.cell 1; have hP4_2 := hP4.cell 2; have hP4_3 := hP4.cell 3; have hP4_4 := hP4.cell 4; simp at hP4_0 hP4_1 hP4_2 hP4_3 hP4_4
    have hP4_f0 := hP4.frozen 0; have hP4_f1 := hP4.frozen 1; have hP4_f2 := hP4.frozen 2; have hP4_f3 := hP4.frozen 3; have hP4_f4 := hP4.frozen 4
    have hR4_l := hR4.lt; have hR4_0 := hR4.cell 0; have hR4_1 := hR4.cell 1; have hR4_2 := hR4.cell 2; have hR4_3 := hR4.cell 3; have hR4_4 := hR4.cell 4; simp at hR4_0 hR4_1 hR4_2 hR4_3 hR4_4
    have hR4_f0 := hR4.frozen 0; have hR4_f1 := hR4.frozen 1; have hR4_f2 := hR4.frozen 2; have hR4_f3 := hR4.frozen 3; have hR4_f4 := hR4.frozen 4
    go_wp2_with fail
    refine bodyPost_ret (v := Paper.agg ⟨id, track, x, authors, topics, a1, c1, a2, c2⟩) (by simp only [results, Tryz.results48]; go_simp; first | rfl | simp [Paper.agg]) rfl ?_
    exact SomePaper.of (by (repeat' (first | with_reducible assumption | with_reducible exact Stp.refl _ _ | with_reducible refine Stp.setCell ?_ (Or.inr ?_) _ | with_reducible refine Stp.drewN ?_ _ | with_reducible refine Stp.drew ?_ | with_reducible refine Stp.alloc ?_ _ | omega | (simp; done) | (simp; omega)))) (Strm.mono (B := B + 1 + 1) (by (repeat' (first | with_reducible assumption | with_reducible refine Strm.setOther ?_ ?_ _ | with_reducible refine Strm.drewN ?_ _ | with_reducible refine Strm.drew ?_ | with_reducible refine Strm.alloc ?_ _ | omega | (simp; done) | (simp; omega)))) (by omega)) (fun h => hp.stp (p := ⟨id, track, title, authors, topics, a1, c1, a2, c2⟩) h hS) ((show PSz n ⟨id, track, x, authors, topics, a1, c1, a2, c2⟩ from ⟨hz.1, hz.2.1, hx, hz.2.2.2.1, hz.2.2.2.2.1, hz.2.2.2.2.2⟩).mono (by omega)) hS ⟨fun y hy => .inl hy, fun y hy => .inl hy⟩ ⟨fun y hy => by have := hlp.1 y hy; simp; omega, fun y hy => by have := hlp.2 y hy; simp; omega⟩
  · have hl0 := hz.2.2.2.1
    simp only at hl0
    have hP_l := hP.lt; have hP_0 := hP.cell 0; have hP_1 := hP.cell 1; have hP_2 := hP.cell 2; have hP_3 := hP.cell 3; have hP_4 := hP.cell 4; simp at hP_0 hP_1 hP_2 hP_3 hP_4
    go_wp2_with fail
    refine (clone_any authors a1 c1 w1 hpr.1 (by omega)).mono ?_
    rintro e w2 ⟨v2, rfl, hown2, hb2⟩
    have hz2 := hb2.size
    have hP2 := hP.below hb2
    have hR2 := hR.below hb2
    have hst2 : Stp S w w2 := hst.trans (Stp.of_below hb2)
    have s2 := s1.below hb2
    clear hP_l hP_0 hP_1 hP_2 hP_3 hP_4
    clear hP hR hst s1 hpr hb2
    go_wp2_with fail
    refine (one_any S (B + 1) _ 3 3 9 _ _ (s2.alloc _) (by omega) (Box.new _ _ _) (by omega) rfl (by omega) (by omega) (by simp; decide)).mono ?_
    rintro e w4 ⟨x, hx, rfl, h4, s4⟩
    have hz4 := h4.size
    simp at hz4
    have hP4 := (hP2.alloc _).stp h4 (by omega)
    have hR4 := (hR2.alloc _).stp h4 (by omega)
    have hst4 : Stp S w w4 := (hst2.alloc _).trans h4
    have hown4 := (hown2.alloc _).stp h4 (by omega)
    clear h4 hst2 s2 hP2 hR2 hown2
    go_upto_region 13 with (at_builtin; refine wpList_append_one rfl _ _ 52 rfl w1.heap.size 9 16 (.string ⟨#[]⟩) Tryz.underlying52 Tryz.infoString rfl _ authors rfl (hown4.alloc _) x _ rfl (Box.newAt _ _ _ _ ?c0) ?c1 ?c2 ?c3 ?_; rotate_left 4; intro v6 w6 hown6 hg6; obtain ⟨a6, cap6, rfl, hsa6, hbl6, hcp6⟩ := hown6.sa; have hP6 := (hP4.alloc (.cells #[.string x] 9)).same (hg6.block _ (by simp; omega) (fun h => by have := (hown4.lt _ h.symm).1; omega)); have hP6_l := hP6.lt; have hP6_0 := hP6.cell 0; have hP6_1 := hP6.cell 1; have hP6_2 := hP6.cell 2; have hP6_3 := hP6.cell 3; have hP6_4 := hP6.cell 4; simp at hP6_0 hP6_1 hP6_2 hP6_3 hP6_4; have hP6_f0 := hP6.frozen 0; have hP6_f1 := hP6.frozen 1; have hP6_f2 := hP6.frozen 2; have hP6_f3 := hP6.frozen 3; have hP6_f4 := hP6.frozen 4)
    case c0 => rfl
    case c1 => omega
    case c2 => omega
    case c3 => simp; omega
    have s6 : Strm S (B + 1 + 1) w6 := (s4.alloc _).grown hg6 (fun k hk => by have := (hown4.lt k hk).1; omega)
    have hst6 : Stp S w w6 := (hst4.alloc _).grown hg6 (fun k hk => .inr (by have := (hown4.lt k hk).1; omega))
    have hR6 := (hR4.alloc (.cells #[.string x] 9)).same (hg6.block _ (by simp; omega) (fun h => by have := (hown4.lt _ h.symm).1; omega))
    clear hg6 hown4 hst4 s4 hP4 hR4
    have hR6_l := hR6.lt; have hR6_0 := hR6.cell 0; have hR6_1 := hR6.cell 1; have hR6_2 := hR6.cell 2; have hR6_3 := hR6.cell 3; have hR6_4 := hR6.cell 4; simp at hR6_0 hR6_1 hR6_2 hR6_3 hR6_4
    have hR6_f0 := hR6.frozen 0; have hR6_f1 := hR6.frozen 1; have hR6_f2 := hR6.frozen 2; have hR6_f3 := hR6.frozen 3; have hR6_f4 := hR6.frozen 4
    go_wp2_with fail
    refine bodyPost_ret (v := Paper.agg ⟨id, track, title, authors ++ [x], topics, a6, cap6, a2, c2⟩) (by simp only [results, Tryz.results48]; go_simp; first | rfl | simp [Paper.agg]) rfl ?_
    refine SomePaper.of (by (repeat' (first | with_reducible assumption | with_reducible exact Stp.refl _ _ | with_reducible refine Stp.setCell ?_ (Or.inr ?_) _ | with_reducible refine Stp.drewN ?_ _ | with_reducible refine Stp.drew ?_ | with_reducible refine Stp.alloc ?_ _ | omega | (simp; done) | (simp; omega)))) (Strm.mono (B := B + 1 + 1) (by (repeat' (first | with_reducible assumption | with_reducible refine Strm.setOther ?_ ?_ _ | with_reducible refine Strm.drewN ?_ _ | with_reducible refine Strm.drew ?_ | with_reducible refine Strm.alloc ?_ _ | omega | (simp; done) | (simp; omega)))) (by omega)) (fun h => ⟨?_, (hp.stp h hS).2.1, by simpa using hcp6⟩) ⟨hz.1, hz.2.1, hz.2.2.1, by have := hz.2.2.2.1; simp only at this ⊢; simp; omega, by have := hz.2.2.2.2.1; simp only at this ⊢; omega, all_snoc hz.2.2.2.2.2.1 hx, hz.2.2.2.2.2.2⟩ ⟨fun y hy => by have := hbl6 y hy; omega, hS.2⟩ ⟨fun y hy => .inr (by have := hbl6 y hy; omega), fun y hy => .inl hy⟩ ⟨fun y hy => by have := hbl6 y hy; simp; omega, fun y hy => by have := hlp.2 y hy; have := hst6.size; simp; omega⟩
    have hn6 : ∀ (q : Addr), q.block ≤ w.heap.size + 1 → ∀ y : Addr, a6 = some y → y.block ≠ q.block := fun q hq y hy => by have := (hbl6 y hy).1; omega
    repeat' (first | with_reducible assumption | with_reducible refine SA.setOther ?_ (hn6 _ ?_) _ | (simp; done) | (simp; omega))
  · have hP_l := hP.lt; have hP_0 := hP.cell 0; have hP_1 := hP.cell 1; have hP_2 := hP.cell 2; have hP_3 := hP.cell 3; have hP_4 := hP.cell 4; simp at hP_0 hP_1 hP_2 hP_3 hP_4
    have hP_f0 := hP.frozen 0; have hP_f1 := hP.frozen 1; have hP_f2 := hP.frozen 2; have hP_f3 := hP.frozen 3; have hP_f4 := hP.frozen 4
    have hR_l := hR.lt; have hR_0 := hR.cell 0; have hR_1 := hR.cell 1; have hR_2 := hR.cell 2; have hR_3 := hR.cell 3; have hR_4 := hR.cell 4; simp at hR_0 hR_1 hR_2 hR_3 hR_4
    have hR_f0 := hR.frozen 0; have hR_f1 := hR.frozen 1; have hR_f2 := hR.frozen 2; have hR_f3 := hR.frozen 3; have hR_f4 := hR.frozen 4
    go_wp2_with fail
    refine bodyPost_ret (v := Paper.agg ⟨id, track, title, [], topics, none, 0, a2, c2⟩) (by simp only [results, Tryz.results48]; go_simp; first | rfl | simp [Paper.agg]) rfl ?_
    exact SomePaper.of (by (repeat' (first | with_reducible assumption | with_reducible exact Stp.refl _ _ | with_reducible refine Stp.setCell ?_ (Or.inr ?_) _ | with_reducible refine Stp.drewN ?_ _ | with_reducible refine Stp.drew ?_ | with_reducible refine Stp.alloc ?_ _ | omega | (simp; done) | (simp; omega)))) (Strm.mono (B := B + 1) (by (repeat' (first | with_reducible assumption | with_reducible refine Strm.setOther ?_ ?_ _ | with_reducible refine Strm.drewN ?_ _ | with_reducible refine Strm.drew ?_ | with_reducible refine Strm.alloc ?_ _ | omega | (simp; done) | (simp; omega)))) (by omega)) (fun h => ⟨SA.nil _ _, (hp.stp h hS).2.1, by simp⟩) ⟨hz.1, hz.2.1, hz.2.2.1, by simp, by have := hz.2.2.2.2.1; simp only at this ⊢; omega, by simp, hz.2.2.2.2.2.2⟩ ⟨(fun y hy => by cases hy), hS.2⟩ ⟨(fun y hy => by cases hy), fun y hy => .inl hy⟩ ⟨(fun y hy => by cases hy), fun y hy => by have := hlp.2 y hy; simp; omega⟩
  · have hl0 := hz.2.2.2.2.1
    simp only at hl0
    have hP_l := hP.lt; have hP_0 := hP.cell 0; have hP_1 := hP.cell 1; have hP_2 := hP.cell 2; have hP_3 := hP.cell 3; have hP_4 := hP.cell 4; simp at hP_0 hP_1 hP_2 hP_3 hP_4
    go_wp2_with fail
    refine (clone_any topics a2 c2 w1 hpr.2.1 (by omega)).mono ?_
    rintro e w2 ⟨v2, rfl, hown2, hb2⟩
    have hz2 := hb2.size
    have hP2 := hP.below hb2
    have hR2 := hR.below hb2
    have hst2 : Stp S w w2 := hst.trans (Stp.of_below hb2)
    have s2 := s1.below hb2
    clear hP_l hP_0 hP_1 hP_2 hP_3 hP_4
    clear hP hR hst s1 hpr hb2
    go_wp2_with fail
    refine (one_any S (B + 1) _ 3 3 9 _ _ (s2.alloc _) (by omega) (Box.new _ _ _) (by omega) rfl (by omega) (by omega) (by simp; decide)).mono ?_
    rintro e w4 ⟨x, hx, rfl, h4, s4⟩
    have hz4 := h4.size
    simp at hz4
    have hP4 := (hP2.alloc _).stp h4 (by omega)
    have hR4 := (hR2.alloc _).stp h4 (by omega)
    have hst4 : Stp S w w4 := (hst2.alloc _).trans h4
    have hown4 := (hown2.alloc _).stp h4 (by omega)
    clear h4 hst2 s2 hP2 hR2 hown2
    go_upto_region 13 with (at_builtin; refine wpList_append_one rfl _ _ 52 rfl w1.heap.size 9 16 (.string ⟨#[]⟩) Tryz.underlying52 Tryz.infoString rfl _ topics rfl (hown4.alloc _) x _ rfl (Box.newAt _ _ _ _ ?c0) ?c1 ?c2 ?c3 ?_; rotate_left 4; intro v6 w6 hown6 hg6; obtain ⟨a6, cap6, rfl, hsa6, hbl6, hcp6⟩ := hown6.sa; have hP6 := (hP4.alloc (.cells #[.string x] 9)).same (hg6.block _ (by simp; omega) (fun h => by have := (hown4.lt _ h.symm).1; omega)); have hP6_l := hP6.lt; have hP6_0 := hP6.cell 0; have hP6_1 := hP6.cell 1; have hP6_2 := hP6.cell 2; have hP6_3 := hP6.cell 3; have hP6_4 := hP6.cell 4; simp at hP6_0 hP6_1 hP6_2 hP6_3 hP6_4; have hP6_f0 := hP6.frozen 0; have hP6_f1 := hP6.frozen 1; have hP6_f2 := hP6.frozen 2; have hP6_f3 := hP6.frozen 3; have hP6_f4 := hP6.frozen 4)
    case c0 => rfl
    case c1 => omega
    case c2 => omega
    case c3 => simp; omega
    have s6 : Strm S (B + 1 + 1) w6 := (s4.alloc _).grown hg6 (fun k hk => by have := (hown4.lt k hk).1; omega)
    have hst6 : Stp S w w6 := (hst4.alloc _).grown hg6 (fun k hk => .inr (by have := (hown4.lt k hk).1; omega))
    have hR6 := (hR4.alloc (.cells #[.string x] 9)).same (hg6.block _ (by simp; omega) (fun h => by have := (hown4.lt _ h.symm).1; omega))
    clear hg6 hown4 hst4 s4 hP4 hR4
    have hR6_l := hR6.lt; have hR6_0 := hR6.cell 0; have hR6_1 := hR6.cell 1; have hR6_2 := hR6.cell 2; have hR6_3 := hR6.cell 3; have hR6_4 := hR6.cell 4; simp at hR6_0 hR6_1 hR6_2 hR6_3 hR6_4
    have hR6_f0 := hR6.frozen 0; have hR6_f1 := hR6.frozen 1; have hR6_f2 := hR6.frozen 2; have hR6_f3 := hR6.frozen 3; have hR6_f4 := hR6.frozen 4
    go_wp2_with fail
    refine bodyPost_ret (v := Paper.agg ⟨id, track, title, authors, topics ++ [x], a1, c1, a6, cap6⟩) (by simp only [results, Tryz.results48]; go_simp; first | rfl | simp [Paper.agg]) rfl ?_
    refine SomePaper.of (by (repeat' (first | with_reducible assumption | with_reducible exact Stp.refl _ _ | with_reducible refine Stp.setCell ?_ (Or.inr ?_) _ | with_reducible refine Stp.drewN ?_ _ | with_reducible refine Stp.drew ?_ | with_reducible refine Stp.alloc ?_ _ | omega | (simp; done) | (simp; omega)))) (Strm.mono (B := B + 1 + 1) (by (repeat' (first | with_reducible assumption | with_reducible refine Strm.setOther ?_ ?_ _ | with_reducible refine Strm.drewN ?_ _ | with_reducible refine Strm.drew ?_ | with_reducible refine Strm.alloc ?_ _ | omega | (simp; done) | (simp; omega)))) (by omega)) (fun h => ⟨(hp.stp h hS).1, ?_, hp.2.2⟩) ⟨hz.1, hz.2.1, hz.2.2.1, by have := hz.2.2.2.1; simp only at this ⊢; omega, by have := hz.2.2.2.2.1; simp only at this ⊢; simp; omega, hz.2.2.2.2.2.1, all_snoc hz.2.2.2.2.2.2 hx⟩ ⟨hS.1, fun y hy => by have := hbl6 y hy; omega⟩ ⟨fun y hy => .inl hy, fun y hy => .inr (by have := hbl6 y hy; omega)⟩ ⟨fun y hy => by have := hlp.1 y hy; have := hst6.size; simp; omega, fun y hy => by have := hbl6 y hy; simp; omega⟩
    have hn6 : ∀ (q : Addr), q.block ≤ w.heap.size + 1 → ∀ y : Addr, a6 = some y → y.block ≠ q.block := fun q hq y hy => by have := (hbl6 y hy).1; omega
    repeat' (first | with_reducible assumption | with_reducible refine SA.setOther ?_ (hn6 _ ?_) _ | (simp; done) | (simp; omega))
end Go.Proofs.YtpgofjjcmldhpaaGreatDoor

/-! The maker Papers. -/
namespace Go.Proofs.YtpgofjjcmldhpaaGreatDoor
open Go.RowKit
set_option linter.unusedVariables false
set_option linter.unusedSimpArgs false

theorem PRd.kp {X : Nat → Prop} {w w' : World} {p : Paper} (h : PRd w p) (k : Kp X w w') (h1 : ∀ x : Addr, p.a1 = some x → x.block < w.heap.size → ¬ X x.block) (h2 : ∀ x : Addr, p.a2 = some x → x.block < w.heap.size → ¬ X x.block) : PRd w' p := ⟨h.1.kp k h1, h.2.1.kp k h2, h.2.2⟩
/-- The lists of a paper lie apart from the block of a slice. -/
def ApV (v : Value) (p : Paper) : Prop := ∀ j, v.ownBlock = some j → (∀ x : Addr, p.a1 = some x → x.block ≠ j) ∧ ∀ x : Addr, p.a2 = some x → x.block ≠ j
def SomePapers (S : Nat) (B : Int) (n : Nat) (w : World) (e : Ending) (w' : World) : Prop :=
  ∃ (v : Value) (ps : List Paper), e = .returned v ∧ ps.length ≤ n ∧ (∀ p ∈ ps, PSz 8 p ∧ NoS S p) ∧ Own w.heap.size 86 w' v ps ∧ (∀ p ∈ ps, PRd w' p ∧ LtP w' p) ∧ Stp S w w' ∧ Strm S B w'
theorem Tryz.infoPaper : (Tryz.prog.info? 86).map (fun i => (i.zero, i.size, i.bytes)) = some (some (.agg #[.string ⟨#[]⟩, .string ⟨#[]⟩, .string ⟨#[]⟩, .slice none 0 0, .slice none 0 0]), 5, 96) := by kernel_rfl

set_option maxRecDepth 100000 in
set_option maxHeartbeats 8000000 in
theorem papers_any (S : Nat) (B : Int) (most : Nat) (w : World) (hs : Strm S B w) (hB : B ≤ 999900000) (hm : most ≤ 20) :
    Calls Tryz.prog 6 #[.pointer (some ⟨S, 0, none⟩), .int .i64 most] w (SomePapers S (B + 50 * most + 10) most w) := by
  have hS := hs.lt
  go_enter Tryz.func6, Tryz.ntmps6
  go_wp2_with fail
  refine (next_any S B (most + 1) w hs (by omega) (by omega) (by omega)).mono ?_
  rintro e w0 ⟨r, ⟨hr, hr2⟩, rfl, h0, s0⟩
  obtain ⟨m, rfl⟩ := Int.eq_ofNat_of_zero_le hr
  have hz0 := h0.size
  clear hs
  go_wp2_with fail
  go_loopg [5, 15] m (fun gk v i wr => ∃ (k : Nat) (acc : List Paper), i = .int .i64 k ∧ k ≤ m ∧ Hid (gk = m - k) ∧ acc.length ≤ k ∧ Hid (∀ p ∈ acc, PSz 7 p ∧ NoS S p) ∧ Own w.heap.size 86 wr v acc ∧ Hid (∀ p ∈ acc, PRd wr p ∧ ApV v p ∧ LtP wr p) ∧ Stp S w wr ∧ Strm S (B + 1 + 50 * k) wr)
  case atStart => exact ⟨0, [], rfl, by omega, rfl, by simp, by simp [Hid], Own.nil _ _ _, by simp [Hid], h0, by simpa using s0⟩
  case round =>
    clear h0 s0
    obtain ⟨k, acc, rfl, hk, hgk, hal, hsz, hown, hrd, hst, hs⟩ := hrel
    have hz := hst.size
    have hSr := hs.lt
    by_cases hlt : k < m
    · obtain ⟨x, hx, hcx⟩ : ∃ x : ByteArray, x.size ≤ 4 ∧ ∀ W, (convert 21 9 (.int .i32 (97 + (k : Int)))).run Tryz.prog W = .ok (.string x) W := ⟨_, encode_size_le _, fun W => run_convert_int_string W _ _ _ _ (by kernel_rfl) Tryz.underlying9⟩
      have hw32 : IntKind.i32.wrap (97 + (k : Int)) = 97 + (k : Int) := IntWalk.i32_in _ (by omega)
      go_wp2_with fail
      clear hcx hw32
      refine (one_any S (B + 1 + 50 * k) _ 2 2 9 _ _ (hs.alloc _) (by omega) (Box.new _ _ _) (by omega) rfl (by omega) (by omega) (by simp; decide)).mono ?_
      rintro e w1 ⟨tr, htr, rfl, h1, s1⟩
      have hk1 : Stp S wr w1 := ((Stp.refl S wr).alloc _).trans h1
      have hz1 := h1.size
      simp at hz1
      clear h1
      go_wp2_with fail
      refine (one_any S (B + 1 + 50 * k + 1) _ 2 2 9 _ _ (s1.alloc _) (by omega) (Box.new _ _ _) (by omega) rfl (by omega) (by omega) (by simp; decide)).mono ?_
      rintro e w2 ⟨ti, hti, rfl, h2, s2⟩
      have hk2 : Stp S wr w2 := (hk1.alloc _).trans h2
      have hz2 := h2.size
      simp at hz2
      clear h2 hk1 s1
      go_wp2_with fail
      refine (h06topics_any w2).mono ?_
      rintro e w3 ⟨b3, xs, rfl, hx6, hxs, hbw, hsa3, hb3⟩
      have hz3 := hb3.size
      have hk3 : Stp S wr w3 := hk2.trans (Stp.of_below hb3)
      have s3 := s2.below hb3
      clear hk2 s2 hb3
      go_wp2_with fail
      refine (some_any S (B + 1 + 50 * k + 1 + 1) 3 xs _ 6 w3 s3 (by omega) (by omega) (by omega) hsa3 (fun x hx => by cases hx; show b3 ≠ S; omega) (by omega) hxs).mono ?_
      rintro e w4 ⟨v4, tl, rfl, htl, hts, hown4, h4, s4⟩
      have hz4 := h4.size
      have hk4 : Stp S wr w4 := hk3.trans h4
      obtain ⟨a4, cap4, rfl, hsa4, hbl4, hcp4⟩ := hown4.sa
      clear h4 hk3 s3 hsa3 hown4
      have hidS : ((⟨#[112]⟩ : ByteArray) ++ x).size ≤ 1000 := by rw [ByteArray.size_append]; show 1 + _ ≤ _; omega
      generalize (⟨#[112]⟩ : ByteArray) ++ x = idS at *
      go_wp2_with fail
      refine (order_any S (B + 1 + 50 * k + 1 + 1 + xs.length) 4 _ (s4.alloc _) (by omega) (by omega)).mono ?_
      rintro e w6 ⟨v6, lo, rfl, hlo, hlr, hown6, h6, s6⟩
      have hz6 := h6.size
      simp at hz6
      obtain ⟨a6, cap6, rfl, hsa6, hbl6, _⟩ := hown6.sa
      have hP6 := (Box.new w4 86 #[.string idS, .string tr, .string ti, .slice none 0 0, .slice a4 tl.length cap4]).stp h6 (by omega)
      have hk6 : Stp S wr w6 := (hk4.alloc _).trans h6
      have hsa46 : SA w6 a4 tl := (hsa4.alloc _).stp h6 (fun x hx => by have := hbl4 x hx; omega)
      have hn4 : ∀ x : Addr, a4 = some x → x.block ≠ S ∧ x.block ≠ w4.heap.size ∧ x.block < w4.heap.size ∧ wr.heap.size ≤ x.block := fun x hx => by have := hbl4 x hx; omega
      have hn6 : ∀ x : Addr, a6 = some x → ¬ (x.block = S ∨ x.block = w4.heap.size) := fun x hx => by have := hbl6 x hx; simp at this; omega
      have Hn4 := Lib.hid hn4
      have Hn6 := Lib.hid hn6
      have Hlr := Lib.hid hlr
      have Hts := Lib.hid hts
      have Hlo := Lib.hid hlo
      rw [hlo]
      obtain ⟨wo, rfl⟩ : ∃ wo : World, wo = wr := ⟨_, rfl⟩
      have hgko := hgk
      clear hgk
      clear h6 hown6 hbl6 hbl4 hn4 hn6 hlr hts hlo hk4 hsa4 s4 hxs
      go_wp2_with fail
      go_loopg [36] 4 (fun gk i2 wq => ∃ (j : Nat) (au : List ByteArray) (a7 : Option Addr) (c7 : Nat), i2 = .int .i64 j ∧ j ≤ 4 ∧ Hid (gk = 4 - j) ∧ au.length ≤ j ∧ Hid (∀ x ∈ au, SmallS x) ∧ Box wq w4.heap.size 86 #[.string idS, .string tr, .string ti, .slice a7 au.length c7, .slice a4 tl.length cap4] ∧ Own w6.heap.size 9 wq (.slice a7 au.length c7) au ∧ Kp (fun b => b = S ∨ b = w4.heap.size) w6 wq ∧ Strm S (B + 1 + 50 * k + 1 + 1 + xs.length + 4 + j) wq)
      case atStart => exact ⟨0, [], none, 0, rfl, by omega, rfl, by simp, by simp [Hid], hP6, Own.nil _ _ _, Kp.refl _ _, by simpa using s6⟩
      case round =>
        clear hP6 s6
        obtain ⟨j, au, a7, c7, rfl, hj, hgk, hau, hsm7, hP, hown7, hkp, s7⟩ := hrel
        have hz7 := hkp.size
        have hS7 := s7.lt
        by_cases hlt2 : j < 4
        · have hsq := hsa6.kp hkp (fun x hx _ => Hn6.out x hx)
          have hjl : j < lo.length := by rw [Hlo.out]; exact hlt2
          obtain ⟨b8, off8, ha8, c8⟩ := hsq.int hjl
          have hin := Hlr.out lo[j] (List.getElem_mem _)
          generalize lo[j] = xo at *
          obtain ⟨nx, rfl⟩ := Int.eq_ofNat_of_zero_le hin.1
          have hnx : nx < 4 := by have := hin.2; omega
          rw [ha8]
          obtain ⟨nm, hnm, hlit⟩ : ∃ nm : ByteArray, SmallS nm ∧ ([Value.string ⟨#[97, 110, 110]⟩, .string ⟨#[98, 111]⟩, .string ⟨#[99, 121]⟩, .string ⟨#[100, 101, 101]⟩] : List Value)[nx]'(by simpa using hnx) = .string nm := by
            obtain rfl | rfl | rfl | rfl : nx = 0 ∨ nx = 1 ∨ nx = 2 ∨ nx = 3 := by omega
            · exact ⟨_, by unfold SmallS; decide, rfl⟩
            · exact ⟨_, by unfold SmallS; decide, rfl⟩
            · exact ⟨_, by unfold SmallS; decide, rfl⟩
            · exact ⟨_, by unfold SmallS; decide, rfl⟩
          clear hin hsq hjl
          have hP_l := hP.lt; have hP_0 := hP.cell 0; have hP_1 := hP.cell 1; have hP_2 := hP.cell 2; have hP_3 := hP.cell 3; have hP_4 := hP.cell 4; simp at hP_0 hP_1 hP_2 hP_3 hP_4
          by_cases hau0 : au.length = 0
          · have hq : ((au.length : Int) == 0) = true := by simp [hau0]
            go_wp2_with fail
            clear hau0 hq
            have HO := Lib.hid (((hown7.alloc (.cells #[.string ⟨#[97, 110, 110]⟩, .string ⟨#[98, 111]⟩, .string ⟨#[99, 121]⟩, .string ⟨#[100, 101, 101]⟩] 9)).alloc (.cells #[.string nm] 9)).drew)
            have HB := Lib.hid ((Box.newAt (wr.alloc (.cells #[.string ⟨#[97, 110, 110]⟩, .string ⟨#[98, 111]⟩, .string ⟨#[99, 121]⟩, .string ⟨#[100, 101, 101]⟩] 9)) (wr.heap.size + 1) 9 #[.string nm] (by simp)).drew)
            have HP := Lib.hid (((hP.alloc (.cells #[.string ⟨#[97, 110, 110]⟩, .string ⟨#[98, 111]⟩, .string ⟨#[99, 121]⟩, .string ⟨#[100, 101, 101]⟩] 9)).alloc (.cells #[.string nm] 9)).drew)
            have Hpb : Hid (∀ b, (Value.slice a7 au.length c7).ownBlock = some b → b ≠ w4.heap.size) := fun b hb => by have := (hown7.lt b hb).1; omega
            have hnx1 : (0 : Int) ≤ (nx : Int) := by omega
            have hnx2 : (nx : Int) < 4 := by omega
            have hnx3 : (nx : Int) < ((4 : Nat) : Int) := by omega
            go_region_law (first | (refine step_append_one (by rfl) _ _ 52 (by rfl) 9 16 (.string ⟨#[]⟩) Tryz.underlying52 Tryz.infoString (by rfl) (.slice a7 au.length c7) au (by rfl) HO.out nm (wr.heap.size + 1) (by rfl) HB.out (by omega) (by omega) (by simp; omega) ?_; intro g9 cap9 w9 hown9 hg9; have hP9 := HP.out.same (hg9.block _ (by have := HP.out.lt; exact this) (fun h => Hpb.out _ h.symm rfl)); have hP9_l := hP9.lt; have hP9_0 := hP9.cell 0; have hP9_1 := hP9.cell 1; have hP9_2 := hP9.cell 2; have hP9_3 := hP9.cell 3; have hP9_4 := hP9.cell 4; simp at hP9_0 hP9_1 hP9_2 hP9_3 hP9_4; have hP9_f0 := hP9.frozen 0; have hP9_f1 := hP9.frozen 1; have hP9_f2 := hP9.frozen 2; have hP9_f3 := hP9.frozen 3; have hP9_f4 := hP9.frozen 4))
            all_goals
              go_wp2_with fail
              rw [← ha8]
              go_roundg (4 - (j + 1))
              case measure => have := hgk.out; omega
              case rel =>
                refine ⟨j + 1, au ++ [nm], some ⟨g9, 0, none⟩, cap9, by go_num, by omega, rfl, by simp; omega, all_snoc hsm7.out hnm, ?_, ?_, ?_, ?_⟩
                · have := hP9.set 3 (.slice (some ⟨g9, 0, none⟩) (au.length + 1) cap9)
                  simpa using this
                · rw [List.length_append]
                  exact hown9.setOther (fun b hb => by have := (hown9.lt b hb).1; show b ≠ w4.heap.size; omega) _
                · exact ((((hkp.alloc _).alloc _).drew).grown hg9 (fun b hb => .inr (hown7.lt b hb).1)).setCell (.inl (.inr rfl)) _
                · exact ((((((s7.alloc _).alloc _).drew).grown hg9 (fun b hb => by have := (hown7.lt b hb).1; omega)).setOther (by show S < w4.heap.size; omega) _).mono (B := B + 1 + 50 * k + 1 + 1 + xs.length + 4 + j) (by omega))
          · have hq : ((au.length : Int) == 0) = false := beq_eq_false_iff_ne.2 (by omega)
            go_wp2_with fail
            refine (flip_any S (B + 1 + 50 * k + 1 + 1 + xs.length + 4 + j) 3 wr s7 (by omega) (by omega) (by omega)).mono ?_
            rintro e w8 ⟨r8, rfl, h8, s8⟩
            have hz8 := h8.size
            have hown8 := hown7.stp h8 (by omega)
            have hP8 := hP.stp h8 (by omega)
            have hkp8 : Kp (fun b => b = S ∨ b = w4.heap.size) w6 w8 := hkp.trans (Kp.of_stp h8 (.inl rfl))
            clear hP_l hP_0 hP_1 hP_2 hP_3 hP_4
            clear hau0 hq h8 hown7 hP hkp s7 c8
            cases r8
            · go_wp2_with fail
              rw [← ha8]
              go_roundg (4 - (j + 1))
              case measure => have := hgk.out; omega
              case rel => exact ⟨j + 1, au, a7, c7, by go_num, by omega, rfl, by omega, hsm7, hP8, hown8, hkp8, s8.mono (by omega)⟩
            · have hP8_l := hP8.lt; have hP8_0 := hP8.cell 0; have hP8_1 := hP8.cell 1; have hP8_2 := hP8.cell 2; have hP8_3 := hP8.cell 3; have hP8_4 := hP8.cell 4; simp at hP8_0 hP8_1 hP8_2 hP8_3 hP8_4
              go_wp2_with fail
              have HO := Lib.hid (((hown8.alloc (.cells #[.string ⟨#[97, 110, 110]⟩, .string ⟨#[98, 111]⟩, .string ⟨#[99, 121]⟩, .string ⟨#[100, 101, 101]⟩] 9)).alloc (.cells #[.string nm] 9)).drew)
              have HB := Lib.hid ((Box.newAt (w8.alloc (.cells #[.string ⟨#[97, 110, 110]⟩, .string ⟨#[98, 111]⟩, .string ⟨#[99, 121]⟩, .string ⟨#[100, 101, 101]⟩] 9)) (w8.heap.size + 1) 9 #[.string nm] (by simp)).drew)
              have HP := Lib.hid (((hP8.alloc (.cells #[.string ⟨#[97, 110, 110]⟩, .string ⟨#[98, 111]⟩, .string ⟨#[99, 121]⟩, .string ⟨#[100, 101, 101]⟩] 9)).alloc (.cells #[.string nm] 9)).drew)
              have Hpb : Hid (∀ b, (Value.slice a7 au.length c7).ownBlock = some b → b ≠ w4.heap.size) := fun b hb => by have := (hown8.lt b hb).1; omega
              have hnx1 : (0 : Int) ≤ (nx : Int) := by omega
              have hnx2 : (nx : Int) < 4 := by omega
              have hnx3 : (nx : Int) < ((4 : Nat) : Int) := by omega
              go_region_law (first | (refine step_append_one (by rfl) _ _ 52 (by rfl) 9 16 (.string ⟨#[]⟩) Tryz.underlying52 Tryz.infoString (by rfl) (.slice a7 au.length c7) au (by rfl) HO.out nm (w8.heap.size + 1) (by rfl) HB.out (by omega) (by omega) (by simp; omega) ?_; intro g9 cap9 w9 hown9 hg9; have hP9 := HP.out.same (hg9.block _ (by have := HP.out.lt; exact this) (fun h => Hpb.out _ h.symm rfl)); have hP9_l := hP9.lt; have hP9_0 := hP9.cell 0; have hP9_1 := hP9.cell 1; have hP9_2 := hP9.cell 2; have hP9_3 := hP9.cell 3; have hP9_4 := hP9.cell 4; simp at hP9_0 hP9_1 hP9_2 hP9_3 hP9_4; have hP9_f0 := hP9.frozen 0; have hP9_f1 := hP9.frozen 1; have hP9_f2 := hP9.frozen 2; have hP9_f3 := hP9.frozen 3; have hP9_f4 := hP9.frozen 4))
              all_goals
                go_wp2_with fail
                rw [← ha8]
                go_roundg (4 - (j + 1))
                case measure => have := hgk.out; omega
                case rel =>
                  refine ⟨j + 1, au ++ [nm], some ⟨g9, 0, none⟩, cap9, by go_num, by omega, rfl, by simp; omega, all_snoc hsm7.out hnm, ?_, ?_, ?_, ?_⟩
                  · have := hP9.set 3 (.slice (some ⟨g9, 0, none⟩) (au.length + 1) cap9)
                    simpa using this
                  · rw [List.length_append]
                    exact hown9.setOther (fun b hb => by have := (hown9.lt b hb).1; show b ≠ w4.heap.size; omega) _
                  · exact ((((hkp8.alloc _).alloc _).drew).grown hg9 (fun b hb => .inr (hown8.lt b hb).1)).setCell (.inl (.inr rfl)) _
                  · exact ((((((s8.alloc _).alloc _).drew).grown hg9 (fun b hb => by have := (hown8.lt b hb).1; omega)).setOther (by show S < w4.heap.size; omega) _).mono (B := B + 1 + 50 * k + 1 + 1 + xs.length + 4 + j + 1) (by omega))
        · obtain rfl : j = 4 := by omega
          have hkpo : Kp (fun b => b = S ∨ b = w4.heap.size) wo wr := (Kp.of_stp hk6 (.inl rfl)).trans hkp
          have hownP : Own w.heap.size 86 wr u5 acc := hown.kp hkpo (fun b hb => by have := hown.lt b hb; omega)
          obtain ⟨a7', c7', he7, hsa7, hbl7, hcp7⟩ := hown7.sa
          simp only [Value.slice.injEq] at he7
          obtain ⟨rfl, -, rfl⟩ := he7
          have hrdn : PRd wr ⟨idS, tr, ti, au, tl, a7, c7, a4, cap4⟩ := ⟨hsa7, hsa46.kp hkp (fun x hx _ => by have := Hn4.out x hx; omega), hcp7⟩
          have hrda : ∀ p ∈ acc, PRd wr p := fun p hp => (hrd.out p hp).1.kp hkpo (fun x hx hlx => by have := (hsz.out p hp).2.1 x hx; omega) (fun x hx hlx => by have := (hsz.out p hp).2.2 x hx; omega)
          have hvb : ∀ b, u5.ownBlock = some b → b < wo.heap.size := fun b hb => (hown.lt b hb).2
          have hall : Hid (∀ p ∈ acc ++ [(⟨idS, tr, ti, au, tl, a7, c7, a4, cap4⟩ : Paper)], PRd wr p ∧ ApV u5 p ∧ LtP wr p) := fun p hp => by
            rcases List.mem_append.1 hp with hp | hp
            · exact ⟨hrda p hp, (hrd.out p hp).2.1, (hrd.out p hp).2.2.mono hkpo.size⟩
            · rw [List.mem_singleton] at hp
              subst hp
              exact ⟨hrdn, fun b hb => ⟨fun x hx => by have := hvb b hb; have := hbl7 x hx; omega, fun x hx => by have := hvb b hb; have := Hn4.out x hx; omega⟩, fun x hx => (hbl7 x hx).2, fun x hx => by have := Hn4.out x hx; omega⟩
          have hsz2 : Hid (∀ p ∈ acc ++ [(⟨idS, tr, ti, au, tl, a7, c7, a4, cap4⟩ : Paper)], PSz 7 p ∧ NoS S p) := all_snoc hsz.out ⟨⟨hidS, htr, hti, by show au.length ≤ 7; omega, by show tl.length ≤ 7; omega, hsm7.out, Hts.out⟩, fun x hx => by have := hbl7 x hx; omega, fun x hx => by have := Hn4.out x hx; omega⟩
          have hP_l := hP.lt; have hP_0 := hP.cell 0; have hP_1 := hP.cell 1; have hP_2 := hP.cell 2; have hP_3 := hP.cell 3; have hP_4 := hP.cell 4; simp at hP_0 hP_1 hP_2 hP_3 hP_4
          clear hrdn hrda hsa7 hkp hrd hsz hown hvb hown7 hsa6
          go_upto_region 13 with (at_builtin; refine wpList_append_lie rfl _ _ 28 rfl 86 96 (.agg #[.string ⟨#[]⟩, .string ⟨#[]⟩, .string ⟨#[]⟩, .slice none 0 0, .slice none 0 0]) Tryz.underlying28 Tryz.infoPaper rfl _ acc rfl (hownP.alloc _) ⟨idS, tr, ti, au, tl, a7, c7, a4, cap4⟩ _ rfl (Box.newAt _ _ _ _ ?d0) ?d1 ?d2 ?d3 ?_; rotate_left 4; intro g9 cap9 w9 hown9 hg9 hl9)
          case d0 => rfl
          case d1 => omega
          case d2 => omega
          case d3 => simp; omega
          have hkp9 : Kp (fun b => u5.ownBlock = some b) wr w9 := ((Kp.refl _ wr).alloc _).grown hg9 (fun b hb => .inl hb)
          have hz9 := hkp9.size
          have hsto : Stp S wo wr := hkpo.stp (fun b hb => by rcases hb with hb | hb; exact .inl hb; exact .inr (by omega))
          have hst9 : Stp S w w9 := ((hst.trans hsto).alloc _).grown hg9 (fun b hb => .inr (hownP.lt b hb).1)
          have s9 := (s7.alloc (.cells #[.string idS, .string tr, .string ti, .slice a7 au.length c7, .slice a4 tl.length cap4] 86)).grown hg9 (fun b hb => by have := (hownP.lt b hb).1; omega)
          have hall9 : Hid (∀ p ∈ acc ++ [(⟨idS, tr, ti, au, tl, a7, c7, a4, cap4⟩ : Paper)], PRd w9 p ∧ ApV (.slice (some ⟨g9, 0, none⟩) (acc.length + 1) cap9) p ∧ LtP w9 p) := fun p hp => by
            obtain ⟨q1, q2, q3⟩ := hall.out p hp
            refine ⟨q1.kp hkp9 (fun x hx _ hX => (q2 _ hX).1 x hx rfl) (fun x hx _ hX => (q2 _ hX).2 x hx rfl), fun b hb => ?_, q3.mono hz9⟩
            obtain rfl : g9 = b := by simpa [Value.ownBlock] using hb
            rcases hl9 with hl9 | hl9
            · exact q2 _ hl9
            · simp at hl9
              exact ⟨fun x hx => by have := q3.1 x hx; omega, fun x hx => by have := q3.2 x hx; omega⟩
          clear hall hg9 hl9 hkp9 hownP hP hsa46
          go_wp2_with fail
          go_roundg (m - (k + 1))
          case measure => have := hgko.out; omega
          case rel => exact ⟨k + 1, _, by go_num, by omega, rfl, by simp; omega, hsz2, hown9, hall9, hst9, s9.mono (by omega)⟩
    · obtain rfl : k = m := by omega
      have hz2 := hst.size
      go_wp2_with fail
      refine (flip_any S (B + 1 + 50 * k) 12 wr hs (by omega) (by omega) (by omega)).mono ?_
      rintro e w1 ⟨r, rfl, h1, s1⟩
      have hst1 := hst.trans h1
      have hown1 := hown.stp h1 (by omega)
      have hz1 := h1.size
      have hrd1 : Hid (∀ p ∈ acc, PRd w1 p ∧ ApV u5 p ∧ LtP w1 p) := fun p hp => ⟨(hrd.out p hp).1.stp h1 (hsz.out p hp).2, (hrd.out p hp).2.1, (hrd.out p hp).2.2.mono hz1⟩
      clear h1 hst hown hrd hs
      cases r
      · go_wp2_with fail
        go_ret
        exact ⟨_, acc, rfl, by omega, fun p hp => ⟨(hsz.out p hp).1.mono (by omega), (hsz.out p hp).2⟩, hown1, fun p hp => ⟨(hrd1.out p hp).1, (hrd1.out p hp).2.2⟩, hst1, s1.mono (by omega)⟩
      · obtain ⟨a2, cap2, rfl, hsa2, hform2, hcp2⟩ := hown1.form
        by_cases hl0 : acc.length = 0
        · have hfin : SomePapers S (B + 50 * most + 10) most w (.returned (.slice a2 acc.length cap2)) w1 := ⟨_, acc, rfl, by omega, fun p hp => ⟨(hsz.out p hp).1.mono (by omega), (hsz.out p hp).2⟩, hown1, fun p hp => ⟨(hrd1.out p hp).1, (hrd1.out p hp).2.2⟩, hst1, s1.mono (by omega)⟩
          rw [hl0] at hfin ⊢
          go_wp2_with fail
          go_ret
          exact hfin
        · obtain ⟨g, rfl, hg1, hg2⟩ : ∃ b, a2 = some ⟨b, 0, none⟩ ∧ w.heap.size ≤ b ∧ b < w1.heap.size := by
            rcases hform2 with hf | hf
            · obtain ⟨b, off, h, _⟩ := hsa2.at (i := 0) (by omega)
              rw [hf] at h; cases h
            · exact hf
          have hlp : 0 < acc.length := by omega
          obtain ⟨n, hn⟩ : ∃ n, acc.length = n := ⟨_, rfl⟩
          rw [hn] at hlp hal hown1 ⊢
          have Hn := Lib.hid hn
          clear hn hl0 hform2 hsa2
          go_wp2_with fail
          refine (next_any S (B + 1 + 50 * k + 1) n w1 s1 (by omega) (by omega) (by omega)).mono ?_
          rintro e w2 ⟨r, ⟨hr3, hr4⟩, rfl, h2, s2⟩
          obtain ⟨i, rfl⟩ := Int.eq_ofNat_of_zero_le hr3
          have hi : i < n := by omega
          have hil : i < acc.length := by rw [Hn.out]; exact hi
          have hst2 := hst1.trans h2
          have hown2 := hown1.stp h2 (by omega)
          have hz3 := h2.size
          have hrd2 : Hid (∀ p ∈ acc, PRd w2 p ∧ ApV (.slice (some ⟨g, 0, none⟩) acc.length cap2) p ∧ LtP w2 p) := fun p hp => ⟨(hrd1.out p hp).1.stp h2 (hsz.out p hp).2, (hrd1.out p hp).2.1, (hrd1.out p hp).2.2.mono hz3⟩
          clear h2 hst1 hown1 hrd1 s1
          obtain ⟨a', cap', he, hsa2, _, _⟩ := hown2.form
          simp only [Value.slice.injEq] at he
          obtain ⟨rfl, -, -⟩ := he
          obtain ⟨g', off', ha', c0, c1, c2, c3, c4⟩ := hsa2.paper hil
          cases ha'
          rw [Nat.zero_add] at c0 c1 c2 c3 c4
          obtain ⟨x1, x2, x3⟩ := hrd2.out acc[i] (List.getElem_mem hil)
          have hsx := hsz.out acc[i] (List.getElem_mem hil)
          have HSp := Lib.hid (spoiled_any S (B + 1 + 50 * k + 1 + 1) 7 acc[i] w2 s2 (by omega) x1 x3 hsx.1 (by omega) hsx.2)
          unfold Paper.agg at HSp
          generalize hxe : acc[i] = y at *
          obtain ⟨y1, y2, y3, yau, yto, ya1, yc1, ya2, yc2⟩ := y
          simp only at c0 c1 c2 c3 c4 HSp
          have Hxe := Lib.hid hxe
          clear hxe
          go_wp2_with fail
          refine HSp.out.mono ?_
          rintro e w3 ⟨q, rfl, hqz, hqr, hqS, hqf, hql, h3, s3⟩
          obtain ⟨q1, q2, q3, qau, qto, qa1, qc1, qa2, qc2⟩ := q
          unfold Paper.agg
          simp only
          have hz5 := h3.size
          have hown3 := hown2.stp h3 (by omega)
          have hst3 := hst2.trans h3
          have hrd3 : Hid (∀ p ∈ acc, PRd w3 p ∧ LtP w3 p) := fun p hp => ⟨(hrd2.out p hp).1.stp h3 (hsz.out p hp).2, (hrd2.out p hp).2.2.mono hz5⟩
          have hapg : Hid (∀ p ∈ acc, (∀ x : Addr, p.a1 = some x → x.block ≠ g) ∧ ∀ x : Addr, p.a2 = some x → x.block ≠ g) := fun p hp => (hrd2.out p hp).2.1 g rfl
          have hqg : (∀ x : Addr, qa1 = some x → x.block ≠ g) ∧ ∀ x : Addr, qa2 = some x → x.block ≠ g := by
            have hy := x2 g rfl
            exact ⟨fun x hx => by rcases hqf.1 x hx with h | h; exact hy.1 x h; omega, fun x hx => by rcases hqf.2 x hx with h | h; exact hy.2 x h; omega⟩
          have Hqg := Lib.hid hqg
          clear hqg hst2 hown2 h3 s2 hrd2 c0 c1 c2 c3 c4 x1 x2 x3 hsa2
          obtain ⟨a', cap', he, hsa3, _, _⟩ := hown3.form
          simp only [Value.slice.injEq] at he
          obtain ⟨rfl, -, -⟩ := he
          obtain ⟨g', off', ha', c0, c1, c2, c3, c4⟩ := hsa3.paper hil
          cases ha'
          rw [Nat.zero_add] at c0 c1 c2 c3 c4
          obtain ⟨cur, hbx⟩ := hown3.box
          have f0 := hbx.frozen (i * 5)
          have f1 := hbx.frozen (i * 5 + 1)
          have f2 := hbx.frozen (i * 5 + 1 + 1)
          have f3 := hbx.frozen (i * 5 + 1 + 1 + 1)
          have f4 := hbx.frozen (i * 5 + 1 + 1 + 1 + 1)
          have p1 := hown3.put i 0 (⟨q1, y2, y3, yau, yto, ya1, yc1, ya2, yc2⟩ : Paper) (.string q1) hil (by decide) (by rw [Hxe.out]; rfl)
          have p2 := p1.put i 1 (⟨q1, q2, y3, yau, yto, ya1, yc1, ya2, yc2⟩ : Paper) (.string q2) (by simpa using hil) (by decide) (by rw [List.getElem_set_self]; rfl)
          have p3 := p2.put i 2 (⟨q1, q2, q3, yau, yto, ya1, yc1, ya2, yc2⟩ : Paper) (.string q3) (by simpa using hil) (by decide) (by rw [List.getElem_set_self]; rfl)
          have p4 := p3.put i 3 (⟨q1, q2, q3, qau, yto, qa1, qc1, ya2, yc2⟩ : Paper) (.slice qa1 qau.length qc1) (by simpa using hil) (by decide) (by rw [List.getElem_set_self]; rfl)
          have p5 := p4.put i 4 (⟨q1, q2, q3, qau, qto, qa1, qc1, qa2, qc2⟩ : Paper) (.slice qa2 qto.length qc2) (by simpa using hil) (by decide) (by rw [List.getElem_set_self]; rfl)
          rw [List.set_set, List.set_set, List.set_set, List.set_set] at p5
          have hkp : Kp (fun b => b = g) w3 _ := (((((Kp.refl (fun b => b = g) w3).setCell (p := ⟨g, i * Cel.k Paper + 0, none⟩) (.inl rfl) (.string q1)).setCell (p := ⟨g, i * Cel.k Paper + 1, none⟩) (.inl rfl) (.string q2)).setCell (p := ⟨g, i * Cel.k Paper + 2, none⟩) (.inl rfl) (.string q3)).setCell (p := ⟨g, i * Cel.k Paper + 3, none⟩) (.inl rfl) (.slice qa1 qau.length qc1)).setCell (p := ⟨g, i * Cel.k Paper + 4, none⟩) (.inl rfl) (.slice qa2 qto.length qc2)
          have hmem : ∀ p ∈ acc.set i (⟨q1, q2, q3, qau, qto, qa1, qc1, qa2, qc2⟩ : Paper), p ∈ acc ∨ p = ⟨q1, q2, q3, qau, qto, qa1, qc1, qa2, qc2⟩ := fun p hp => List.mem_or_eq_of_mem_set hp
          have hrdW : ∀ p ∈ acc.set i (⟨q1, q2, q3, qau, qto, qa1, qc1, qa2, qc2⟩ : Paper), PRd _ p ∧ LtP _ p := fun p hp => by
            rcases hmem p hp with hp | rfl
            · refine ⟨?_, (hrd3.out p hp).2.mono hkp.size⟩
              exact (hrd3.out p hp).1.kp hkp (fun x hx _ => (hapg.out p hp).1 x hx) (fun x hx _ => (hapg.out p hp).2 x hx)
            · refine ⟨?_, hql.mono hkp.size⟩
              exact hqr.kp hkp (fun x hx _ => Hqg.out.1 x hx) (fun x hx _ => Hqg.out.2 x hx)
          have hszW : ∀ p ∈ acc.set i (⟨q1, q2, q3, qau, qto, qa1, qc1, qa2, qc2⟩ : Paper), PSz 8 p ∧ NoS S p := fun p hp => by
            rcases hmem p hp with hp | rfl
            · exact ⟨(hsz.out p hp).1.mono (by omega), (hsz.out p hp).2⟩
            · exact ⟨hqz, hqS⟩
          have hstW := ((((hst3.setCell (p := ⟨g, i * Cel.k Paper + 0, none⟩) (.inr hg1) (.string q1)).setCell (p := ⟨g, i * Cel.k Paper + 1, none⟩) (.inr hg1) (.string q2)).setCell (p := ⟨g, i * Cel.k Paper + 2, none⟩) (.inr hg1) (.string q3)).setCell (p := ⟨g, i * Cel.k Paper + 3, none⟩) (.inr hg1) (.slice qa1 qau.length qc1)).setCell (p := ⟨g, i * Cel.k Paper + 4, none⟩) (.inr hg1) (.slice qa2 qto.length qc2)
          have Hfin : Hid (SomePapers S (B + 50 * most + 10) most w (.returned (.slice (some ⟨g, 0, none⟩) n cap2)) _) := ⟨_, _, rfl, by rw [List.length_set, Hn.out]; omega, hszW, p5, hrdW, hstW, (s3.kp hkp (fun b hb => by omega)).mono (by omega)⟩
          clear p1 p2 p3 p4 p5 hkp hmem hrdW hszW hstW hbx hsa3
          go_wp2_with fail
          go_ret
          exact Hfin.out
end Go.Proofs.YtpgofjjcmldhpaaGreatDoor
