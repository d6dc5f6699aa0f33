/- The maker SpoiledPaper. -/
import Derived.Test.YtpgofjjcmldhpaaGreatDoorPaper1
import Derived.Test.YtpgofjjcmldhpaaGreatDoorMakeList
import Derived.Test.YtpgofjjcmldhpaaGreatDoorStrs
namespace Go.Proofs.YtpgofjjcmldhpaaGreatDoor
open Go.RowKit
set_option linter.unusedVariables false
set_option linter.unusedSimpArgs false

/-- Sizes of a paper; its lists have at most n elements. -/
def PSz (n : Nat) (p : Paper) : Prop := p.id.size ≤ 1000 ∧ p.track.size ≤ 1000 ∧ p.title.size ≤ 1000 ∧ p.authors.length ≤ n ∧ p.topics.length ≤ n ∧ (∀ x ∈ p.authors, x.size ≤ 1000) ∧ ∀ x ∈ p.topics, x.size ≤ 1000
theorem PSz.small {n : Nat} {p : Paper} (h : PSz n p) (hn : n ≤ 1000) : PSmall p := ⟨h.1, h.2.1, h.2.2.1, by have := h.2.2.2.1; omega, by have := h.2.2.2.2.1; omega, h.2.2.2.2.2⟩
theorem PSz.mono {n m : Nat} {p : Paper} (h : PSz n p) (hn : n ≤ m) : PSz m p := ⟨h.1, h.2.1, h.2.2.1, by have := h.2.2.2.1; omega, by have := h.2.2.2.2.1; omega, h.2.2.2.2.2⟩
/-- Its lists lie apart from the stream. -/
def NoS (S : Nat) (p : Paper) : Prop := (∀ x : Addr, p.a1 = some x → x.block ≠ S) ∧ ∀ x : Addr, p.a2 = some x → x.block ≠ S
theorem PRd.stp {S : Nat} {w w' : World} {p : Paper} (h : PRd w p) (hb : Stp S w w') (hS : NoS S p) : PRd w' p := ⟨h.1.stp hb hS.1, h.2.1.stp hb hS.2, h.2.2⟩
/-- Its lists lie in blocks that are there. -/
def LtP (w : World) (p : Paper) : Prop := (∀ x : Addr, p.a1 = some x → x.block < w.heap.size) ∧ ∀ x : Addr, p.a2 = some x → x.block < w.heap.size
theorem LtP.mono {w w' : World} {p : Paper} (h : LtP w p) (hz : w.heap.size ≤ w'.heap.size) : LtP w' p := ⟨fun x hx => by have := h.1 x hx; omega, fun x hx => by have := h.2 x hx; omega⟩
/-- The lists of p are those of p0, or new ones. -/
def FromP (w : World) (p0 p : Paper) : Prop := (∀ x : Addr, p.a1 = some x → p0.a1 = some x ∨ w.heap.size ≤ x.block) ∧ ∀ x : Addr, p.a2 = some x → p0.a2 = some x ∨ w.heap.size ≤ x.block
/-- A paper is made. -/
def SomePaper (S : Nat) (B : Int) (n : Nat) (p0 : Paper) (w : World) (e : Ending) (w' : World) : Prop :=
  ∃ p : Paper, e = .returned p.agg ∧ PSz n p ∧ PRd w' p ∧ NoS S p ∧ FromP w p0 p ∧ LtP w' p ∧ Stp S w w' ∧ Strm S B w'

theorem SomePaper.of {S : Nat} {B : Int} {n : Nat} {w W : World} {p0 p : Paper} (hst : Stp S w W) (hs : Strm S B W) (hrd : Stp S w W → PRd W p) (hz : PSz n p) (hS : NoS S p) (hf : FromP w p0 p) (hl : LtP W p) : SomePaper S B n p0 w (.returned p.agg) W := ⟨p, rfl, hz, hrd hst, hS, hf, hl, hst, hs⟩


set_option maxRecDepth 100000 in
set_option maxHeartbeats 8000000 in
theorem spoiled_any (S : Nat) (B : Int) (n : Nat) (p : Paper) (w : World) (hs : Strm S B w) (hB : B ≤ 999990000) (hp : PRd w p) (hlp : LtP w p) (hz : PSz n p) (hn : n ≤ 900) (hS : NoS S p) :
    Calls Tryz.prog 48 #[.pointer (some ⟨S, 0, none⟩), p.agg] w (SomePaper S (B + 3) (n + 1) p w) := by
  obtain ⟨id, track, title, authors, topics, a1, c1, a2, c2⟩ := p
  have hSl := hs.lt
  unfold Paper.agg
  simp only
  have hP0 := (Box.new w 86 #[.string id, .string track, .string title, .slice a1 authors.length c1, .slice a2 topics.length c2]).alloc (.cells #[.string ⟨#[]⟩, .string ⟨#[]⟩, .string ⟨#[]⟩, .slice none 0 0, .slice none 0 0] 86)
  have hR0 := Box.newAt (w.alloc (.cells #[.string id, .string track, .string title, .slice a1 authors.length c1, .slice a2 topics.length c2] 86)) (w.heap.size + 1) 86 #[.string ⟨#[]⟩, .string ⟨#[]⟩, .string ⟨#[]⟩, .slice none 0 0, .slice none 0 0] (by simp)
  go_enter Tryz.func48, Tryz.ntmps48
  go_wp2_with fail
  refine (next_any S B 6 _ ((hs.alloc _).alloc _) (by omega) (by omega) (by omega)).mono ?_
  rintro e w1 ⟨r, ⟨hr, hr2⟩, rfl, h1, s1⟩
  have hz1 := h1.size
  simp at hz1
  have hP := hP0.stp h1 (by omega)
  have hR := hR0.stp h1 (by omega)
  have hst : Stp S w w1 := (((Stp.refl S w).alloc _).alloc _).trans h1
  have hpr : PRd w1 ⟨id, track, title, authors, topics, a1, c1, a2, c2⟩ := hp.stp hst hS
  clear hP0 hR0 h1
  obtain rfl | rfl | rfl | rfl | rfl | rfl : r = 0 ∨ r = 1 ∨ r = 2 ∨ r = 3 ∨ r = 4 ∨ r = 5 := by omega
  · go_wp2_with fail
    refine (repeat_any 112 40 _ (by omega)).mono ?_
    rintro e w2 ⟨x2, hx2, rfl, hb2⟩
    go_wp2_with fail
    refine (repeat_any 112 41 _ (by omega)).mono ?_
    rintro e w3 ⟨x3, hx3, rfl, hb3⟩
    have hb3' := below_next hb2 hb3
    have hzz := hb3'.size
    have hP3 := hP.below hb3'
    have hR3 := hR.below hb3'
    have hst3 : Stp S w w3 := hst.trans (Stp.of_below hb3')
    have s3 := s1.below hb3'
    clear hP hR hst s1 hpr hb2 hb3
    go_wp2_with fail
    refine (one_any S (B + 1) _ 5 5 9 _ _ (s3.alloc _) (by omega) (Box.new _ _ _) (by omega) rfl (by omega) (by omega) (by simp; repeat' (first | apply And.intro | decide | omega))).mono ?_
    rintro e w4 ⟨x, hx, rfl, h4, s4⟩
    have hz4 := h4.size
    simp at hz4
    have hP4 := (hP3.alloc _).stp h4 (by omega)
    have hR4 := (hR3.alloc _).stp h4 (by omega)
    have hst4 : Stp S w w4 := (hst3.alloc _).trans h4
    clear h4 hst3 s3 hP3 hR3
    have hP4_l := hP4.lt; have hP4_0 := hP4.cell 0; have hP4_1 := hP4.cell 1; have hP4_2 := hP4.cell 2; have hP4_3 := hP4.cell 3; have hP4_4 := hP4.cell 4; simp at hP4_0 hP4_1 hP4_2 hP4_3 hP4_4
    have hP4_f0 := hP4.frozen 0; have hP4_f1 := hP4.frozen 1; have hP4_f2 := hP4.frozen 2; have hP4_f3 := hP4.frozen 3; have hP4_f4 := hP4.frozen 4
    have hR4_l := hR4.lt; have hR4_0 := hR4.cell 0; have hR4_1 := hR4.cell 1; have hR4_2 := hR4.cell 2; have hR4_3 := hR4.cell 3; have hR4_4 := hR4.cell 4; simp at hR4_0 hR4_1 hR4_2 hR4_3 hR4_4
    have hR4_f0 := hR4.frozen 0; have hR4_f1 := hR4.frozen 1; have hR4_f2 := hR4.frozen 2; have hR4_f3 := hR4.frozen 3; have hR4_f4 := hR4.frozen 4
    go_wp2_with fail
    refine bodyPost_ret (v := Paper.agg ⟨x, track, title, authors, topics, a1, c1, a2, c2⟩) (by simp only [results, Tryz.results48]; go_simp; first | rfl | simp [Paper.agg]) rfl ?_
    exact SomePaper.of (by (repeat' (first | with_reducible assumption | with_reducible exact Stp.refl _ _ | with_reducible refine Stp.setCell ?_ (Or.inr ?_) _ | with_reducible refine Stp.drewN ?_ _ | with_reducible refine Stp.drew ?_ | with_reducible refine Stp.alloc ?_ _ | omega | (simp; done) | (simp; omega)))) (Strm.mono (B := B + 1 + 1) (by (repeat' (first | with_reducible assumption | with_reducible refine Strm.setOther ?_ ?_ _ | with_reducible refine Strm.drewN ?_ _ | with_reducible refine Strm.drew ?_ | with_reducible refine Strm.alloc ?_ _ | omega | (simp; done) | (simp; omega)))) (by omega)) (fun h => hp.stp (p := ⟨id, track, title, authors, topics, a1, c1, a2, c2⟩) h hS) ((show PSz n ⟨x, track, title, authors, topics, a1, c1, a2, c2⟩ from ⟨hx, hz.2.1, hz.2.2.1, hz.2.2.2.1, hz.2.2.2.2.1, hz.2.2.2.2.2⟩).mono (by omega)) hS ⟨fun y hy => .inl hy, fun y hy => .inl hy⟩ ⟨fun y hy => by have := hlp.1 y hy; simp; omega, fun y hy => by have := hlp.2 y hy; simp; omega⟩
  · have hb2 := Below.refl w1.heap.size w1
    obtain ⟨w3, hw3⟩ : ∃ w3, w3 = w1 := ⟨_, rfl⟩
    have hb3' : Below w1.heap.size w1 w3 := by rw [hw3]; exact hb2
    rw [← hw3] at s1 hP hR hst hpr ⊢
    clear hw3 hb2
    have hzz := hb3'.size
    have hP3 := hP
    have hR3 := hR
    have hst3 := hst
    have s3 := s1
    clear hP hR hst s1 hpr
    go_wp2_with fail
    refine (one_any S (B + 1) _ 2 2 9 _ _ (s3.alloc _) (by omega) (Box.new _ _ _) (by omega) rfl (by omega) (by omega) (by simp; repeat' (first | apply And.intro | decide | omega))).mono ?_
    rintro e w4 ⟨x, hx, rfl, h4, s4⟩
    have hz4 := h4.size
    simp at hz4
    have hP4 := (hP3.alloc _).stp h4 (by omega)
    have hR4 := (hR3.alloc _).stp h4 (by omega)
    have hst4 : Stp S w w4 := (hst3.alloc _).trans h4
    clear h4 hst3 s3 hP3 hR3
    have hP4_l := hP4.lt; have hP4_0 := hP4.cell 0; have hP4_1 := hP4.cell 1; have hP4_2 := hP4.cell 2; have hP4_3 := hP4.cell 3; have hP4_4 := hP4.cell 4; simp at hP4_0 hP4_1 hP4_2 hP4_3 hP4_4
    have hP4_f0 := hP4.frozen 0; have hP4_f1 := hP4.frozen 1; have hP4_f2 := hP4.frozen 2; have hP4_f3 := hP4.frozen 3; have hP4_f4 := hP4.frozen 4
    have hR4_l := hR4.lt; have hR4_0 := hR4.cell 0; have hR4_1 := hR4.cell 1; have hR4_2 := hR4.cell 2; have hR4_3 := hR4.cell 3; have hR4_4 := hR4.cell 4; simp at hR4_0 hR4_1 hR4_2 hR4_3 hR4_4
    have hR4_f0 := hR4.frozen 0; have hR4_f1 := hR4.frozen 1; have hR4_f2 := hR4.frozen 2; have hR4_f3 := hR4.frozen 3; have hR4_f4 := hR4.frozen 4
    go_wp2_with fail
    refine bodyPost_ret (v := Paper.agg ⟨id, x, title, authors, topics, a1, c1, a2, c2⟩) (by simp only [results, Tryz.results48]; go_simp; first | rfl | simp [Paper.agg]) rfl ?_
    exact SomePaper.of (by (repeat' (first | with_reducible assumption | with_reducible exact Stp.refl _ _ | with_reducible refine Stp.setCell ?_ (Or.inr ?_) _ | with_reducible refine Stp.drewN ?_ _ | with_reducible refine Stp.drew ?_ | with_reducible refine Stp.alloc ?_ _ | omega | (simp; done) | (simp; omega)))) (Strm.mono (B := B + 1 + 1) (by (repeat' (first | with_reducible assumption | with_reducible refine Strm.setOther ?_ ?_ _ | with_reducible refine Strm.drewN ?_ _ | with_reducible refine Strm.drew ?_ | with_reducible refine Strm.alloc ?_ _ | omega | (simp; done) | (simp; omega)))) (by omega)) (fun h => hp.stp (p := ⟨id, track, title, authors, topics, a1, c1, a2, c2⟩) h hS) ((show PSz n ⟨id, x, title, authors, topics, a1, c1, a2, c2⟩ from ⟨hz.1, hx, hz.2.2.1, hz.2.2.2.1, hz.2.2.2.2.1, hz.2.2.2.2.2⟩).mono (by omega)) hS ⟨fun y hy => .inl hy, fun y hy => .inl hy⟩ ⟨fun y hy => by have := hlp.1 y hy; simp; omega, fun y hy => by have := hlp.2 y hy; simp; omega⟩
  · go_wp2_with fail
    refine (repeat_any 116 200 _ (by omega)).mono ?_
    rintro e w2 ⟨x2, hx2, rfl, hb2⟩
    go_wp2_with fail
    refine (repeat_any 116 201 _ (by omega)).mono ?_
    rintro e w3 ⟨x3, hx3, rfl, hb3⟩
    have hb3' := below_next hb2 hb3
    have hzz := hb3'.size
    have hP3 := hP.below hb3'
    have hR3 := hR.below hb3'
    have hst3 : Stp S w w3 := hst.trans (Stp.of_below hb3')
    have s3 := s1.below hb3'
    clear hP hR hst s1 hpr hb2 hb3
    go_wp2_with fail
    refine (one_any S (B + 1) _ 6 6 9 _ _ (s3.alloc _) (by omega) (Box.new _ _ _) (by omega) rfl (by omega) (by omega) (by simp; repeat' (first | apply And.intro | decide | omega))).mono ?_
    rintro e w4 ⟨x, hx, rfl, h4, s4⟩
    have hz4 := h4.size
    simp at hz4
    have hP4 := (hP3.alloc _).stp h4 (by omega)
    have hR4 := (hR3.alloc _).stp h4 (by omega)
    have hst4 : Stp S w w4 := (hst3.alloc _).trans h4
    clear h4 hst3 s3 hP3 hR3
    have hP4_l := hP4.lt; have hP4_0 := hP4.cell 0; have hP4_1 := hP4.cell 1; have hP4_2 := hP4.cell 2; have hP4_3 := hP4.cell 3; have hP4_4 := hP4.cell 4; simp at hP4_0 hP4_1 hP4_2 hP4_3 hP4_4
    have hP4_f0 := hP4.frozen 0; have hP4_f1 := hP4.frozen 1; have hP4_f2 := hP4.frozen 2; have hP4_f3 := hP4.frozen 3; have hP4_f4 := hP4.frozen 4
    have hR4_l := hR4.lt; have hR4_0 := hR4.cell 0; have hR4_1 := hR4.cell 1; have hR4_2 := hR4.cell 2; have hR4_3 := hR4.cell 3; have hR4_4 := hR4.cell 4; simp at hR4_0 hR4_1 hR4_2 hR4_3 hR4_4
    have hR4_f0 := hR4.frozen 0; have hR4_f1 := hR4.frozen 1; have hR4_f2 := hR4.frozen 2; have hR4_f3 := hR4.frozen 3; have hR4_f4 := hR4.frozen 4
    go_wp2_with fail
    refine bodyPost_ret (v := Paper.agg ⟨id, track, x, authors, topics, a1, c1, a2, c2⟩) (by simp only [results, Tryz.results48]; go_simp; first | rfl | simp [Paper.agg]) rfl ?_
    exact SomePaper.of (by (repeat' (first | with_reducible assumption | with_reducible exact Stp.refl _ _ | with_reducible refine Stp.setCell ?_ (Or.inr ?_) _ | with_reducible refine Stp.drewN ?_ _ | with_reducible refine Stp.drew ?_ | with_reducible refine Stp.alloc ?_ _ | omega | (simp; done) | (simp; omega)))) (Strm.mono (B := B + 1 + 1) (by (repeat' (first | with_reducible assumption | with_reducible refine Strm.setOther ?_ ?_ _ | with_reducible refine Strm.drewN ?_ _ | with_reducible refine Strm.drew ?_ | with_reducible refine Strm.alloc ?_ _ | omega | (simp; done) | (simp; omega)))) (by omega)) (fun h => hp.stp (p := ⟨id, track, title, authors, topics, a1, c1, a2, c2⟩) h hS) ((show PSz n ⟨id, track, x, authors, topics, a1, c1, a2, c2⟩ from ⟨hz.1, hz.2.1, hx, hz.2.2.2.1, hz.2.2.2.2.1, hz.2.2.2.2.2⟩).mono (by omega)) hS ⟨fun y hy => .inl hy, fun y hy => .inl hy⟩ ⟨fun y hy => by have := hlp.1 y hy; simp; omega, fun y hy => by have := hlp.2 y hy; simp; omega⟩
  · have hl0 := hz.2.2.2.1
    simp only at hl0
    have hP_l := hP.lt; have hP_0 := hP.cell 0; have hP_1 := hP.cell 1; have hP_2 := hP.cell 2; have hP_3 := hP.cell 3; have hP_4 := hP.cell 4; simp at hP_0 hP_1 hP_2 hP_3 hP_4
    go_wp2_with fail
    refine (clone_any authors a1 c1 w1 hpr.1 (by omega)).mono ?_
    rintro e w2 ⟨v2, rfl, hown2, hb2⟩
    have hz2 := hb2.size
    have hP2 := hP.below hb2
    have hR2 := hR.below hb2
    have hst2 : Stp S w w2 := hst.trans (Stp.of_below hb2)
    have s2 := s1.below hb2
    clear hP_l hP_0 hP_1 hP_2 hP_3 hP_4
    clear hP hR hst s1 hpr hb2
    go_wp2_with fail
    refine (one_any S (B + 1) _ 3 3 9 _ _ (s2.alloc _) (by omega) (Box.new _ _ _) (by omega) rfl (by omega) (by omega) (by simp; decide)).mono ?_
    rintro e w4 ⟨x, hx, rfl, h4, s4⟩
    have hz4 := h4.size
    simp at hz4
    have hP4 := (hP2.alloc _).stp h4 (by omega)
    have hR4 := (hR2.alloc _).stp h4 (by omega)
    have hst4 : Stp S w w4 := (hst2.alloc _).trans h4
    have hown4 := (hown2.alloc _).stp h4 (by omega)
    clear h4 hst2 s2 hP2 hR2 hown2
    go_upto_region 13 with (at_builtin; refine wpList_append_one rfl _ _ 52 rfl w1.heap.size 9 16 (.string ⟨#[]⟩) Tryz.underlying52 Tryz.infoString rfl _ authors rfl (hown4.alloc _) x _ rfl (Box.newAt _ _ _ _ ?c0) ?c1 ?c2 ?c3 ?_; rotate_left 4; intro v6 w6 hown6 hg6; obtain ⟨a6, cap6, rfl, hsa6, hbl6, hcp6⟩ := hown6.sa; have hP6 := (hP4.alloc (.cells #[.string x] 9)).same (hg6.block _ (by simp; omega) (fun h => by have := (hown4.lt _ h.symm).1; omega)); have hP6_l := hP6.lt; have hP6_0 := hP6.cell 0; have hP6_1 := hP6.cell 1; have hP6_2 := hP6.cell 2; have hP6_3 := hP6.cell 3; have hP6_4 := hP6.cell 4; simp at hP6_0 hP6_1 hP6_2 hP6_3 hP6_4; have hP6_f0 := hP6.frozen 0; have hP6_f1 := hP6.frozen 1; have hP6_f2 := hP6.frozen 2; have hP6_f3 := hP6.frozen 3; have hP6_f4 := hP6.frozen 4)
    case c0 => rfl
    case c1 => omega
    case c2 => omega
    case c3 => simp; omega
    have s6 : Strm S (B + 1 + 1) w6 := (s4.alloc _).grown hg6 (fun k hk => by have := (hown4.lt k hk).1; omega)
    have hst6 : Stp S w w6 := (hst4.alloc _).grown hg6 (fun k hk => .inr (by have := (hown4.lt k hk).1; omega))
    have hR6 := (hR4.alloc (.cells #[.string x] 9)).same (hg6.block _ (by simp; omega) (fun h => by have := (hown4.lt _ h.symm).1; omega))
    clear hg6 hown4 hst4 s4 hP4 hR4
    have hR6_l := hR6.lt; have hR6_0 := hR6.cell 0; have hR6_1 := hR6.cell 1; have hR6_2 := hR6.cell 2; have hR6_3 := hR6.cell 3; have hR6_4 := hR6.cell 4; simp at hR6_0 hR6_1 hR6_2 hR6_3 hR6_4
    have hR6_f0 := hR6.frozen 0; have hR6_f1 := hR6.frozen 1; have hR6_f2 := hR6.frozen 2; have hR6_f3 := hR6.frozen 3; have hR6_f4 := hR6.frozen 4
    go_wp2_with fail
    refine bodyPost_ret (v := Paper.agg ⟨id, track, title, authors ++ [x], topics, a6, cap6, a2, c2⟩) (by simp only [results, Tryz.results48]; go_simp; first | rfl | simp [Paper.agg]) rfl ?_
    refine SomePaper.of (by (repeat' (first | with_reducible assumption | with_reducible exact Stp.refl _ _ | with_reducible refine Stp.setCell ?_ (Or.inr ?_) _ | with_reducible refine Stp.drewN ?_ _ | with_reducible refine Stp.drew ?_ | with_reducible refine Stp.alloc ?_ _ | omega | (simp; done) | (simp; omega)))) (Strm.mono (B := B + 1 + 1) (by (repeat' (first | with_reducible assumption | with_reducible refine Strm.setOther ?_ ?_ _ | with_reducible refine Strm.drewN ?_ _ | with_reducible refine Strm.drew ?_ | with_reducible refine Strm.alloc ?_ _ | omega | (simp; done) | (simp; omega)))) (by omega)) (fun h => ⟨?_, (hp.stp h hS).2.1, by simpa using hcp6⟩) ⟨hz.1, hz.2.1, hz.2.2.1, by have := hz.2.2.2.1; simp only at this ⊢; simp; omega, by have := hz.2.2.2.2.1; simp only at this ⊢; omega, all_snoc hz.2.2.2.2.2.1 hx, hz.2.2.2.2.2.2⟩ ⟨fun y hy => by have := hbl6 y hy; omega, hS.2⟩ ⟨fun y hy => .inr (by have := hbl6 y hy; omega), fun y hy => .inl hy⟩ ⟨fun y hy => by have := hbl6 y hy; simp; omega, fun y hy => by have := hlp.2 y hy; have := hst6.size; simp; omega⟩
    have hn6 : ∀ (q : Addr), q.block ≤ w.heap.size + 1 → ∀ y : Addr, a6 = some y → y.block ≠ q.block := fun q hq y hy => by have := (hbl6 y hy).1; omega
    repeat' (first | with_reducible assumption | with_reducible refine SA.setOther ?_ (hn6 _ ?_) _ | (simp; done) | (simp; omega))
  · have hP_l := hP.lt; have hP_0 := hP.cell 0; have hP_1 := hP.cell 1; have hP_2 := hP.cell 2; have hP_3 := hP.cell 3; have hP_4 := hP.cell 4; simp at hP_0 hP_1 hP_2 hP_3 hP_4
    have hP_f0 := hP.frozen 0; have hP_f1 := hP.frozen 1; have hP_f2 := hP.frozen 2; have hP_f3 := hP.frozen 3; have hP_f4 := hP.frozen 4
    have hR_l := hR.lt; have hR_0 := hR.cell 0; have hR_1 := hR.cell 1; have hR_2 := hR.cell 2; have hR_3 := hR.cell 3; have hR_4 := hR.cell 4; simp at hR_0 hR_1 hR_2 hR_3 hR_4
    have hR_f0 := hR.frozen 0; have hR_f1 := hR.frozen 1; have hR_f2 := hR.frozen 2; have hR_f3 := hR.frozen 3; have hR_f4 := hR.frozen 4
    go_wp2_with fail
    refine bodyPost_ret (v := Paper.agg ⟨id, track, title, [], topics, none, 0, a2, c2⟩) (by simp only [results, Tryz.results48]; go_simp; first | rfl | simp [Paper.agg]) rfl ?_
    exact SomePaper.of (by (repeat' (first | with_reducible assumption | with_reducible exact Stp.refl _ _ | with_reducible refine Stp.setCell ?_ (Or.inr ?_) _ | with_reducible refine Stp.drewN ?_ _ | with_reducible refine Stp.drew ?_ | with_reducible refine Stp.alloc ?_ _ | omega | (simp; done) | (simp; omega)))) (Strm.mono (B := B + 1) (by (repeat' (first | with_reducible assumption | with_reducible refine Strm.setOther ?_ ?_ _ | with_reducible refine Strm.drewN ?_ _ | with_reducible refine Strm.drew ?_ | with_reducible refine Strm.alloc ?_ _ | omega | (simp; done) | (simp; omega)))) (by omega)) (fun h => ⟨SA.nil _ _, (hp.stp h hS).2.1, by simp⟩) ⟨hz.1, hz.2.1, hz.2.2.1, by simp, by have := hz.2.2.2.2.1; simp only at this ⊢; omega, by simp, hz.2.2.2.2.2.2⟩ ⟨(fun y hy => by cases hy), hS.2⟩ ⟨(fun y hy => by cases hy), fun y hy => .inl hy⟩ ⟨(fun y hy => by cases hy), fun y hy => by have := hlp.2 y hy; simp; omega⟩
  · have hl0 := hz.2.2.2.2.1
    simp only at hl0
    have hP_l := hP.lt; have hP_0 := hP.cell 0; have hP_1 := hP.cell 1; have hP_2 := hP.cell 2; have hP_3 := hP.cell 3; have hP_4 := hP.cell 4; simp at hP_0 hP_1 hP_2 hP_3 hP_4
    go_wp2_with fail
    refine (clone_any topics a2 c2 w1 hpr.2.1 (by omega)).mono ?_
    rintro e w2 ⟨v2, rfl, hown2, hb2⟩
    have hz2 := hb2.size
    have hP2 := hP.below hb2
    have hR2 := hR.below hb2
    have hst2 : Stp S w w2 := hst.trans (Stp.of_below hb2)
    have s2 := s1.below hb2
    clear hP_l hP_0 hP_1 hP_2 hP_3 hP_4
    clear hP hR hst s1 hpr hb2
    go_wp2_with fail
    refine (one_any S (B + 1) _ 3 3 9 _ _ (s2.alloc _) (by omega) (Box.new _ _ _) (by omega) rfl (by omega) (by omega) (by simp; decide)).mono ?_
    rintro e w4 ⟨x, hx, rfl, h4, s4⟩
    have hz4 := h4.size
    simp at hz4
    have hP4 := (hP2.alloc _).stp h4 (by omega)
    have hR4 := (hR2.alloc _).stp h4 (by omega)
    have hst4 : Stp S w w4 := (hst2.alloc _).trans h4
    have hown4 := (hown2.alloc _).stp h4 (by omega)
    clear h4 hst2 s2 hP2 hR2 hown2
    go_upto_region 13 with (at_builtin; refine wpList_append_one rfl _ _ 52 rfl w1.heap.size 9 16 (.string ⟨#[]⟩) Tryz.underlying52 Tryz.infoString rfl _ topics rfl (hown4.alloc _) x _ rfl (Box.newAt _ _ _ _ ?c0) ?c1 ?c2 ?c3 ?_; rotate_left 4; intro v6 w6 hown6 hg6; obtain ⟨a6, cap6, rfl, hsa6, hbl6, hcp6⟩ := hown6.sa; have hP6 := (hP4.alloc (.cells #[.string x] 9)).same (hg6.block _ (by simp; omega) (fun h => by have := (hown4.lt _ h.symm).1; omega)); have hP6_l := hP6.lt; have hP6_0 := hP6.cell 0; have hP6_1 := hP6.cell 1; have hP6_2 := hP6.cell 2; have hP6_3 := hP6.cell 3; have hP6_4 := hP6.cell 4; simp at hP6_0 hP6_1 hP6_2 hP6_3 hP6_4; have hP6_f0 := hP6.frozen 0; have hP6_f1 := hP6.frozen 1; have hP6_f2 := hP6.frozen 2; have hP6_f3 := hP6.frozen 3; have hP6_f4 := hP6.frozen 4)
    case c0 => rfl
    case c1 => omega
    case c2 => omega
    case c3 => simp; omega
    have s6 : Strm S (B + 1 + 1) w6 := (s4.alloc _).grown hg6 (fun k hk => by have := (hown4.lt k hk).1; omega)
    have hst6 : Stp S w w6 := (hst4.alloc _).grown hg6 (fun k hk => .inr (by have := (hown4.lt k hk).1; omega))
    have hR6 := (hR4.alloc (.cells #[.string x] 9)).same (hg6.block _ (by simp; omega) (fun h => by have := (hown4.lt _ h.symm).1; omega))
    clear hg6 hown4 hst4 s4 hP4 hR4
    have hR6_l := hR6.lt; have hR6_0 := hR6.cell 0; have hR6_1 := hR6.cell 1; have hR6_2 := hR6.cell 2; have hR6_3 := hR6.cell 3; have hR6_4 := hR6.cell 4; simp at hR6_0 hR6_1 hR6_2 hR6_3 hR6_4
    have hR6_f0 := hR6.frozen 0; have hR6_f1 := hR6.frozen 1; have hR6_f2 := hR6.frozen 2; have hR6_f3 := hR6.frozen 3; have hR6_f4 := hR6.frozen 4
    go_wp2_with fail
    refine bodyPost_ret (v := Paper.agg ⟨id, track, title, authors, topics ++ [x], a1, c1, a6, cap6⟩) (by simp only [results, Tryz.results48]; go_simp; first | rfl | simp [Paper.agg]) rfl ?_
    refine SomePaper.of (by (repeat' (first | with_reducible assumption | with_reducible exact Stp.refl _ _ | with_reducible refine Stp.setCell ?_ (Or.inr ?_) _ | with_reducible refine Stp.drewN ?_ _ | with_reducible refine Stp.drew ?_ | with_reducible refine Stp.alloc ?_ _ | omega | (simp; done) | (simp; omega)))) (Strm.mono (B := B + 1 + 1) (by (repeat' (first | with_reducible assumption | with_reducible refine Strm.setOther ?_ ?_ _ | with_reducible refine Strm.drewN ?_ _ | with_reducible refine Strm.drew ?_ | with_reducible refine Strm.alloc ?_ _ | omega | (simp; done) | (simp; omega)))) (by omega)) (fun h => ⟨(hp.stp h hS).1, ?_, hp.2.2⟩) ⟨hz.1, hz.2.1, hz.2.2.1, by have := hz.2.2.2.1; simp only at this ⊢; omega, by have := hz.2.2.2.2.1; simp only at this ⊢; simp; omega, hz.2.2.2.2.2.1, all_snoc hz.2.2.2.2.2.2 hx⟩ ⟨hS.1, fun y hy => by have := hbl6 y hy; omega⟩ ⟨fun y hy => .inl hy, fun y hy => .inr (by have := hbl6 y hy; omega)⟩ ⟨fun y hy => by have := hlp.1 y hy; have := hst6.size; simp; omega, fun y hy => by have := hbl6 y hy; simp; omega⟩
    have hn6 : ∀ (q : Addr), q.block ≤ w.heap.size + 1 → ∀ y : Addr, a6 = some y → y.block ≠ q.block := fun q hq y hy => by have := (hbl6 y hy).1; omega
    repeat' (first | with_reducible assumption | with_reducible refine SA.setOther ?_ (hn6 _ ?_) _ | (simp; done) | (simp; omega))
end Go.Proofs.YtpgofjjcmldhpaaGreatDoor
