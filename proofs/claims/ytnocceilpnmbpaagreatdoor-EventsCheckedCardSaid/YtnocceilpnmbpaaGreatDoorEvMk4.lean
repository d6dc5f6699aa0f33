/- A list of events, spoiled: the maker SpoiledEvents. -/
import Derived.Test.YtnocceilpnmbpaaGreatDoorEvMk3
namespace Go.Proofs.YtnocceilpnmbpaaGreatDoor
open Go.RowKit
set_option linter.unusedVariables false
set_option linter.unusedSimpArgs false

/-- One of some strings is drawn. -/
def SomeStrP (S : Nat) (B : Int) (P : ByteArray → Prop) (w : World) (e : Ending) (w' : World) : Prop :=
 ∃ x : ByteArray, P x ∧ e = .returned (.string x) ∧ Stp S w w' ∧ Strm S (B + 1) w'
set_option maxHeartbeats 400000 in
theorem oneP_any (P : ByteArray → Prop) (S : Nat) (B : Int) (b n cap T : Nat) (vs : Array Value) (w : World) (hs : Strm S B w) (hB : B ≤ 1000000000) (hbox : Box w b T vs) (hbS : b ≠ S) (hn : vs.size = n) (hl1 : 1 ≤ n) (hl2 : n ≤ 1000)
  (hc : ∀ v ∈ vs.toList, ∃ s : ByteArray, v = .string s ∧ P s) :
  Calls Tryz.prog 40 #[.pointer (some ⟨S, 0, none⟩), .slice (some ⟨b, 0, none⟩) n cap] w (SomeStrP S B P w) := by
 have Hc := Lib.hid hc
 clear hc
 go_enter Tryz.func40, Tryz.ntmps40
 go_wp2_with fail
 refine (next_any S B _ _ hs hB (by omega) (by omega)).mono ?_
 rintro e w' ⟨r, ⟨hr, hr2⟩, rfl, h1, h2⟩
 obtain ⟨i, rfl⟩ := Int.eq_ofNat_of_zero_le hr
 have hi : i < n := by omega
 obtain ⟨s, hs1, hs2⟩ := Hc.out vs[i] (by simp)
 have hc : w'.cell? ⟨b, i, none⟩ = some (.string s) := by rw [(hbox.stp h1 hbS).cell i, Array.getElem?_eq_getElem (by omega), hs1]
 clear hs1
 go_wp2_with fail
 go_ret
 exact ⟨_, hs2, rfl, h1, h2⟩
/-- What may be put behind the list of an event. -/
def TailP (x : ByteArray) : Prop := x = ⟨#[]⟩ ∨ x = ⟨#[102, 102, 102, 102, 102, 102, 102, 102, 102, 102, 102, 102, 102, 102, 102, 102]⟩ ∨ x = ⟨#[48, 48, 48, 48, 48, 48, 48, 48, 48, 48, 48, 48, 48, 48, 48, 48]⟩
/-- One field of an event changed. -/
def ChgE (e e' : Ev) : Prop :=
 (∃ s, e' = { e with sum := s }) ∨ (∃ s, e' = { e with desk := s }) ∨ (∃ z, e' = { e with at_ := z }) ∨ (∃ z, e' = { e with kind := z }) ∨ (∃ s, e' = { e with who := s }) ∨ (∃ s, e' = { e with paper := s }) ∨ (∃ s, e' = { e with wth := s }) ∨ (∃ s, e' = { e with txt := s }) ∨ (∃ x a c, TailP x ∧ e' = { e with after := e.after ++ [x], a := a, c := c }) ∨ (∃ a c, e' = { e with after := [], a := a, c := c })
def SpoilS (l : List Ev) (k : Nat) (m : List Ev) : Prop := (∃ (h : k < l.length) (e' : Ev), ChgE l[k] e' ∧ m = l.set k e') ∨ m = l.take k ++ l.drop (k + 1)
def SpoilR (l m : List Ev) : Prop :=
 (l = [] ∧ ∃ e, m = [e] ∧ e.after = []) ∨ ∃ k m1, k < l.length ∧ SpoilS l k m1 ∧ (m = m1 ∨ ∃ h : k < m1.length, m = sortE (m1.set k { m1[k] with sum := evSum m1[k] }))
theorem Stp.kpB {S : Nat} {X : Nat → Prop} {a b c : World} (h : Stp S a b) (k : Kp X b c) (hX : ∀ j, X j → a.heap.size ≤ j) : Stp S a c :=
 ⟨k.os.trans h.os, k.tape.trans h.tape, k.output.trans h.output, Nat.le_trans h.size k.size, fun b hb hbs => (k.block b (Nat.lt_of_lt_of_le hb h.size) (fun e => by have := hX _ e; omega)).trans (h.block b hb hbs)⟩
/-- What is known while the list is spoiled. -/
structure SpW (S base g cap : Nat) (w : World) (l : List Ev) (W : World) : Prop where
 nl : NL base 53 W (.slice (some ⟨g, 0, none⟩) l.length cap) l
 ok : ∀ e ∈ l, EvOk e
 st : Stp S w W
section
variable {S base g cap : Nat} {w W W' : World} {l : List Ev}
theorem SpW.stp (h : SpW S base g cap w l W) (k : Stp S W W') (hS : S < base) : SpW S base g cap w l W' := ⟨h.nl.stp k hS, h.ok, h.st.trans k⟩
theorem SpW.put (h : SpW S base g cap w l W) (hg : w.heap.size ≤ g) {k : Nat} (hk : k < l.length) (j : Nat) (e' : Ev) (u : Value) (hj : j < 9) (hy : Cel.cells e' = (Cel.cells l[k]).set j u) (hn : NIn base (.slice (some ⟨g, 0, none⟩) l.length cap) W e') (hok : EvOk e') : SpW S base g cap w (l.set k e') (W.setCell ⟨g, k * 9 + j, none⟩ u) := by
 have hkp : Kp (fun b => b = g) W (W.setCell ⟨g, k * 9 + j, none⟩ u) := (Kp.refl (fun b => b = g) W).setCell (p := ⟨g, k * 9 + j, none⟩) (.inl rfl) _
 have hX : ∀ b, base ≤ b → b = g → (Value.slice (some ⟨g, 0, none⟩) l.length cap).ownBlock = some b ∨ W.heap.size ≤ b := fun b _ e => .inl (by rw [e]; rfl)
 refine ⟨⟨?_, ?_⟩, ?_, h.st.setCell (.inr hg) _⟩
 ·
  have := h.nl.1.put k j e' u hk hj hy
  rw [List.length_set]
  exact this
 ·
  rw [List.length_set]
  intro x hx
  rcases List.mem_or_eq_of_mem_set hx with h1 | rfl
  ·
   exact (h.nl.2 x h1).kp hkp hX
  ·
   exact hn.kp hkp hX
 ·
  intro x hx
  rcases List.mem_or_eq_of_mem_set hx with h1 | rfl
  ·
   exact h.ok x h1
  ·
   exact hok
theorem SpW.frozen (h : SpW S base g cap w l W) (j : Nat) : W.frozen? ⟨g, j, none⟩ = false := by
 obtain ⟨cur, hb⟩ := h.nl.1.box
 exact hb.frozen j
theorem SpW.cells (h : SpW S base g cap w l W) {k : Nat} (hk : k < l.length) : W.cell? ⟨g, k * 9, none⟩ = some (.string l[k].sum) ∧ W.cell? ⟨g, k * 9 + 1, none⟩ = some (.string l[k].desk) ∧ W.cell? ⟨g, k * 9 + 2, none⟩ = some (.int .i64 l[k].at_)
   ∧ W.cell? ⟨g, k * 9 + 3, none⟩ = some (.slice l[k].a l[k].after.length l[k].c) ∧ W.cell? ⟨g, k * 9 + 4, none⟩ = some (.int .i64 l[k].kind) ∧ W.cell? ⟨g, k * 9 + 5, none⟩ = some (.string l[k].who)
   ∧ W.cell? ⟨g, k * 9 + 6, none⟩ = some (.string l[k].paper) ∧ W.cell? ⟨g, k * 9 + 7, none⟩ = some (.string l[k].wth) ∧ W.cell? ⟨g, k * 9 + 8, none⟩ = some (.string l[k].txt) := by
 obtain ⟨a, c, he, hsa, -, -⟩ := h.nl.1.form
 simp only [Value.slice.injEq] at he
 obtain ⟨rfl, -, rfl⟩ := he
 obtain ⟨b, off, ha, hc⟩ := hsa.ev hk
 simp only [Option.some.injEq, Addr.mk.injEq, and_true] at ha
 obtain ⟨rfl, rfl⟩ := ha
 simpa only [Nat.zero_add] using hc
end
def SpoilRes (S base : Nat) (B : Int) (l : List Ev) (w : World) (e : Ending) (w' : World) : Prop :=
 ∃ v m, e = .returned v ∧ NL base 53 w' v m ∧ m.length ≤ l.length + 1 ∧ (∀ e ∈ m, EvOk e) ∧ SpoilR l m ∧ Stp S w w' ∧ Strm S (B + 8) w'
set_option maxRecDepth 100000 in
set_option maxHeartbeats 8000000 in
theorem spoiled_any (S base : Nat) (B : Int) (l : List Ev) (a : Option Addr) (c : Nat) (w : World) (hs : Strm S B w) (hB : B ≤ 999990000) (hE : EnvE w) (hES : EnvSE S) (hbS : S < base) (hbw : base ≤ w.heap.size) (hNL : NL base 53 w (.slice a l.length c) l) (hl : l.length ≤ 1500) (hok : ∀ e ∈ l, EvOk e) (hat : ∀ e ∈ l, e.at_ ≤ 999999999 ∧ e.after.length ≤ 1999) :
  Calls Tryz.prog 8 #[.pointer (some ⟨S, 0, none⟩), .slice a l.length c] w (SpoilRes S base B l w) := by
 have hSl := hs.lt
 obtain ⟨a0, c0, he0, hsa, hfa, -⟩ := hNL.1.form
 simp only [Value.slice.injEq] at he0
 obtain ⟨rfl, -, rfl⟩ := he0
 have HCl := Lib.hid (cloneEv_any l a c w hsa (hfa.imp id (fun ⟨b, h, _⟩ => ⟨b, 0, h⟩)) (by omega))
 have had : AdsIn base w.heap.size l := fun e he y hy => by
  have hy' : y ∈ Nst.ads e := by show y ∈ e.a.toList; rw [hy]; simp
  obtain ⟨g1, g2, -⟩ := (hNL.2 e he).2 y hy'
  exact ⟨g1, g2⟩
 have hrd := hNL.rd
 clear hNL hsa hfa
 by_cases hnl : l = []
 ·
  subst hnl
  go_enter Tryz.func8, Tryz.ntmps8
  go_wp2_with fail
  refine HCl.out.mono ?_
  rintro e w1 ⟨v1, rfl, hown1, hb1⟩
  have hz1 := hb1.size
  obtain ⟨a1, cap, rfl, -, -, -⟩ := hown1.form
  have s1 := hs.below hb1
  go_wp2_with fail
  refine (one_any S B _ 2 2 9 _ _ (s1.alloc _) (by omega) (Box.new _ _ _) (by omega) rfl (by omega) (by omega) (by simp; repeat' (first | apply And.intro | decide | omega))).mono ?_
  rintro e w2 ⟨x, hx, rfl, hq2, s2⟩
  have h2 : Stp S w1 w2 := ((Stp.refl S w1).alloc _).trans hq2
  have hown2 := hown1.stp h2 (by omega)
  have hz2 := h2.size
  go_wp2_with (at_builtin; refine wpList_append_one rfl _ _ 26 rfl w.heap.size 53 136 (.agg #[.string ⟨#[]⟩, .string ⟨#[]⟩, .int .i64 0, .slice none 0 0, .int .i64 0, .string ⟨#[]⟩, .string ⟨#[]⟩, .string ⟨#[]⟩, .string ⟨#[]⟩]) Tryz.underlying26 infoEv rfl _ [] rfl (hown2.alloc _) (⟨x, ⟨#[97]⟩, 0, [], 7, ⟨#[]⟩, ⟨#[112, 97]⟩, ⟨#[]⟩, ⟨#[]⟩, none, 0⟩ : Ev) _ rfl (Box.newAt _ _ _ _ rfl) (by simp) (by simp) (by simp; omega) ?_; intro v6 w6 hown6 hg6)
  have h6 : Stp S w w6 := (((Stp.of_below hb1).trans h2).alloc _).kpB (X := fun j => (Value.slice a1 0 cap).ownBlock = some j) ((Kp.refl _ _).grown hg6 (fun j hj => .inl hj)) (fun j hj => (hown2.lt j hj).1)
  have s6 := (s2.alloc _).grown hg6 (fun j hj => by have := (hown2.lt j hj).1; omega)
  go_ret
  refine ⟨v6, _, rfl, ⟨hown6.mono hbw, fun e he => ?_⟩, by simp, fun e he => ?_, .inl ⟨rfl, _, rfl, ?_⟩, h6, s6.mono (by omega)⟩
  ·
   rw [List.mem_singleton.1 he]
   exact ⟨⟨.inl rfl, Nat.le_refl _⟩, fun y hy => by cases hy⟩
  ·
   rw [List.mem_singleton.1 he]
   exact ⟨hx, (by dsimp only; decide), (by dsimp only; decide), (by dsimp only; decide), (by dsimp only; decide), (fun y hy => by cases hy), (by dsimp only; decide), (by dsimp only; decide), (by dsimp only; decide), (by dsimp only; decide), (by dsimp only; decide), (by dsimp only; decide)⟩
  ·
   rfl
 go_enter Tryz.func8, Tryz.ntmps8
 go_wp2_with fail
 refine HCl.out.mono ?_
 rintro e w1 ⟨v1, rfl, hown1, hb1⟩
 have hn1 : NL base 53 w1 v1 l := NL.ofOwn (w := w) hown1 hbw (Nat.le_refl _) (fun e he => (hrd e he).below hb1) had hb1.size
 obtain ⟨a1, cap, rfl, hsa1, hfa1, hlc⟩ := hown1.form
 obtain ⟨g, rfl, hg⟩ : ∃ g, a1 = some ⟨g, 0, none⟩ ∧ w.heap.size ≤ g := by
  rcases hfa1 with h | ⟨b, h, h2, -⟩
  ·
   subst h
   rcases hsa1 with h | ⟨b, off, h, -⟩
   ·
    exact absurd h hnl
   ·
    cases h
  ·
   exact ⟨b, h, h2⟩
 have hcap : cap ≤ maxLen := by
  obtain ⟨-, h2⟩ := hown1
  rcases h2 with ⟨h2, _⟩ | ⟨g', cap', cur, he, r1, r2, r3, r4, r5, r6⟩
  ·
   cases h2
  ·
   cases he; exact r4
 have hSp : SpW S base g cap w l w1 := ⟨hn1, hok, Stp.of_below hb1⟩
 have s1 := hs.below hb1
 have hlen : 0 < l.length := List.length_pos_iff.2 hnl
 have hnz : ((l.length : Int) == 0) = false := beq_eq_false_iff_ne.2 (by omega)
 clear hn1 hown1 hsa1 hfa1 hb1 had hrd hs HCl hok
 go_wp2_with fail
 refine (next_any S B l.length _ s1 (by omega) (by omega) (by omega)).mono ?_
 rintro e w2 ⟨r, ⟨hr, hr2⟩, rfl, h2, s2⟩
 obtain ⟨k, rfl⟩ := Int.eq_ofNat_of_zero_le hr
 have hk : k < l.length := by omega
 have hSp2 := hSp.stp h2 hbS
 clear hSp s1 h2
 go_wp2_with fail
 refine (next_any S (B + 1) 11 _ s2 (by omega) (by omega) (by omega)).mono ?_
 rintro e w3 ⟨r, ⟨hq, hq2⟩, rfl, h3, s3⟩
 have hSp3 := hSp2.stp h3 hbS
 clear hSp2 s2 h3
 go_upto_block 0 with (fail)
 go_cut [5] (fun v5 wx => ∃ m, v5 = .slice (some ⟨g, 0, none⟩) m.length cap ∧ SpoilS l k m ∧ SpW S base g cap w m wx ∧ (m.length ≤ l.length ∧ l.length ≤ m.length + 1) ∧ Strm S (B + 4) wx)
 case first =>
  obtain rfl | rfl | rfl | rfl | rfl | rfl | rfl | rfl | rfl | rfl | rfl : r = 0 ∨ r = 1 ∨ r = 2 ∨ r = 3 ∨ r = 4 ∨ r = 5 ∨ r = 6 ∨ r = 7 ∨ r = 8 ∨ r = 9 ∨ r = 10 := by omega
  ·
   go_wp2_with fail
   refine (one_any S (B + 1 + 1) _ 3 3 9 _ _ (s3.alloc _) (by omega) (Box.new _ _ _) (by have := hSp3.st.size; omega) rfl (by omega) (by omega) (by simp; repeat' (first | apply And.intro | decide | omega))).mono ?_
   rintro e w4 ⟨x, hx, rfl, hq4, s4⟩
   have hSp4 := hSp3.stp (((Stp.refl S w3).alloc _).trans hq4) hbS
   have hfz := hSp4.frozen (k * 9)
   obtain ⟨d0, d1, d2, d3, d4, d5, d6, d7, d8⟩ := hSp4.cells hk
   have ho := hSp4.ok _ (List.getElem_mem hk)
   have hn := hSp4.nl.2 _ (List.getElem_mem hk)
   go_wp2_with fail
   go_meet
   exact ⟨l.set k { l[k] with sum := x }, by rw [List.length_set], .inl ⟨hk, _, .inl ⟨x, rfl⟩, rfl⟩, hSp4.put hg hk 0 { l[k] with sum := x } (.string x) (by decide) rfl hn ⟨hx, ho.desk, ho.at1, ho.at2, ho.len, ho.after, ho.kind1, ho.kind2, ho.who, ho.paper, ho.wth, ho.txt⟩, by rw [List.length_set]; exact ⟨Nat.le_refl _, by omega⟩, (s4.setOther (by show S < g; omega) _).mono (by omega)⟩
  ·
   go_wp2_with fail
   refine (one_any S (B + 1 + 1) _ 3 3 9 _ _ (s3.alloc _) (by omega) (Box.new _ _ _) (by have := hSp3.st.size; omega) rfl (by omega) (by omega) (by simp; repeat' (first | apply And.intro | decide | omega))).mono ?_
   rintro e w4 ⟨x, hx, rfl, hq4, s4⟩
   have hSp4 := hSp3.stp (((Stp.refl S w3).alloc _).trans hq4) hbS
   have hfz := hSp4.frozen (k * 9 + 1)
   obtain ⟨d0, d1, d2, d3, d4, d5, d6, d7, d8⟩ := hSp4.cells hk
   have ho := hSp4.ok _ (List.getElem_mem hk)
   have hn := hSp4.nl.2 _ (List.getElem_mem hk)
   go_wp2_with fail
   go_meet
   exact ⟨l.set k { l[k] with desk := x }, by rw [List.length_set], .inl ⟨hk, _, .inr (.inl ⟨x, rfl⟩), rfl⟩, hSp4.put hg hk 1 { l[k] with desk := x } (.string x) (by decide) rfl hn ⟨ho.sum, hx, ho.at1, ho.at2, ho.len, ho.after, ho.kind1, ho.kind2, ho.who, ho.paper, ho.wth, ho.txt⟩, by rw [List.length_set]; exact ⟨Nat.le_refl _, by omega⟩, (s4.setOther (by show S < g; omega) _).mono (by omega)⟩
  ·
   obtain ⟨d0, d1, d2, d3, d4, d5, d6, d7, d8⟩ := hSp3.cells hk
   have hm1 := (hat _ (List.getElem_mem hk)).1
   have hm2 := (hSp3.ok _ (List.getElem_mem hk)).at1
   have hwz : IntKind.i64.wrap (l[k].at_ + 1) = l[k].at_ + 1 := IntWalk.i64_in _ (by omega)
   go_wp2_with fail
   refine (pick_box S (B + 1 + 1) _ 3 4 [-1, 5761440, l[k].at_ + 1, 0] _ (s3.alloc _) (by omega) (Box.newAt _ _ _ _ rfl) (by have := hSp3.st.size; omega) (by simp) (by simp)).mono ?_
   rintro e w4 ⟨z, hz, rfl, hq4, s4⟩
   have hSp4 := hSp3.stp (((Stp.refl S w3).alloc _).trans hq4) hbS
   have hz1 : -1 ≤ z ∨ z = l[k].at_ + 1 := by (simp only [List.mem_cons, List.not_mem_nil, or_false] at hz; omega)
   have hz2 : z ≤ 5761440 ∨ z = l[k].at_ + 1 := by (simp only [List.mem_cons, List.not_mem_nil, or_false] at hz; omega)
   clear hz d0 d1 d2 d3 d4 d5 d6 d7 d8
   have hfz := hSp4.frozen (k * 9 + 2)
   obtain ⟨d0, d1, d2, d3, d4, d5, d6, d7, d8⟩ := hSp4.cells hk
   have ho := hSp4.ok _ (List.getElem_mem hk)
   have hn := hSp4.nl.2 _ (List.getElem_mem hk)
   go_wp2_with fail
   go_meet
   exact ⟨l.set k { l[k] with at_ := z }, by rw [List.length_set], .inl ⟨hk, _, .inr (.inr (.inl ⟨z, rfl⟩)), rfl⟩, hSp4.put hg hk 2 { l[k] with at_ := z } (.int .i64 z) (by decide) rfl hn ⟨ho.sum, ho.desk, (show -1000000000 ≤ z by omega), (show z ≤ 1000000000 by omega), ho.len, ho.after, ho.kind1, ho.kind2, ho.who, ho.paper, ho.wth, ho.txt⟩, by rw [List.length_set]; exact ⟨Nat.le_refl _, by omega⟩, (s4.setOther (by show S < g; omega) _).mono (by omega)⟩
  ·
   go_wp2_with fail
   refine (rangeS_any S (B + 1 + 1) 0 8 _ s3 (by omega) (by omega) (by omega) (by omega)).mono ?_
   rintro e w4 ⟨z, ⟨hz1, hz2⟩, rfl, hq4, s4⟩
   have hSp4 := hSp3.stp hq4 hbS
   have hfz := hSp4.frozen (k * 9 + 4)
   obtain ⟨d0, d1, d2, d3, d4, d5, d6, d7, d8⟩ := hSp4.cells hk
   have ho := hSp4.ok _ (List.getElem_mem hk)
   have hn := hSp4.nl.2 _ (List.getElem_mem hk)
   go_wp2_with fail
   go_meet
   exact ⟨l.set k { l[k] with kind := z }, by rw [List.length_set], .inl ⟨hk, _, .inr (.inr (.inr (.inl ⟨z, rfl⟩))), rfl⟩, hSp4.put hg hk 4 { l[k] with kind := z } (.int .i64 z) (by decide) rfl hn ⟨ho.sum, ho.desk, ho.at1, ho.at2, ho.len, ho.after, (show -1000 ≤ z by omega), (show z ≤ 1000 by omega), ho.who, ho.paper, ho.wth, ho.txt⟩, by rw [List.length_set]; exact ⟨Nat.le_refl _, by omega⟩, (s4.setOther (by show S < g; omega) _).mono (by omega)⟩
  ·
   go_wp2_with fail
   refine (one_any S (B + 1 + 1) _ 3 3 9 _ _ (s3.alloc _) (by omega) (Box.new _ _ _) (by have := hSp3.st.size; omega) rfl (by omega) (by omega) (by simp; repeat' (first | apply And.intro | decide | omega))).mono ?_
   rintro e w4 ⟨x, hx, rfl, hq4, s4⟩
   have hSp4 := hSp3.stp (((Stp.refl S w3).alloc _).trans hq4) hbS
   have hfz := hSp4.frozen (k * 9 + 5)
   obtain ⟨d0, d1, d2, d3, d4, d5, d6, d7, d8⟩ := hSp4.cells hk
   have ho := hSp4.ok _ (List.getElem_mem hk)
   have hn := hSp4.nl.2 _ (List.getElem_mem hk)
   go_wp2_with fail
   go_meet
   exact ⟨l.set k { l[k] with who := x }, by rw [List.length_set], .inl ⟨hk, _, .inr (.inr (.inr (.inr (.inl ⟨x, rfl⟩)))), rfl⟩, hSp4.put hg hk 5 { l[k] with who := x } (.string x) (by decide) rfl hn ⟨ho.sum, ho.desk, ho.at1, ho.at2, ho.len, ho.after, ho.kind1, ho.kind2, hx, ho.paper, ho.wth, ho.txt⟩, by rw [List.length_set]; exact ⟨Nat.le_refl _, by omega⟩, (s4.setOther (by show S < g; omega) _).mono (by omega)⟩
  ·
   go_wp2_with fail
   refine (one_any S (B + 1 + 1) _ 3 3 9 _ _ (s3.alloc _) (by omega) (Box.new _ _ _) (by have := hSp3.st.size; omega) rfl (by omega) (by omega) (by simp; repeat' (first | apply And.intro | decide | omega))).mono ?_
   rintro e w4 ⟨x, hx, rfl, hq4, s4⟩
   have hSp4 := hSp3.stp (((Stp.refl S w3).alloc _).trans hq4) hbS
   have hfz := hSp4.frozen (k * 9 + 6)
   obtain ⟨d0, d1, d2, d3, d4, d5, d6, d7, d8⟩ := hSp4.cells hk
   have ho := hSp4.ok _ (List.getElem_mem hk)
   have hn := hSp4.nl.2 _ (List.getElem_mem hk)
   go_wp2_with fail
   go_meet
   exact ⟨l.set k { l[k] with paper := x }, by rw [List.length_set], .inl ⟨hk, _, .inr (.inr (.inr (.inr (.inr (.inl ⟨x, rfl⟩))))), rfl⟩, hSp4.put hg hk 6 { l[k] with paper := x } (.string x) (by decide) rfl hn ⟨ho.sum, ho.desk, ho.at1, ho.at2, ho.len, ho.after, ho.kind1, ho.kind2, ho.who, hx, ho.wth, ho.txt⟩, by rw [List.length_set]; exact ⟨Nat.le_refl _, by omega⟩, (s4.setOther (by show S < g; omega) _).mono (by omega)⟩
  ·
   go_wp2_with fail
   refine (one_any S (B + 1 + 1) _ 3 3 9 _ _ (s3.alloc _) (by omega) (Box.new _ _ _) (by have := hSp3.st.size; omega) rfl (by omega) (by omega) (by simp; repeat' (first | apply And.intro | decide | omega))).mono ?_
   rintro e w4 ⟨x, hx, rfl, hq4, s4⟩
   have hSp4 := hSp3.stp (((Stp.refl S w3).alloc _).trans hq4) hbS
   have hfz := hSp4.frozen (k * 9 + 7)
   obtain ⟨d0, d1, d2, d3, d4, d5, d6, d7, d8⟩ := hSp4.cells hk
   have ho := hSp4.ok _ (List.getElem_mem hk)
   have hn := hSp4.nl.2 _ (List.getElem_mem hk)
   go_wp2_with fail
   go_meet
   exact ⟨l.set k { l[k] with wth := x }, by rw [List.length_set], .inl ⟨hk, _, .inr (.inr (.inr (.inr (.inr (.inr (.inl ⟨x, rfl⟩)))))), rfl⟩, hSp4.put hg hk 7 { l[k] with wth := x } (.string x) (by decide) rfl hn ⟨ho.sum, ho.desk, ho.at1, ho.at2, ho.len, ho.after, ho.kind1, ho.kind2, ho.who, ho.paper, hx, ho.txt⟩, by rw [List.length_set]; exact ⟨Nat.le_refl _, by omega⟩, (s4.setOther (by show S < g; omega) _).mono (by omega)⟩
  ·
   go_wp2_with fail
   refine (one_any S (B + 1 + 1) _ 3 3 9 _ _ (s3.alloc _) (by omega) (Box.new _ _ _) (by have := hSp3.st.size; omega) rfl (by omega) (by omega) (by simp; repeat' (first | apply And.intro | decide | omega))).mono ?_
   rintro e w4 ⟨x, hx, rfl, hq4, s4⟩
   have hSp4 := hSp3.stp (((Stp.refl S w3).alloc _).trans hq4) hbS
   have hfz := hSp4.frozen (k * 9 + 8)
   obtain ⟨d0, d1, d2, d3, d4, d5, d6, d7, d8⟩ := hSp4.cells hk
   have ho := hSp4.ok _ (List.getElem_mem hk)
   have hn := hSp4.nl.2 _ (List.getElem_mem hk)
   go_wp2_with fail
   go_meet
   exact ⟨l.set k { l[k] with txt := x }, by rw [List.length_set], .inl ⟨hk, _, .inr (.inr (.inr (.inr (.inr (.inr (.inr (.inl ⟨x, rfl⟩))))))), rfl⟩, hSp4.put hg hk 8 { l[k] with txt := x } (.string x) (by decide) rfl hn ⟨ho.sum, ho.desk, ho.at1, ho.at2, ho.len, ho.after, ho.kind1, ho.kind2, ho.who, ho.paper, ho.wth, hx⟩, by rw [List.length_set]; exact ⟨Nat.le_refl _, by omega⟩, (s4.setOther (by show S < g; omega) _).mono (by omega)⟩
  ·
   obtain ⟨d0, d1, d2, d3, d4, d5, d6, d7, d8⟩ := hSp3.cells hk
   have ho := hSp3.ok _ (List.getElem_mem hk)
   have hn := hSp3.nl.2 _ (List.getElem_mem hk)
   have hl9 := (hat _ (List.getElem_mem hk)).2
   have hgl := (hSp3.nl.1.lt g rfl).2
   have HCS := clone_any l[k].after l[k].a l[k].c w3 hn.1.1 (by omega)
   go_wp2_with fail
   refine HCS.mono ?_
   rintro e w4 ⟨v4, rfl, hown4, hb4⟩
   have h4 : Stp S w3 w4 := Stp.of_below hb4
   have hz4 := hb4.size
   go_wp2_with fail
   refine (oneP_any TailP S (B + 1 + 1) _ 3 3 9 _ _ ((s3.below hb4).alloc _) (by omega) (Box.new _ _ _) (by have := hSp3.st.size; omega) rfl (by omega) (by omega) (by simp [TailP])).mono ?_
   rintro e w5 ⟨x, hx, rfl, hq5, s5⟩
   have h5 : Stp S w3 w5 := (h4.alloc _).trans hq5
   have hown5 : Own w3.heap.size 9 w5 v4 l[k].after := hown4.stp (((Stp.refl S w4).alloc _).trans hq5) (by have := hSp3.st.size; omega)
   have hz5 := h5.size
   go_wp2_with (at_builtin; refine wpList_append_one rfl _ _ 42 rfl w3.heap.size 9 16 (.string ⟨#[]⟩) Tryz.underlying42 Tryz.infoString rfl _ l[k].after rfl (hown5.alloc _) x _ rfl (Box.newAt _ _ _ _ rfl) (by omega) (by omega) (by simp; omega) ?_; intro v6 w6 hown6 hg6; have h6 : Stp S w3 w6 := (h5.alloc _).kpB (X := fun j => v4.ownBlock = some j) ((Kp.refl _ _).grown hg6 (fun j hj => .inl hj)) (fun j hj => (hown5.lt j hj).1); have hSp6 := hSp3.stp h6 hbS; obtain ⟨a6, c6, rfl, hsa6, hfa6, hlc6⟩ := hown6.form; have hfz := hSp6.frozen (k * 9 + 3); obtain ⟨f0, f1, f2, f3, f4, f5, f6, f7, f8⟩ := hSp6.cells hk)
   go_meet
   have hxz : x.size ≤ 1000 := by rcases hx with h | h | h <;> (rw [h]; decide)
   have s6 : Strm S (B + 1 + 1 + 1) w6 := (s5.alloc _).grown hg6 (fun j hj => by have := (hown5.lt j hj).1; have := hSp3.st.size; omega)
   have hn6 : NIn base (.slice (some ⟨g, 0, none⟩) l.length cap) w6 { l[k] with after := l[k].after ++ [x], a := a6, c := c6 } := by
    refine ⟨⟨hsa6, hlc6⟩, fun y hy => ?_⟩
    have hy' : a6 = some y := by
     have : y ∈ a6.toList := hy
     simpa using this
    rcases hfa6 with h | ⟨b, h, h1, h2⟩
    ·
     rw [h] at hy'; cases hy'
    ·
     rw [h] at hy'
     obtain rfl := Option.some.inj hy'
     exact ⟨by have := hSp3.st.size; show base ≤ b; omega, h2, fun e => by have : g = b := Option.some.inj e; omega⟩
   have hput := hSp6.put hg hk 3 { l[k] with after := l[k].after ++ [x], a := a6, c := c6 } (.slice a6 (l[k].after ++ [x]).length c6) (by decide) rfl hn6 ⟨ho.sum, ho.desk, ho.at1, ho.at2, (by show (l[k].after ++ [x]).length ≤ 2000; rw [List.length_append]; simp; omega), (fun y hy => (List.mem_append.1 hy).elim (ho.after y) (fun h => by rw [List.mem_singleton.1 h]; exact hxz)), ho.kind1, ho.kind2, ho.who, ho.paper, ho.wth, ho.txt⟩
   rw [show (l[k].after ++ [x]).length = l[k].after.length + 1 by simp] at hput
   exact ⟨l.set k { l[k] with after := l[k].after ++ [x], a := a6, c := c6 }, by rw [List.length_set], .inl ⟨hk, _, .inr (.inr (.inr (.inr (.inr (.inr (.inr (.inr (.inl ⟨x, _, _, hx, rfl⟩)))))))), rfl⟩, hput, by rw [List.length_set]; exact ⟨Nat.le_refl _, by omega⟩, (s6.setOther (by show S < g; omega) _).mono (by omega)⟩
  ·
   obtain ⟨d0, d1, d2, d3, d4, d5, d6, d7, d8⟩ := hSp3.cells hk
   have hfz := hSp3.frozen (k * 9 + 3)
   have ho := hSp3.ok _ (List.getElem_mem hk)
   go_wp2_with fail
   go_meet
   exact ⟨l.set k { l[k] with after := [], a := none, c := 0 }, by rw [List.length_set], .inl ⟨hk, _, .inr (.inr (.inr (.inr (.inr (.inr (.inr (.inr (.inr ⟨_, _, rfl⟩)))))))), rfl⟩, hSp3.put hg hk 3 { l[k] with after := [], a := none, c := 0 } (.slice none 0 0) (by decide) rfl ⟨⟨.inl rfl, Nat.le_refl _⟩, fun y hy => (by cases hy)⟩ ⟨ho.sum, ho.desk, ho.at1, ho.at2, (by show 0 ≤ 2000; omega), fun x hx => (by cases hx), ho.kind1, ho.kind2, ho.who, ho.paper, ho.wth, ho.txt⟩, by rw [List.length_set]; exact ⟨Nat.le_refl _, by omega⟩, (s3.setOther (by show S < g; omega) _).mono (by omega)⟩
  ·
   have hkn : IntKind.i64.wrap ((k : Int) + 1) = ((k + 1 : Nat) : Int) := by rw [IntWalk.i64_in _ (by omega)]; rfl
   have HD := delEv_any base l g cap w3 hSp3.nl.1 k hk (by omega) hcap
   go_wp2_with fail
   refine HD.mono ?_
   rintro e w4 ⟨rfl, hown4, hk4⟩
   have hll : (l.take k ++ l.drop (k + 1)).length = l.length - 1 := by rw [List.length_append, List.length_take, List.length_drop]; omega
   go_wp2_with fail
   go_meet
   have hmem : ∀ e ∈ l.take k ++ l.drop (k + 1), e ∈ l := fun e he => (List.mem_append.1 he).elim List.mem_of_mem_take List.mem_of_mem_drop
   refine ⟨l.take k ++ l.drop (k + 1), by rw [hll], .inr rfl, ⟨?_, fun e he => hSp3.ok e (hmem e he), ?_⟩, by omega, ?_⟩
   ·
    rw [hll]
    exact ⟨hown4, fun e he => (hSp3.nl.2 e (hmem e he)).kp hk4 (fun j hj hx => .inl (by rw [hx]; rfl))⟩
   ·
    exact hSp3.st.kpB hk4 (fun j hj => by omega)
   ·
    exact (s3.kp hk4 (fun j hj e => by omega)).mono (by omega)
 case rest =>
  clear hSp3 s3
  obtain ⟨m, rfl, hsp, hSp4, ⟨hm1, hm2⟩, s4⟩ := hcut
  go_wp2_with fail
  refine (flip_any S (B + 4) 2 _ s4 (by omega) (by omega) (by omega)).mono ?_
  rintro e w5 ⟨r, rfl, hq5, s5⟩
  have hSp5 := hSp4.stp hq5 hbS
  clear hSp4 s4 hq5
  cases r
  ·
   go_wp2_with fail
   go_ret
   exact ⟨_, m, rfl, hSp5.nl, by omega, hSp5.ok, .inr ⟨k, m, hk, hsp, .inl rfl⟩, hSp5.st, s5.mono (by omega)⟩
  by_cases hkm : k < m.length
  ·
   obtain ⟨d0, d1, d2, d3, d4, d5, d6, d7, d8⟩ := hSp5.cells hkm
   have ho := hSp5.ok _ (List.getElem_mem hkm)
   have hn := hSp5.nl.2 _ (List.getElem_mem hkm)
   have HS := eventSum_any m[k] w5 (hE.stp hSp5.st hES) ho hn.1
   have hfz := hSp5.frozen (k * 9)
   have hz5 := evSum_size m[k]
   unfold Ev.agg at HS
   go_wp2_with fail
   refine HS.mono ?_
   rintro e w6 ⟨rfl, hb6⟩
   have hSp6 := hSp5.stp (Stp.of_below hb6) hbS
   have s6 := s5.below hb6
   have hfz6 := hSp6.frozen (k * 9)
   have d06 := (hb6.cell (World.block_lt_of_cell? _ _ d0)).trans d0
   have hSp7 := hSp6.put hg hkm 0 { m[k] with sum := evSum m[k] } (.string (evSum m[k])) (by decide) rfl (hn.kp (X := fun _ => False) (Kp.of_below hb6) (fun _ _ h => h.elim)) ⟨(show (evSum m[k]).size ≤ 1000 by omega), ho.desk, ho.at1, ho.at2, ho.len, ho.after, ho.kind1, ho.kind2, ho.who, ho.paper, ho.wth, ho.txt⟩
   have s7 := s6.setOther (p := ⟨g, k * 9 + 0, none⟩) (by show S < g; omega) (.string (evSum m[k]))
   have hm2l : (m.set k { m[k] with sum := evSum m[k] }).length = m.length := List.length_set
   have HSort := sortEvs_any base (m.set k { m[k] with sum := evSum m[k] }) _ _ 46 (enters_of Tryz.func46 (by kernel_rfl) rfl) (fun x y W => spoilClo_any x y W) hSp7.nl.1 (by omega)
   generalize hm7 : m.set k { m[k] with sum := evSum m[k] } = m7 at *
   rw [hm2l] at HSort
   clear d0 d1 d2 d3 d4 d5 d6 d7 d8 HS hn
   go_wp2_with fail
   refine HSort.mono ?_
   rintro e w8 ⟨rfl, hown8, hk8⟩
   go_wp2_with fail
   go_ret
   refine ⟨_, sortE m7, rfl, ⟨hown8, fun e he => ?_⟩, by rw [sortE_len]; omega, sortE_all hSp7.ok, .inr ⟨k, m, hk, hsp, .inr ⟨hkm, by rw [← hm7]⟩⟩, hSp7.st.kpB hk8 (fun j hj => ?_), (s7.kp hk8 (fun j hj e => ?_)).mono (by omega)⟩
   ·
    have h1 := (hSp7.nl.2 e ((sortE_mem e).1 he)).kp hk8 (fun j _ h => .inl (by rw [hm2l]; exact h))
    rw [hm2l] at h1
    exact h1
   ·
    obtain rfl : g = j := Option.some.inj hj
    exact hg
   ·
    obtain rfl : g = j := Option.some.inj e
    omega
  ·
   go_wp2_with fail
   go_ret
   exact ⟨_, m, rfl, hSp5.nl, by omega, hSp5.ok, .inr ⟨k, m, hk, hsp, .inl rfl⟩, hSp5.st, s5.mono (by omega)⟩
end Go.Proofs.YtnocceilpnmbpaaGreatDoor
