/- The maker Call. -/
import Derived.Test.YtifflpilnpcmoaaGreatDoorMakeCall
import Derived.Test.YtifflpilnpcmoaaGreatDoorKeep
namespace Go.Proofs.YtifflpilnpcmoaaGreatDoor
open Go.RowKit
set_option linter.unusedVariables false
set_option linter.unusedSimpArgs false

/-- A reason of a call: small. -/
def ReasonOk (x : Skill) : Prop := x.1.size ≤ 1000 ∧ 0 ≤ x.2 ∧ x.2 ≤ 10000000
theorem Tryz.infoReason : (Tryz.prog.info? 75).map (fun i => (i.zero, i.size, i.bytes)) = some (some (.agg #[.string ⟨#[]⟩, .int .i64 0]), 2, 24) := by kernel_rfl
/-- A call is made. -/
def SomeCall (S : Nat) (B : Int) (w : World) (e : Ending) (w' : World) : Prop :=
  ∃ (o a f : Int) (s : List Skill) (a3 : Option Addr) (c3 : Nat), e = .returned (callAgg o a f s a3 c3) ∧ (-10000000 ≤ o ∧ o ≤ 10000000 ∧ 0 ≤ a ∧ a ≤ 10000000 ∧ 0 ≤ f ∧ f ≤ 10000000) ∧ s.length ≤ 10 ∧ (∀ x ∈ s, ReasonOk x) ∧ Own w.heap.size 75 w' (.slice a3 s.length c3) s ∧ Stp S w w' ∧ Strm S B w'
/-- While a call is made: its box, the result's box, its reasons. -/
structure CSt (S : Nat) (B : Int) (rb cb base : Nat) (o a f : Int) (s : List Skill) (a3 : Option Addr) (c3 : Nat) (w wr : World) : Prop where
  R : Box wr rb 28 #[.int .i64 0, .int .i64 0, .int .i64 0, .slice none 0 0]
  C : Box wr cb 28 #[.int .i64 o, .int .i64 a, .int .i64 f, .slice a3 s.length c3]
  own : Own base 75 wr (.slice a3 s.length c3) s
  st : Stp S w wr
  sm : Strm S B wr
theorem CSt.stp {S : Nat} {B B' : Int} {rb cb base : Nat} {o a f : Int} {s : List Skill} {a3 : Option Addr} {c3 : Nat} {w wr wx : World} (h : CSt S B rb cb base o a f s a3 c3 w wr) (k : Stp S wr wx) (hs : Strm S B' wx) (hr : rb ≠ S) (hc : cb ≠ S) (hb : S < base) : CSt S B' rb cb base o a f s a3 c3 w wx :=
  ⟨h.R.stp k hr, h.C.stp k hc, h.own.stp k hb, h.st.trans k, hs⟩
theorem CSt.alloc {S : Nat} {B : Int} {rb cb base : Nat} {o a f : Int} {s : List Skill} {a3 : Option Addr} {c3 : Nat} {w wr : World} (h : CSt S B rb cb base o a f s a3 c3 w wr) (ob : Obj) : CSt S B rb cb base o a f s a3 c3 w (wr.alloc ob) :=
  ⟨h.R.alloc _, h.C.alloc _, h.own.alloc _, h.st.alloc _, h.sm.alloc _⟩
theorem CSt.drew {S : Nat} {B : Int} {rb cb base : Nat} {o a f : Int} {s : List Skill} {a3 : Option Addr} {c3 : Nat} {w wr : World} (h : CSt S B rb cb base o a f s a3 c3 w wr) : CSt S B rb cb base o a f s a3 c3 w wr.drew :=
  ⟨h.R.drew, h.C.drew, h.own.drew, h.st.drew, h.sm.drew⟩
theorem CSt.mono {S : Nat} {B B' : Int} {rb cb base : Nat} {o a f : Int} {s : List Skill} {a3 : Option Addr} {c3 : Nat} {w wr : World} (h : CSt S B rb cb base o a f s a3 c3 w wr) (hb : B ≤ B') : CSt S B' rb cb base o a f s a3 c3 w wr := ⟨h.R, h.C, h.own, h.st, h.sm.mono hb⟩
/-- An element was appended, and the new list stored. -/
theorem CSt.app {S : Nat} {B : Int} {rb cb base : Nat} {o a f : Int} {s : List Skill} {a3 : Option Addr} {c3 : Nat} {w wr w9 : World} {g cap : Nat} {x : Skill} (h : CSt S B rb cb base o a f s a3 c3 w wr) (hown : Own base 75 w9 (.slice (some ⟨g, 0, none⟩) (s.length + 1) cap) (s ++ [x])) (hg : wr.grownBy w9 (Value.slice a3 s.length c3).ownBlock)
    (h1 : rb < cb) (h2 : cb < base) (h3 : S < rb) (h4 : w.heap.size ≤ rb) : CSt S B rb cb base o a f (s ++ [x]) (some ⟨g, 0, none⟩) cap w (w9.setCell ⟨cb, 3, none⟩ (.slice (some ⟨g, 0, none⟩) (s.length + 1) cap)) := by
  have hbl : ∀ k, (Value.slice a3 s.length c3).ownBlock = some k → base ≤ k := fun k hk => (h.own.lt k hk).1
  have hR := h.R.grown hg (fun e => by have := hbl _ e.symm; omega)
  have hC := h.C.grown hg (fun e => by have := hbl _ e.symm; omega)
  refine ⟨hR.setOther (by simp; omega) _, ?_, ?_, ?_, ?_⟩
  · have := hC.set 3 (.slice (some ⟨g, 0, none⟩) (s.length + 1) cap)
    simpa using this
  · rw [List.length_append]
    exact hown.setOther (fun b hb => by have := (hown.lt b hb).1; show b ≠ cb; omega) _
  · exact (h.st.grown hg (fun k hk => .inr (by have := hbl k hk; omega))).setCell (.inr (by show w.heap.size ≤ cb; omega)) _
  · exact (h.sm.grown hg (fun k hk => by have := hbl k hk; omega)).setOther (by show S < cb; omega) _

set_option maxRecDepth 100000 in
set_option maxHeartbeats 8000000 in
theorem call_any (S : Nat) (B : Int) (w : World) (hs : Strm S B w) (hB : B ≤ 999990000) :
    Calls Tryz.prog 5 #[.pointer (some ⟨S, 0, none⟩)] w (SomeCall S (B + 20) w) := by
  have hSl := hs.lt
  have hR0 := Box.new w 28 #[.int .i64 0, .int .i64 0, .int .i64 0, .slice none 0 0]
  go_enter Tryz.func5, Tryz.ntmps5
  go_wp2_with fail
  refine (pick_box S B _ 3 2 [0, 10] _ ((hs.alloc _).alloc _) (by omega) (Box.newAt _ _ _ _ (by simp)) (by simp; omega) (by decide) (by decide)).mono ?_
  rintro e w1 ⟨o, hom, rfl, h1, s1⟩
  have hob : 0 ≤ o ∧ o ≤ 10 := by simp at hom; omega
  have hz1 := h1.size
  simp at hz1
  have hR1 := (hR0.alloc _).stp h1 (by omega)
  have hst1 : Stp S w w1 := (((Stp.refl S w).alloc _).alloc _).trans h1
  clear h1 hs hR0 hom
  go_wp2_with fail
  refine (pick_box S (B + 1) _ 3 2 [50, 100] _ (s1.alloc _) (by omega) (Box.new _ _ _) (by omega) (by decide) (by decide)).mono ?_
  rintro e w2 ⟨a, ham, rfl, h2, s2⟩
  have hab : 0 ≤ a ∧ a ≤ 100 := by simp at ham; omega
  have hz2 := h2.size
  simp at hz2
  have hR2 := (hR1.alloc _).stp h2 (by omega)
  have hst2 : Stp S w w2 := (hst1.alloc _).trans h2
  clear h2 s1 hR1 hst1 ham
  go_wp2_with fail
  refine (pick_box S (B + 1 + 1) _ 3 3 [100, 200, 5761439] _ (s2.alloc _) (by omega) (Box.new _ _ _) (by omega) (by decide) (by decide)).mono ?_
  rintro e w3 ⟨f, hfm, rfl, h3, s3⟩
  have hfb : 0 ≤ f ∧ f ≤ 5761439 := by simp at hfm; omega
  have hz3 := h3.size
  simp at hz3
  have hR3 := (hR2.alloc _).stp h3 (by omega)
  have hst3 : Stp S w w3 := (hst2.alloc _).trans h3
  clear h3 s2 hR2 hst2 hfm
  go_wp2_with fail
  go_loopg [18] 3 (fun gk i wr => ∃ (k : Nat) (acc : List Skill) (a3 : Option Addr) (c3 : Nat), i = .int .i64 k ∧ k ≤ 3 ∧ Hid (gk = 3 - k) ∧ acc.length ≤ k ∧ Hid (∀ x ∈ acc, ReasonOk x) ∧ w3.heap.size + 2 ≤ wr.heap.size ∧ CSt S (B + 3 + 2 * k) w.heap.size w3.heap.size (w3.heap.size + 2) o a f acc a3 c3 w wr ∧ Box wr (w3.heap.size + 1) 9 #[.string ⟨#[105, 108, 108]⟩, .string ⟨#[112, 111, 119, 101, 114]⟩, .string ⟨#[119, 97, 114]⟩])
  case atStart => exact ⟨0, [], none, 0, rfl, by omega, rfl, by simp, by simp [Hid], by simp, ⟨(hR3.alloc _).alloc _, (Box.new _ _ _).alloc _, Own.nil _ _ _, (hst3.alloc _).alloc _, ((s3.alloc _).alloc _).mono (by omega)⟩, Box.newAt _ _ _ _ (by simp)⟩
  case round =>
    clear hR3 hst3 s3
    obtain ⟨k, acc, a3, c3, rfl, hk, hgk, hal, hok, hzr, hcs, hsb⟩ := hrel
    by_cases hlt : k < 3
    · obtain ⟨nm, hnm, hlit⟩ : ∃ nm : ByteArray, nm.size ≤ 1000 ∧ wr.cell? ⟨w3.heap.size + 1, k, none⟩ = some (.string nm) := by
        have := hsb.cell k
        obtain rfl | rfl | rfl : k = 0 ∨ k = 1 ∨ k = 2 := by omega
        · exact ⟨_, by decide, this⟩
        · exact ⟨_, by decide, this⟩
        · exact ⟨_, by decide, this⟩
      go_wp2_with fail
      refine (flip_any S (B + 3 + 2 * k) 2 wr hcs.sm (by omega) (by omega) (by omega)).mono ?_
      rintro e w4 ⟨q, rfl, h4, s4⟩
      have hz4 := h4.size
      have hcs4 := hcs.stp h4 s4 (by omega) (by omega) (by omega)
      have hsb4 := hsb.stp h4 (by omega)
      clear h4 hcs s4 hsb hlit
      cases q
      · go_wp2_with fail
        go_roundg (3 - (k + 1))
        case measure => have := hgk.out; omega
        case rel => exact ⟨k + 1, acc, a3, c3, by go_num, by omega, rfl, by omega, hok, by omega, hcs4.mono (by omega), hsb4⟩
      · go_wp2_with fail
        have hC4 := hcs4.C
        have hC4_l := hC4.lt; have hC4_0 := hC4.cell 0; have hC4_1 := hC4.cell 1; have hC4_2 := hC4.cell 2; have hC4_3 := hC4.cell 3; simp at hC4_0 hC4_1 hC4_2 hC4_3
        go_region_law (first | (go_simp; go_at_call 8; refine (pick_box S (B + 3 + 2 * k + 1) _ 3 4 [1, 50, 1000, 5761440] _ ((hcs4.sm.drew).alloc _) (by omega) (Box.newAt _ _ _ _ (by simp)) (by simp; omega) (by decide) (by decide)).mono ?_; rintro e w5 ⟨z, hzm, rfl, h5, s5⟩; have hz5 := h5.size; simp at hz5; have hcs5 := ((hcs4.drew.alloc _).stp h5 s5 (by omega) (by omega) (by omega)); have hC5 := hcs5.C; have hC5_l := hC5.lt; have hC5_0 := hC5.cell 0; have hC5_1 := hC5.cell 1; have hC5_2 := hC5.cell 2; have hC5_3 := hC5.cell 3; simp at hC5_0 hC5_1 hC5_2 hC5_3) | (refine step_append_one (by rfl) _ _ 26 (by rfl) 75 24 (.agg #[.string ⟨#[]⟩, .int .i64 0]) Tryz.underlying26 Tryz.infoReason (by rfl) (.slice a3 acc.length c3) acc (by rfl) (hcs5.own.alloc _) (nm, z) w5.heap.size (by rfl) (Box.new _ _ _) (by omega) (by omega) (by simp; omega) ?_; intro g9 cap9 w9 hown9 hg9; have hC9 := (hC5.alloc _).grown hg9 (fun e => by have := (hcs5.own.lt _ e.symm).1; omega); have hC9_l := hC9.lt; have hC9_0 := hC9.cell 0; have hC9_1 := hC9.cell 1; have hC9_2 := hC9.cell 2; have hC9_3 := hC9.cell 3; simp at hC9_0 hC9_1 hC9_2 hC9_3; have hC9_f0 := hC9.frozen 0; have hC9_f1 := hC9.frozen 1; have hC9_f2 := hC9.frozen 2; have hC9_f3 := hC9.frozen 3))
        all_goals
          have hcs9 := (hcs5.alloc (.cells #[.string nm, .int .i64 z] 75)).app hown9 hg9 (by omega) (by omega) (by omega) (by omega)
          have hsb9 := ((((hsb4.drew.alloc _).stp h5 (by omega)).alloc (.cells #[.string nm, .int .i64 z] 75)).grown hg9 (fun e => by have := (hcs5.own.lt _ e.symm).1; omega)).setOther (p := ⟨w3.heap.size, 3, none⟩) (by simp) (.slice (some ⟨g9, 0, none⟩) (acc.length + 1) cap9)
          have hzb : 0 ≤ z ∧ z ≤ 10000000 := by simp at hzm; omega
          have hz9 := hg9.size
          simp at hz9
          clear hg9 hown9 hC9 hcs5 hC5 hcs4 hC4 h5 s5 hsb4 hzm
          go_wp2_with fail
          go_roundg (3 - (k + 1))
          case measure => have := hgk.out; omega
          case rel => exact ⟨k + 1, acc ++ [(nm, z)], some ⟨g9, 0, none⟩, cap9, by go_num, by omega, rfl, by simp; omega, all_snoc hok.out ⟨hnm, hzb⟩, by simp; omega, hcs9.mono (by omega), hsb9⟩
    · obtain rfl : k = 3 := by omega
      clear hsb
      go_wp2_with fail
      refine (flip_any S (B + 3 + 6) 12 wr (hcs.sm.mono (by omega)) (by omega) (by omega) (by omega)).mono ?_
      rintro e w4 ⟨q, rfl, h4, s4⟩
      have hz4 := h4.size
      have hcs4 := hcs.stp h4 s4 (by omega) (by omega) (by omega)
      clear h4 hcs s4
      cases q
      · have hC := hcs4.C
        have hR := hcs4.R
        have hO := hcs4.own
        have hst6 := hcs4.st
        have s6' := hcs4.sm.mono (show B + 3 + 6 + 1 ≤ B + 3 + 6 + 2 + 2 by omega)
        clear hcs4
        have hbl : ∀ b, (Value.slice a3 (acc).length c3).ownBlock = some b → w3.heap.size + 2 ≤ b := fun b hb => (hO.lt b hb).1
        have Hbl := Lib.hid hbl
        have hO' := hO.mono (show w.heap.size ≤ w3.heap.size + 2 by omega)
        clear hbl
        have hC_l := hC.lt; have hC_0 := hC.cell 0; have hC_1 := hC.cell 1; have hC_2 := hC.cell 2; have hC_3 := hC.cell 3; simp at hC_0 hC_1 hC_2 hC_3
        have hC_f0 := hC.frozen 0; have hC_f1 := hC.frozen 1; have hC_f2 := hC.frozen 2; have hC_f3 := hC.frozen 3
        have hR_l := hR.lt; have hR_0 := hR.cell 0; have hR_1 := hR.cell 1; have hR_2 := hR.cell 2; have hR_3 := hR.cell 3; simp at hR_0 hR_1 hR_2 hR_3
        have hR_f0 := hR.frozen 0; have hR_f1 := hR.frozen 1; have hR_f2 := hR.frozen 2; have hR_f3 := hR.frozen 3
        go_wp2_with fail
        refine bodyPost_ret (v := callAgg o a f (acc) a3 c3) (by simp only [results, Tryz.results5]; go_simp; first | rfl | simp [callAgg]) rfl ?_
        refine ⟨o, a, f, acc, a3, c3, rfl, ⟨by omega, by omega, by omega, by omega, by omega, by omega⟩, by omega, hok.out, ?_, by (repeat' (first | with_reducible assumption | with_reducible exact Stp.refl _ _ | with_reducible refine Stp.setCell ?_ (Or.inr ?_) _ | with_reducible refine Stp.drewN ?_ _ | with_reducible refine Stp.drew ?_ | with_reducible refine Stp.alloc ?_ _ | omega | (simp; done) | (simp; omega))), Strm.mono (B := B + 3 + 6 + 2 + 2) (by (repeat' (first | with_reducible assumption | with_reducible refine Strm.setOther ?_ ?_ _ | with_reducible refine Strm.drewN ?_ _ | with_reducible refine Strm.drew ?_ | with_reducible refine Strm.alloc ?_ _ | omega | (simp; done) | (simp; omega)))) (by omega)⟩
        repeat' (first | with_reducible exact hO' | with_reducible refine Own.setOther ?_ (fun b hb => by have := Hbl.out b hb; show b ≠ _; simp; omega) _)
      · go_wp2_with fail
        refine (next_any S (B + 3 + 6 + 1) 5 _ hcs4.sm (by omega) (by omega) (by omega)).mono ?_
        rintro e w5 ⟨c, ⟨hc, hc2⟩, rfl, h5, s5⟩
        have hz5 := h5.size
        have hcs5 := hcs4.stp h5 s5 (by omega) (by omega) (by omega)
        clear h5 s5 hcs4
        obtain rfl | rfl | rfl | rfl | rfl : c = 0 ∨ c = 1 ∨ c = 2 ∨ c = 3 ∨ c = 4 := by omega
        · go_wp2_with fail
          refine (pick_box S (B + 3 + 6 + 1 + 1) _ 3 3 [-1, 5761440, 60] _ (hcs5.sm.alloc _) (by omega) (Box.new _ _ _) (by omega) (by decide) (by decide)).mono ?_
          rintro e w6 ⟨y, hy, rfl, h6, s6⟩
          have hy2 : -1 ≤ y ∧ y ≤ 5761440 := by simp at hy; omega
          clear hy
          have hz6 := h6.size
          simp at hz6
          have hcs6 := (hcs5.alloc _).stp h6 s6 (by omega) (by omega) (by omega)
          have hC := hcs6.C
          have hR := hcs6.R
          have hO := hcs6.own
          have hst6 := hcs6.st
          have s6' := hcs6.sm
          clear h6 s6 hcs5 hcs6
          replace s6' := s6'.mono (show B + 3 + 6 + 1 + 1 + 1 ≤ B + 3 + 6 + 2 + 2 by omega)
          have hbl : ∀ b, (Value.slice a3 (acc).length c3).ownBlock = some b → w3.heap.size + 2 ≤ b := fun b hb => (hO.lt b hb).1
          have Hbl := Lib.hid hbl
          have hO' := hO.mono (show w.heap.size ≤ w3.heap.size + 2 by omega)
          clear hbl
          have hC_l := hC.lt; have hC_0 := hC.cell 0; have hC_1 := hC.cell 1; have hC_2 := hC.cell 2; have hC_3 := hC.cell 3; simp at hC_0 hC_1 hC_2 hC_3
          have hC_f0 := hC.frozen 0; have hC_f1 := hC.frozen 1; have hC_f2 := hC.frozen 2; have hC_f3 := hC.frozen 3
          have hR_l := hR.lt; have hR_0 := hR.cell 0; have hR_1 := hR.cell 1; have hR_2 := hR.cell 2; have hR_3 := hR.cell 3; simp at hR_0 hR_1 hR_2 hR_3
          have hR_f0 := hR.frozen 0; have hR_f1 := hR.frozen 1; have hR_f2 := hR.frozen 2; have hR_f3 := hR.frozen 3
          go_wp2_with fail
          refine bodyPost_ret (v := callAgg y a f (acc) a3 c3) (by simp only [results, Tryz.results5]; go_simp; first | rfl | simp [callAgg]) rfl ?_
          refine ⟨y, a, f, acc, a3, c3, rfl, ⟨by omega, by omega, by omega, by omega, by omega, by omega⟩, by omega, hok.out, ?_, by (repeat' (first | with_reducible assumption | with_reducible exact Stp.refl _ _ | with_reducible refine Stp.setCell ?_ (Or.inr ?_) _ | with_reducible refine Stp.drewN ?_ _ | with_reducible refine Stp.drew ?_ | with_reducible refine Stp.alloc ?_ _ | omega | (simp; done) | (simp; omega))), Strm.mono (B := B + 3 + 6 + 2 + 2) (by (repeat' (first | with_reducible assumption | with_reducible refine Strm.setOther ?_ ?_ _ | with_reducible refine Strm.drewN ?_ _ | with_reducible refine Strm.drew ?_ | with_reducible refine Strm.alloc ?_ _ | omega | (simp; done) | (simp; omega)))) (by omega)⟩
          repeat' (first | with_reducible exact hO' | with_reducible refine Own.setOther ?_ (fun b hb => by have := Hbl.out b hb; show b ≠ _; simp; omega) _)
        · go_wp2_with fail
          refine (pick_box S (B + 3 + 6 + 1 + 1) _ 3 3 [0, 10, 500] _ (hcs5.sm.alloc _) (by omega) (Box.new _ _ _) (by omega) (by decide) (by decide)).mono ?_
          rintro e w6 ⟨y, hy, rfl, h6, s6⟩
          have hy2 : 0 ≤ y ∧ y ≤ 500 := by simp at hy; omega
          clear hy
          have hz6 := h6.size
          simp at hz6
          have hcs6 := (hcs5.alloc _).stp h6 s6 (by omega) (by omega) (by omega)
          have hC := hcs6.C
          have hR := hcs6.R
          have hO := hcs6.own
          have hst6 := hcs6.st
          have s6' := hcs6.sm
          clear h6 s6 hcs5 hcs6
          replace s6' := s6'.mono (show B + 3 + 6 + 1 + 1 + 1 ≤ B + 3 + 6 + 2 + 2 by omega)
          have hbl : ∀ b, (Value.slice a3 (acc).length c3).ownBlock = some b → w3.heap.size + 2 ≤ b := fun b hb => (hO.lt b hb).1
          have Hbl := Lib.hid hbl
          have hO' := hO.mono (show w.heap.size ≤ w3.heap.size + 2 by omega)
          clear hbl
          have hC_l := hC.lt; have hC_0 := hC.cell 0; have hC_1 := hC.cell 1; have hC_2 := hC.cell 2; have hC_3 := hC.cell 3; simp at hC_0 hC_1 hC_2 hC_3
          have hC_f0 := hC.frozen 0; have hC_f1 := hC.frozen 1; have hC_f2 := hC.frozen 2; have hC_f3 := hC.frozen 3
          have hR_l := hR.lt; have hR_0 := hR.cell 0; have hR_1 := hR.cell 1; have hR_2 := hR.cell 2; have hR_3 := hR.cell 3; simp at hR_0 hR_1 hR_2 hR_3
          have hR_f0 := hR.frozen 0; have hR_f1 := hR.frozen 1; have hR_f2 := hR.frozen 2; have hR_f3 := hR.frozen 3
          go_wp2_with fail
          refine bodyPost_ret (v := callAgg o y f (acc) a3 c3) (by simp only [results, Tryz.results5]; go_simp; first | rfl | simp [callAgg]) rfl ?_
          refine ⟨o, y, f, acc, a3, c3, rfl, ⟨by omega, by omega, by omega, by omega, by omega, by omega⟩, by omega, hok.out, ?_, by (repeat' (first | with_reducible assumption | with_reducible exact Stp.refl _ _ | with_reducible refine Stp.setCell ?_ (Or.inr ?_) _ | with_reducible refine Stp.drewN ?_ _ | with_reducible refine Stp.drew ?_ | with_reducible refine Stp.alloc ?_ _ | omega | (simp; done) | (simp; omega))), Strm.mono (B := B + 3 + 6 + 2 + 2) (by (repeat' (first | with_reducible assumption | with_reducible refine Strm.setOther ?_ ?_ _ | with_reducible refine Strm.drewN ?_ _ | with_reducible refine Strm.drew ?_ | with_reducible refine Strm.alloc ?_ _ | omega | (simp; done) | (simp; omega)))) (by omega)⟩
          repeat' (first | with_reducible exact hO' | with_reducible refine Own.setOther ?_ (fun b hb => by have := Hbl.out b hb; show b ≠ _; simp; omega) _)
        · go_wp2_with fail
          refine (pick_box S (B + 3 + 6 + 1 + 1) _ 3 2 [5761440, 40] _ (hcs5.sm.alloc _) (by omega) (Box.new _ _ _) (by omega) (by decide) (by decide)).mono ?_
          rintro e w6 ⟨y, hy, rfl, h6, s6⟩
          have hy2 : 0 ≤ y ∧ y ≤ 5761440 := by simp at hy; omega
          clear hy
          have hz6 := h6.size
          simp at hz6
          have hcs6 := (hcs5.alloc _).stp h6 s6 (by omega) (by omega) (by omega)
          have hC := hcs6.C
          have hR := hcs6.R
          have hO := hcs6.own
          have hst6 := hcs6.st
          have s6' := hcs6.sm
          clear h6 s6 hcs5 hcs6
          replace s6' := s6'.mono (show B + 3 + 6 + 1 + 1 + 1 ≤ B + 3 + 6 + 2 + 2 by omega)
          have hbl : ∀ b, (Value.slice a3 (acc).length c3).ownBlock = some b → w3.heap.size + 2 ≤ b := fun b hb => (hO.lt b hb).1
          have Hbl := Lib.hid hbl
          have hO' := hO.mono (show w.heap.size ≤ w3.heap.size + 2 by omega)
          clear hbl
          have hC_l := hC.lt; have hC_0 := hC.cell 0; have hC_1 := hC.cell 1; have hC_2 := hC.cell 2; have hC_3 := hC.cell 3; simp at hC_0 hC_1 hC_2 hC_3
          have hC_f0 := hC.frozen 0; have hC_f1 := hC.frozen 1; have hC_f2 := hC.frozen 2; have hC_f3 := hC.frozen 3
          have hR_l := hR.lt; have hR_0 := hR.cell 0; have hR_1 := hR.cell 1; have hR_2 := hR.cell 2; have hR_3 := hR.cell 3; simp at hR_0 hR_1 hR_2 hR_3
          have hR_f0 := hR.frozen 0; have hR_f1 := hR.frozen 1; have hR_f2 := hR.frozen 2; have hR_f3 := hR.frozen 3
          go_wp2_with fail
          refine bodyPost_ret (v := callAgg o a y (acc) a3 c3) (by simp only [results, Tryz.results5]; go_simp; first | rfl | simp [callAgg]) rfl ?_
          refine ⟨o, a, y, acc, a3, c3, rfl, ⟨by omega, by omega, by omega, by omega, by omega, by omega⟩, by omega, hok.out, ?_, by (repeat' (first | with_reducible assumption | with_reducible exact Stp.refl _ _ | with_reducible refine Stp.setCell ?_ (Or.inr ?_) _ | with_reducible refine Stp.drewN ?_ _ | with_reducible refine Stp.drew ?_ | with_reducible refine Stp.alloc ?_ _ | omega | (simp; done) | (simp; omega))), Strm.mono (B := B + 3 + 6 + 2 + 2) (by (repeat' (first | with_reducible assumption | with_reducible refine Strm.setOther ?_ ?_ _ | with_reducible refine Strm.drewN ?_ _ | with_reducible refine Strm.drew ?_ | with_reducible refine Strm.alloc ?_ _ | omega | (simp; done) | (simp; omega)))) (by omega)⟩
          repeat' (first | with_reducible exact hO' | with_reducible refine Own.setOther ?_ (fun b hb => by have := Hbl.out b hb; show b ≠ _; simp; omega) _)
        · go_wp2_with fail
          have hC4 := hcs5.C
          have hC4_l := hC4.lt; have hC4_0 := hC4.cell 0; have hC4_1 := hC4.cell 1; have hC4_2 := hC4.cell 2; have hC4_3 := hC4.cell 3; simp at hC4_0 hC4_1 hC4_2 hC4_3
          have hX1 : Box ((w5.alloc (.cells #[.string ⟨#[]⟩, .string ⟨#[97]⟩, .string ⟨#[122, 101, 100]⟩] 9)).alloc (.cells #[.int .i64 0, .int .i64 1, .int .i64 5761441] 3)).drew (w5.heap.size + 1) 3 #[.int .i64 0, .int .i64 1, .int .i64 5761441] := (Box.newAt _ _ _ _ (by simp)).drew
          have hX2 : Box ((w5.alloc (.cells #[.int .i64 0, .int .i64 1, .int .i64 5761441] 3)).alloc (.cells #[.string ⟨#[]⟩, .string ⟨#[97]⟩, .string ⟨#[122, 101, 100]⟩] 9)).drew w5.heap.size 3 #[.int .i64 0, .int .i64 1, .int .i64 5761441] := ((Box.new _ _ _).alloc _).drew
          have hY2 : Box ((w5.alloc (.cells #[.string ⟨#[]⟩, .string ⟨#[97]⟩, .string ⟨#[122, 101, 100]⟩] 9)).alloc (.cells #[.int .i64 0, .int .i64 1, .int .i64 5761441] 3)).drew w5.heap.size 9 #[.string ⟨#[]⟩, .string ⟨#[97]⟩, .string ⟨#[122, 101, 100]⟩] := ((Box.new _ _ _).alloc _).drew
          have hY3 : Box ((w5.alloc (.cells #[.int .i64 0, .int .i64 1, .int .i64 5761441] 3)).alloc (.cells #[.string ⟨#[]⟩, .string ⟨#[97]⟩, .string ⟨#[122, 101, 100]⟩] 9)).drew (w5.heap.size + 1) 9 #[.string ⟨#[]⟩, .string ⟨#[97]⟩, .string ⟨#[122, 101, 100]⟩] := (Box.newAt _ _ _ _ (by simp)).drew
          go_region_law (first | (go_simp; go_at_call 36; refine (one_any S (B + 3 + 6 + 1 + 1) _ 3 3 9 #[.string ⟨#[]⟩, .string ⟨#[97]⟩, .string ⟨#[122, 101, 100]⟩] _ (by first | exact hcs5.sm.drew.alloc _ | exact (hcs5.sm.drew.alloc _).alloc _) (by omega) (by first | exact Box.newAt _ _ _ _ (by simp; done) | exact hY2 | exact hY3 | exact (Box.newAt _ _ _ _ (by simp; done)).alloc _) (by first | omega | (simp; omega)) rfl (by omega) (by omega) (by simp; decide)).mono ?_; rintro e w6 ⟨nm, hnm, rfl, h6, s6⟩; have hz6 := h6.size; simp at hz6; have hcs6 : CSt S (B + 3 + 6 + 1 + 1 + 1) w.heap.size w3.heap.size (w3.heap.size + 2) o a f acc a3 c3 w w6 := (by first | exact (hcs5.drew.alloc _).stp h6 s6 (by omega) (by omega) (by omega) | exact ((hcs5.drew.alloc _).alloc _).stp h6 s6 (by omega) (by omega) (by omega)); have hC5 := hcs6.C; have hC5_l := hC5.lt; have hC5_0 := hC5.cell 0; have hC5_1 := hC5.cell 1; have hC5_2 := hC5.cell 2; have hC5_3 := hC5.cell 3; simp at hC5_0 hC5_1 hC5_2 hC5_3) | (go_simp; go_at_call 8; refine (pick_box S (B + 3 + 6 + 1 + 1 + 1) _ 3 3 [0, 1, 5761441] _ (by first | exact hcs6.sm | exact hcs6.sm.alloc _) (by omega) (by first | exact Box.newAt _ _ _ _ (by simp; done) | exact hX1.stp h6 (by omega) | exact hX2.stp h6 (by omega)) (by first | omega | (simp; omega)) (by decide) (by decide)).mono ?_; rintro e w7 ⟨z, hzm, rfl, h7, s7⟩; have hz7 := h7.size; (try simp at hz7); have hcs7 : CSt S (B + 3 + 6 + 1 + 1 + 1 + 1) w.heap.size w3.heap.size (w3.heap.size + 2) o a f acc a3 c3 w w7 := (by first | exact (hcs6.alloc _).stp h7 s7 (by omega) (by omega) (by omega) | exact hcs6.stp h7 s7 (by omega) (by omega) (by omega)); have hC7 := hcs7.C; have hC7_l := hC7.lt; have hC7_0 := hC7.cell 0; have hC7_1 := hC7.cell 1; have hC7_2 := hC7.cell 2; have hC7_3 := hC7.cell 3; simp at hC7_0 hC7_1 hC7_2 hC7_3) | (refine step_append_one (by rfl) _ _ 26 (by rfl) 75 24 (.agg #[.string ⟨#[]⟩, .int .i64 0]) Tryz.underlying26 Tryz.infoReason (by rfl) (.slice a3 acc.length c3) acc (by rfl) (hcs7.own.alloc _) (nm, z) w7.heap.size (by rfl) (Box.new _ _ _) (by omega) (by omega) (by simp; omega) ?_; intro g9 cap9 w9 hown9 hg9; have hC9 := (hC7.alloc _).grown hg9 (fun e => by have := (hcs7.own.lt _ e.symm).1; omega); have hC9_l := hC9.lt; have hC9_0 := hC9.cell 0; have hC9_1 := hC9.cell 1; have hC9_2 := hC9.cell 2; have hC9_3 := hC9.cell 3; simp at hC9_0 hC9_1 hC9_2 hC9_3; have hC9_f0 := hC9.frozen 0; have hC9_f1 := hC9.frozen 1; have hC9_f2 := hC9.frozen 2; have hC9_f3 := hC9.frozen 3))
          all_goals
            have hcs9 := (hcs7.alloc (.cells #[.string nm, .int .i64 z] 75)).app hown9 hg9 (by omega) (by omega) (by omega) (by omega)
            have hzb : 0 ≤ z ∧ z ≤ 10000000 := by simp at hzm; omega
            have hz9 := hg9.size
            simp at hz9
            clear hg9 hown9 hC9 hcs7 hC7 hcs6 hC5 hcs5 hC4 h6 s6 h7 s7 hzm
            have hC := hcs9.C
            have hR := hcs9.R
            have hO := hcs9.own
            have hst6 := hcs9.st
            have s6' := hcs9.sm.mono (show B + 3 + 6 + 1 + 1 + 1 + 1 ≤ B + 3 + 6 + 2 + 2 by omega)
            have hok' := Lib.hid (all_snoc (P := ReasonOk) (x := (nm, z)) hok.out ⟨hnm, hzb⟩)
            clear hcs9 hz9
            generalize w9.setCell ⟨w3.heap.size, 3, none⟩ _ = wZ at *
            have hzZ := hR.lt
            have hbl : ∀ b, (Value.slice (some ⟨g9, 0, none⟩) (acc ++ [(nm, z)]).length cap9).ownBlock = some b → w3.heap.size + 2 ≤ b := fun b hb => (hO.lt b hb).1
            have Hbl := Lib.hid hbl
            have hO' := hO.mono (show w.heap.size ≤ w3.heap.size + 2 by omega)
            clear hbl
            have hC_l := hC.lt; have hC_0 := hC.cell 0; have hC_1 := hC.cell 1; have hC_2 := hC.cell 2; have hC_3 := hC.cell 3; simp at hC_0 hC_1 hC_2 hC_3
            have hC_f0 := hC.frozen 0; have hC_f1 := hC.frozen 1; have hC_f2 := hC.frozen 2; have hC_f3 := hC.frozen 3
            have hR_l := hR.lt; have hR_0 := hR.cell 0; have hR_1 := hR.cell 1; have hR_2 := hR.cell 2; have hR_3 := hR.cell 3; simp at hR_0 hR_1 hR_2 hR_3
            have hR_f0 := hR.frozen 0; have hR_f1 := hR.frozen 1; have hR_f2 := hR.frozen 2; have hR_f3 := hR.frozen 3
            go_wp2_with fail
            refine bodyPost_ret (v := callAgg o a f (acc ++ [(nm, z)]) (some ⟨g9, 0, none⟩) cap9) (by simp only [results, Tryz.results5]; go_simp; first | rfl | simp [callAgg]) rfl ?_
            refine ⟨o, a, f, acc ++ [(nm, z)], (some ⟨g9, 0, none⟩), cap9, rfl, ⟨by omega, by omega, by omega, by omega, by omega, by omega⟩, by simp; omega, hok'.out, ?_, by (repeat' (first | with_reducible assumption | with_reducible exact Stp.refl _ _ | with_reducible refine Stp.setCell ?_ (Or.inr ?_) _ | with_reducible refine Stp.drewN ?_ _ | with_reducible refine Stp.drew ?_ | with_reducible refine Stp.alloc ?_ _ | omega | (simp; done) | (simp; omega))), Strm.mono (B := B + 3 + 6 + 2 + 2) (by (repeat' (first | with_reducible assumption | with_reducible refine Strm.setOther ?_ ?_ _ | with_reducible refine Strm.drewN ?_ _ | with_reducible refine Strm.drew ?_ | with_reducible refine Strm.alloc ?_ _ | omega | (simp; done) | (simp; omega)))) (by omega)⟩
            repeat' (first | with_reducible exact hO' | with_reducible refine Own.setOther ?_ (fun b hb => by have := Hbl.out b hb; show b ≠ _; simp; omega) _)
        · have hC4 := hcs5.C
          have hC4_l := hC4.lt; have hC4_0 := hC4.cell 0; have hC4_1 := hC4.cell 1; have hC4_2 := hC4.cell 2; have hC4_3 := hC4.cell 3; simp at hC4_0 hC4_1 hC4_2 hC4_3
          go_wp2_with (at_builtin; refine wpList_append_lie rfl _ _ 26 rfl 75 24 (.agg #[.string ⟨#[]⟩, .int .i64 0]) Tryz.underlying26 Tryz.infoReason rfl (.slice a3 acc.length c3) acc rfl (hcs5.own.alloc _) (⟨#[119, 97, 114]⟩, 1) _ rfl (Box.newAt _ _ _ _ ?d0) ?d1 ?d2 ?d3 ?_; rotate_left 4; intro g9 cap9 w9 hown9 hg9 hl9; have hC9 := (hcs5.C.alloc _).grown hg9 (fun e => by have := (hcs5.own.lt _ e.symm).1; omega); have hR9 := (hcs5.R.alloc _).grown hg9 (fun e => by have := (hcs5.own.lt _ e.symm).1; omega); have hC9_l := hC9.lt; have hC9_0 := hC9.cell 0; have hC9_1 := hC9.cell 1; have hC9_2 := hC9.cell 2; have hC9_3 := hC9.cell 3; simp at hC9_0 hC9_1 hC9_2 hC9_3; have hC9_f0 := hC9.frozen 0; have hC9_f1 := hC9.frozen 1; have hC9_f2 := hC9.frozen 2; have hC9_f3 := hC9.frozen 3; have hR9_l := hR9.lt; have hR9_0 := hR9.cell 0; have hR9_1 := hR9.cell 1; have hR9_2 := hR9.cell 2; have hR9_3 := hR9.cell 3; simp at hR9_0 hR9_1 hR9_2 hR9_3; have hR9_f0 := hR9.frozen 0; have hR9_f1 := hR9.frozen 1; have hR9_f2 := hR9.frozen 2; have hR9_f3 := hR9.frozen 3)
          case d0 => rfl
          case d1 => omega
          case d2 => omega
          case d3 => simp; omega
          have hcs9 := (hcs5.alloc (.cells #[.string ⟨#[119, 97, 114]⟩, .int .i64 1] 75)).app hown9 hg9 (by omega) (by omega) (by omega) (by omega)
          have hO' := hcs9.own.mono (show w.heap.size ≤ w3.heap.size + 2 by omega)
          have Hbl : Hid (∀ b, (Value.slice (some ⟨g9, 0, none⟩) (acc ++ [((⟨#[119, 97, 114]⟩ : ByteArray), (1 : Int))]).length cap9).ownBlock = some b → w3.heap.size + 2 ≤ b) := fun b hb => (hcs9.own.lt b hb).1
          have hok' := Lib.hid (all_snoc (P := ReasonOk) (x := (⟨#[119, 97, 114]⟩, 1)) hok.out ⟨by decide, by decide, by decide⟩)
          have hst6 := hcs9.st
          have s6' := hcs9.sm.mono (show B + 3 + 6 + 1 + 1 ≤ B + 3 + 6 + 2 + 2 by omega)
          refine bodyPost_ret (v := callAgg o a f (acc ++ [(⟨#[119, 97, 114]⟩, 1)]) (some ⟨g9, 0, none⟩) cap9) (by simp only [results, Tryz.results5]; go_simp; first | rfl | simp [callAgg]) rfl ?_
          refine ⟨o, a, f, acc ++ [(⟨#[119, 97, 114]⟩, 1)], some ⟨g9, 0, none⟩, cap9, rfl, ⟨by omega, by omega, by omega, by omega, by omega, by omega⟩, by simp; omega, hok'.out, ?_, by (repeat' (first | with_reducible assumption | with_reducible exact Stp.refl _ _ | with_reducible refine Stp.setCell ?_ (Or.inr ?_) _ | with_reducible refine Stp.drewN ?_ _ | with_reducible refine Stp.drew ?_ | with_reducible refine Stp.alloc ?_ _ | omega | (simp; done) | (simp; omega))), Strm.mono (B := B + 3 + 6 + 2 + 2) (by (repeat' (first | with_reducible assumption | with_reducible refine Strm.setOther ?_ ?_ _ | with_reducible refine Strm.drewN ?_ _ | with_reducible refine Strm.drew ?_ | with_reducible refine Strm.alloc ?_ _ | omega | (simp; done) | (simp; omega)))) (by omega)⟩
          repeat' (first | with_reducible exact hO' | with_reducible refine Own.setOther ?_ (fun b hb => by have := Hbl.out b hb; show b ≠ _; simp; omega) _)
end Go.Proofs.YtifflpilnpcmoaaGreatDoor
