/- The makers Range, One, Call and Arrival. -/
import Derived.Test.YtifflpilnpcmoaaGreatDoorCallDefs
import Derived.Test.YtifflpilnpcmoaaGreatDoorMakeList
import Derived.Test.YtifflpilnpcmoaaGreatDoorRange
import Derived.Deep.RegionLaw
namespace Go.Proofs.YtifflpilnpcmoaaGreatDoor
open Go.RowKit
set_option linter.unusedVariables false
set_option linter.unusedSimpArgs false

/-- A string of at most M bytes is made. -/
def SomeStrM (M S : Nat) (B : Int) (w : World) (e : Ending) (w' : World) : Prop :=
  ∃ x : ByteArray, x.size ≤ M ∧ e = .returned (.string x) ∧ Stp S w w' ∧ Strm S (B + 1) w'
set_option maxHeartbeats 400000 in
theorem oneM_any (M S : Nat) (B : Int) (b n cap T : Nat) (vs : Array Value) (w : World) (hs : Strm S B w) (hB : B ≤ 1000000000) (hbox : Box w b T vs) (hbS : b ≠ S) (hn : vs.size = n) (hl1 : 1 ≤ n) (hl2 : n ≤ 1000)
    (hc : ∀ v ∈ vs.toList, ∃ s : ByteArray, v = .string s ∧ s.size ≤ M) :
    Calls Tryz.prog 36 #[.pointer (some ⟨S, 0, none⟩), .slice (some ⟨b, 0, none⟩) n cap] w (SomeStrM M S B w) := by
  have Hc := Lib.hid hc
  clear hc
  go_enter Tryz.func36, Tryz.ntmps36
  go_wp2_with fail
  refine (next_any S B _ _ hs hB (by omega) (by omega)).mono ?_
  rintro e w' ⟨r, ⟨hr, hr2⟩, rfl, h1, h2⟩
  obtain ⟨i, rfl⟩ := Int.eq_ofNat_of_zero_le hr
  have hi : i < n := by omega
  obtain ⟨s, hs1, hs2⟩ := Hc.out vs[i] (by simp)
  have hc : w'.cell? ⟨b, i, none⟩ = some (.string s) := by rw [(hbox.stp h1 hbS).cell i, Array.getElem?_eq_getElem (by omega), hs1]
  clear hs1
  go_wp2_with fail
  go_ret
  exact ⟨_, hs2, rfl, h1, h2⟩
set_option maxHeartbeats 400000 in
theorem oneP_any (S : Nat) (B : Int) (b n cap T : Nat) (vs : Array Value) (w : World) (hs : Strm S B w) (hB : B ≤ 1000000000) (hbox : Box w b T vs) (hbS : b ≠ S) (hn : vs.size = n) (hl1 : 1 ≤ n) (hl2 : n ≤ 1000)
    (hc : ∀ v ∈ vs.toList, ∃ s : ByteArray, v = .string s ∧ s.size ≤ 1000) :
    Calls Tryz.prog 7 #[.pointer (some ⟨S, 0, none⟩), .slice (some ⟨b, 0, none⟩) n cap] w (SomeStr S B w) := by
  have H := Lib.hid (one_any S B b n cap T vs w hs hB hbox hbS hn hl1 hl2 hc)
  clear hc hn
  go_enter Tryz.func7, Tryz.ntmps7
  go_wp2_with fail
  refine H.out.mono ?_
  rintro e w' ⟨x, hx, rfl, h1, h2⟩
  go_wp2_with fail
  go_ret
  exact ⟨_, hx, rfl, h1, h2⟩

/-- An arrival is made. -/
def SomeArr (S : Nat) (B : Int) (w : World) (e : Ending) (w' : World) : Prop :=
  ∃ (p : ByteArray) (t k : Int) (r x : ByteArray), e = .returned (arrAgg p t k r x) ∧ (p.size ≤ 1000 ∧ r.size ≤ 1000 ∧ x.size ≤ 100000 ∧ -10000000 ≤ t ∧ t ≤ 10000000 ∧ 0 ≤ k ∧ k ≤ 10) ∧ Stp S w w' ∧ Strm S B w'

set_option maxRecDepth 100000 in
set_option maxHeartbeats 8000000 in
theorem arrival_any (S : Nat) (B : Int) (w : World) (hs : Strm S B w) (hB : B ≤ 999990000) :
    Calls Tryz.prog 27 #[.pointer (some ⟨S, 0, none⟩)] w (SomeArr S (B + 8) w) := by
  have hSl := hs.lt
  have hR0 := Box.new w 63 #[.string ⟨#[]⟩, .int .i64 0, .int .i64 0, .string ⟨#[]⟩, .string ⟨#[]⟩]
  go_enter Tryz.func27, Tryz.ntmps27
  go_wp2_with fail
  refine (one_any S B _ 4 4 9 _ _ ((hs.alloc _).alloc _) (by omega) (Box.newAt _ _ _ _ (by simp)) (by simp; omega) rfl (by omega) (by omega) (by simp; decide)).mono ?_
  rintro e w1 ⟨p, hp, rfl, h1, s1⟩
  have hz1 := h1.size
  simp at hz1
  have hR1 := (hR0.alloc _).stp h1 (by omega)
  have hst1 : Stp S w w1 := (((Stp.refl S w).alloc _).alloc _).trans h1
  clear h1 hs hR0
  go_wp2_with fail
  refine (pick_box S (B + 1) _ 3 13 [0, 9, 10, 40, 49, 50, 99, 100, 120, 150, 199, 200, 300] _ (s1.alloc _) (by omega) (Box.new _ _ _) (by omega) (by decide) (by decide)).mono ?_
  rintro e w2 ⟨t, htm, rfl, h2, s2⟩
  have htb : 0 ≤ t ∧ t ≤ 300 := by simp at htm; omega
  have hz2 := h2.size
  simp at hz2
  have hR2 := (hR1.alloc _).stp h2 (by omega)
  have hst2 : Stp S w w2 := (hst1.alloc _).trans h2
  clear h2 s1 hR1 hst1 htm
  go_wp2_with fail
  refine (pick_box S (B + 1 + 1) _ 3 5 [1, 1, 2, 2, 3] _ (s2.alloc _) (by omega) (Box.new _ _ _) (by omega) (by decide) (by decide)).mono ?_
  rintro e w3 ⟨k, hkm, rfl, h3, s3⟩
  have hkb : 1 ≤ k ∧ k ≤ 3 := by simp at hkm; omega
  have hz3 := h3.size
  simp at hz3
  have hR3 := (hR2.alloc _).stp h3 (by omega)
  have hst3 : Stp S w w3 := (hst2.alloc _).trans h3
  clear h3 s2 hR2 hst2 hkm
  go_upto_if 16 with (fail)
  go_cut [] (fun wx => ∃ r x : ByteArray, r.size ≤ 1000 ∧ x.size ≤ 1000 ∧ Box wx w3.heap.size 63 #[.string p, .int .i64 t, .int .i64 k, .string r, .string x] ∧ Box wx w.heap.size 63 #[.string ⟨#[]⟩, .int .i64 0, .int .i64 0, .string ⟨#[]⟩, .string ⟨#[]⟩] ∧ Stp S w wx ∧ w3.heap.size < wx.heap.size ∧ Strm S (B + 1 + 1 + 1 + 2) wx)
  case first =>
    have hA3 := Box.new w3 63 #[.string p, .int .i64 t, .int .i64 k, .string ⟨#[]⟩, .string ⟨#[]⟩]
    by_cases hk3 : k = 3
    · subst hk3
      go_wp2_with fail
      go_meet
      exact ⟨⟨#[]⟩, ⟨#[]⟩, by decide, by decide, hA3, hR3.alloc _, hst3.alloc _, by simp, (s3.alloc _).mono (by omega)⟩
    · have hk4 : (k != 3) = true := by simpa using hk3
      have hk5 : (k == 3) = false := by simpa using hk3
      clear hk3
      go_wp2_with fail
      refine (one_any S (B + 1 + 1 + 1) _ 3 3 9 _ _ ((s3.alloc _).alloc _) (by omega) (Box.newAt _ _ _ _ (by simp)) (by simp; omega) rfl (by omega) (by omega) (by simp; decide)).mono ?_
      rintro e w4 ⟨x, hx, rfl, h4, s4⟩
      have hz4 := h4.size
      simp at hz4
      have hR4 := ((hR3.alloc _).alloc _).stp h4 (by omega)
      have hA4 := (hA3.alloc _).stp h4 (by omega)
      have hst4 : Stp S w w4 := ((hst3.alloc _).alloc _).trans h4
      clear h4 s3 hR3 hA3 hst3
      have hA5 := hA4.set 4 (.string x)
      simp at hA5
      have hA4_l := hA4.lt; have hA4_0 := hA4.cell 0; have hA4_1 := hA4.cell 1; have hA4_2 := hA4.cell 2; have hA4_3 := hA4.cell 3; have hA4_4 := hA4.cell 4; simp at hA4_0 hA4_1 hA4_2 hA4_3 hA4_4
      have hA4_f0 := hA4.frozen 0; have hA4_f1 := hA4.frozen 1; have hA4_f2 := hA4.frozen 2; have hA4_f3 := hA4.frozen 3; have hA4_f4 := hA4.frozen 4
      go_wp2_with fail
      refine (one_any S (B + 1 + 1 + 1 + 1) _ 5 5 9 _ _ ((s4.setOther (by simp; omega) _).alloc _) (by omega) (Box.newAt _ _ _ _ (by simp)) (by simp; omega) rfl (by omega) (by omega) (by simp; decide)).mono ?_
      rintro e w5 ⟨r, hr, rfl, h5, s5⟩
      have hz5 := h5.size
      simp at hz5
      have hR5 := (((hR4.setOther (by simp; omega) _).alloc _).stp h5 (by omega))
      have hA6 := (hA5.alloc _).stp h5 (by omega)
      have hst5 : Stp S w w5 := ((hst4.setCell (.inr (by simp; omega)) _).alloc _).trans h5
      clear hA4_l hA4_0 hA4_1 hA4_2 hA4_3 hA4_4
      clear h5 s4 hR4 hA5 hst4
      have hA7 := hA6.set 3 (.string r)
      simp at hA7
      have hA6_l := hA6.lt; have hA6_0 := hA6.cell 0; have hA6_1 := hA6.cell 1; have hA6_2 := hA6.cell 2; have hA6_3 := hA6.cell 3; have hA6_4 := hA6.cell 4; simp at hA6_0 hA6_1 hA6_2 hA6_3 hA6_4
      have hA6_f0 := hA6.frozen 0; have hA6_f1 := hA6.frozen 1; have hA6_f2 := hA6.frozen 2; have hA6_f3 := hA6.frozen 3; have hA6_f4 := hA6.frozen 4
      go_wp2_with fail
      go_meet
      exact ⟨r, x, hr, hx, hA7, hR5.setOther (by simp; omega) _, hst5.setCell (.inr (by simp; omega)) _, by simp; omega, (s5.setOther (by simp; omega) _).mono (by omega)⟩
  case rest =>
    clear hR3 hst3 s3
    obtain ⟨r, x, hr, hx, hA3, hR3, hst3, hzc, s3⟩ := hcut
    go_wp2_with fail
    refine (flip_any S (B + 1 + 1 + 1 + 2) 25 _ s3 (by omega) (by omega) (by omega)).mono ?_
    rintro e w4 ⟨q, rfl, h4, s4⟩
    have hz4 := h4.size
    have hst4 := hst3.trans h4
    have hA4 := hA3.stp h4 (by omega)
    have hR4 := hR3.stp h4 (by omega)
    clear h4 s3 hA3 hR3 hst3
    cases q
    · have hA := hA4
      have hR := hR4
      have hA_l := hA.lt; have hA_0 := hA.cell 0; have hA_1 := hA.cell 1; have hA_2 := hA.cell 2; have hA_3 := hA.cell 3; have hA_4 := hA.cell 4; simp at hA_0 hA_1 hA_2 hA_3 hA_4
      have hA_f0 := hA.frozen 0; have hA_f1 := hA.frozen 1; have hA_f2 := hA.frozen 2; have hA_f3 := hA.frozen 3; have hA_f4 := hA.frozen 4
      have hR_l := hR.lt; have hR_0 := hR.cell 0; have hR_1 := hR.cell 1; have hR_2 := hR.cell 2; have hR_3 := hR.cell 3; have hR_4 := hR.cell 4; simp at hR_0 hR_1 hR_2 hR_3 hR_4
      have hR_f0 := hR.frozen 0; have hR_f1 := hR.frozen 1; have hR_f2 := hR.frozen 2; have hR_f3 := hR.frozen 3; have hR_f4 := hR.frozen 4
      go_wp2_with fail
      refine bodyPost_ret (v := arrAgg p t k r x) (by simp only [results, Tryz.results27]; go_simp; first | rfl | simp [arrAgg]) rfl ?_
      exact ⟨p, t, k, r, x, rfl, ⟨by omega, by omega, by omega, by omega, by omega, by omega, by omega⟩, by (repeat' (first | with_reducible assumption | with_reducible exact Stp.refl _ _ | with_reducible refine Stp.setCell ?_ (Or.inr ?_) _ | with_reducible refine Stp.drewN ?_ _ | with_reducible refine Stp.drew ?_ | with_reducible refine Stp.alloc ?_ _ | omega | (simp; done) | (simp; omega))), Strm.mono (B := B + 1 + 1 + 1 + 2 + 1) (by (repeat' (first | with_reducible assumption | with_reducible refine Strm.setOther ?_ ?_ _ | with_reducible refine Strm.drewN ?_ _ | with_reducible refine Strm.drew ?_ | with_reducible refine Strm.alloc ?_ _ | omega | (simp; done) | (simp; omega)))) (by omega)⟩
    · go_wp2_with fail
      refine (next_any S (B + 1 + 1 + 1 + 2 + 1) 5 _ s4 (by omega) (by omega) (by omega)).mono ?_
      rintro e w5 ⟨c, ⟨hc, hc2⟩, rfl, h5, s5⟩
      have hz5 := h5.size
      have hst5 := hst4.trans h5
      have hA5 := hA4.stp h5 (by omega)
      have hR5 := hR4.stp h5 (by omega)
      clear h5 s4 hA4 hR4 hst4
      obtain rfl | rfl | rfl | rfl | rfl : c = 0 ∨ c = 1 ∨ c = 2 ∨ c = 3 ∨ c = 4 := by omega
      · go_wp2_with fail
        refine (one_any S (B + 1 + 1 + 1 + 2 + 1 + 1) _ 2 2 9 _ _ (s5.alloc _) (by omega) (Box.new _ _ _) (by omega) rfl (by omega) (by omega) (by simp; decide)).mono ?_
        rintro e w6 ⟨y, hy, rfl, h6, s6⟩
        have hz6 := h6.size
        simp at hz6
        have hA := (hA5.alloc _).stp h6 (by omega)
        have hR := (hR5.alloc _).stp h6 (by omega)
        have hst6 : Stp S w w6 := (hst5.alloc _).trans h6
        clear h6 hst5 s5 hA5 hR5
        have hA_l := hA.lt; have hA_0 := hA.cell 0; have hA_1 := hA.cell 1; have hA_2 := hA.cell 2; have hA_3 := hA.cell 3; have hA_4 := hA.cell 4; simp at hA_0 hA_1 hA_2 hA_3 hA_4
        have hA_f0 := hA.frozen 0; have hA_f1 := hA.frozen 1; have hA_f2 := hA.frozen 2; have hA_f3 := hA.frozen 3; have hA_f4 := hA.frozen 4
        have hR_l := hR.lt; have hR_0 := hR.cell 0; have hR_1 := hR.cell 1; have hR_2 := hR.cell 2; have hR_3 := hR.cell 3; have hR_4 := hR.cell 4; simp at hR_0 hR_1 hR_2 hR_3 hR_4
        have hR_f0 := hR.frozen 0; have hR_f1 := hR.frozen 1; have hR_f2 := hR.frozen 2; have hR_f3 := hR.frozen 3; have hR_f4 := hR.frozen 4
        go_wp2_with fail
        refine bodyPost_ret (v := arrAgg y t k r x) (by simp only [results, Tryz.results27]; go_simp; first | rfl | simp [arrAgg]) rfl ?_
        exact ⟨y, t, k, r, x, rfl, ⟨by omega, by omega, by omega, by omega, by omega, by omega, by omega⟩, by (repeat' (first | with_reducible assumption | with_reducible exact Stp.refl _ _ | with_reducible refine Stp.setCell ?_ (Or.inr ?_) _ | with_reducible refine Stp.drewN ?_ _ | with_reducible refine Stp.drew ?_ | with_reducible refine Stp.alloc ?_ _ | omega | (simp; done) | (simp; omega))), Strm.mono (B := B + 1 + 1 + 1 + 2 + 1 + 1 + 1) (by (repeat' (first | with_reducible assumption | with_reducible refine Strm.setOther ?_ ?_ _ | with_reducible refine Strm.drewN ?_ _ | with_reducible refine Strm.drew ?_ | with_reducible refine Strm.alloc ?_ _ | omega | (simp; done) | (simp; omega)))) (by omega)⟩
      · go_wp2_with fail
        refine (pick_box S (B + 1 + 1 + 1 + 2 + 1 + 1) _ 3 2 [-1, 5761440] _ (s5.alloc _) (by omega) (Box.new _ _ _) (by omega) (by decide) (by decide)).mono ?_
        rintro e w6 ⟨y, hy, rfl, h6, s6⟩
        have hy2 : -1 ≤ y ∧ y ≤ 5761440 := by simp at hy; omega
        clear hy
        have hz6 := h6.size
        simp at hz6
        have hA := (hA5.alloc _).stp h6 (by omega)
        have hR := (hR5.alloc _).stp h6 (by omega)
        have hst6 : Stp S w w6 := (hst5.alloc _).trans h6
        clear h6 hst5 s5 hA5 hR5
        have hA_l := hA.lt; have hA_0 := hA.cell 0; have hA_1 := hA.cell 1; have hA_2 := hA.cell 2; have hA_3 := hA.cell 3; have hA_4 := hA.cell 4; simp at hA_0 hA_1 hA_2 hA_3 hA_4
        have hA_f0 := hA.frozen 0; have hA_f1 := hA.frozen 1; have hA_f2 := hA.frozen 2; have hA_f3 := hA.frozen 3; have hA_f4 := hA.frozen 4
        have hR_l := hR.lt; have hR_0 := hR.cell 0; have hR_1 := hR.cell 1; have hR_2 := hR.cell 2; have hR_3 := hR.cell 3; have hR_4 := hR.cell 4; simp at hR_0 hR_1 hR_2 hR_3 hR_4
        have hR_f0 := hR.frozen 0; have hR_f1 := hR.frozen 1; have hR_f2 := hR.frozen 2; have hR_f3 := hR.frozen 3; have hR_f4 := hR.frozen 4
        go_wp2_with fail
        refine bodyPost_ret (v := arrAgg p y k r x) (by simp only [results, Tryz.results27]; go_simp; first | rfl | simp [arrAgg]) rfl ?_
        exact ⟨p, y, k, r, x, rfl, ⟨by omega, by omega, by omega, by omega, by omega, by omega, by omega⟩, by (repeat' (first | with_reducible assumption | with_reducible exact Stp.refl _ _ | with_reducible refine Stp.setCell ?_ (Or.inr ?_) _ | with_reducible refine Stp.drewN ?_ _ | with_reducible refine Stp.drew ?_ | with_reducible refine Stp.alloc ?_ _ | omega | (simp; done) | (simp; omega))), Strm.mono (B := B + 1 + 1 + 1 + 2 + 1 + 1 + 1) (by (repeat' (first | with_reducible assumption | with_reducible refine Strm.setOther ?_ ?_ _ | with_reducible refine Strm.drewN ?_ _ | with_reducible refine Strm.drew ?_ | with_reducible refine Strm.alloc ?_ _ | omega | (simp; done) | (simp; omega)))) (by omega)⟩
      · go_wp2_with fail
        refine (pick_box S (B + 1 + 1 + 1 + 2 + 1 + 1) _ 3 2 [0, 4] _ (s5.alloc _) (by omega) (Box.new _ _ _) (by omega) (by decide) (by decide)).mono ?_
        rintro e w6 ⟨y, hy, rfl, h6, s6⟩
        have hy2 : 0 ≤ y ∧ y ≤ 4 := by simp at hy; omega
        clear hy
        have hz6 := h6.size
        simp at hz6
        have hA := (hA5.alloc _).stp h6 (by omega)
        have hR := (hR5.alloc _).stp h6 (by omega)
        have hst6 : Stp S w w6 := (hst5.alloc _).trans h6
        clear h6 hst5 s5 hA5 hR5
        have hA_l := hA.lt; have hA_0 := hA.cell 0; have hA_1 := hA.cell 1; have hA_2 := hA.cell 2; have hA_3 := hA.cell 3; have hA_4 := hA.cell 4; simp at hA_0 hA_1 hA_2 hA_3 hA_4
        have hA_f0 := hA.frozen 0; have hA_f1 := hA.frozen 1; have hA_f2 := hA.frozen 2; have hA_f3 := hA.frozen 3; have hA_f4 := hA.frozen 4
        have hR_l := hR.lt; have hR_0 := hR.cell 0; have hR_1 := hR.cell 1; have hR_2 := hR.cell 2; have hR_3 := hR.cell 3; have hR_4 := hR.cell 4; simp at hR_0 hR_1 hR_2 hR_3 hR_4
        have hR_f0 := hR.frozen 0; have hR_f1 := hR.frozen 1; have hR_f2 := hR.frozen 2; have hR_f3 := hR.frozen 3; have hR_f4 := hR.frozen 4
        go_wp2_with fail
        refine bodyPost_ret (v := arrAgg p t y r x) (by simp only [results, Tryz.results27]; go_simp; first | rfl | simp [arrAgg]) rfl ?_
        exact ⟨p, t, y, r, x, rfl, ⟨by omega, by omega, by omega, by omega, by omega, by omega, by omega⟩, by (repeat' (first | with_reducible assumption | with_reducible exact Stp.refl _ _ | with_reducible refine Stp.setCell ?_ (Or.inr ?_) _ | with_reducible refine Stp.drewN ?_ _ | with_reducible refine Stp.drew ?_ | with_reducible refine Stp.alloc ?_ _ | omega | (simp; done) | (simp; omega))), Strm.mono (B := B + 1 + 1 + 1 + 2 + 1 + 1 + 1) (by (repeat' (first | with_reducible assumption | with_reducible refine Strm.setOther ?_ ?_ _ | with_reducible refine Strm.drewN ?_ _ | with_reducible refine Strm.drew ?_ | with_reducible refine Strm.alloc ?_ _ | omega | (simp; done) | (simp; omega)))) (by omega)⟩
      · go_wp2_with fail
        refine (one_any S (B + 1 + 1 + 1 + 2 + 1 + 1) _ 2 2 9 _ _ (s5.alloc _) (by omega) (Box.new _ _ _) (by omega) rfl (by omega) (by omega) (by simp; decide)).mono ?_
        rintro e w6 ⟨y, hy, rfl, h6, s6⟩
        have hz6 := h6.size
        simp at hz6
        have hA := (hA5.alloc _).stp h6 (by omega)
        have hR := (hR5.alloc _).stp h6 (by omega)
        have hst6 : Stp S w w6 := (hst5.alloc _).trans h6
        clear h6 hst5 s5 hA5 hR5
        have hA_l := hA.lt; have hA_0 := hA.cell 0; have hA_1 := hA.cell 1; have hA_2 := hA.cell 2; have hA_3 := hA.cell 3; have hA_4 := hA.cell 4; simp at hA_0 hA_1 hA_2 hA_3 hA_4
        have hA_f0 := hA.frozen 0; have hA_f1 := hA.frozen 1; have hA_f2 := hA.frozen 2; have hA_f3 := hA.frozen 3; have hA_f4 := hA.frozen 4
        have hR_l := hR.lt; have hR_0 := hR.cell 0; have hR_1 := hR.cell 1; have hR_2 := hR.cell 2; have hR_3 := hR.cell 3; have hR_4 := hR.cell 4; simp at hR_0 hR_1 hR_2 hR_3 hR_4
        have hR_f0 := hR.frozen 0; have hR_f1 := hR.frozen 1; have hR_f2 := hR.frozen 2; have hR_f3 := hR.frozen 3; have hR_f4 := hR.frozen 4
        go_wp2_with fail
        refine bodyPost_ret (v := arrAgg p t k y x) (by simp only [results, Tryz.results27]; go_simp; first | rfl | simp [arrAgg]) rfl ?_
        exact ⟨p, t, k, y, x, rfl, ⟨by omega, by omega, by omega, by omega, by omega, by omega, by omega⟩, by (repeat' (first | with_reducible assumption | with_reducible exact Stp.refl _ _ | with_reducible refine Stp.setCell ?_ (Or.inr ?_) _ | with_reducible refine Stp.drewN ?_ _ | with_reducible refine Stp.drew ?_ | with_reducible refine Stp.alloc ?_ _ | omega | (simp; done) | (simp; omega))), Strm.mono (B := B + 1 + 1 + 1 + 2 + 1 + 1 + 1) (by (repeat' (first | with_reducible assumption | with_reducible refine Strm.setOther ?_ ?_ _ | with_reducible refine Strm.drewN ?_ _ | with_reducible refine Strm.drew ?_ | with_reducible refine Strm.alloc ?_ _ | omega | (simp; done) | (simp; omega)))) (by omega)⟩
      · go_wp2_with fail
        refine (repeat_any 116 20000 _ (by omega)).mono ?_
        rintro e w5' ⟨y0, hy0, rfl, hb5⟩
        have hzb := hb5.size
        have hst5' := hst5.trans (Stp.of_below hb5)
        have hA5' := hA5.below hb5
        have hR5' := hR5.below hb5
        have s5' := s5.below hb5
        clear hst5 hA5 hR5 s5 hb5
        go_wp2_with fail
        refine (oneM_any 30000 S (B + 1 + 1 + 1 + 2 + 1 + 1) _ 4 4 9 _ _ (s5'.alloc _) (by omega) (Box.new _ _ _) (by omega) rfl (by omega) (by omega) ?hlens).mono ?_
        case hlens =>
          intro v hv
          simp only [List.mem_cons, List.not_mem_nil, or_false] at hv
          rcases hv with rfl | rfl | rfl | rfl
          · exact ⟨_, rfl, by decide⟩
          · exact ⟨_, rfl, by decide⟩
          · exact ⟨_, rfl, by decide⟩
          · exact ⟨_, rfl, by simp [ByteArray.size_append]; first | omega | (have : (⟨#[10]⟩ : ByteArray).size = 1 := rfl; omega)⟩
        rintro e w6 ⟨y, hy, rfl, h6, s6⟩
        have hst5 := hst5'
        have hA5 := hA5'
        have hR5 := hR5'
        have s5 := s5'
        clear hst5' hA5' hR5' s5'
        have hz6 := h6.size
        simp at hz6
        have hA := (hA5.alloc _).stp h6 (by omega)
        have hR := (hR5.alloc _).stp h6 (by omega)
        have hst6 : Stp S w w6 := (hst5.alloc _).trans h6
        clear h6 hst5 s5 hA5 hR5
        have hA_l := hA.lt; have hA_0 := hA.cell 0; have hA_1 := hA.cell 1; have hA_2 := hA.cell 2; have hA_3 := hA.cell 3; have hA_4 := hA.cell 4; simp at hA_0 hA_1 hA_2 hA_3 hA_4
        have hA_f0 := hA.frozen 0; have hA_f1 := hA.frozen 1; have hA_f2 := hA.frozen 2; have hA_f3 := hA.frozen 3; have hA_f4 := hA.frozen 4
        have hR_l := hR.lt; have hR_0 := hR.cell 0; have hR_1 := hR.cell 1; have hR_2 := hR.cell 2; have hR_3 := hR.cell 3; have hR_4 := hR.cell 4; simp at hR_0 hR_1 hR_2 hR_3 hR_4
        have hR_f0 := hR.frozen 0; have hR_f1 := hR.frozen 1; have hR_f2 := hR.frozen 2; have hR_f3 := hR.frozen 3; have hR_f4 := hR.frozen 4
        go_wp2_with fail
        refine bodyPost_ret (v := arrAgg p t k r y) (by simp only [results, Tryz.results27]; go_simp; first | rfl | simp [arrAgg]) rfl ?_
        exact ⟨p, t, k, r, y, rfl, ⟨by omega, by omega, by omega, by omega, by omega, by omega, by omega⟩, by (repeat' (first | with_reducible assumption | with_reducible exact Stp.refl _ _ | with_reducible refine Stp.setCell ?_ (Or.inr ?_) _ | with_reducible refine Stp.drewN ?_ _ | with_reducible refine Stp.drew ?_ | with_reducible refine Stp.alloc ?_ _ | omega | (simp; done) | (simp; omega))), Strm.mono (B := B + 1 + 1 + 1 + 2 + 1 + 1 + 1) (by (repeat' (first | with_reducible assumption | with_reducible refine Strm.setOther ?_ ?_ _ | with_reducible refine Strm.drewN ?_ _ | with_reducible refine Strm.drew ?_ | with_reducible refine Strm.alloc ?_ _ | omega | (simp; done) | (simp; omega)))) (by omega)⟩
end Go.Proofs.YtifflpilnpcmoaaGreatDoor
