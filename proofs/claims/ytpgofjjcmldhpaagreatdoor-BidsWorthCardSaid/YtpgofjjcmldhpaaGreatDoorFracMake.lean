/- The maker of fractions. -/
import Derived.Test.YtpgofjjcmldhpaaGreatDoorFrac
namespace Go.Proofs.YtpgofjjcmldhpaaGreatDoor
open Go.RowKit
set_option linter.unusedVariables false

/-- A fraction is made. -/
def SomeFrac (S : Nat) (B : Int) (w : World) (e : Ending) (w' : World) : Prop :=
  ∃ p q : Int, e = .returned (.agg #[.int .i64 p, .int .i64 q]) ∧ Stp S w w' ∧ Strm S (B + 6) w'

theorem pick_bd {z : Int} {l : List Int} (h : z ∈ l) (lo hi : Int) (hl : l.all (fun x => decide (lo ≤ x) && decide (x ≤ hi)) = true) : lo ≤ z ∧ z ≤ hi := by
  have := List.all_eq_true.1 hl z h
  simpa using this

/-- What is known after the first half: f lies in block F, the result's box is R. -/
def FracAt (S : Nat) (B : Int) (w : World) (F : Nat) (wx : World) : Prop :=
  ∃ p q : Int, Box wx F 37 #[.int .i64 p, .int .i64 q] ∧ Box wx w.heap.size 37 #[.int .i64 0, .int .i64 0] ∧ Stp S w wx ∧ Strm S B wx

theorem FracAt.set {S : Nat} {B : Int} {w : World} {F : Nat} {wx : World} (h : FracAt S B w F wx) (hS : S < w.heap.size) (hF : w.heap.size < F) (n : Nat) (a b : Int) :
    FracAt S B w F (((wx.drewN n).setCell ⟨F, 0, none⟩ (.int .i64 a)).setCell ⟨F, 1, none⟩ (.int .i64 b)) := by
  obtain ⟨p, q, h1, h2, h3, h4⟩ := h
  refine ⟨a, b, ((h1.drewN n).set 0 _).set 1 _, ((h2.drewN n).setOther ?_ _).setOther ?_ _, ((h3.drewN n).setCell (.inr ?_) _).setCell (.inr ?_) _, ((h4.drewN n).setOther ?_ _).setOther ?_ _⟩
  all_goals simp; omega

set_option maxHeartbeats 2000000 in
theorem fraction_any (S : Nat) (B : Int) (w : World) (hs : Strm S B w) (hB : B ≤ 999999900) :
    Calls Tryz.prog 11 #[.pointer (some ⟨S, 0, none⟩)] w (SomeFrac S B w) := by
  have hS := hs.lt
  go_enter Tryz.func11, Tryz.ntmps11
  go_wp2_with fail
  refine (pick_any S B _ 0 6 6 [0, 1, 2, 3, 500000000, 1000000000] _ ?_ (by omega) rfl (by omega) (by omega) ?_ ?_ ?_).mono ?_
  · exact (hs.alloc _).alloc _
  · simp
  · omega
  · intro i hi
    match i, hi with
    | 0, _ | 1, _ | 2, _ | 3, _ | 4, _ | 5, _ => simp
  rintro e w1 ⟨p, hp, rfl, h1, s1⟩
  obtain ⟨hp0, hp1⟩ := pick_bd hp 0 1000000000 (by decide)
  clear hp
  obtain ⟨hc1, hf1⟩ := scell h1
  have hz1 := h1.size
  simp at hz1
  have sz0_w1 : w.heap.size < w1.heap.size := (by omega); have sz1_w1 : w.heap.size + 1 < w1.heap.size := (by omega)
  have hS1 := s1.lt
  go_wp2_with fail
  refine (pick_any S (B + 1) _ 0 6 6 [1, 2, 3, 7, 999999999, 1000000000] _ ?_ (by omega) rfl (by omega) (by omega) ?_ ?_ ?_).mono ?_
  · exact s1.alloc _
  · simp
  · omega
  · intro i hi
    match i, hi with
    | 0, _ | 1, _ | 2, _ | 3, _ | 4, _ | 5, _ => simp
  rintro e w2 ⟨q, hq, rfl, h2, s2⟩
  obtain ⟨hq0, hq1⟩ := pick_bd hq 1 1000000000 (by decide)
  clear hq
  have hz2 := h2.size
  simp at hz2
  have hR2 : Box w2 w.heap.size 37 #[.int .i64 0, .int .i64 0] :=
    ((((Box.new w _ _).alloc _).stp h1 (by omega)).alloc _).stp h2 (by omega)
  have hw2 : Stp S w w2 := ((((Stp.refl S w).alloc _).alloc _).trans h1).alloc _ |>.trans h2
  clear hc1 hf1 h1 h2 hs s1
  have hS2 := s2.lt
  have hwR : w.heap.size < w2.heap.size := by omega
  clear hz1 hz2 sz0_w1 sz1_w1 hS1
  go_wp2_with fail
  refine (flip_any S (B + 1 + 1) 8 _ (s2.alloc _) (by omega) (by omega) (by omega)).mono ?_
  rintro e w3 ⟨r, rfl, h3, s3⟩
  have hA : FracAt S (B + 3) w w2.heap.size w3 := ⟨p, q, (Box.new w2 _ _).stp h3 (by omega), (hR2.alloc _).stp h3 (by omega), (hw2.alloc _).trans h3, s3.mono (by omega)⟩
  have hF := (Box.new w2 37 #[.int .i64 p, .int .i64 q]).stp h3 (by omega)
  have c0 := hF.cell 0
  have c1 := hF.cell 1
  have f0 := hF.frozen 0
  have f1 := hF.frozen 1
  simp at c0 c1
  clear hF h3 hw2 hR2 s2 s3
  generalize w2.heap.size = F at *
  go_upto_if 16 with (fail)
  go_cut [] (fun wx => FracAt S (B + 3) w F wx)
  case first =>
    cases r
    · go_wp2_with fail
      go_quiet (fail)
      go_wp2_with fail
      go_loopw [5, 6] (fun x y wr => ∃ x' y' : Int, x = .int .i64 x' ∧ y = .int .i64 y' ∧ 0 ≤ x' ∧ 0 ≤ y' ∧ x' ≤ 1000000000 ∧ y' ≤ 1000000000 ∧ Hid (∃ n, wr = w3.drewN n)) (fun _ y _ => (intOf y).natAbs)
      case atStart => exact ⟨p, q, rfl, rfl, by omega, by omega, by omega, by omega, nq, rfl⟩
      case round =>
        obtain ⟨x', y', rfl, rfl, hx0, hy0, hx, hy, hw⟩ := hrel
        obtain ⟨n, hw⟩ := hw
        subst hw
        by_cases hyz : y' = 0
        · subst hyz
          by_cases hx1 : x' = 0
          · subst hx1
            have hw1 : IntKind.i64.wrap p = p := IntWalk.i64_in _ (by omega)
            have hw2 : IntKind.i64.wrap q = q := IntWalk.i64_in _ (by omega)
            go_wp2_with fail
            go_region
            go_wp2_with fail
            go_meet
            exact hA.set hS hwR _ _ _
          · have hx2 : 1 ≤ x' := by omega
            have hx3 : ¬ x' < 1 := by omega
            have hxz : (x' == 0) = false := by simpa using hx1
            obtain ⟨a1, ha1⟩ : ∃ a1, p.tdiv x' = a1 := ⟨_, rfl⟩
            obtain ⟨a2, ha2⟩ : ∃ a2, q.tdiv x' = a2 := ⟨_, rfl⟩
            have hw1 : IntKind.i64.wrap a1 = a1 := IntWalk.i64_in _ (by rw [← ha1, Int.tdiv_eq_ediv_of_nonneg hp0]; have := Int.ediv_le_self x' hp0; have := Int.ediv_nonneg hp0 hx0; omega)
            have hw2 : IntKind.i64.wrap a2 = a2 := IntWalk.i64_in _ (by have hq' : 0 ≤ q := by omega
                                                                        rw [← ha2, Int.tdiv_eq_ediv_of_nonneg hq']; have := Int.ediv_le_self x' hq'; have := Int.ediv_nonneg hq' hx0; omega)
            go_wp2_with fail
            go_region
            go_wp2_with fail
            go_meet
            exact hA.set hS hwR _ _ _
        · have hm := tmod_abs x' y' hyz
          have hmn := Int.tmod_nonneg y' hx0
          rw [Int.tmod_eq_emod_of_nonneg hx0] at hm hmn
          go_wp2_with fail
          go_quiet (fail)
          go_wp2_with fail
          refine ⟨⟨_, _, rfl, rfl, by omega, by omega, by omega, by omega, n + nq, by simp⟩, ?_⟩
          show (x' % y').natAbs < y'.natAbs
          exact hm
    · go_wp2_with fail
      go_meet
      exact hA
  case rest =>
    obtain ⟨p', q', hF, hR, hw3, s3⟩ := hcut
    clear hA c0 c1 f0 f1
    go_wp2_with fail
    refine (flip_any S (B + 3) 12 _ s3 (by omega) (by omega) (by omega)).mono ?_
    rintro e w4 ⟨r, rfl, h4, s4⟩
    have hF4 := hF.stp h4 (by omega)
    have hR4 := hR.stp h4 (by omega)
    have hw4 := hw3.trans h4
    clear hF hR hw3 s3 h4
    cases r
    · have c0 := hF4.cell 0
      have c1 := hF4.cell 1
      have r0 := hR4.cell 0
      have r1 := hR4.cell 1
      have g0 := hR4.frozen 0
      have g1 := hR4.frozen 1
      simp at c0 c1 r0 r1
      go_wp2_with fail
      refine bodyPost_ret (v := .agg #[.int .i64 p', .int .i64 q']) (by simp only [results, Tryz.results11]; go_simp) rfl ⟨p', q', rfl, ?_, ?_⟩
      · exact (hw4.setCell (.inr (by simp)) _).setCell (.inr (by simp)) _
      · exact ((s4.mono (by omega)).setOther (by simpa using hS) _).setOther (by simpa using hS) _
    · have hl4 := s4.lt
      go_wp2_with fail
      refine (pick_any S (B + 4) _ 0 3 3 [-1, 1000000001, 2] _ ?_ (by omega) rfl (by omega) (by omega) ?_ ?_ ?_).mono ?_
      · exact (s4.mono (by omega)).alloc _
      · simp
      · omega
      · intro i hi
        match i, hi with
        | 0, _ | 1, _ | 2, _ => simp
      rintro e w5 ⟨p2, _, rfl, h5, s5⟩
      have hF5 := (hF4.alloc _).stp h5 (by omega)
      have hR5 := (hR4.alloc _).stp h5 (by omega)
      have hw5 := (hw4.alloc _).trans h5
      clear hF4 hR4 hw4 s4 h5
      have hl5 := s5.lt
      go_wp2_with fail
      refine (pick_any S (B + 4 + 1) _ 0 4 4 [0, -1, 1000000001, 4] _ ?_ (by omega) rfl (by omega) (by omega) ?_ ?_ ?_).mono ?_
      · exact s5.alloc _
      · simp
      · omega
      · intro i hi
        match i, hi with
        | 0, _ | 1, _ | 2, _ | 3, _ => simp
      rintro e w6 ⟨q2, _, rfl, h6, s6⟩
      have hF6 := (hF5.alloc _).stp h6 (by omega)
      have hR6 := (hR5.alloc _).stp h6 (by omega)
      have hw6 := (hw5.alloc _).trans h6
      clear hF5 hR5 hw5 s5 h6
      have c0 := hF6.cell 0
      have c1 := hF6.cell 1
      have f0 := hF6.frozen 0
      have f1 := hF6.frozen 1
      have r0 := hR6.cell 0
      have r1 := hR6.cell 1
      have g0 := hR6.frozen 0
      have g1 := hR6.frozen 1
      simp at c0 c1 r0 r1
      have hne : F ≠ w.heap.size := by omega
      have hne' : w.heap.size ≠ F := by omega
      go_wp2_with fail
      refine bodyPost_ret (v := .agg #[.int .i64 p2, .int .i64 q2]) (by simp only [results, Tryz.results11]; go_simp) rfl ⟨p2, q2, rfl, ?_, ?_⟩
      · exact (((hw6.setCell (.inr (by simp; omega)) _).setCell (.inr (by simp; omega)) _).setCell (.inr (by simp)) _).setCell (.inr (by simp)) _
      · exact ((((s6.mono (by omega)).setOther (by simp; omega) _).setOther (by simp; omega) _).setOther (by simp; omega) _).setOther (by simp; omega) _
end Go.Proofs.YtpgofjjcmldhpaaGreatDoor
