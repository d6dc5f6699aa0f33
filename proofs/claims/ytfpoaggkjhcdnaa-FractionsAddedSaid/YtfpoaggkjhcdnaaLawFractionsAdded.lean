/- For every list of raw numbers, FractionsAdded returns true: Add and Compare of the program agree with the reference at the two fractions that are made of it. No condition. -/
import Derived.Test.YtfpoaggkjhcdnaaRows
import Derived.Test.YtfpoaggkjhcdnaaFracMake
import Derived.OpenShut
import Derived.ShutString
import Derived.ChangeOld
namespace Go.Proofs.Ytfpoaggkjhcdnaa.fractionsAdded
open Go.ChangeShapes Go.WideShapes Go.ChangeAt Go.RowKit
open Go.ChangeMaps (open_string shut_string)
set_option linter.unusedVariables false

theorem own : ownKnob Try.prog.godebug = none := by kernel_rfl
theorem laidOut : laidOutB Try.prog = true := by kernel_rfl

/-- The result of Add is a fraction and a number. -/
theorem addV_form (p q r t : Int) : ∃ x y e : Int, addV p q r t = .tuple #[.agg #[.int .i64 x, .int .i64 y], .int .i64 e] := by
  unfold addV low
  split
  · split
    · exact ⟨_, _, _, rfl⟩
    · exact ⟨_, _, _, rfl⟩
  · exact ⟨_, _, _, rfl⟩

set_option maxHeartbeats 4000000 in
theorem walk (a0 : Option Addr) (len0 cap0 : Nat) (z0 : List Int) (w : World) (w0 : IsRow .i64 w a0 len0 cap0 z0) :
    Calls Try.prog 3 #[.slice a0 len0 cap0] w fun e w' => e = .returned (.bool true) ∧ Below w.heap.size w w' := by
  have hs := strm_new w0
  go_enter Try.func3, Try.ntmps3
  go_wp2_with fail
  refine (fraction_any w.heap.size 0 _ hs (by omega)).mono ?_
  rintro e w1 ⟨p, q, rfl, h1, s1⟩
  go_wp2_with fail
  refine (fraction_any w.heap.size (0 + 6) _ s1 (by omega)).mono ?_
  rintro e w2 ⟨r, t, rfl, h2, s2⟩
  have hb : Below w.heap.size w w2 := by
    have h12 := (((Stp.refl w.heap.size w).alloc (.cells #[.slice a0 len0 cap0, .int .i64 0] 25)).trans h1).trans h2
    have := h12.below
    rwa [Nat.min_self] at this
  have hz := s2.lt
  clear h1 h2 s1 s2 hs w0
  obtain ⟨x, y, er, hv⟩ := addV_form p q r t
  have HA := Lib.hid (fun w => add_any p q r t w)
  have HO := Lib.hid (fun w => addOf_any p q r t w)
  rw [hv] at HA HO
  clear hv
  go_wp2_with fail
  refine (HA.out _).mono ?_
  rintro e w3 ⟨rfl, hb3⟩
  have hA := ((Box.new w2 27 #[.int .i64 p, .int .i64 q]).alloc _).below hb3
  have hC := (Box.new (w2.alloc _) 27 #[.int .i64 r, .int .i64 t]).below hb3
  simp only [World.size_alloc] at hC
  have hb3' : Below w.heap.size w w3 := by have hz' := hb3.size; (repeat' (first | exact Below.refl _ _ | assumption | refine Below.setCell ?_ ?_ _ | refine below_drewN ?_ _ | refine Below.drew ?_ | refine Below.alloc ?_ ?_ _ | (with_reducible refine Below.trans ?_ (Below.mono hb ?_)) | (with_reducible refine Below.trans ?_ (Below.mono hb1 ?_)) | (with_reducible refine Below.trans ?_ (Below.mono hb2 ?_)) | (with_reducible refine Below.trans ?_ (Below.mono hb3 ?_)) | (with_reducible refine Below.trans ?_ (Below.mono hb4 ?_)) | (with_reducible refine Below.trans ?_ (Below.mono hb5 ?_)) | (with_reducible refine Below.trans ?_ (Below.mono hb6 ?_)) | omega | (simp; done) | (simp; omega)))
  clear hb hb3
  have hA_l := hA.lt; have hA_0 := hA.cell 0; have hA_1 := hA.cell 1; simp at hA_0 hA_1
  have hC_l := hC.lt; have hC_0 := hC.cell 0; have hC_1 := hC.cell 1; simp at hC_0 hC_1
  go_wp2_with fail
  refine (HO.out _).mono ?_
  rintro e w4 ⟨rfl, hb4⟩
  clear hA_l hA_0 hA_1
  clear hC_l hC_0 hC_1
  have hX := (Box.new w3 27 #[.int .i64 x, .int .i64 y]).below hb4
  replace hA := (hA.alloc _).below hb4
  replace hC := (hC.alloc _).below hb4
  have hb4' : Below w.heap.size w w4 := by have hz' := hb3'.size; (repeat' (first | exact Below.refl _ _ | assumption | refine Below.setCell ?_ ?_ _ | refine below_drewN ?_ _ | refine Below.drew ?_ | refine Below.alloc ?_ ?_ _ | (with_reducible refine Below.trans ?_ (Below.mono hb ?_)) | (with_reducible refine Below.trans ?_ (Below.mono hb1 ?_)) | (with_reducible refine Below.trans ?_ (Below.mono hb2 ?_)) | (with_reducible refine Below.trans ?_ (Below.mono hb3 ?_)) | (with_reducible refine Below.trans ?_ (Below.mono hb4 ?_)) | (with_reducible refine Below.trans ?_ (Below.mono hb5 ?_)) | (with_reducible refine Below.trans ?_ (Below.mono hb6 ?_)) | omega | (simp; done) | (simp; omega)))
  clear hb3' hb4
  have hA_l := hA.lt; have hA_0 := hA.cell 0; have hA_1 := hA.cell 1; simp at hA_0 hA_1
  have hC_l := hC.lt; have hC_0 := hC.cell 0; have hC_1 := hC.cell 1; simp at hC_0 hC_1
  have hX_l := hX.lt; have hX_0 := hX.cell 0; have hX_1 := hX.cell 1; simp at hX_0 hX_1
  go_wp2_with fail
  refine (compare_any p q r t _).mono ?_
  rintro e w5 ⟨rfl, hb5⟩
  clear hA_l hA_0 hA_1
  clear hC_l hC_0 hC_1
  clear hX_l hX_0 hX_1
  replace hA := (hA.alloc _).below hb5
  replace hC := (hC.alloc _).below hb5
  have hb5' : Below w.heap.size w w5 := by have hz' := hb4'.size; (repeat' (first | exact Below.refl _ _ | assumption | refine Below.setCell ?_ ?_ _ | refine below_drewN ?_ _ | refine Below.drew ?_ | refine Below.alloc ?_ ?_ _ | (with_reducible refine Below.trans ?_ (Below.mono hb ?_)) | (with_reducible refine Below.trans ?_ (Below.mono hb1 ?_)) | (with_reducible refine Below.trans ?_ (Below.mono hb2 ?_)) | (with_reducible refine Below.trans ?_ (Below.mono hb3 ?_)) | (with_reducible refine Below.trans ?_ (Below.mono hb4 ?_)) | (with_reducible refine Below.trans ?_ (Below.mono hb5 ?_)) | (with_reducible refine Below.trans ?_ (Below.mono hb6 ?_)) | omega | (simp; done) | (simp; omega)))
  clear hb4' hb5 hX HA HO
  have hA_l := hA.lt; have hA_0 := hA.cell 0; have hA_1 := hA.cell 1; simp at hA_0 hA_1
  have hC_l := hC.lt; have hC_0 := hC.cell 0; have hC_1 := hC.cell 1; simp at hC_0 hC_1
  cases hr1 : rightB p q
  · have hV : compareV p q r t = .tuple #[.int .i64 0, .int .i64 3] := by simp [compareV, hr1]
    rw [hV]
    have Hr1 := Lib.hid hr1
    clear hV hr1
    go_wp2_with fail
    refine (fractionRight_no _ _ _ Hr1.out).mono ?_
    rintro e w6 ⟨rfl, hb6⟩
    go_wp2_with fail
    refine (topics_any _).mono ?_
    rintro e w7 ⟨rfl, hb7⟩
    go_wp2_with fail
    go_ret
    exact ⟨rfl, below_next (below_next hb5' hb6) hb7⟩
  · cases hr2 : rightB r t
    · have hV : compareV p q r t = .tuple #[.int .i64 0, .int .i64 3] := by simp [compareV, hr1, hr2]
      rw [hV]
      have Hr1 := Lib.hid hr1
      have Hr2 := Lib.hid hr2
      clear hV hr1 hr2
      go_wp2_with fail
      refine (fractionRight_yes _ _ _ Hr1.out).mono ?_
      rintro e w6 ⟨rfl, hb6⟩
      clear hC_l hC_0 hC_1
      replace hC := hC.below hb6
      have hC_l := hC.lt; have hC_0 := hC.cell 0; have hC_1 := hC.cell 1; simp at hC_0 hC_1
      have hb6' : Below w.heap.size w w6 := below_next hb5' hb6
      clear hb6 hb5'
      go_wp2_with fail
      refine (fractionRight_no _ _ _ Hr2.out).mono ?_
      rintro e w7 ⟨rfl, hb7⟩
      have hb7' : Below w.heap.size w w7 := below_next hb6' hb7
      go_wp2_with fail
      refine (topics_any _).mono ?_
      rintro e w8 ⟨rfl, hb8⟩
      go_wp2_with fail
      go_ret
      exact ⟨rfl, below_next hb7' hb8⟩
    · have hV : compareV p q r t = .tuple #[.int .i64 (cmpZ (p * t) (r * q)), .int .i64 0] := by simp [compareV, hr1, hr2]
      rw [hV]
      obtain ⟨a1, a2, a3, a4, _⟩ := (rightB_iff _ _).1 hr1
      obtain ⟨b1, b2, b3, b4, _⟩ := (rightB_iff _ _).1 hr2
      obtain ⟨c1, c2⟩ := mul_bd p t a3 a4 (by omega) b2
      obtain ⟨d1, d2⟩ := mul_bd r q b3 b4 (by omega) a2
      have Hr1 := Lib.hid hr1
      have Hr2 := Lib.hid hr2
      have HC := Lib.hid (fun w => comparedOf_any p q r t w (by omega) (by omega) (by omega) (by omega))
      clear hV hr1 hr2
      generalize cmpZ (p * t) (r * q) = cz at *
      have hcz : (cz == cz) = true := by simp
      go_wp2_with fail
      refine (fractionRight_yes _ _ _ Hr1.out).mono ?_
      rintro e w6 ⟨rfl, hb6⟩
      clear hC_l hC_0 hC_1
      clear hA_l hA_0 hA_1
      replace hC := hC.below hb6
      replace hA := hA.below hb6
      have hC_l := hC.lt; have hC_0 := hC.cell 0; have hC_1 := hC.cell 1; simp at hC_0 hC_1
      have hb6' : Below w.heap.size w w6 := below_next hb5' hb6
      clear hb6 hb5'
      go_wp2_with fail
      refine (fractionRight_yes _ _ _ Hr2.out).mono ?_
      rintro e w7 ⟨rfl, hb7⟩
      have hb7' : Below w.heap.size w w7 := below_next hb6' hb7
      replace hC := hC.below hb7
      replace hA := hA.below hb7
      go_wp2_with fail
      refine (topics_any _).mono ?_
      rintro e w8 ⟨rfl, hb8⟩
      have hb8' : Below w.heap.size w w8 := below_next hb7' hb8
      clear hC_l hC_0 hC_1
      replace hC := hC.below hb8
      replace hA := hA.below hb8
      have hC_l := hC.lt; have hC_0 := hC.cell 0; have hC_1 := hC.cell 1; simp at hC_0 hC_1
      have hA_l := hA.lt; have hA_0 := hA.cell 0; have hA_1 := hA.cell 1; simp at hA_0 hA_1
      go_wp2_with fail
      refine (HC.out _).mono ?_
      rintro e w9 ⟨rfl, hb9⟩
      go_wp2_with fail
      go_ret
      exact ⟨rfl, below_next hb8' hb9⟩

set_option maxRecDepth 100000 in
theorem lifted (os : Os) (started : os.Started) (H : Type) (enc : TypeId × Value → H) :
    ReturnsInHanded {} Try.checked os 3 .any (Rows.fractionsAddedSpec.pre6 enc Try.prog Try.f3 Rows.fractionsAddedRow.domain false) (Rows.fractionsAddedSpec.post enc Try.prog Try.f3 false true false false) := by
  refine returnsInHanded_of_change (C := Try.checked) own started (by kernel_rfl) Try.func3
    (ChangeSpec.witness6 (enc := enc) (C := Try.checked) false ⟨#[], #[.slice none 0 0], []⟩ 8 (by kernel_rfl) (by kernel_rfl) (by kernel_rfl) (by kernel_rfl)) ?_
  intro W base args ds gs before hval0 hW hcnd _
  have hval : ∀ (j : Nat) t v, Try.f3.params[j]? = some t → args[j]? = some v → Value.okWide Try.prog W .any base t v := hval0
  have hW' := hW
  obtain ⟨p, q, hA0, hV, rfl, hfz, hnd⟩ := hW
  have hA : DataW.TrodAll enc Try.prog W 0 (fun _ => true) true Try.f3.params.toList args.toList ds p := hA0
  rw [Try.params3] at hA hval
  obtain ⟨v0, vs0, d0, ds0, p0, q0, hargs, rfl, rfl, h0, r0⟩ := trodAll_cons hA
  obtain ⟨rfl, rfl, rfl⟩ := trodAll_nil r0
  obtain rfl : args = #[v0] := by cases args; simp_all
  obtain ⟨rfl, rfl⟩ := trodVars_none hV
  obtain ⟨a0, len0, cap0, rfl⟩ := okWide_slice Try.underlying22 (hval 0 22 v0 rfl rfl)
  have k0 := h0
  have lt0 : ∀ x ∈ p0, x.block < W.heap.size := by obtain ⟨m, hm⟩ := k0; exact DataW.trod_lt m _ _ _ hm
  obtain ⟨z0, w0⟩ : ∃ zs, IsRow .i64 W a0 len0 cap0 zs := by
    obtain ⟨fuel, hf⟩ := h0
    rcases open_ints Try.underlying22 Try.underlying3 (by kernel_rfl) hf with ⟨hcs, _⟩ | ⟨x, l, c, zs, hcs, _, hl, hm, hz, _, hcell, hwz⟩
    · simp [Value.cells] at hcs
      obtain ⟨rfl, rfl, rfl⟩ := hcs
      exact ⟨[], .inl ⟨rfl, rfl, rfl, rfl⟩⟩
    · simp [Value.cells] at hcs
      obtain ⟨rfl, rfl, rfl⟩ := hcs
      exact ⟨zs, .inr ⟨_, rfl, hl, hm, by simpa using hz, hcell, hwz⟩⟩
  clear hA0 hval0
  refine (walk a0 len0 cap0 z0 W w0).mono fun e W' ⟨he, bel⟩ => ?_
  subst he
  exact ⟨_, rfl, _, _, _, [], _, [], hW', trodAll_mk1 (shut_bool Try.underlying4 _), (trodAll_cons_mk (Below.trod laidOut (by kernel_rfl) (of_decide_eq_true (by kernel_rfl)) k0 bel lt0) trodAll_mk0), rfl, bel.frame _, fun h => by cases h⟩

theorem over : Rows.fractionsAddedRow.holds Try.pinned (OpenSpec.ofChange Rows.fractionsAddedSpec) :=
  OpenClaim.holds_of_wide 3 Try.f3 rfl rfl rfl rfl rfl rfl rfl ⟨rfl, rfl, rfl, rfl, rfl⟩ rfl rfl rfl rfl rfl (by kernel_rfl) Try.func3 (by kernel_rfl)
    (of_decide_eq_true (by kernel_rfl)) (by unfold Func.isWrapper; first | (rw [if_pos (by decide +kernel)]; kernel_rfl) | (rw [if_neg (by decide +kernel)]; exact ⟨rfl, rfl⟩))
    (fun os started H enc _ => lifted os started H enc)

/-- ████ THE STATEMENT ████ -/
theorem proved : Rows.FractionsAddedSaid := over
#print axioms proved
end Go.Proofs.Ytfpoaggkjhcdnaa.fractionsAdded
