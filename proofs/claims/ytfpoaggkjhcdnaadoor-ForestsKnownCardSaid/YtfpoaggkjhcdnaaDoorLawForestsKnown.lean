/- For every list of raw numbers, ForestsKnown returns true. The walk. -/
import Derived.Test.YtfpoaggkjhcdnaaDoorTopicMake4
import Derived.Test.YtfpoaggkjhcdnaaDoorTopic5
import Derived.Test.YtfpoaggkjhcdnaaDoorFrac3
import Derived.Test.YtfpoaggkjhcdnaaDoorReg
namespace Go.Proofs.YtfpoaggkjhcdnaaDoor.forestsKnown
open Go.RowKit
set_option linter.unusedVariables false
set_option linter.unusedSimpArgs false

theorem knownE1 (l : List Topic) (p : ByteArray) : knownE l [p] = if forestFault l ≠ 0 then forestFault l else if (ForestPure.topicOf l p).isSome then 0 else 8 := by
  unfold knownE
  cases hp : ForestPure.topicOf l p <;> simp [hp]
theorem knownE2 (l : List Topic) (p q : ByteArray) : knownE l [p, q] = if knownE l [p] ≠ 0 then knownE l [p] else if (ForestPure.topicOf l q).isSome then 0 else 8 := by
  unfold knownE
  by_cases h : forestFault l = 0
  · cases hp : ForestPure.topicOf l p <;> cases hq : ForestPure.topicOf l q <;> simp [h, hp, hq]
  · simp [h]

set_option maxRecDepth 100000 in
set_option maxHeartbeats 4000000 in
theorem walk (a0 : Option Addr) (len0 cap0 : Nat) (z0 : List Int) (w : World) (w0 : IsRow .i64 w a0 len0 cap0 z0) :
    Calls Tryd.prog 3 #[.slice a0 len0 cap0] w fun e w' => e = .returned (.bool true) ∧ Below w.heap.size w w' := by
  have hs := strm_new w0
  go_enter Tryd.func3, Tryd.ntmps3
  go_wp2_with fail
  refine (forest_any w.heap.size 0 _ hs (by omega)).mono ?_
  rintro e w1 ⟨a, cap, l, rfl, hl12, hcap, hsm, hsa, hp, h1, s1⟩
  go_wp2_with fail
  refine (topicKey_any w.heap.size (0 + 20) _ s1 (by omega)).mono ?_
  rintro e w2 ⟨x, hx, rfl, h2, s2⟩
  go_wp2_with fail
  refine (topicKey_any w.heap.size (0 + 20 + 1) _ s2 (by omega)).mono ?_
  rintro e w3 ⟨y, hy, rfl, h3, s3⟩
  have hpS : ∀ z : Addr, a = some z → z.block ≠ w.heap.size := fun z hz => by
    rcases hp with hp | ⟨b, off, hp, hS⟩ <;> rw [hp] at hz <;> cases hz
    exact hS
  have hsa3 := (hsa.stp h2 hpS).stp h3 hpS
  have hb : Below w.heap.size w w3 := by
    have h12 := ((((Stp.refl w.heap.size w).alloc (.cells #[.slice a0 len0 cap0, .int .i64 0] 25)).trans h1).trans h2).trans h3
    have := h12.below
    rwa [Nat.min_self] at this
  have Hsm := Lib.hid hsm
  clear h1 h2 h3 s1 s2 s3 hs w0 hsa hp hpS hsm
  go_wp2_with fail
  refine (forestFault_any l a cap w3 hsa3 (by omega) Hsm.out).mono ?_
  rintro e w4 ⟨rfl, hb4⟩
  have hb4' := below_next hb hb4
  have hsa4 := hsa3.below hb4
  clear hb hb4 hsa3
  have HE1 := Lib.hid (knownE1 l x)
  have HE2 := Lib.hid (knownE2 l x y)
  have HCF := Lib.hid (fun w h => checkForest_any l a cap w h (by omega) Hsm.out)
  have HA := Lib.hid (fun w h => above_any l a cap x w h (by omega) Hsm.out)
  have HB := Lib.hid (fun w h => belowX_any l a cap x w h (by omega) Hsm.out)
  have HM := Lib.hid (fun w h => meetX_any l a cap x y w h (by omega) Hsm.out)
  have HNr := Lib.hid (fun w h => nearX_any l a cap x y w h (by omega) Hsm.out)
  generalize forestFault l = ff at *
  generalize knownE l [x] = e1 at *
  generalize knownE l [x, y] = e2 at *
  have hff : (ff == ff) = true := by simp
  have hfn : (ff != ff) = false := by simp
  go_wp2_with fail
  refine (HCF.out w4 hsa4).mono ?_
  rintro e w5 ⟨rfl, hb5⟩
  have hb5' := below_next hb4' hb5
  have hsa5 := hsa4.below hb5
  clear hb4' hb5 hsa4
  go_wp2_with fail
  refine (HA.out w5 hsa5).mono ?_
  rintro e w6 ⟨hb6, v6, l6, rfl, ⟨a6, cap6, rfl, hsa6, hc6⟩, hl6, he6⟩
  have hb6' := below_next hb5' hb6
  have hsaw6 := hsa5.below hb6
  have He6 := Lib.hid he6
  clear hb5' hb6 hsa5 he6
  go_wp2_with fail
  refine (HB.out w6 hsaw6).mono ?_
  rintro e w7 ⟨hb7, v7, l7, rfl, ⟨a7, cap7, rfl, hsa7, hc7⟩, hl7, he7⟩
  have hb7' := below_next hb6' hb7
  have hsaw7 := hsaw6.below hb7
  have hsa6' := hsa6.below hb7
  have He7 := Lib.hid he7
  clear hb6' hb7 hsaw6 hsa6 he7
  have Hsa6 := Lib.hid hsa6'
  have Hsa7 := Lib.hid hsa7
  clear hsa6' hsa7 HA HB HCF
  by_cases h0 : ff = 0
  · subst h0
    have hq8 : ((8 : Int) != 0) = true := by decide
    have hq8' : ((8 : Int) == 0) = false := by decide
    have hE1 := HE1.out
    have hE2 := HE2.out
    rw [if_neg (by simp)] at hE1
    clear HE1 HE2
    have HHx := Lib.hid (fun w h => hasTopic_any l a cap x w h (by omega))
    have HHy := Lib.hid (fun w h => hasTopic_any l a cap y w h (by omega))
    have HAo := Lib.hid (fun w h => aboveOf_any l a cap x w h (by omega))
    have HBo := Lib.hid (fun w h => belowOf_any l a cap x w h (by omega))
    have HMo := Lib.hid (fun w h => meetOf_any l a cap x y w h (by omega))
    cases hx : (ForestPure.topicOf l x).isSome
    · rw [hx] at hE1 HHx
      simp at hE1
      subst hE1
      rw [if_pos (by decide)] at hE2
      subst hE2
      go_wp2_with fail
      refine (HM.out w7 hsaw7).mono ?_
      rintro e w8 ⟨hb8, rfl⟩
      have hsaw8 := hsaw7.below hb8
      have hb8' := below_next hb7' hb8
      clear hb7' hsaw7
      try rw [if_neg (by decide)]
      try rw [if_pos rfl]
      go_wp2_with fail
      refine (HNr.out w8 hsaw8).mono ?_
      rintro e w9 ⟨hb9, rfl⟩
      try rw [if_neg (by decide)]
      try rw [if_pos rfl]
      have hsaw9 := hsaw8.below hb9
      have hb9' := below_next hb8' hb9
      have hsc9 := (Hsa6.out.below hb8).below hb9
      have hsd9 := (Hsa7.out.below hb8).below hb9
      clear hb8' hb9 hb8 hsaw8 HM HNr Hsa6 Hsa7
      have hz9 := hb9'.size
      go_wp2_with fail
      refine (HHx.out _ (hsaw9.alloc _)).mono ?_
      rintro e w10 ⟨rfl, hb10⟩
      have hz10 := hb10.size
      simp at hz10
      have hb10' : Below w.heap.size w w10 := by (repeat' (first | exact Below.refl _ _ | assumption | refine Below.setCell ?_ ?_ _ | refine below_drewN ?_ _ | refine Below.drew ?_ | refine Below.alloc ?_ ?_ _ | (with_reducible refine Below.trans ?_ (Below.mono hb ?_)) | (with_reducible refine Below.trans ?_ (Below.mono hb1 ?_)) | (with_reducible refine Below.trans ?_ (Below.mono hb2 ?_)) | (with_reducible refine Below.trans ?_ (Below.mono hb3 ?_)) | (with_reducible refine Below.trans ?_ (Below.mono hb4 ?_)) | (with_reducible refine Below.trans ?_ (Below.mono hb5 ?_)) | (with_reducible refine Below.trans ?_ (Below.mono hb6 ?_)) | (with_reducible refine Below.trans ?_ (Below.mono hb7 ?_)) | (with_reducible refine Below.trans ?_ (Below.mono hb8 ?_)) | (with_reducible refine Below.trans ?_ (Below.mono hb9 ?_)) | (with_reducible refine Below.trans ?_ (Below.mono hb10 ?_)) | (with_reducible refine Below.trans ?_ (Below.mono hb11 ?_)) | (with_reducible refine Below.trans ?_ (Below.mono hb12 ?_)) | (with_reducible refine Below.trans ?_ (Below.mono hb13 ?_)) | (with_reducible refine Below.trans ?_ (Below.mono hb14 ?_)) | (with_reducible refine Below.trans ?_ (Below.mono hb15 ?_)) | omega | (simp; done) | (simp; omega)))
      clear hb10 hb9'
      have hz := hb10'.size
      go_wp2_with fail
      refine wp_region_held_drew (S := (fun wx => Below w.heap.size w wx)) (by kernel_rfl) ?hS (fun hHeld => ?_)
      case hS => (repeat' (first | exact Below.refl _ _ | assumption | refine Below.setCell ?_ ?_ _ | refine below_drewN ?_ _ | refine Below.drew ?_ | refine Below.alloc ?_ ?_ _ | (with_reducible refine Below.trans ?_ (Below.mono hb ?_)) | (with_reducible refine Below.trans ?_ (Below.mono hb1 ?_)) | (with_reducible refine Below.trans ?_ (Below.mono hb2 ?_)) | (with_reducible refine Below.trans ?_ (Below.mono hb3 ?_)) | (with_reducible refine Below.trans ?_ (Below.mono hb4 ?_)) | (with_reducible refine Below.trans ?_ (Below.mono hb5 ?_)) | (with_reducible refine Below.trans ?_ (Below.mono hb6 ?_)) | (with_reducible refine Below.trans ?_ (Below.mono hb7 ?_)) | (with_reducible refine Below.trans ?_ (Below.mono hb8 ?_)) | (with_reducible refine Below.trans ?_ (Below.mono hb9 ?_)) | (with_reducible refine Below.trans ?_ (Below.mono hb10 ?_)) | (with_reducible refine Below.trans ?_ (Below.mono hb11 ?_)) | (with_reducible refine Below.trans ?_ (Below.mono hb12 ?_)) | (with_reducible refine Below.trans ?_ (Below.mono hb13 ?_)) | (with_reducible refine Below.trans ?_ (Below.mono hb14 ?_)) | (with_reducible refine Below.trans ?_ (Below.mono hb15 ?_)) | omega | (simp; done) | (simp; omega)))
      refine rcall (i := 0) (d := (some 113)) (by kernel_rfl) rfl (by kernel_rfl) (fun K hK => ?_)
      go_simp
      go_at_call 17; refine (topics_any _).mono ?_; rintro e w' ⟨rfl, hb3⟩
      refine hK.out _ _ ?hS (fun hHeld => ?_)
      case hS => (repeat' (first | exact Below.refl _ _ | assumption | refine Below.setCell ?_ ?_ _ | refine below_drewN ?_ _ | refine Below.drew ?_ | refine Below.alloc ?_ ?_ _ | (with_reducible refine Below.trans ?_ (Below.mono hb ?_)) | (with_reducible refine Below.trans ?_ (Below.mono hb1 ?_)) | (with_reducible refine Below.trans ?_ (Below.mono hb2 ?_)) | (with_reducible refine Below.trans ?_ (Below.mono hb3 ?_)) | (with_reducible refine Below.trans ?_ (Below.mono hb4 ?_)) | (with_reducible refine Below.trans ?_ (Below.mono hb5 ?_)) | (with_reducible refine Below.trans ?_ (Below.mono hb6 ?_)) | (with_reducible refine Below.trans ?_ (Below.mono hb7 ?_)) | (with_reducible refine Below.trans ?_ (Below.mono hb8 ?_)) | (with_reducible refine Below.trans ?_ (Below.mono hb9 ?_)) | (with_reducible refine Below.trans ?_ (Below.mono hb10 ?_)) | (with_reducible refine Below.trans ?_ (Below.mono hb11 ?_)) | (with_reducible refine Below.trans ?_ (Below.mono hb12 ?_)) | (with_reducible refine Below.trans ?_ (Below.mono hb13 ?_)) | (with_reducible refine Below.trans ?_ (Below.mono hb14 ?_)) | (with_reducible refine Below.trans ?_ (Below.mono hb15 ?_)) | omega | (simp; done) | (simp; omega)))
      clear hK K
      simp only [Act.put, List.setIfInBounds_toArray, List.set_cons_zero, List.set_cons_succ]
      refine rtake (i := 1) (d := (some 114)) (v := ?_) rfl (by kernel_rfl) (by kernel_rfl) (by kernel_rfl) (by kernel_rfl) (fun _ _ _ h => h) (by kernel_rfl) (by assumption) ?_ ?_
      rotate_left 1
      · (intro wI hSI; (try dsimp only at hSI); go_simp; (try with_reducible rfl))
      simp only [Act.put, List.setIfInBounds_toArray, List.set_cons_zero, List.set_cons_succ]
      refine rtake (i := 2) (d := (some 115)) (v := ?_) rfl (by kernel_rfl) (by kernel_rfl) (by kernel_rfl) (by kernel_rfl) (fun _ _ _ h => h) (by kernel_rfl) (by assumption) ?_ ?_
      rotate_left 1
      · (intro wI hSI; (try dsimp only at hSI); go_simp; (try with_reducible rfl))
      simp only [Act.put, List.setIfInBounds_toArray, List.set_cons_zero, List.set_cons_succ]
      refine rtake (i := 3) (d := (some 116)) (v := ?_) rfl (by kernel_rfl) (by kernel_rfl) (by kernel_rfl) (by kernel_rfl) (fun _ _ _ h => h) (by kernel_rfl) (by assumption) ?_ ?_
      rotate_left 1
      · (intro wI hSI; (try dsimp only at hSI); go_simp; (try with_reducible rfl))
      simp only [Act.put, List.setIfInBounds_toArray, List.set_cons_zero, List.set_cons_succ]
      refine rtake (i := 4) (d := (some 117)) (v := ?_) rfl (by kernel_rfl) (by kernel_rfl) (by kernel_rfl) (by kernel_rfl) (fun _ _ _ h => h) (by kernel_rfl) (by assumption) ?_ ?_
      rotate_left 1
      · (intro wI hSI; (try dsimp only at hSI); go_simp; (try with_reducible rfl))
      simp only [Act.put, List.setIfInBounds_toArray, List.set_cons_zero, List.set_cons_succ]
      refine rskip (i := 5) (d := (some 118)) rfl (by kernel_rfl) (by kernel_rfl) (by kernel_rfl) (by kernel_rfl) (fun _ _ _ h => h) (by kernel_rfl) (by assumption) ?_
      simp only [Act.put, List.setIfInBounds_toArray, List.set_cons_zero, List.set_cons_succ]
      refine rskip (i := 6) (d := (some 119)) rfl (by kernel_rfl) (by kernel_rfl) (by kernel_rfl) (by kernel_rfl) (fun _ _ _ h => h) (by kernel_rfl) (by assumption) ?_
      simp only [Act.put, List.setIfInBounds_toArray, List.set_cons_zero, List.set_cons_succ]
      refine rskip (i := 7) (d := (some 120)) rfl (by kernel_rfl) (by kernel_rfl) (by kernel_rfl) (by kernel_rfl) (fun _ _ _ h => h) (by kernel_rfl) (by assumption) ?_
      simp only [Act.put, List.setIfInBounds_toArray, List.set_cons_zero, List.set_cons_succ]
      refine rskip (i := 8) (d := (some 121)) rfl (by kernel_rfl) (by kernel_rfl) (by kernel_rfl) (by kernel_rfl) (fun _ _ _ h => h) (by kernel_rfl) (by assumption) ?_
      simp only [Act.put, List.setIfInBounds_toArray, List.set_cons_zero, List.set_cons_succ]
      refine rskip (i := 9) (d := (some 122)) rfl (by kernel_rfl) (by kernel_rfl) (by kernel_rfl) (by kernel_rfl) (fun _ _ _ h => h) (by kernel_rfl) (by assumption) ?_
      simp only [Act.put, List.setIfInBounds_toArray, List.set_cons_zero, List.set_cons_succ]
      refine rskip (i := 10) (d := (some 123)) rfl (by kernel_rfl) (by kernel_rfl) (by kernel_rfl) (by kernel_rfl) (fun _ _ _ h => h) (by kernel_rfl) (by assumption) ?_
      simp only [Act.put, List.setIfInBounds_toArray, List.set_cons_zero, List.set_cons_succ]
      refine rskip (i := 11) (d := (some 124)) rfl (by kernel_rfl) (by kernel_rfl) (by kernel_rfl) (by kernel_rfl) (fun _ _ _ h => h) (by kernel_rfl) (by assumption) ?_
      simp only [Act.put, List.setIfInBounds_toArray, List.set_cons_zero, List.set_cons_succ]
      refine rskip (i := 12) (d := (some 125)) rfl (by kernel_rfl) (by kernel_rfl) (by kernel_rfl) (by kernel_rfl) (fun _ _ _ h => h) (by kernel_rfl) (by assumption) ?_
      simp only [Act.put, List.setIfInBounds_toArray, List.set_cons_zero, List.set_cons_succ]
      refine rskip (i := 13) (d := (some 126)) rfl (by kernel_rfl) (by kernel_rfl) (by kernel_rfl) (by kernel_rfl) (fun _ _ _ h => h) (by kernel_rfl) (by assumption) ?_
      simp only [Act.put, List.setIfInBounds_toArray, List.set_cons_zero, List.set_cons_succ]
      refine rskip (i := 14) (d := (some 127)) rfl (by kernel_rfl) (by kernel_rfl) (by kernel_rfl) (by kernel_rfl) (fun _ _ _ h => h) (by kernel_rfl) (by assumption) ?_
      simp only [Act.put, List.setIfInBounds_toArray, List.set_cons_zero, List.set_cons_succ]
      refine rskip (i := 15) (d := (some 128)) rfl (by kernel_rfl) (by kernel_rfl) (by kernel_rfl) (by kernel_rfl) (fun _ _ _ h => h) (by kernel_rfl) (by assumption) ?_
      simp only [Act.put, List.setIfInBounds_toArray, List.set_cons_zero, List.set_cons_succ]
      refine rskip (i := 16) (d := (some 129)) rfl (by kernel_rfl) (by kernel_rfl) (by kernel_rfl) (by kernel_rfl) (fun _ _ _ h => h) (by kernel_rfl) (by assumption) ?_
      simp only [Act.put, List.setIfInBounds_toArray, List.set_cons_zero, List.set_cons_succ]
      refine rskip (i := 17) (d := (some 130)) rfl (by kernel_rfl) (by kernel_rfl) (by kernel_rfl) (by kernel_rfl) (fun _ _ _ h => h) (by kernel_rfl) (by assumption) ?_
      simp only [Act.put, List.setIfInBounds_toArray, List.set_cons_zero, List.set_cons_succ]
      refine rskip (i := 18) (d := (some 131)) rfl (by kernel_rfl) (by kernel_rfl) (by kernel_rfl) (by kernel_rfl) (fun _ _ _ h => h) (by kernel_rfl) (by assumption) ?_
      simp only [Act.put, List.setIfInBounds_toArray, List.set_cons_zero, List.set_cons_succ]
      refine rtake (i := 19) (d := (some 132)) (v := ?_) rfl (by kernel_rfl) (by kernel_rfl) (by kernel_rfl) (by kernel_rfl) (fun _ _ _ h => h) (by kernel_rfl) (by assumption) ?_ ?_
      rotate_left 1
      · (intro wI hSI; (try dsimp only at hSI); go_simp; (try with_reducible rfl))
      simp only [Act.put, List.setIfInBounds_toArray, List.set_cons_zero, List.set_cons_succ]
      refine rtake (i := 20) (d := (some 133)) (v := ?_) rfl (by kernel_rfl) (by kernel_rfl) (by kernel_rfl) (by kernel_rfl) (fun _ _ _ h => h) (by kernel_rfl) (by assumption) ?_ ?_
      rotate_left 1
      · (intro wI hSI; (try dsimp only at hSI); go_simp; (try with_reducible rfl))
      simp only [Act.put, List.setIfInBounds_toArray, List.set_cons_zero, List.set_cons_succ]
      refine rtake (i := 21) (d := (some 2)) (v := ?_) rfl (by kernel_rfl) (by kernel_rfl) (by kernel_rfl) (by kernel_rfl) (fun _ _ _ h => h) (by kernel_rfl) (by assumption) ?_ ?_
      rotate_left 1
      · (intro wI hSI; (try dsimp only at hSI); go_simp; (try with_reducible rfl))
      simp only [Act.put, List.setIfInBounds_toArray, List.set_cons_zero, List.set_cons_succ]
      refine wpAnyH_done (by kernel_rfl) ?_ _
      go_wp2_with fail
      go_ret
      exact ⟨rfl, by (repeat' (first | exact Below.refl _ _ | assumption | refine Below.setCell ?_ ?_ _ | refine below_drewN ?_ _ | refine Below.drew ?_ | refine Below.alloc ?_ ?_ _ | (with_reducible refine Below.trans ?_ (Below.mono hb ?_)) | (with_reducible refine Below.trans ?_ (Below.mono hb1 ?_)) | (with_reducible refine Below.trans ?_ (Below.mono hb2 ?_)) | (with_reducible refine Below.trans ?_ (Below.mono hb3 ?_)) | (with_reducible refine Below.trans ?_ (Below.mono hb4 ?_)) | (with_reducible refine Below.trans ?_ (Below.mono hb5 ?_)) | (with_reducible refine Below.trans ?_ (Below.mono hb6 ?_)) | (with_reducible refine Below.trans ?_ (Below.mono hb7 ?_)) | (with_reducible refine Below.trans ?_ (Below.mono hb8 ?_)) | (with_reducible refine Below.trans ?_ (Below.mono hb9 ?_)) | (with_reducible refine Below.trans ?_ (Below.mono hb10 ?_)) | (with_reducible refine Below.trans ?_ (Below.mono hb11 ?_)) | (with_reducible refine Below.trans ?_ (Below.mono hb12 ?_)) | (with_reducible refine Below.trans ?_ (Below.mono hb13 ?_)) | (with_reducible refine Below.trans ?_ (Below.mono hb14 ?_)) | (with_reducible refine Below.trans ?_ (Below.mono hb15 ?_)) | omega | (simp; done) | (simp; omega)))⟩
    · have hpos : 1 ≤ (ab l x).length := by
        obtain ⟨t, ht⟩ := Option.isSome_iff_exists.1 hx
        unfold ab
        rw [ForestPure.aboveN, ht]
        simp
      have HNo := Lib.hid (fun w h => nearOf_any l a cap x y w h (by omega) hpos)
      rw [hx] at hE1 HHx
      simp at hE1
      subst hE1
      rw [if_neg (by simp)] at hE2
      have he6 := He6.out rfl
      have he7 := He7.out rfl
      subst he6
      subst he7
      clear He6 He7
      cases hy2 : (ForestPure.topicOf l y).isSome
      · rw [hy2] at hE2 HHy
        simp at hE2
        subst hE2
        go_wp2_with fail
        refine (HM.out w7 hsaw7).mono ?_
        rintro e w8 ⟨hb8, rfl⟩
        have hsaw8 := hsaw7.below hb8
        have hb8' := below_next hb7' hb8
        clear hb7' hsaw7
        try rw [if_neg (by decide)]
        try rw [if_pos rfl]
        go_wp2_with fail
        refine (HNr.out w8 hsaw8).mono ?_
        rintro e w9 ⟨hb9, rfl⟩
        try rw [if_neg (by decide)]
        try rw [if_pos rfl]
        have hsaw9 := hsaw8.below hb9
        have hb9' := below_next hb8' hb9
        have hsc9 := (Hsa6.out.below hb8).below hb9
        have hsd9 := (Hsa7.out.below hb8).below hb9
        clear hb8' hb9 hb8 hsaw8 HM HNr Hsa6 Hsa7
        have hz9 := hb9'.size
        have hbx := Box.new w9 37 #[.int .i64 (0), .int .i64 (0)]
        go_wp2_with fail
        refine (HHx.out _ (hsaw9.alloc _)).mono ?_
        rintro e w10 ⟨rfl, hb10⟩
        have hz10 := hb10.size
        simp at hz10
        have hb10' : Below w.heap.size w w10 := by (repeat' (first | exact Below.refl _ _ | assumption | refine Below.setCell ?_ ?_ _ | refine below_drewN ?_ _ | refine Below.drew ?_ | refine Below.alloc ?_ ?_ _ | (with_reducible refine Below.trans ?_ (Below.mono hb ?_)) | (with_reducible refine Below.trans ?_ (Below.mono hb1 ?_)) | (with_reducible refine Below.trans ?_ (Below.mono hb2 ?_)) | (with_reducible refine Below.trans ?_ (Below.mono hb3 ?_)) | (with_reducible refine Below.trans ?_ (Below.mono hb4 ?_)) | (with_reducible refine Below.trans ?_ (Below.mono hb5 ?_)) | (with_reducible refine Below.trans ?_ (Below.mono hb6 ?_)) | (with_reducible refine Below.trans ?_ (Below.mono hb7 ?_)) | (with_reducible refine Below.trans ?_ (Below.mono hb8 ?_)) | (with_reducible refine Below.trans ?_ (Below.mono hb9 ?_)) | (with_reducible refine Below.trans ?_ (Below.mono hb10 ?_)) | (with_reducible refine Below.trans ?_ (Below.mono hb11 ?_)) | (with_reducible refine Below.trans ?_ (Below.mono hb12 ?_)) | (with_reducible refine Below.trans ?_ (Below.mono hb13 ?_)) | (with_reducible refine Below.trans ?_ (Below.mono hb14 ?_)) | (with_reducible refine Below.trans ?_ (Below.mono hb15 ?_)) | omega | (simp; done) | (simp; omega)))
        have hsaw10 := (hsaw9.alloc (.cells #[.int .i64 (0), .int .i64 (0)] 37)).below hb10
        have hsc10 := (hsc9.alloc (.cells #[.int .i64 (0), .int .i64 (0)] 37)).below hb10
        have hsd10 := (hsd9.alloc (.cells #[.int .i64 (0), .int .i64 (0)] 37)).below hb10
        have hbx10 := hbx.below hb10
        clear hb10 hsaw9 hsc9 hsd9 hbx hb9'
        go_wp2_with fail
        refine (HHy.out _ hsaw10).mono ?_
        rintro e w11 ⟨rfl, hb11⟩
        have hb11' := below_next hb10' hb11
        have hsaw11 := hsaw10.below hb11
        have hsc11 := hsc10.below hb11
        have hsd11 := hsd10.below hb11
        have hbx11 := hbx10.below hb11
        clear hb10' hb11 hsaw10 hsc10 hsd10 hbx10
        go_wp2_with fail
        refine (HAo.out _ hsaw11).mono ?_
        rintro e w12 ⟨v, rfl, hown, hb12⟩
        obtain ⟨a12, cap12, rfl, hsa12, _, _⟩ := hown.sa
        have hb12' := below_next hb11' hb12
        have hsaw12 := hsaw11.below hb12
        have hsc12 : SA w12 a6 (ab l x) := hsc11.below hb12
        have hsd12 : SA w12 a7 (belowS l x) := hsd11.below hb12
        have hbx12 := hbx11.below hb12
        clear hb11' hb12 hsaw11 hsc11 hsd11 hbx11 hown
        change SA w12 a12 (ab l x) at hsa12
        have HQ := Lib.hid (fun cap cap' => equal_any (ab l x) (ab l x) a6 a12 cap cap' w12 hsc12 hsa12 (by omega) (by omega))
        rw [decide_eq_true rfl] at HQ
        go_wp2_with fail
        refine (HQ.out _ _).mono ?_
        rintro e w13 ⟨rfl, n13, rfl⟩
        clear HQ hsa12 hsc12
        go_wp2_with fail
        refine (HBo.out _ (hsaw12.drewN _)).mono ?_
        rintro e w14 ⟨v, rfl, hown, hb14⟩
        obtain ⟨a14, cap14, rfl, hsa14, _, _⟩ := hown.sa
        have hb14' : Below w.heap.size w w14 := below_next (below_drewN hb12' n13) hb14
        have hsaw14 := (hsaw12.drewN _).below hb14
        have hsd14 : SA w14 a7 (belowS l x) := (hsd12.drewN _).below hb14
        have hbx14 := (hbx12.drewN n13).below hb14
        clear hb12' hb14 hsaw12 hsd12 hown hbx12
        have HQ := Lib.hid (fun cap cap' => equal_any (belowS l x) (belowS l x) a7 a14 cap cap' w14 hsd14 hsa14 (by omega) (by omega))
        rw [decide_eq_true rfl] at HQ
        go_wp2_with fail
        refine (HQ.out _ _).mono ?_
        rintro e w15 ⟨rfl, n15, rfl⟩
        have hb15' : Below w.heap.size w (w14.drewN n15) := below_drewN hb14' n15
        have hsaw15 := hsaw14.drewN n15
        have hbx15 := hbx14.drewN n15
        have hz := hb15'.size
        clear HQ hsa14 hsd14 hb14' hsaw14 hbx14
        generalize w14.drewN n15 = w15 at *
        go_wp2_with fail
        refine wp_region_held_drew (S := (fun wx => Below w.heap.size w wx)) (by kernel_rfl) ?hS (fun hHeld => ?_)
        case hS => (repeat' (first | exact Below.refl _ _ | assumption | refine Below.setCell ?_ ?_ _ | refine below_drewN ?_ _ | refine Below.drew ?_ | refine Below.alloc ?_ ?_ _ | (with_reducible refine Below.trans ?_ (Below.mono hb ?_)) | (with_reducible refine Below.trans ?_ (Below.mono hb1 ?_)) | (with_reducible refine Below.trans ?_ (Below.mono hb2 ?_)) | (with_reducible refine Below.trans ?_ (Below.mono hb3 ?_)) | (with_reducible refine Below.trans ?_ (Below.mono hb4 ?_)) | (with_reducible refine Below.trans ?_ (Below.mono hb5 ?_)) | (with_reducible refine Below.trans ?_ (Below.mono hb6 ?_)) | (with_reducible refine Below.trans ?_ (Below.mono hb7 ?_)) | (with_reducible refine Below.trans ?_ (Below.mono hb8 ?_)) | (with_reducible refine Below.trans ?_ (Below.mono hb9 ?_)) | (with_reducible refine Below.trans ?_ (Below.mono hb10 ?_)) | (with_reducible refine Below.trans ?_ (Below.mono hb11 ?_)) | (with_reducible refine Below.trans ?_ (Below.mono hb12 ?_)) | (with_reducible refine Below.trans ?_ (Below.mono hb13 ?_)) | (with_reducible refine Below.trans ?_ (Below.mono hb14 ?_)) | (with_reducible refine Below.trans ?_ (Below.mono hb15 ?_)) | omega | (simp; done) | (simp; omega)))
        refine rcall (i := 0) (d := (some 113)) (by kernel_rfl) rfl (by kernel_rfl) (fun K hK => ?_)
        go_simp
        go_at_call 17; refine (topics_any _).mono ?_; rintro e w' ⟨rfl, hb3⟩
        refine hK.out _ _ ?hS (fun hHeld => ?_)
        case hS => (repeat' (first | exact Below.refl _ _ | assumption | refine Below.setCell ?_ ?_ _ | refine below_drewN ?_ _ | refine Below.drew ?_ | refine Below.alloc ?_ ?_ _ | (with_reducible refine Below.trans ?_ (Below.mono hb ?_)) | (with_reducible refine Below.trans ?_ (Below.mono hb1 ?_)) | (with_reducible refine Below.trans ?_ (Below.mono hb2 ?_)) | (with_reducible refine Below.trans ?_ (Below.mono hb3 ?_)) | (with_reducible refine Below.trans ?_ (Below.mono hb4 ?_)) | (with_reducible refine Below.trans ?_ (Below.mono hb5 ?_)) | (with_reducible refine Below.trans ?_ (Below.mono hb6 ?_)) | (with_reducible refine Below.trans ?_ (Below.mono hb7 ?_)) | (with_reducible refine Below.trans ?_ (Below.mono hb8 ?_)) | (with_reducible refine Below.trans ?_ (Below.mono hb9 ?_)) | (with_reducible refine Below.trans ?_ (Below.mono hb10 ?_)) | (with_reducible refine Below.trans ?_ (Below.mono hb11 ?_)) | (with_reducible refine Below.trans ?_ (Below.mono hb12 ?_)) | (with_reducible refine Below.trans ?_ (Below.mono hb13 ?_)) | (with_reducible refine Below.trans ?_ (Below.mono hb14 ?_)) | (with_reducible refine Below.trans ?_ (Below.mono hb15 ?_)) | omega | (simp; done) | (simp; omega)))
        clear hK K
        simp only [Act.put, List.setIfInBounds_toArray, List.set_cons_zero, List.set_cons_succ]
        refine rtake (i := 1) (d := (some 114)) (v := ?_) rfl (by kernel_rfl) (by kernel_rfl) (by kernel_rfl) (by kernel_rfl) (fun _ _ _ h => h) (by kernel_rfl) (by assumption) ?_ ?_
        rotate_left 1
        · (intro wI hSI; (try dsimp only at hSI); go_simp; (try with_reducible rfl))
        simp only [Act.put, List.setIfInBounds_toArray, List.set_cons_zero, List.set_cons_succ]
        refine rtake (i := 2) (d := (some 115)) (v := ?_) rfl (by kernel_rfl) (by kernel_rfl) (by kernel_rfl) (by kernel_rfl) (fun _ _ _ h => h) (by kernel_rfl) (by assumption) ?_ ?_
        rotate_left 1
        · (intro wI hSI; (try dsimp only at hSI); go_simp; (try with_reducible rfl))
        simp only [Act.put, List.setIfInBounds_toArray, List.set_cons_zero, List.set_cons_succ]
        refine rtake (i := 3) (d := (some 116)) (v := ?_) rfl (by kernel_rfl) (by kernel_rfl) (by kernel_rfl) (by kernel_rfl) (fun _ _ _ h => h) (by kernel_rfl) (by assumption) ?_ ?_
        rotate_left 1
        · (intro wI hSI; (try dsimp only at hSI); go_simp; (try with_reducible rfl))
        simp only [Act.put, List.setIfInBounds_toArray, List.set_cons_zero, List.set_cons_succ]
        refine rtake (i := 4) (d := (some 117)) (v := ?_) rfl (by kernel_rfl) (by kernel_rfl) (by kernel_rfl) (by kernel_rfl) (fun _ _ _ h => h) (by kernel_rfl) (by assumption) ?_ ?_
        rotate_left 1
        · (intro wI hSI; (try dsimp only at hSI); go_simp; (try with_reducible rfl))
        simp only [Act.put, List.setIfInBounds_toArray, List.set_cons_zero, List.set_cons_succ]
        refine rskip (i := 5) (d := (some 118)) rfl (by kernel_rfl) (by kernel_rfl) (by kernel_rfl) (by kernel_rfl) (fun _ _ _ h => h) (by kernel_rfl) (by assumption) ?_
        simp only [Act.put, List.setIfInBounds_toArray, List.set_cons_zero, List.set_cons_succ]
        refine rskip (i := 6) (d := (some 119)) rfl (by kernel_rfl) (by kernel_rfl) (by kernel_rfl) (by kernel_rfl) (fun _ _ _ h => h) (by kernel_rfl) (by assumption) ?_
        simp only [Act.put, List.setIfInBounds_toArray, List.set_cons_zero, List.set_cons_succ]
        refine rskip (i := 7) (d := (some 120)) rfl (by kernel_rfl) (by kernel_rfl) (by kernel_rfl) (by kernel_rfl) (fun _ _ _ h => h) (by kernel_rfl) (by assumption) ?_
        simp only [Act.put, List.setIfInBounds_toArray, List.set_cons_zero, List.set_cons_succ]
        refine rskip (i := 8) (d := (some 121)) rfl (by kernel_rfl) (by kernel_rfl) (by kernel_rfl) (by kernel_rfl) (fun _ _ _ h => h) (by kernel_rfl) (by assumption) ?_
        simp only [Act.put, List.setIfInBounds_toArray, List.set_cons_zero, List.set_cons_succ]
        refine rskip (i := 9) (d := (some 122)) rfl (by kernel_rfl) (by kernel_rfl) (by kernel_rfl) (by kernel_rfl) (fun _ _ _ h => h) (by kernel_rfl) (by assumption) ?_
        simp only [Act.put, List.setIfInBounds_toArray, List.set_cons_zero, List.set_cons_succ]
        refine rskip (i := 10) (d := (some 123)) rfl (by kernel_rfl) (by kernel_rfl) (by kernel_rfl) (by kernel_rfl) (fun _ _ _ h => h) (by kernel_rfl) (by assumption) ?_
        simp only [Act.put, List.setIfInBounds_toArray, List.set_cons_zero, List.set_cons_succ]
        refine rskip (i := 11) (d := (some 124)) rfl (by kernel_rfl) (by kernel_rfl) (by kernel_rfl) (by kernel_rfl) (fun _ _ _ h => h) (by kernel_rfl) (by assumption) ?_
        simp only [Act.put, List.setIfInBounds_toArray, List.set_cons_zero, List.set_cons_succ]
        refine rskip (i := 12) (d := (some 125)) rfl (by kernel_rfl) (by kernel_rfl) (by kernel_rfl) (by kernel_rfl) (fun _ _ _ h => h) (by kernel_rfl) (by assumption) ?_
        simp only [Act.put, List.setIfInBounds_toArray, List.set_cons_zero, List.set_cons_succ]
        refine rskip (i := 13) (d := (some 126)) rfl (by kernel_rfl) (by kernel_rfl) (by kernel_rfl) (by kernel_rfl) (fun _ _ _ h => h) (by kernel_rfl) (by assumption) ?_
        simp only [Act.put, List.setIfInBounds_toArray, List.set_cons_zero, List.set_cons_succ]
        refine rskip (i := 14) (d := (some 127)) rfl (by kernel_rfl) (by kernel_rfl) (by kernel_rfl) (by kernel_rfl) (fun _ _ _ h => h) (by kernel_rfl) (by assumption) ?_
        simp only [Act.put, List.setIfInBounds_toArray, List.set_cons_zero, List.set_cons_succ]
        refine rskip (i := 15) (d := (some 128)) rfl (by kernel_rfl) (by kernel_rfl) (by kernel_rfl) (by kernel_rfl) (fun _ _ _ h => h) (by kernel_rfl) (by assumption) ?_
        simp only [Act.put, List.setIfInBounds_toArray, List.set_cons_zero, List.set_cons_succ]
        refine rskip (i := 16) (d := (some 129)) rfl (by kernel_rfl) (by kernel_rfl) (by kernel_rfl) (by kernel_rfl) (fun _ _ _ h => h) (by kernel_rfl) (by assumption) ?_
        simp only [Act.put, List.setIfInBounds_toArray, List.set_cons_zero, List.set_cons_succ]
        refine rskip (i := 17) (d := (some 130)) rfl (by kernel_rfl) (by kernel_rfl) (by kernel_rfl) (by kernel_rfl) (fun _ _ _ h => h) (by kernel_rfl) (by assumption) ?_
        simp only [Act.put, List.setIfInBounds_toArray, List.set_cons_zero, List.set_cons_succ]
        refine rskip (i := 18) (d := (some 131)) rfl (by kernel_rfl) (by kernel_rfl) (by kernel_rfl) (by kernel_rfl) (fun _ _ _ h => h) (by kernel_rfl) (by assumption) ?_
        simp only [Act.put, List.setIfInBounds_toArray, List.set_cons_zero, List.set_cons_succ]
        refine rtake (i := 19) (d := (some 132)) (v := ?_) rfl (by kernel_rfl) (by kernel_rfl) (by kernel_rfl) (by kernel_rfl) (fun _ _ _ h => h) (by kernel_rfl) (by assumption) ?_ ?_
        rotate_left 1
        · (intro wI hSI; (try dsimp only at hSI); go_simp; (try with_reducible rfl))
        simp only [Act.put, List.setIfInBounds_toArray, List.set_cons_zero, List.set_cons_succ]
        refine rtake (i := 20) (d := (some 133)) (v := ?_) rfl (by kernel_rfl) (by kernel_rfl) (by kernel_rfl) (by kernel_rfl) (fun _ _ _ h => h) (by kernel_rfl) (by assumption) ?_ ?_
        rotate_left 1
        · (intro wI hSI; (try dsimp only at hSI); go_simp; (try with_reducible rfl))
        simp only [Act.put, List.setIfInBounds_toArray, List.set_cons_zero, List.set_cons_succ]
        refine rtake (i := 21) (d := (some 2)) (v := ?_) rfl (by kernel_rfl) (by kernel_rfl) (by kernel_rfl) (by kernel_rfl) (fun _ _ _ h => h) (by kernel_rfl) (by assumption) ?_ ?_
        rotate_left 1
        · (intro wI hSI; (try dsimp only at hSI); go_simp; (try with_reducible rfl))
        simp only [Act.put, List.setIfInBounds_toArray, List.set_cons_zero, List.set_cons_succ]
        refine wpAnyH_done (by kernel_rfl) ?_ _
        go_wp2_with fail
        go_ret
        exact ⟨rfl, by (repeat' (first | exact Below.refl _ _ | assumption | refine Below.setCell ?_ ?_ _ | refine below_drewN ?_ _ | refine Below.drew ?_ | refine Below.alloc ?_ ?_ _ | (with_reducible refine Below.trans ?_ (Below.mono hb ?_)) | (with_reducible refine Below.trans ?_ (Below.mono hb1 ?_)) | (with_reducible refine Below.trans ?_ (Below.mono hb2 ?_)) | (with_reducible refine Below.trans ?_ (Below.mono hb3 ?_)) | (with_reducible refine Below.trans ?_ (Below.mono hb4 ?_)) | (with_reducible refine Below.trans ?_ (Below.mono hb5 ?_)) | (with_reducible refine Below.trans ?_ (Below.mono hb6 ?_)) | (with_reducible refine Below.trans ?_ (Below.mono hb7 ?_)) | (with_reducible refine Below.trans ?_ (Below.mono hb8 ?_)) | (with_reducible refine Below.trans ?_ (Below.mono hb9 ?_)) | (with_reducible refine Below.trans ?_ (Below.mono hb10 ?_)) | (with_reducible refine Below.trans ?_ (Below.mono hb11 ?_)) | (with_reducible refine Below.trans ?_ (Below.mono hb12 ?_)) | (with_reducible refine Below.trans ?_ (Below.mono hb13 ?_)) | (with_reducible refine Below.trans ?_ (Below.mono hb14 ?_)) | (with_reducible refine Below.trans ?_ (Below.mono hb15 ?_)) | omega | (simp; done) | (simp; omega)))⟩
      · rw [hy2] at hE2 HHy
        simp at hE2
        subst hE2
        go_wp2_with fail
        refine (HM.out w7 hsaw7).mono ?_
        rintro e w8 ⟨hb8, rfl⟩
        have hsaw8 := hsaw7.below hb8
        have hb8' := below_next hb7' hb8
        clear hb7' hsaw7
        try rw [if_neg (by decide)]
        try rw [if_pos rfl]
        go_wp2_with fail
        refine (HNr.out w8 hsaw8).mono ?_
        rintro e w9 ⟨hb9, rfl⟩
        try rw [if_neg (by decide)]
        try rw [if_pos rfl]
        have hsaw9 := hsaw8.below hb9
        have hb9' := below_next hb8' hb9
        have hsc9 := (Hsa6.out.below hb8).below hb9
        have hsd9 := (Hsa7.out.below hb8).below hb9
        clear hb8' hb9 hb8 hsaw8 HM HNr Hsa6 Hsa7
        have hz9 := hb9'.size
        obtain ⟨p, q, hpq⟩ : ∃ p q, nearV l x y = .agg #[.int .i64 p, .int .i64 q] := by
          unfold nearV
          split
          · exact ⟨_, _, rfl⟩
          · exact ⟨_, _, rfl⟩
        rw [hpq] at HNo ⊢
        generalize hm : meetS l x y = ms at HMo ⊢
        clear hpq hm
        have hbx := Box.new w9 37 #[.int .i64 (p), .int .i64 (q)]
        go_wp2_with fail
        refine (HHx.out _ (hsaw9.alloc _)).mono ?_
        rintro e w10 ⟨rfl, hb10⟩
        have hz10 := hb10.size
        simp at hz10
        have hb10' : Below w.heap.size w w10 := by (repeat' (first | exact Below.refl _ _ | assumption | refine Below.setCell ?_ ?_ _ | refine below_drewN ?_ _ | refine Below.drew ?_ | refine Below.alloc ?_ ?_ _ | (with_reducible refine Below.trans ?_ (Below.mono hb ?_)) | (with_reducible refine Below.trans ?_ (Below.mono hb1 ?_)) | (with_reducible refine Below.trans ?_ (Below.mono hb2 ?_)) | (with_reducible refine Below.trans ?_ (Below.mono hb3 ?_)) | (with_reducible refine Below.trans ?_ (Below.mono hb4 ?_)) | (with_reducible refine Below.trans ?_ (Below.mono hb5 ?_)) | (with_reducible refine Below.trans ?_ (Below.mono hb6 ?_)) | (with_reducible refine Below.trans ?_ (Below.mono hb7 ?_)) | (with_reducible refine Below.trans ?_ (Below.mono hb8 ?_)) | (with_reducible refine Below.trans ?_ (Below.mono hb9 ?_)) | (with_reducible refine Below.trans ?_ (Below.mono hb10 ?_)) | (with_reducible refine Below.trans ?_ (Below.mono hb11 ?_)) | (with_reducible refine Below.trans ?_ (Below.mono hb12 ?_)) | (with_reducible refine Below.trans ?_ (Below.mono hb13 ?_)) | (with_reducible refine Below.trans ?_ (Below.mono hb14 ?_)) | (with_reducible refine Below.trans ?_ (Below.mono hb15 ?_)) | omega | (simp; done) | (simp; omega)))
        have hsaw10 := (hsaw9.alloc (.cells #[.int .i64 (p), .int .i64 (q)] 37)).below hb10
        have hsc10 := (hsc9.alloc (.cells #[.int .i64 (p), .int .i64 (q)] 37)).below hb10
        have hsd10 := (hsd9.alloc (.cells #[.int .i64 (p), .int .i64 (q)] 37)).below hb10
        have hbx10 := hbx.below hb10
        clear hb10 hsaw9 hsc9 hsd9 hbx hb9'
        go_wp2_with fail
        refine (HHy.out _ hsaw10).mono ?_
        rintro e w11 ⟨rfl, hb11⟩
        have hb11' := below_next hb10' hb11
        have hsaw11 := hsaw10.below hb11
        have hsc11 := hsc10.below hb11
        have hsd11 := hsd10.below hb11
        have hbx11 := hbx10.below hb11
        clear hb10' hb11 hsaw10 hsc10 hsd10 hbx10
        go_wp2_with fail
        refine (HAo.out _ hsaw11).mono ?_
        rintro e w12 ⟨v, rfl, hown, hb12⟩
        obtain ⟨a12, cap12, rfl, hsa12, _, _⟩ := hown.sa
        have hb12' := below_next hb11' hb12
        have hsaw12 := hsaw11.below hb12
        have hsc12 : SA w12 a6 (ab l x) := hsc11.below hb12
        have hsd12 : SA w12 a7 (belowS l x) := hsd11.below hb12
        have hbx12 := hbx11.below hb12
        clear hb11' hb12 hsaw11 hsc11 hsd11 hbx11 hown
        change SA w12 a12 (ab l x) at hsa12
        have HQ := Lib.hid (fun cap cap' => equal_any (ab l x) (ab l x) a6 a12 cap cap' w12 hsc12 hsa12 (by omega) (by omega))
        rw [decide_eq_true rfl] at HQ
        go_wp2_with fail
        refine (HQ.out _ _).mono ?_
        rintro e w13 ⟨rfl, n13, rfl⟩
        clear HQ hsa12 hsc12
        go_wp2_with fail
        refine (HBo.out _ (hsaw12.drewN _)).mono ?_
        rintro e w14 ⟨v, rfl, hown, hb14⟩
        obtain ⟨a14, cap14, rfl, hsa14, _, _⟩ := hown.sa
        have hb14' : Below w.heap.size w w14 := below_next (below_drewN hb12' n13) hb14
        have hsaw14 := (hsaw12.drewN _).below hb14
        have hsd14 : SA w14 a7 (belowS l x) := (hsd12.drewN _).below hb14
        have hbx14 := (hbx12.drewN n13).below hb14
        clear hb12' hb14 hsaw12 hsd12 hown hbx12
        have HQ := Lib.hid (fun cap cap' => equal_any (belowS l x) (belowS l x) a7 a14 cap cap' w14 hsd14 hsa14 (by omega) (by omega))
        rw [decide_eq_true rfl] at HQ
        go_wp2_with fail
        refine (HQ.out _ _).mono ?_
        rintro e w15 ⟨rfl, n15, rfl⟩
        have hb15' : Below w.heap.size w (w14.drewN n15) := below_drewN hb14' n15
        have hsaw15 := hsaw14.drewN n15
        have hbx15 := hbx14.drewN n15
        have hz := hb15'.size
        clear HQ hsa14 hsd14 hb14' hsaw14 hbx14
        generalize w14.drewN n15 = w15 at *
        have hbx0 : w15.cell? ⟨w9.heap.size, 0, none⟩ = some (.int .i64 p) := hbx15.cell 0
        have hbx1 : w15.cell? ⟨w9.heap.size, 1, none⟩ = some (.int .i64 q) := hbx15.cell 1
        go_wp2_with fail
        clear hx hy2 hff hfn hq8 hq8'
        refine wp_region_held_drew (S := (fun wx => wx.cell? ⟨w9.heap.size, 0, none⟩ = some (.int .i64 p) ∧ wx.cell? ⟨w9.heap.size, 1, none⟩ = some (.int .i64 q) ∧ Below w15.heap.size w15 wx)) (by kernel_rfl) ?hS (fun hHeld => ?_)
        case hS => exact ⟨hbx0, hbx1, (Below.refl _ _).drew⟩
        refine rcall (i := 0) (d := (some 113)) (by kernel_rfl) rfl (by kernel_rfl) (fun K hK => ?_)
        go_simp
        go_at_call 17; refine (topics_any _).mono ?_; rintro e w' ⟨rfl, hb3⟩
        refine hK.out _ _ ?hS (fun hHeld => ?_)
        case hS => exact ⟨cell_later hb3 hHeld.1, cell_later hb3 hHeld.2.1, hHeld.2.2.trans (hb3.mono hHeld.2.2.size)⟩
        clear hK K
        simp only [Act.put, List.setIfInBounds_toArray, List.set_cons_zero, List.set_cons_succ]
        refine rtake (i := 1) (d := (some 114)) (v := ?_) rfl (by kernel_rfl) (by kernel_rfl) (by kernel_rfl) (by kernel_rfl) (fun _ _ _ h => h) (by kernel_rfl) (by assumption) ?_ ?_
        rotate_left 1
        · (intro wI hSI; (try dsimp only at hSI); go_simp; (try with_reducible rfl))
        simp only [Act.put, List.setIfInBounds_toArray, List.set_cons_zero, List.set_cons_succ]
        refine rtake (i := 2) (d := (some 115)) (v := ?_) rfl (by kernel_rfl) (by kernel_rfl) (by kernel_rfl) (by kernel_rfl) (fun _ _ _ h => h) (by kernel_rfl) (by assumption) ?_ ?_
        rotate_left 1
        · (intro wI hSI; (try dsimp only at hSI); go_simp; (try with_reducible rfl))
        simp only [Act.put, List.setIfInBounds_toArray, List.set_cons_zero, List.set_cons_succ]
        refine rtake (i := 3) (d := (some 116)) (v := ?_) rfl (by kernel_rfl) (by kernel_rfl) (by kernel_rfl) (by kernel_rfl) (fun _ _ _ h => h) (by kernel_rfl) (by assumption) ?_ ?_
        rotate_left 1
        · (intro wI hSI; (try dsimp only at hSI); go_simp; (try with_reducible rfl))
        simp only [Act.put, List.setIfInBounds_toArray, List.set_cons_zero, List.set_cons_succ]
        refine rtake (i := 4) (d := (some 117)) (v := ?_) rfl (by kernel_rfl) (by kernel_rfl) (by kernel_rfl) (by kernel_rfl) (fun _ _ _ h => h) (by kernel_rfl) (by assumption) ?_ ?_
        rotate_left 1
        · (intro wI hSI; (try dsimp only at hSI); go_simp; (try with_reducible rfl))
        simp only [Act.put, List.setIfInBounds_toArray, List.set_cons_zero, List.set_cons_succ]
        refine rtake (i := 5) (d := (some 118)) (v := ?_) rfl (by kernel_rfl) (by kernel_rfl) (by kernel_rfl) (by kernel_rfl) (fun _ _ _ h => h) (by kernel_rfl) (by assumption) ?_ ?_
        rotate_left 1
        · (intro wI hSI; (try dsimp only at hSI); go_simp; (try with_reducible rfl))
        simp only [Act.put, List.setIfInBounds_toArray, List.set_cons_zero, List.set_cons_succ]
        refine rtake (i := 6) (d := (some 119)) (v := ?_) rfl (by kernel_rfl) (by kernel_rfl) (by kernel_rfl) (by kernel_rfl) (fun _ _ _ h => h) (by kernel_rfl) (by assumption) ?_ ?_
        rotate_left 1
        · (intro wI hSI; (try dsimp only at hSI); go_simp; (try with_reducible rfl))
        simp only [Act.put, List.setIfInBounds_toArray, List.set_cons_zero, List.set_cons_succ]
        refine rtake (i := 7) (d := (some 120)) (v := ?_) rfl (by kernel_rfl) (by kernel_rfl) (by kernel_rfl) (by kernel_rfl) (fun _ _ _ h => h) (by kernel_rfl) (by assumption) ?_ ?_
        rotate_left 1
        · (intro wI hSI; (try dsimp only at hSI); go_simp; (try with_reducible rfl))
        simp only [Act.put, List.setIfInBounds_toArray, List.set_cons_zero, List.set_cons_succ]
        refine rtake (i := 8) (d := (some 121)) (v := ?_) rfl (by kernel_rfl) (by kernel_rfl) (by kernel_rfl) (by kernel_rfl) (fun _ _ _ h => h) (by kernel_rfl) (by assumption) ?_ ?_
        rotate_left 1
        · (intro wI hSI; (try dsimp only at hSI); go_simp; (try with_reducible rfl))
        simp only [Act.put, List.setIfInBounds_toArray, List.set_cons_zero, List.set_cons_succ]
        refine rcall (i := 9) (d := (some 122)) (by kernel_rfl) rfl (by kernel_rfl) (fun K hK => ?_)
        go_simp
        go_at_call 18; refine (HMo.out _ (hsaw15.below hHeld.2.2)).mono ?_; rintro e w' ⟨rfl, hb4⟩
        refine hK.out _ _ ?hS (fun hHeld => ?_)
        case hS => exact ⟨cell_later hb4 hHeld.1, cell_later hb4 hHeld.2.1, hHeld.2.2.trans (hb4.mono hHeld.2.2.size)⟩
        clear hK K
        simp only [Act.put, List.setIfInBounds_toArray, List.set_cons_zero, List.set_cons_succ]
        refine rtake (i := 10) (d := (some 123)) (v := ?_) rfl (by kernel_rfl) (by kernel_rfl) (by kernel_rfl) (by kernel_rfl) (fun _ _ _ h => h) (by kernel_rfl) (by assumption) ?_ ?_
        rotate_left 1
        · (intro wI hSI; (try dsimp only at hSI); go_simp; (try with_reducible rfl))
        simp only [Act.put, List.setIfInBounds_toArray, List.set_cons_zero, List.set_cons_succ]
        refine rtake (i := 11) (d := (some 124)) (v := ?_) rfl (by kernel_rfl) (by kernel_rfl) (by kernel_rfl) (by kernel_rfl) (fun _ _ _ h => h) (by kernel_rfl) (by assumption) ?_ ?_
        rotate_left 1
        · (intro wI hSI; (try dsimp only at hSI); go_simp; (try with_reducible rfl))
        simp only [Act.put, List.setIfInBounds_toArray, List.set_cons_zero, List.set_cons_succ]
        refine rtake (i := 12) (d := (some 125)) (v := ?_) rfl (by kernel_rfl) (by kernel_rfl) (by kernel_rfl) (by kernel_rfl) (fun _ _ _ h => h) (by kernel_rfl) (by assumption) ?_ ?_
        rotate_left 1
        · (intro wI hSI; (try dsimp only at hSI); go_simp; (try with_reducible rfl))
        simp only [Act.put, List.setIfInBounds_toArray, List.set_cons_zero, List.set_cons_succ]
        refine rtake (i := 13) (d := (some 126)) (v := ?_) rfl (by kernel_rfl) (by kernel_rfl) (by kernel_rfl) (by kernel_rfl) (fun _ _ _ h => h) (by kernel_rfl) (by assumption) ?_ ?_
        rotate_left 1
        · (intro wI hSI; (try dsimp only at hSI); go_simp; (try with_reducible rfl))
        simp only [Act.put, List.setIfInBounds_toArray, List.set_cons_zero, List.set_cons_succ]
        refine rtake (i := 14) (d := (some 127)) (v := ?_) rfl (by kernel_rfl) (by kernel_rfl) (by kernel_rfl) (by kernel_rfl) (fun _ _ _ h => h) (by kernel_rfl) (by assumption) ?_ ?_
        rotate_left 1
        · (intro wI hSI; (try dsimp only at hSI); go_simp; (try with_reducible rfl))
        simp only [Act.put, List.setIfInBounds_toArray, List.set_cons_zero, List.set_cons_succ]
        refine rtake (i := 15) (d := (some 128)) (v := ?_) rfl (by kernel_rfl) (by kernel_rfl) (by kernel_rfl) (by kernel_rfl) (fun _ _ _ h => h) (by kernel_rfl) (by assumption) ?_ ?_
        rotate_left 1
        · (intro wI hSI; (try dsimp only at hSI); go_simp; (try with_reducible rfl))
        simp only [Act.put, List.setIfInBounds_toArray, List.set_cons_zero, List.set_cons_succ]
        refine rcall (i := 16) (d := (some 129)) (by kernel_rfl) rfl (by kernel_rfl) (fun K hK => ?_)
        go_simp
        go_at_call 19; refine (HNo.out _ (hsaw15.below hHeld.2.2)).mono ?_; rintro e w' ⟨rfl, hb5⟩
        refine hK.out _ _ ?hS (fun hHeld => ?_)
        case hS => exact ⟨cell_later hb5 hHeld.1, cell_later hb5 hHeld.2.1, hHeld.2.2.trans (hb5.mono hHeld.2.2.size)⟩
        clear hK K
        simp only [Act.put, List.setIfInBounds_toArray, List.set_cons_zero, List.set_cons_succ]
        refine rtake (i := 17) (d := (some 130)) (v := ?_) rfl (by kernel_rfl) (by kernel_rfl) (by kernel_rfl) (by kernel_rfl) (fun _ _ _ h => h) (by kernel_rfl) (by assumption) ?_ ?_
        rotate_left 1
        · (intro wI hSI; (try dsimp only at hSI); go_simp; (try with_reducible rfl))
        simp only [Act.put, List.setIfInBounds_toArray, List.set_cons_zero, List.set_cons_succ]
        refine rtake (i := 18) (d := (some 131)) (v := ?_) rfl (by kernel_rfl) (by kernel_rfl) (by kernel_rfl) (by kernel_rfl) (fun _ _ _ h => h) (by kernel_rfl) (by assumption) ?_ ?_
        rotate_left 1
        · (intro wI hSI; (try dsimp only at hSI); go_simp; (try with_reducible rfl))
        simp only [Act.put, List.setIfInBounds_toArray, List.set_cons_zero, List.set_cons_succ]
        refine rtake (i := 19) (d := (some 132)) (v := ?_) rfl (by kernel_rfl) (by kernel_rfl) (by kernel_rfl) (by kernel_rfl) (fun _ _ _ h => h) (by kernel_rfl) (by assumption) ?_ ?_
        rotate_left 1
        · (intro wI hSI; (try dsimp only at hSI); go_simp; (try with_reducible rfl))
        simp only [Act.put, List.setIfInBounds_toArray, List.set_cons_zero, List.set_cons_succ]
        refine rtake (i := 20) (d := (some 133)) (v := ?_) rfl (by kernel_rfl) (by kernel_rfl) (by kernel_rfl) (by kernel_rfl) (fun _ _ _ h => h) (by kernel_rfl) (by assumption) ?_ ?_
        rotate_left 1
        · (intro wI hSI; (try dsimp only at hSI); go_simp; (try with_reducible rfl))
        simp only [Act.put, List.setIfInBounds_toArray, List.set_cons_zero, List.set_cons_succ]
        refine rtake (i := 21) (d := (some 2)) (v := ?_) rfl (by kernel_rfl) (by kernel_rfl) (by kernel_rfl) (by kernel_rfl) (fun _ _ _ h => h) (by kernel_rfl) (by assumption) ?_ ?_
        rotate_left 1
        · (intro wI hSI; (try dsimp only at hSI); go_simp; (try with_reducible rfl))
        simp only [Act.put, List.setIfInBounds_toArray, List.set_cons_zero, List.set_cons_succ]
        refine wpAnyH_done (by kernel_rfl) ?_ _
        go_wp2_with fail
        go_ret
        exact ⟨rfl, hb15'.trans (hHeld.2.2.mono hz)⟩
  · obtain rfl : e1 = ff := by rw [HE1.out, if_pos h0]
    obtain rfl : e2 = e1 := by rw [HE2.out, if_pos h0]
    have hq : (e2 == 0) = false := by simpa using h0
    have hq2 : (e2 != 0) = true := by simpa using h0
    clear HE1 HE2
    go_wp2_with fail
    refine (HM.out w7 hsaw7).mono ?_
    rintro e w8 ⟨hb8, rfl⟩
    rw [if_neg h0]
    have hsaw8 := hsaw7.below hb8
    have hb8' := below_next hb7' hb8
    clear hb7' hb8 hsaw7
    go_wp2_with fail
    refine (HNr.out w8 hsaw8).mono ?_
    rintro e w9 ⟨hb9, rfl⟩
    rw [if_neg h0]
    have hsaw9 := hsaw8.below hb9
    have hb9' := below_next hb8' hb9
    clear hb8' hb9 hsaw8
    have hz9 := hb9'.size
    go_wp2_with fail
    refine wp_region_held_drew (S := (fun wx => Below w.heap.size w wx)) (by kernel_rfl) ?hS (fun hHeld => ?_)
    case hS => (repeat' (first | exact Below.refl _ _ | assumption | refine Below.setCell ?_ ?_ _ | refine below_drewN ?_ _ | refine Below.drew ?_ | refine Below.alloc ?_ ?_ _ | (with_reducible refine Below.trans ?_ (Below.mono hb ?_)) | (with_reducible refine Below.trans ?_ (Below.mono hb1 ?_)) | (with_reducible refine Below.trans ?_ (Below.mono hb2 ?_)) | (with_reducible refine Below.trans ?_ (Below.mono hb3 ?_)) | (with_reducible refine Below.trans ?_ (Below.mono hb4 ?_)) | (with_reducible refine Below.trans ?_ (Below.mono hb5 ?_)) | (with_reducible refine Below.trans ?_ (Below.mono hb6 ?_)) | (with_reducible refine Below.trans ?_ (Below.mono hb7 ?_)) | (with_reducible refine Below.trans ?_ (Below.mono hb8 ?_)) | (with_reducible refine Below.trans ?_ (Below.mono hb9 ?_)) | (with_reducible refine Below.trans ?_ (Below.mono hb10 ?_)) | (with_reducible refine Below.trans ?_ (Below.mono hb11 ?_)) | (with_reducible refine Below.trans ?_ (Below.mono hb12 ?_)) | (with_reducible refine Below.trans ?_ (Below.mono hb13 ?_)) | (with_reducible refine Below.trans ?_ (Below.mono hb14 ?_)) | (with_reducible refine Below.trans ?_ (Below.mono hb15 ?_)) | omega | (simp; done) | (simp; omega)))
    refine rcall (i := 0) (d := (some 113)) (by kernel_rfl) rfl (by kernel_rfl) (fun K hK => ?_)
    go_simp
    go_at_call 17; refine (topics_any _).mono ?_; rintro e w' ⟨rfl, hb3⟩
    refine hK.out _ _ ?hS (fun hHeld => ?_)
    case hS => (repeat' (first | exact Below.refl _ _ | assumption | refine Below.setCell ?_ ?_ _ | refine below_drewN ?_ _ | refine Below.drew ?_ | refine Below.alloc ?_ ?_ _ | (with_reducible refine Below.trans ?_ (Below.mono hb ?_)) | (with_reducible refine Below.trans ?_ (Below.mono hb1 ?_)) | (with_reducible refine Below.trans ?_ (Below.mono hb2 ?_)) | (with_reducible refine Below.trans ?_ (Below.mono hb3 ?_)) | (with_reducible refine Below.trans ?_ (Below.mono hb4 ?_)) | (with_reducible refine Below.trans ?_ (Below.mono hb5 ?_)) | (with_reducible refine Below.trans ?_ (Below.mono hb6 ?_)) | (with_reducible refine Below.trans ?_ (Below.mono hb7 ?_)) | (with_reducible refine Below.trans ?_ (Below.mono hb8 ?_)) | (with_reducible refine Below.trans ?_ (Below.mono hb9 ?_)) | (with_reducible refine Below.trans ?_ (Below.mono hb10 ?_)) | (with_reducible refine Below.trans ?_ (Below.mono hb11 ?_)) | (with_reducible refine Below.trans ?_ (Below.mono hb12 ?_)) | (with_reducible refine Below.trans ?_ (Below.mono hb13 ?_)) | (with_reducible refine Below.trans ?_ (Below.mono hb14 ?_)) | (with_reducible refine Below.trans ?_ (Below.mono hb15 ?_)) | omega | (simp; done) | (simp; omega)))
    clear hK K
    simp only [Act.put, List.setIfInBounds_toArray, List.set_cons_zero, List.set_cons_succ]
    refine rtake (i := 1) (d := (some 114)) (v := ?_) rfl (by kernel_rfl) (by kernel_rfl) (by kernel_rfl) (by kernel_rfl) (fun _ _ _ h => h) (by kernel_rfl) (by assumption) ?_ ?_
    rotate_left 1
    · (intro wI hSI; (try dsimp only at hSI); go_simp; (try with_reducible rfl))
    simp only [Act.put, List.setIfInBounds_toArray, List.set_cons_zero, List.set_cons_succ]
    refine rtake (i := 2) (d := (some 115)) (v := ?_) rfl (by kernel_rfl) (by kernel_rfl) (by kernel_rfl) (by kernel_rfl) (fun _ _ _ h => h) (by kernel_rfl) (by assumption) ?_ ?_
    rotate_left 1
    · (intro wI hSI; (try dsimp only at hSI); go_simp; (try with_reducible rfl))
    simp only [Act.put, List.setIfInBounds_toArray, List.set_cons_zero, List.set_cons_succ]
    refine rtake (i := 3) (d := (some 116)) (v := ?_) rfl (by kernel_rfl) (by kernel_rfl) (by kernel_rfl) (by kernel_rfl) (fun _ _ _ h => h) (by kernel_rfl) (by assumption) ?_ ?_
    rotate_left 1
    · (intro wI hSI; (try dsimp only at hSI); go_simp; (try with_reducible rfl))
    simp only [Act.put, List.setIfInBounds_toArray, List.set_cons_zero, List.set_cons_succ]
    refine rtake (i := 4) (d := (some 117)) (v := ?_) rfl (by kernel_rfl) (by kernel_rfl) (by kernel_rfl) (by kernel_rfl) (fun _ _ _ h => h) (by kernel_rfl) (by assumption) ?_ ?_
    rotate_left 1
    · (intro wI hSI; (try dsimp only at hSI); go_simp; (try with_reducible rfl))
    simp only [Act.put, List.setIfInBounds_toArray, List.set_cons_zero, List.set_cons_succ]
    refine rskip (i := 5) (d := (some 118)) rfl (by kernel_rfl) (by kernel_rfl) (by kernel_rfl) (by kernel_rfl) (fun _ _ _ h => h) (by kernel_rfl) (by assumption) ?_
    simp only [Act.put, List.setIfInBounds_toArray, List.set_cons_zero, List.set_cons_succ]
    refine rskip (i := 6) (d := (some 119)) rfl (by kernel_rfl) (by kernel_rfl) (by kernel_rfl) (by kernel_rfl) (fun _ _ _ h => h) (by kernel_rfl) (by assumption) ?_
    simp only [Act.put, List.setIfInBounds_toArray, List.set_cons_zero, List.set_cons_succ]
    refine rskip (i := 7) (d := (some 120)) rfl (by kernel_rfl) (by kernel_rfl) (by kernel_rfl) (by kernel_rfl) (fun _ _ _ h => h) (by kernel_rfl) (by assumption) ?_
    simp only [Act.put, List.setIfInBounds_toArray, List.set_cons_zero, List.set_cons_succ]
    refine rskip (i := 8) (d := (some 121)) rfl (by kernel_rfl) (by kernel_rfl) (by kernel_rfl) (by kernel_rfl) (fun _ _ _ h => h) (by kernel_rfl) (by assumption) ?_
    simp only [Act.put, List.setIfInBounds_toArray, List.set_cons_zero, List.set_cons_succ]
    refine rskip (i := 9) (d := (some 122)) rfl (by kernel_rfl) (by kernel_rfl) (by kernel_rfl) (by kernel_rfl) (fun _ _ _ h => h) (by kernel_rfl) (by assumption) ?_
    simp only [Act.put, List.setIfInBounds_toArray, List.set_cons_zero, List.set_cons_succ]
    refine rskip (i := 10) (d := (some 123)) rfl (by kernel_rfl) (by kernel_rfl) (by kernel_rfl) (by kernel_rfl) (fun _ _ _ h => h) (by kernel_rfl) (by assumption) ?_
    simp only [Act.put, List.setIfInBounds_toArray, List.set_cons_zero, List.set_cons_succ]
    refine rskip (i := 11) (d := (some 124)) rfl (by kernel_rfl) (by kernel_rfl) (by kernel_rfl) (by kernel_rfl) (fun _ _ _ h => h) (by kernel_rfl) (by assumption) ?_
    simp only [Act.put, List.setIfInBounds_toArray, List.set_cons_zero, List.set_cons_succ]
    refine rskip (i := 12) (d := (some 125)) rfl (by kernel_rfl) (by kernel_rfl) (by kernel_rfl) (by kernel_rfl) (fun _ _ _ h => h) (by kernel_rfl) (by assumption) ?_
    simp only [Act.put, List.setIfInBounds_toArray, List.set_cons_zero, List.set_cons_succ]
    refine rskip (i := 13) (d := (some 126)) rfl (by kernel_rfl) (by kernel_rfl) (by kernel_rfl) (by kernel_rfl) (fun _ _ _ h => h) (by kernel_rfl) (by assumption) ?_
    simp only [Act.put, List.setIfInBounds_toArray, List.set_cons_zero, List.set_cons_succ]
    refine rskip (i := 14) (d := (some 127)) rfl (by kernel_rfl) (by kernel_rfl) (by kernel_rfl) (by kernel_rfl) (fun _ _ _ h => h) (by kernel_rfl) (by assumption) ?_
    simp only [Act.put, List.setIfInBounds_toArray, List.set_cons_zero, List.set_cons_succ]
    refine rskip (i := 15) (d := (some 128)) rfl (by kernel_rfl) (by kernel_rfl) (by kernel_rfl) (by kernel_rfl) (fun _ _ _ h => h) (by kernel_rfl) (by assumption) ?_
    simp only [Act.put, List.setIfInBounds_toArray, List.set_cons_zero, List.set_cons_succ]
    refine rskip (i := 16) (d := (some 129)) rfl (by kernel_rfl) (by kernel_rfl) (by kernel_rfl) (by kernel_rfl) (fun _ _ _ h => h) (by kernel_rfl) (by assumption) ?_
    simp only [Act.put, List.setIfInBounds_toArray, List.set_cons_zero, List.set_cons_succ]
    refine rskip (i := 17) (d := (some 130)) rfl (by kernel_rfl) (by kernel_rfl) (by kernel_rfl) (by kernel_rfl) (fun _ _ _ h => h) (by kernel_rfl) (by assumption) ?_
    simp only [Act.put, List.setIfInBounds_toArray, List.set_cons_zero, List.set_cons_succ]
    refine rskip (i := 18) (d := (some 131)) rfl (by kernel_rfl) (by kernel_rfl) (by kernel_rfl) (by kernel_rfl) (fun _ _ _ h => h) (by kernel_rfl) (by assumption) ?_
    simp only [Act.put, List.setIfInBounds_toArray, List.set_cons_zero, List.set_cons_succ]
    refine rtake (i := 19) (d := (some 132)) (v := ?_) rfl (by kernel_rfl) (by kernel_rfl) (by kernel_rfl) (by kernel_rfl) (fun _ _ _ h => h) (by kernel_rfl) (by assumption) ?_ ?_
    rotate_left 1
    · (intro wI hSI; (try dsimp only at hSI); go_simp; (try with_reducible rfl))
    simp only [Act.put, List.setIfInBounds_toArray, List.set_cons_zero, List.set_cons_succ]
    refine rtake (i := 20) (d := (some 133)) (v := ?_) rfl (by kernel_rfl) (by kernel_rfl) (by kernel_rfl) (by kernel_rfl) (fun _ _ _ h => h) (by kernel_rfl) (by assumption) ?_ ?_
    rotate_left 1
    · (intro wI hSI; (try dsimp only at hSI); go_simp; (try with_reducible rfl))
    simp only [Act.put, List.setIfInBounds_toArray, List.set_cons_zero, List.set_cons_succ]
    refine rtake (i := 21) (d := (some 2)) (v := ?_) rfl (by kernel_rfl) (by kernel_rfl) (by kernel_rfl) (by kernel_rfl) (fun _ _ _ h => h) (by kernel_rfl) (by assumption) ?_ ?_
    rotate_left 1
    · (intro wI hSI; (try dsimp only at hSI); go_simp; (try with_reducible rfl))
    simp only [Act.put, List.setIfInBounds_toArray, List.set_cons_zero, List.set_cons_succ]
    refine wpAnyH_done (by kernel_rfl) ?_ _
    go_wp2_with fail
    go_ret
    exact ⟨rfl, by (repeat' (first | exact Below.refl _ _ | assumption | refine Below.setCell ?_ ?_ _ | refine below_drewN ?_ _ | refine Below.drew ?_ | refine Below.alloc ?_ ?_ _ | (with_reducible refine Below.trans ?_ (Below.mono hb ?_)) | (with_reducible refine Below.trans ?_ (Below.mono hb1 ?_)) | (with_reducible refine Below.trans ?_ (Below.mono hb2 ?_)) | (with_reducible refine Below.trans ?_ (Below.mono hb3 ?_)) | (with_reducible refine Below.trans ?_ (Below.mono hb4 ?_)) | (with_reducible refine Below.trans ?_ (Below.mono hb5 ?_)) | (with_reducible refine Below.trans ?_ (Below.mono hb6 ?_)) | (with_reducible refine Below.trans ?_ (Below.mono hb7 ?_)) | (with_reducible refine Below.trans ?_ (Below.mono hb8 ?_)) | (with_reducible refine Below.trans ?_ (Below.mono hb9 ?_)) | (with_reducible refine Below.trans ?_ (Below.mono hb10 ?_)) | (with_reducible refine Below.trans ?_ (Below.mono hb11 ?_)) | (with_reducible refine Below.trans ?_ (Below.mono hb12 ?_)) | (with_reducible refine Below.trans ?_ (Below.mono hb13 ?_)) | (with_reducible refine Below.trans ?_ (Below.mono hb14 ?_)) | (with_reducible refine Below.trans ?_ (Below.mono hb15 ?_)) | omega | (simp; done) | (simp; omega)))⟩
end Go.Proofs.YtfpoaggkjhcdnaaDoor.forestsKnown
