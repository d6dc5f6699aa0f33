/- Overlap: the program. -/
import Derived.Test.YtlpknpjfmacemaaGreatDoorOver2
import Derived.Test.YtlpknpjfmacemaaGreatDoorOver1
import Derived.Test.YtlpknpjfmacemaaGreatDoorRun3
import Derived.Test.YtlpknpjfmacemaaGreatDoorRunP
/-! Overlap: the program. -/
namespace Go.Proofs.YtlpknpjfmacemaaGreatDoor
open Go.RowKit
set_option linter.unusedVariables false
set_option linter.unusedSimpArgs false

def RunIn (x y : List ByteArray) (r : Run3) : Prop := 0 ≤ r.1 ∧ 0 ≤ r.2.1 ∧ 0 ≤ r.2.2 ∧ r.1 + r.2.2 ≤ (x.length : Int) ∧ r.2.1 + r.2.2 ≤ (y.length : Int)
theorem runAt_in {x y : List ByteArray} {least : Int} {i j : Nat} (hi : i ≤ x.length) (hj : j ≤ y.length) : ∀ r ∈ runAt x y least i j, RunIn x y r := fun r hr => by
  unfold runAt at hr
  split at hr
  · rw [List.mem_singleton] at hr
    subst hr
    have h := cpl_le x y i j
    exact ⟨by show (0 : Int) ≤ (i : Int); omega, by show (0 : Int) ≤ (j : Int); omega, by show (0 : Int) ≤ (cpl x y i j : Int); omega, by show (i : Int) + (cpl x y i j : Int) ≤ _; omega, by show (j : Int) + (cpl x y i j : Int) ≤ _; omega⟩
  · cases hr
theorem runRow_in {x y : List ByteArray} {least : Int} {i : Nat} (hi : i ≤ x.length) : ∀ j, j ≤ y.length → ∀ r ∈ runRow x y least i j, RunIn x y r
  | 0, _, r, hr => by cases hr
  | j + 1, hj, r, hr => by
    rw [runRow] at hr
    rcases List.mem_append.1 hr with h | h
    · exact runRow_in hi j (by omega) r h
    · exact runAt_in hi (by omega) r h
theorem runsTo_in {x y : List ByteArray} {least : Int} : ∀ i, i ≤ x.length → ∀ r ∈ runsTo x y least i, RunIn x y r
  | 0, _, r, hr => by cases hr
  | i + 1, hi, r, hr => by
    rw [runsTo] at hr
    rcases List.mem_append.1 hr with h | h
    · exact runsTo_in i (by omega) r h
    · exact runRow_in (by omega) _ (Nat.le_refl _) r h
theorem runsL_in {x y : List ByteArray} {least : Int} : ∀ r ∈ runsL x y least, RunIn x y r := runsTo_in _ (Nat.le_refl _)
/-- The part of x's words that lies in runs; of y's. -/
def cntX (x y : List ByteArray) (least : Int) : Nat := cntB x.length (inRuns (runsL x y least) (fun r => r.1))
def cntY (x y : List ByteArray) (least : Int) : Nat := cntB y.length (inRuns (runsL x y least) (fun r => r.2.1))
theorem partX_any (x y : List ByteArray) (least : Int) (ra : Option Addr) (rc : Nat) (w : World) (hx1 : 1 ≤ x.length) (hx : x.length ≤ 600) (hy : y.length ≤ 600) (hrs : SA w ra (runsL x y least)) :
    Calls Tryz.prog 137 #[.int .i64 x.length, .slice ra (runsL x y least).length rc, .func (.func 138) #[] #[]] w (Gives (low (cntX x y least) x.length) w) :=
  partP_any x.length ra rc _ (fun r => r.1) _ w hx1 hx hrs (by have := runsL_len least hx hy; omega) (fun r hr => by have := runsL_in r hr; exact ⟨this.1, this.2.2.1, this.2.2.2.1⟩) (fun W r => overlap1_any r W) (enters_of Tryz.func138 (by kernel_rfl) rfl)
theorem partY_any (x y : List ByteArray) (least : Int) (ra : Option Addr) (rc : Nat) (w : World) (hy1 : 1 ≤ y.length) (hx : x.length ≤ 600) (hy : y.length ≤ 600) (hrs : SA w ra (runsL x y least)) :
    Calls Tryz.prog 137 #[.int .i64 y.length, .slice ra (runsL x y least).length rc, .func (.func 139) #[] #[]] w (Gives (low (cntY x y least) y.length) w) :=
  partP_any y.length ra rc _ (fun r => r.2.1) _ w hy1 hy hrs (by have := runsL_len least hx hy; omega) (fun r hr => by have := runsL_in r hr; exact ⟨this.2.1, this.2.2.1, this.2.2.2.2⟩) (fun W r => overlap2_any r W) (enters_of Tryz.func139 (by kernel_rfl) rfl)
end Go.Proofs.YtlpknpjfmacemaaGreatDoor

/-! Overlap: the walk of the program's overlap. -/
namespace Go.Proofs.YtlpknpjfmacemaaGreatDoor
open Go.RowKit
set_option linter.unusedVariables false
set_option linter.unusedSimpArgs false

def fracV (a b : Int) : Value := .agg #[.int .i64 a, .int .i64 b]
def overV (x y : List ByteArray) (least : Int) : Value :=
  if x.length = 0 ∨ y.length = 0 then fracV 0 1
  else if lowN (cntX x y least) x.length * lowD (cntY x y least) y.length < lowN (cntY x y least) y.length * lowD (cntX x y least) x.length then low (cntY x y least) y.length else low (cntX x y least) x.length
set_option maxRecDepth 100000 in
set_option maxHeartbeats 4000000 in
theorem overlapP_any (xa ya : Option Addr) (xc yc : Nat) (x y : List ByteArray) (least : Int) (w : World) (hx0 : SA w xa x) (hy0 : SA w ya y) (hxl : x.length ≤ 600) (hyl : y.length ≤ 600) :
    Calls Tryz.prog 78 #[.slice xa x.length xc, .slice ya y.length yc, .int .i64 least] w (Gives (overV x y least) w) := by
  by_cases hx1 : x.length = 0
  · have hV : overV x y least = fracV 0 1 := by unfold overV; rw [if_pos (.inl hx1)]
    rw [hV, hx1]
    go_enter Tryz.func78, Tryz.ntmps78
    go_wp2_with fail
    refine bodyPost_ret (v := .agg #[.int .i64 0, .int .i64 1]) (by simp only [results, Tryz.results78]; go_simp) rfl ⟨rfl, ?_⟩
    (repeat' (first | exact Below.refl _ _ | assumption | refine Below.setCell ?_ ?_ _ | refine below_drewN ?_ _ | refine Below.drew ?_ | refine Below.alloc ?_ ?_ _ | (with_reducible refine Below.trans ?_ (Below.mono hb ?_)) | (with_reducible refine Below.trans ?_ (Below.mono hb0 ?_)) | (with_reducible refine Below.trans ?_ (Below.mono hb1 ?_)) | (with_reducible refine Below.trans ?_ (Below.mono hb2 ?_)) | (with_reducible refine Below.trans ?_ (Below.mono hb3 ?_)) | (with_reducible refine Below.trans ?_ (Below.mono hb4 ?_)) | (with_reducible refine Below.trans ?_ (Below.mono hb5 ?_)) | (with_reducible refine Below.trans ?_ (Below.mono hb6 ?_)) | (with_reducible refine Below.trans ?_ (Below.mono hb7 ?_)) | (with_reducible refine Below.trans ?_ (Below.mono hb8 ?_)) | (with_reducible refine Below.trans ?_ (Below.mono hb9 ?_)) | (with_reducible refine Below.trans ?_ (Below.mono hb10 ?_)) | (with_reducible refine Below.trans ?_ (Below.mono hb11 ?_)) | (with_reducible refine Below.trans ?_ (Below.mono hb12 ?_)) | (with_reducible refine Below.trans ?_ (Below.mono hb13 ?_)) | (with_reducible refine Below.trans ?_ (Below.mono hb14 ?_)) | (with_reducible refine Below.trans ?_ (Below.mono hb15 ?_)) | omega | (simp; done) | (simp; omega)))
  · by_cases hy1 : y.length = 0
    · have hV : overV x y least = fracV 0 1 := by unfold overV; rw [if_pos (.inr hy1)]
      have hd1 : ((x.length : Int) == 0) = false := beq_eq_false_iff_ne.2 (by omega)
      rw [hV, hy1]
      go_enter Tryz.func78, Tryz.ntmps78
      go_wp2_with fail
      refine bodyPost_ret (v := .agg #[.int .i64 0, .int .i64 1]) (by simp only [results, Tryz.results78]; go_simp) rfl ⟨rfl, ?_⟩
      (repeat' (first | exact Below.refl _ _ | assumption | refine Below.setCell ?_ ?_ _ | refine below_drewN ?_ _ | refine Below.drew ?_ | refine Below.alloc ?_ ?_ _ | (with_reducible refine Below.trans ?_ (Below.mono hb ?_)) | (with_reducible refine Below.trans ?_ (Below.mono hb0 ?_)) | (with_reducible refine Below.trans ?_ (Below.mono hb1 ?_)) | (with_reducible refine Below.trans ?_ (Below.mono hb2 ?_)) | (with_reducible refine Below.trans ?_ (Below.mono hb3 ?_)) | (with_reducible refine Below.trans ?_ (Below.mono hb4 ?_)) | (with_reducible refine Below.trans ?_ (Below.mono hb5 ?_)) | (with_reducible refine Below.trans ?_ (Below.mono hb6 ?_)) | (with_reducible refine Below.trans ?_ (Below.mono hb7 ?_)) | (with_reducible refine Below.trans ?_ (Below.mono hb8 ?_)) | (with_reducible refine Below.trans ?_ (Below.mono hb9 ?_)) | (with_reducible refine Below.trans ?_ (Below.mono hb10 ?_)) | (with_reducible refine Below.trans ?_ (Below.mono hb11 ?_)) | (with_reducible refine Below.trans ?_ (Below.mono hb12 ?_)) | (with_reducible refine Below.trans ?_ (Below.mono hb13 ?_)) | (with_reducible refine Below.trans ?_ (Below.mono hb14 ?_)) | (with_reducible refine Below.trans ?_ (Below.mono hb15 ?_)) | omega | (simp; done) | (simp; omega)))
    · have hV : Hid (overV x y least = if lowN (cntX x y least) x.length * lowD (cntY x y least) y.length < lowN (cntY x y least) y.length * lowD (cntX x y least) x.length then low (cntY x y least) y.length else low (cntX x y least) x.length) := by show _ = _; unfold overV; rw [if_neg (by omega)]
      have hd1 : ((x.length : Int) == 0) = false := beq_eq_false_iff_ne.2 (by omega)
      have hd2 : ((y.length : Int) == 0) = false := beq_eq_false_iff_ne.2 (by omega)
      have HR := Lib.hid (fun W h1 h2 => runs_any xa ya xc yc x y least W h1 h2 hxl hyl)
      have HX := Lib.hid (fun ra rc W h => partX_any x y least ra rc W (by omega) hxl hyl h)
      have HY := Lib.hid (fun ra rc W h => partY_any x y least ra rc W (by omega) hxl hyl h)
      have hcx := cntB_le x.length (inRuns (runsL x y least) (fun r => r.1))
      have hcy := cntB_le y.length (inRuns (runsL x y least) (fun r => r.2.1))
      have hcx2 : cntX x y least ≤ 600 := by unfold cntX; omega
      have hcy2 : cntY x y least ≤ 600 := by unfold cntY; omega
      clear hcx hcy
      have hb1 : (lowN (cntX x y least) x.length).natAbs ≤ ((cntX x y least : Int)).natAbs := ediv_abs _ _ (gcd_pos _ _ (by omega))
      have hb2 : (lowD (cntX x y least) x.length).natAbs ≤ ((x.length : Int)).natAbs := ediv_abs _ _ (gcd_pos _ _ (by omega))
      have hb3 : (lowN (cntY x y least) y.length).natAbs ≤ ((cntY x y least : Int)).natAbs := ediv_abs _ _ (gcd_pos _ _ (by omega))
      have hb4 : (lowD (cntY x y least) y.length).natAbs ≤ ((y.length : Int)).natAbs := ediv_abs _ _ (gcd_pos _ _ (by omega))
      unfold low at HX HY hV
      generalize lowN (cntX x y least) x.length = a1 at *
      generalize lowD (cntX x y least) x.length = a2 at *
      generalize lowN (cntY x y least) y.length = b1 at *
      generalize lowD (cntY x y least) y.length = b2 at *
      have hm1 : (b1 * a2).natAbs ≤ 600 * 600 := by rw [Int.natAbs_mul]; exact Nat.mul_le_mul (by omega) (by omega)
      have hm2 : (a1 * b2).natAbs ≤ 600 * 600 := by rw [Int.natAbs_mul]; exact Nat.mul_le_mul (by omega) (by omega)
      have hw1 : IntKind.i64.wrap (b1 * a2) = b1 * a2 := IntWalk.i64_in _ (by omega)
      have hw2 : IntKind.i64.wrap (a1 * b2) = a1 * b2 := IntWalk.i64_in _ (by omega)
      generalize overV x y least = V at *
      generalize runsL x y least = rs at *
      clear hm1 hm2 hb1 hb2 hb3 hb4 hcx2 hcy2
      by_cases hgt : a1 * b2 < b1 * a2
      · have hdg : decide (a1 * b2 < b1 * a2) = true := decide_eq_true hgt
        have hV2 : V = .agg #[.int .i64 b1, .int .i64 b2] := by rw [hV.out, if_pos hgt]
        subst hV2
        clear hV
        go_enter Tryz.func78, Tryz.ntmps78
        go_wp2_with fail
        refine (HR.out _ (hx0.alloc _) (hy0.alloc _)).mono ?_
        rintro e w1 ⟨v1, rfl, hown, hb1⟩
        obtain ⟨ra, rc, rfl, hrs, -, -⟩ := hown.sa
        go_wp2_with fail
        refine (HX.out _ _ _ hrs).mono ?_
        rintro e w2 ⟨rfl, hb2⟩
        go_wp2_with fail
        refine (HY.out _ _ _ ((hrs.below hb2).alloc _)).mono ?_
        rintro e w3 ⟨rfl, hb3⟩
        have hA := ((Box.new w2 62 #[.int .i64 a1, .int .i64 a2]).below hb3).alloc (.cells #[.int .i64 b1, .int .i64 b2] 62)
        have hB := Box.new w3 62 #[.int .i64 b1, .int .i64 b2]
        have hF := (((((Box.new w 62 #[.int .i64 0, .int .i64 0]).below hb1).below hb2).alloc (.cells #[.int .i64 a1, .int .i64 a2] 62)).below hb3).alloc (.cells #[.int .i64 b1, .int .i64 b2] 62)
        have hz1 := hb1.size
        have hz2 := hb2.size
        have hz3 := hb3.size
        simp only [World.size_alloc] at hz1 hz3
        have hbz := ((((Below.refl w.heap.size w).alloc (Nat.le_refl _) (.cells #[.int .i64 0, .int .i64 0] 62)).trans (hb1.mono (by simp))).trans (hb2.mono (by omega))).alloc (by omega) (.cells #[.int .i64 a1, .int .i64 a2] 62)
        have hby := (hbz.trans (hb3.mono (by simp; omega))).alloc (by omega) (.cells #[.int .i64 b1, .int .i64 b2] 62)
        have hA_l := hA.lt; have hA_0 := hA.cell 0; have hA_1 := hA.cell 1; simp at hA_0 hA_1
        have hF_l := hF.lt; have hF_0 := hF.cell 0; have hF_1 := hF.cell 1; simp at hF_0 hF_1
        have hF_f0 := hF.frozen 0; have hF_f1 := hF.frozen 1
        go_wp2_with fail
        refine bodyPost_ret (v := _) (by simp only [results, Tryz.results78]; go_simp) rfl ⟨rfl, ?_⟩
        exact (hby.setCell (p := ⟨w.heap.size, 0, none⟩) (Nat.le_refl _) _).setCell (p := ⟨w.heap.size, 1, none⟩) (Nat.le_refl _) _
      · have hdg : decide (a1 * b2 < b1 * a2) = false := decide_eq_false hgt
        have hV2 : V = .agg #[.int .i64 a1, .int .i64 a2] := by rw [hV.out, if_neg hgt]
        subst hV2
        clear hV
        go_enter Tryz.func78, Tryz.ntmps78
        go_wp2_with fail
        refine (HR.out _ (hx0.alloc _) (hy0.alloc _)).mono ?_
        rintro e w1 ⟨v1, rfl, hown, hb1⟩
        obtain ⟨ra, rc, rfl, hrs, -, -⟩ := hown.sa
        go_wp2_with fail
        refine (HX.out _ _ _ hrs).mono ?_
        rintro e w2 ⟨rfl, hb2⟩
        go_wp2_with fail
        refine (HY.out _ _ _ ((hrs.below hb2).alloc _)).mono ?_
        rintro e w3 ⟨rfl, hb3⟩
        have hA := ((Box.new w2 62 #[.int .i64 a1, .int .i64 a2]).below hb3).alloc (.cells #[.int .i64 b1, .int .i64 b2] 62)
        have hB := Box.new w3 62 #[.int .i64 b1, .int .i64 b2]
        have hF := (((((Box.new w 62 #[.int .i64 0, .int .i64 0]).below hb1).below hb2).alloc (.cells #[.int .i64 a1, .int .i64 a2] 62)).below hb3).alloc (.cells #[.int .i64 b1, .int .i64 b2] 62)
        have hz1 := hb1.size
        have hz2 := hb2.size
        have hz3 := hb3.size
        simp only [World.size_alloc] at hz1 hz3
        have hbz := ((((Below.refl w.heap.size w).alloc (Nat.le_refl _) (.cells #[.int .i64 0, .int .i64 0] 62)).trans (hb1.mono (by simp))).trans (hb2.mono (by omega))).alloc (by omega) (.cells #[.int .i64 a1, .int .i64 a2] 62)
        have hby := (hbz.trans (hb3.mono (by simp; omega))).alloc (by omega) (.cells #[.int .i64 b1, .int .i64 b2] 62)
        have hA_l := hA.lt; have hA_0 := hA.cell 0; have hA_1 := hA.cell 1; simp at hA_0 hA_1
        have hF_l := hF.lt; have hF_0 := hF.cell 0; have hF_1 := hF.cell 1; simp at hF_0 hF_1
        have hF_f0 := hF.frozen 0; have hF_f1 := hF.frozen 1
        go_wp2_with fail
        refine bodyPost_ret (v := _) (by simp only [results, Tryz.results78]; go_simp) rfl ⟨rfl, ?_⟩
        exact (hby.setCell (p := ⟨w.heap.size, 0, none⟩) (Nat.le_refl _) _).setCell (p := ⟨w.heap.size, 1, none⟩) (Nat.le_refl _) _
end Go.Proofs.YtlpknpjfmacemaaGreatDoor

/-! Overlap: the door. -/
namespace Go.Proofs.YtlpknpjfmacemaaGreatDoor
open Go.RowKit
set_option linter.unusedVariables false
set_option linter.unusedSimpArgs false

theorem overV_form (x y : List ByteArray) (least : Int) : ∃ q1 q2 : Int, overV x y least = .agg #[.int .i64 q1, .int .i64 q2] := by
  unfold overV
  split
  · exact ⟨_, _, rfl⟩
  · split
    · exact ⟨_, _, rfl⟩
    · exact ⟨_, _, rfl⟩
set_option maxRecDepth 100000 in
set_option maxHeartbeats 4000000 in
theorem Overlap_any (a b : ByteArray) (least : Int) (w : World) (hE : Env w) (ha : a.size ≤ 100000) (hb : b.size ≤ 100000) :
    Calls Tryz.prog 27 #[.string a, .string b, .int .i64 least] w (Gives (.tuple #[if pairE a b least ≠ 0 then fracV 0 0 else overV (wordsS a) (wordsS b) least, .int .i64 (pairE a b least)]) w) := by
  have HP := Lib.hid (fun W h => pair_any a b least W h ha hb)
  have HR := Lib.hid (fun xa ya xc yc W h1 h2 h3 h4 => overlapP_any xa ya xc yc (wordsS a) (wordsS b) least W h1 h2 h3 h4)
  have HL := Lib.hid (fun h => pairE_len (a := a) (b := b) (least := least) h)
  obtain ⟨q1, q2, hV⟩ := overV_form (wordsS a) (wordsS b) least
  rw [hV] at HR ⊢
  clear hV
  generalize pairE a b least = ep at *
  generalize wordsS a = la at *
  generalize wordsS b = lb at *
  obtain ⟨V, hVe⟩ : ∃ V, (if ep ≠ 0 then fracV 0 0 else .agg #[.int .i64 q1, .int .i64 q2]) = V := ⟨_, rfl⟩
  rw [hVe]
  have HVe := Lib.hid hVe
  clear hVe
  go_enter Tryz.func27, Tryz.ntmps27
  go_wp2_with fail
  refine (HP.out _ (hE.alloc _)).mono ?_
  rintro e w1 ⟨hb1, hcase⟩
  have hB := (Box.new w 62 #[.int .i64 0, .int .i64 0]).below hb1
  have hbz := ((Below.refl w.heap.size w).alloc (Nat.le_refl _) (.cells #[.int .i64 0, .int .i64 0] 62)).trans (hb1.mono (by simp))
  rcases hcase with ⟨hne, rfl⟩ | ⟨rfl, xa, xc, ya, yc, rfl, hxa, hya⟩
  · have hq : (ep != 0) = true := by simpa using hne
    have hVq : Hid (V = .agg #[.int .i64 0, .int .i64 0]) := by show _ = _; rw [← HVe.out, if_pos hne]; rfl
    clear hne HVe
    have hB_l := hB.lt; have hB_0 := hB.cell 0; have hB_1 := hB.cell 1; simp at hB_0 hB_1
    have hB_f0 := hB.frozen 0; have hB_f1 := hB.frozen 1
    go_wp2_with fail
    refine bodyPost_ret (v := .tuple #[.agg #[.int .i64 0, .int .i64 0], .int .i64 ep]) (by simp only [results, Tryz.results27]; go_simp) rfl ⟨by rw [hVq.out], ?_⟩
    exact (hbz.setCell (p := ⟨w.heap.size, 0, none⟩) (Nat.le_refl _) _).setCell (p := ⟨w.heap.size, 1, none⟩) (Nat.le_refl _) _
  · obtain ⟨hl1, hl2, -, -⟩ := HL.out rfl
    have hVq : Hid (V = .agg #[.int .i64 q1, .int .i64 q2]) := by show _ = _; rw [← HVe.out, if_neg (fun h => h rfl)]
    clear HVe
    go_wp2_with fail
    refine (HR.out xa ya xc yc _ hxa hya hl1 hl2).mono ?_
    rintro e w2 ⟨rfl, hb2⟩
    have hB2 := hB.below hb2
    have hb12 := below_next hbz hb2
    have hB2_l := hB2.lt; have hB2_0 := hB2.cell 0; have hB2_1 := hB2.cell 1; simp at hB2_0 hB2_1
    have hB2_f0 := hB2.frozen 0; have hB2_f1 := hB2.frozen 1
    go_wp2_with fail
    refine bodyPost_ret (v := .tuple #[.agg #[.int .i64 q1, .int .i64 q2], .int .i64 0]) (by simp only [results, Tryz.results27]; go_simp) rfl ⟨by rw [hVq.out], ?_⟩
    exact (hb12.setCell (p := ⟨w.heap.size, 0, none⟩) (Nat.le_refl _) _).setCell (p := ⟨w.heap.size, 1, none⟩) (Nat.le_refl _) _
end Go.Proofs.YtlpknpjfmacemaaGreatDoor

/-! Equal runs. -/
namespace Go.Proofs.YtlpknpjfmacemaaGreatDoor
open Go.RowKit
set_option linter.unusedVariables false
set_option linter.unusedSimpArgs false
set_option maxRecDepth 100000 in
set_option maxHeartbeats 4000000 in
/-- Two slices that read alike are equal. -/
theorem eqRun_any (l : List Run3) (a a2 : Option Addr) (cap cap2 : Nat) (w : World) (h : SA w a l) (h2 : SA w a2 l) (hlen : l.length ≤ 1000000000) :
    Calls Tryz.prog 30 #[.slice a l.length cap, .slice a2 l.length cap2] w (Draws (.bool true) w) := by
  have hq0 : ((l.length : Int) != (l.length : Int)) = false := by simp
  go_enter Tryz.func30, Tryz.ntmps30
  go_wp2_with fail
  go_loopg [13] l.length (fun gk i wr => ∃ k : Nat, i = .int .i64 k ∧ k ≤ l.length ∧ Hid (gk = l.length - k) ∧ ∃ n, wr = w.drewN n)
  case atStart => exact ⟨0, rfl, by omega, rfl, 0, rfl⟩
  case round =>
    obtain ⟨k, rfl, hk, hgk, n, rfl⟩ := hrel
    by_cases hlt : k < l.length
    · obtain ⟨b, off, ha, c0, c1, c2⟩ := h.run3 hlt
      obtain ⟨b', off', ha', d0, d1, d2⟩ := h2.run3 hlt
      rw [ha, ha']
      generalize l[k] = x at *
      obtain ⟨x1, x2, x3⟩ := x
      simp only at *
      have hk1 : (0 : Int) ≤ (k : Int) := by omega
      have hk2 : (k : Int) < (l.length : Int) := by omega
      go_wp2_with fail
      go_quiet (fail)
      go_wp2_with fail
      rw [← ha, ← ha']
      go_roundg (l.length - (k + 1))
      case measure => have := hgk.out; omega
      case rel => exact ⟨k + 1, by go_num, by omega, rfl, _, rfl⟩
    · go_wp2_with fail
      go_ret
      exact ⟨rfl, _, rfl⟩
end Go.Proofs.YtlpknpjfmacemaaGreatDoor
