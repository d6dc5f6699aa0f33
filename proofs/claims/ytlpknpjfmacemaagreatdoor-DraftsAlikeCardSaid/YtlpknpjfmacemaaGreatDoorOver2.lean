/- The part of a text's words that lies in runs: the program. -/
import Derived.Test.YtlpknpjfmacemaaGreatDoorOverP
import Derived.Test.YtlpknpjfmacemaaGreatDoorLow
import Derived.Test.YtlpknpjfmacemaaGreatDoorReg
import Derived.Test.YtlpknpjfmacemaaGreatDoorList
namespace Go.Proofs.YtlpknpjfmacemaaGreatDoor
open Go.RowKit
set_option linter.unusedVariables false
set_option linter.unusedSimpArgs false

theorem overlap1_any (r : Run3) (w : World) : Calls Tryz.prog 138 #[.agg #[.int .i64 r.1, .int .i64 r.2.1, .int .i64 r.2.2]] w (Gives (.int .i64 r.1) w) := by
  obtain ⟨r1, r2, r3⟩ := r
  go_enter Tryz.func138, Tryz.ntmps138
  go_wp2_with fail
  go_ret
  exact ⟨rfl, (Below.refl _ _).alloc (Nat.le_refl _) _⟩
theorem overlap2_any (r : Run3) (w : World) : Calls Tryz.prog 139 #[.agg #[.int .i64 r.1, .int .i64 r.2.1, .int .i64 r.2.2]] w (Gives (.int .i64 r.2.1) w) := by
  obtain ⟨r1, r2, r3⟩ := r
  go_enter Tryz.func139, Tryz.ntmps139
  go_wp2_with fail
  go_ret
  exact ⟨rfl, (Below.refl _ _).alloc (Nat.le_refl _) _⟩

set_option maxRecDepth 100000 in
set_option maxHeartbeats 8000000 in
theorem partP_any (n : Nat) (ra : Option Addr) (rc : Nat) (rs : List Run3) (f : Run3 → Int) (g : Nat) (w : World) (hn1 : 1 ≤ n) (hn2 : n ≤ 600) (hrs : SA w ra rs) (hrl : rs.length ≤ 1000000)
    (hf : ∀ r ∈ rs, 0 ≤ f r ∧ 0 ≤ r.2.2 ∧ f r + r.2.2 ≤ (n : Int))
    (hp : ∀ (W : World) (r : Run3), Calls Tryz.prog g #[.agg #[.int .i64 r.1, .int .i64 r.2.1, .int .i64 r.2.2]] W (Gives (.int .i64 (f r)) W))
    (eg : ∀ args w, (callFunc g args).run Tryz.prog w = .ok (.enter g args) w) :
    Calls Tryz.prog 137 #[.int .i64 n, .slice ra rs.length rc, .func (.func g) #[] #[]] w (Gives (low (cntB n (inRuns rs f)) n) w) := by
  have HP := Lib.hid hp
  have HF := Lib.hid hf
  clear hp hf
  have hmk := run_make_len (P := Tryz.prog) 126 4 (.bool false) 1 (by kernel_rfl) Tryz.infoDB rfl n (by omega) (by omega)
  have HLw := Lib.hid (fun W => lowest_any (cntB n (inRuns rs f)) n W (by have := cntB_le n (inRuns rs f); omega) (by omega) (by omega))
  have hlow : ∃ q1 q2 : Int, low (cntB n (inRuns rs f)) n = .agg #[.int .i64 q1, .int .i64 q2] := ⟨_, _, rfl⟩
  obtain ⟨q1, q2, hV⟩ := hlow
  rw [hV] at HLw ⊢
  clear hV
  go_enter Tryz.func137, Tryz.ntmps137
  go_wp2_with fail
  go_loopg [8, 16] rs.length (fun gk v i wr => ∃ k : Nat, v = .int .i64 (cntB n (inRuns (rs.take k) f)) ∧ i = .int .i64 k ∧ k ≤ rs.length ∧ Hid (gk = rs.length - k) ∧ Marks wr (w.heap.size + 1) n (inRuns (rs.take k) f) ∧ Box wr w.heap.size 62 #[.int .i64 0, .int .i64 0] ∧ w.heap.size + 2 ≤ wr.heap.size ∧ Below w.heap.size w wr)
  case atStart =>
    have hM := Marks.new (w.alloc (.cells #[.int .i64 0, .int .i64 0] 62)) n
    exact ⟨0, by rw [List.take_zero]; exact congrArg _ (congrArg _ (cntB_none n).symm), rfl, by omega, rfl, by have h := hM.congr (q := inRuns [] f) (fun i _ => rfl); simpa using h, (Box.new _ _ _).alloc _, by simp, ((Below.refl _ _).alloc (Nat.le_refl _) _).alloc (by simp) _⟩
  obtain ⟨k, rfl, rfl, hk, hgk, hM, hB, hsz, hbr⟩ := hrel
  by_cases hlt : k < rs.length
  · have hk1 : (0 : Int) ≤ (k : Int) := by omega
    have hk2 : (k : Int) < (rs.length : Int) := by omega
    have hfr := HF.out _ (List.getElem_mem hlt)
    obtain ⟨rb, ro, hre, c0, c1, c2⟩ := (hrs.below hbr).run3 hlt
    have hsn := fun i => inRuns_snoc (rs.take k) rs[k] f i
    rw [List.take_append_getElem hlt] at hsn
    have Hsn := Lib.hid hsn
    clear hsn
    have Hre := Lib.hid hre
    rw [hre]
    clear hre
    obtain ⟨v0, hv0⟩ : ∃ v, inRuns (rs.take k) f = v := ⟨_, rfl⟩
    rw [hv0] at hM Hsn ⊢
    clear hv0
    have HC := Lib.hid (fun W => HP.out W rs[k])
    generalize rs[k] = r at *
    generalize f r = fr at *
    obtain ⟨r1, r2, r3⟩ := r
    simp only at c0 c1 c2 HC hfr Hsn
    generalize wr = wo at *
    go_wp2_with (go_at_fn g; refine (HC.out _).mono ?_; rintro e w1 ⟨rfl, hb1⟩)
    have hz1 := hb1.size
    simp only [World.size_alloc] at hz1
    have hMa := (hM.alloc (.cells #[.int .i64 r1, .int .i64 r2, .int .i64 r3] 69)).below hb1
    have hBa := (hB.alloc (.cells #[.int .i64 r1, .int .i64 r2, .int .i64 r3] 69)).below hb1
    have hRa := (Box.new wo 69 #[.int .i64 r1, .int .i64 r2, .int .i64 r3]).below hb1
    have hba := (hbr.alloc (by omega) (.cells #[.int .i64 r1, .int .i64 r2, .int .i64 r3] 69)).trans (hb1.mono (by simp; omega))
    obtain ⟨fn, hfn⟩ : ∃ fn : Nat, fr = (fn : Int) := ⟨fr.toNat, by omega⟩
    subst hfn
    clear hM hB hbr hb1 c0 c1 c2
    go_loopg [8, 11] r3.toNat (fun gq v i wr => ∃ q j : Nat, v = .int .i64 (cntB n (someB v0 fn q)) ∧ i = .int .i64 j ∧ j = fn + q ∧ (q : Int) ≤ r3 ∧ Hid (gq = r3.toNat - q) ∧ Marks wr (w.heap.size + 1) n (someB v0 fn q) ∧ Box wr w.heap.size 62 #[.int .i64 0, .int .i64 0] ∧ Box wr wo.heap.size 69 #[.int .i64 r1, .int .i64 r2, .int .i64 r3] ∧ wo.heap.size + 1 ≤ wr.heap.size ∧ Below w.heap.size w wr)
    case atStart => exact ⟨0, fn, by rw [cntB_congr (fun i _ => someB_zero v0 fn i)], rfl, rfl, by omega, rfl, hMa.congr (fun i _ => (someB_zero v0 fn i).symm), hBa, hRa, by omega, hba⟩
    clear hMa hBa hRa hba hz1
    obtain ⟨q, j, rfl, rfl, hj, hq, hgq, hM, hB, hR, hsz1, hbr⟩ := hrel
    have hcl := cntB_le n (someB v0 fn q)
    have hwe : IntKind.i64.wrap ((fn : Int) + r3) = (fn : Int) + r3 := IntWalk.i64_in _ (by omega)
    have hR_l := hR.lt; have hR_0 := hR.cell 0; have hR_1 := hR.cell 1; have hR_2 := hR.cell 2; simp at hR_0 hR_1 hR_2
    by_cases hq2 : (q : Int) < r3
    · have hd1 : decide ((j : Int) < (fn : Int) + r3) = true := decide_eq_true (by omega)
      have hj1 : (0 : Int) ≤ (j : Int) := by omega
      have hj2 : (j : Int) < (n : Int) := by omega
      have Hj := Lib.hid hj
      clear hj
      go_upto_region 7 with (fail)
      refine wp_region_held_drew (S := (fun wx => wx.cell? ⟨wo.heap.size, 0, none⟩ = some (.int .i64 r1) ∧ wx.cell? ⟨wo.heap.size, 1, none⟩ = some (.int .i64 r2) ∧ wx.cell? ⟨wo.heap.size, 2, none⟩ = some (.int .i64 r3) ∧ Below wr.heap.size wr wx)) (by kernel_rfl) ?hS (fun hHeld => ?_)
      case hS => exact ⟨hR_0, hR_1, hR_2, (Below.refl _ _).drew⟩
      refine rtake (i := 0) (d := (some 23)) (v := ?_) rfl (by kernel_rfl) (by kernel_rfl) (by kernel_rfl) (by kernel_rfl) (fun _ _ _ h => h) (by kernel_rfl) (by assumption) ?_ ?_
      rotate_left 1
      · (intro wI hSI; (try dsimp only at hSI); go_simp; (try with_reducible rfl))
      simp only [Act.put, List.setIfInBounds_toArray, List.set_cons_zero, List.set_cons_succ]
      refine rtake (i := 1) (d := (some 24)) (v := ?_) rfl (by kernel_rfl) (by kernel_rfl) (by kernel_rfl) (by kernel_rfl) (fun _ _ _ h => h) (by kernel_rfl) (by assumption) ?_ ?_
      rotate_left 1
      · (intro wI hSI; (try dsimp only at hSI); go_simp; (try with_reducible rfl))
      simp only [Act.put, List.setIfInBounds_toArray, List.set_cons_zero, List.set_cons_succ]
      refine rtake (i := 2) (d := (some 25)) (v := ?_) rfl (by kernel_rfl) (by kernel_rfl) (by kernel_rfl) (by kernel_rfl) (fun _ _ _ h => h) (by kernel_rfl) (by assumption) ?_ ?_
      rotate_left 1
      · (intro wI hSI; (try dsimp only at hSI); go_simp; (try with_reducible rfl))
      simp only [Act.put, List.setIfInBounds_toArray, List.set_cons_zero, List.set_cons_succ]
      refine rtake (i := 4) (d := (some 27)) (v := ?_) rfl (by kernel_rfl) (by kernel_rfl) (by kernel_rfl) (by kernel_rfl) (fun _ _ _ h => h) (by kernel_rfl) (by assumption) ?_ ?_
      rotate_left 1
      · (intro wI hSI; (try dsimp only at hSI); go_simp; (try with_reducible rfl))
      simp only [Act.put, List.setIfInBounds_toArray, List.set_cons_zero, List.set_cons_succ]
      refine rtake (i := 5) (d := (some 28)) (v := ?_) rfl (by kernel_rfl) (by kernel_rfl) (by kernel_rfl) (by kernel_rfl) (fun _ _ _ h => h) (by kernel_rfl) (by assumption) ?_ ?_
      rotate_left 1
      · (intro wI hSI; (try dsimp only at hSI); go_simp; (try with_reducible rfl))
      simp only [Act.put, List.setIfInBounds_toArray, List.set_cons_zero, List.set_cons_succ]
      refine rcall (i := 3) (d := (some 26)) (by kernel_rfl) rfl (by kernel_rfl) (fun K hK => ?_)
      go_simp
      go_at_fn g
      refine (HC.out _).mono ?_
      rintro e wb ⟨rfl, hbb⟩
      dsimp only
      refine hK.out (.int .i64 (fn : Int)) _ ?hS (fun hHeld => ?_)
      case hS => exact ⟨cell_later hbb hHeld.1, cell_later hbb hHeld.2.1, cell_later hbb hHeld.2.2.1, below_next hHeld.2.2.2 hbb⟩
      clear hK K
      simp only [Act.put, List.setIfInBounds_toArray, List.set_cons_zero, List.set_cons_succ]
      refine rtake (i := 6) (d := (some 29)) (v := ?_) rfl (by kernel_rfl) (by kernel_rfl) (by kernel_rfl) (by kernel_rfl) (fun _ _ _ h => h) (by kernel_rfl) (by assumption) ?_ ?_
      rotate_left 1
      · (intro wI hSI; (try dsimp only at hSI); go_simp; (try with_reducible rfl))
      simp only [Act.put, List.setIfInBounds_toArray, List.set_cons_zero, List.set_cons_succ]
      refine rtake (i := 7) (d := (some 30)) (v := ?_) rfl (by kernel_rfl) (by kernel_rfl) (by kernel_rfl) (by kernel_rfl) (fun _ _ _ h => h) (by kernel_rfl) (by assumption) ?_ ?_
      rotate_left 1
      · (intro wI hSI; (try dsimp only at hSI); go_simp; (try with_reducible rfl))
      simp only [Act.put, List.setIfInBounds_toArray, List.set_cons_zero, List.set_cons_succ]
      refine wpAnyH_done (by kernel_rfl) ?_ _
      have hbe := hHeld.2.2.2
      have hze := hbe.size
      have hMe := hM.below hbe
      have hBe := hB.below hbe
      have hRe := hR.below hbe
      have hb2 := below_next hbr hbe
      have hjl : j < n := by omega
      have hc := hMe.cell hjl
      have hcf := hMe.frozen j
      have Hs := Lib.hid (fun i => someB_succ v0 (a := (fn : Int)) (i := j) q (by have := Hj.out; omega) i)
      have hwn : IntKind.i64.wrap ((cntB n (someB v0 fn q) : Int) + 1) = (cntB n (someB v0 fn q) : Int) + 1 := IntWalk.i64_in _ (by omega)
      clear hHeld hM hB hR hbr hbe hR_0 hR_1 hR_2 hbb
      cases hv : someB v0 fn q j
      · rw [hv] at hc
        have Hcn : Hid (cntB n (someB v0 fn (q + 1)) = cntB n (someB v0 fn q) + 1) := by
          show _ = _
          rw [← cntB_congr (fun i _ => Hs.out i), cntB_more hv, if_pos hjl]
        have hM3 := (hMe.put hjl).congr (fun i _ => Hs.out i)
        have hB3 := hBe.setOther (p := ⟨w.heap.size + 1, j, none⟩) (by show w.heap.size + 1 ≠ w.heap.size; omega) (.bool true)
        have hR3 := hRe.setOther (p := ⟨w.heap.size + 1, j, none⟩) (by show w.heap.size + 1 ≠ wo.heap.size; omega) (.bool true)
        have hb3 := hb2.setCell (p := ⟨w.heap.size + 1, j, none⟩) (by show w.heap.size ≤ w.heap.size + 1; omega) (.bool true)
        have hz3 : wo.heap.size + 1 ≤ (wb.setCell ⟨w.heap.size + 1, j, none⟩ (.bool true)).heap.size := by simp [World.setCell]; omega
        clear hv hMe hBe hRe hb2 Hs
        go_wp2_with fail
        go_roundg (r3.toNat - (q + 1))
        case measure => have := hgq.out; omega
        case rel => exact ⟨q + 1, j + 1, by rw [Hcn.out]; go_num, by go_num, by rw [Hj.out]; omega, by omega, rfl, hM3, hB3, hR3, hz3, hb3⟩
      · rw [hv] at hc
        have Hsame : Hid (∀ i, someB v0 fn q i = someB v0 fn (q + 1) i) := fun i => by rw [← Hs.out i, andB_had hv]
        have Hcn : Hid (cntB n (someB v0 fn (q + 1)) = cntB n (someB v0 fn q)) := cntB_congr (fun i _ => (Hsame.out i).symm)
        have hM3 := hMe.congr (fun i _ => Hsame.out i)
        have hz3 : wo.heap.size + 1 ≤ wb.heap.size := by omega
        clear hv hMe Hs
        go_wp2_with fail
        go_roundg (r3.toNat - (q + 1))
        case measure => have := hgq.out; omega
        case rel => exact ⟨q + 1, j + 1, by rw [Hcn.out], by go_num, by rw [Hj.out]; omega, by omega, rfl, hM3, hBe, hRe, hz3, hb2⟩
    · have hd1 : decide ((j : Int) < (fn : Int) + r3) = false := decide_eq_false (by omega)
      have Hj := Lib.hid hj
      clear hj
      go_upto_region 7 with (fail)
      refine wp_region_held_drew (S := (fun wx => wx.cell? ⟨wo.heap.size, 0, none⟩ = some (.int .i64 r1) ∧ wx.cell? ⟨wo.heap.size, 1, none⟩ = some (.int .i64 r2) ∧ wx.cell? ⟨wo.heap.size, 2, none⟩ = some (.int .i64 r3) ∧ Below wr.heap.size wr wx)) (by kernel_rfl) ?hS (fun hHeld => ?_)
      case hS => exact ⟨hR_0, hR_1, hR_2, (Below.refl _ _).drew⟩
      refine rtake (i := 0) (d := (some 23)) (v := ?_) rfl (by kernel_rfl) (by kernel_rfl) (by kernel_rfl) (by kernel_rfl) (fun _ _ _ h => h) (by kernel_rfl) (by assumption) ?_ ?_
      rotate_left 1
      · (intro wI hSI; (try dsimp only at hSI); go_simp; (try with_reducible rfl))
      simp only [Act.put, List.setIfInBounds_toArray, List.set_cons_zero, List.set_cons_succ]
      refine rtake (i := 1) (d := (some 24)) (v := ?_) rfl (by kernel_rfl) (by kernel_rfl) (by kernel_rfl) (by kernel_rfl) (fun _ _ _ h => h) (by kernel_rfl) (by assumption) ?_ ?_
      rotate_left 1
      · (intro wI hSI; (try dsimp only at hSI); go_simp; (try with_reducible rfl))
      simp only [Act.put, List.setIfInBounds_toArray, List.set_cons_zero, List.set_cons_succ]
      refine rtake (i := 2) (d := (some 25)) (v := ?_) rfl (by kernel_rfl) (by kernel_rfl) (by kernel_rfl) (by kernel_rfl) (fun _ _ _ h => h) (by kernel_rfl) (by assumption) ?_ ?_
      rotate_left 1
      · (intro wI hSI; (try dsimp only at hSI); go_simp; (try with_reducible rfl))
      simp only [Act.put, List.setIfInBounds_toArray, List.set_cons_zero, List.set_cons_succ]
      refine rtake (i := 4) (d := (some 27)) (v := ?_) rfl (by kernel_rfl) (by kernel_rfl) (by kernel_rfl) (by kernel_rfl) (fun _ _ _ h => h) (by kernel_rfl) (by assumption) ?_ ?_
      rotate_left 1
      · (intro wI hSI; (try dsimp only at hSI); go_simp; (try with_reducible rfl))
      simp only [Act.put, List.setIfInBounds_toArray, List.set_cons_zero, List.set_cons_succ]
      refine rtake (i := 5) (d := (some 28)) (v := ?_) rfl (by kernel_rfl) (by kernel_rfl) (by kernel_rfl) (by kernel_rfl) (fun _ _ _ h => h) (by kernel_rfl) (by assumption) ?_ ?_
      rotate_left 1
      · (intro wI hSI; (try dsimp only at hSI); go_simp; (try with_reducible rfl))
      simp only [Act.put, List.setIfInBounds_toArray, List.set_cons_zero, List.set_cons_succ]
      refine rcall (i := 3) (d := (some 26)) (by kernel_rfl) rfl (by kernel_rfl) (fun K hK => ?_)
      go_simp
      go_at_fn g
      refine (HC.out _).mono ?_
      rintro e wb ⟨rfl, hbb⟩
      dsimp only
      refine hK.out (.int .i64 (fn : Int)) _ ?hS (fun hHeld => ?_)
      case hS => exact ⟨cell_later hbb hHeld.1, cell_later hbb hHeld.2.1, cell_later hbb hHeld.2.2.1, below_next hHeld.2.2.2 hbb⟩
      clear hK K
      simp only [Act.put, List.setIfInBounds_toArray, List.set_cons_zero, List.set_cons_succ]
      refine rtake (i := 6) (d := (some 29)) (v := ?_) rfl (by kernel_rfl) (by kernel_rfl) (by kernel_rfl) (by kernel_rfl) (fun _ _ _ h => h) (by kernel_rfl) (by assumption) ?_ ?_
      rotate_left 1
      · (intro wI hSI; (try dsimp only at hSI); go_simp; (try with_reducible rfl))
      simp only [Act.put, List.setIfInBounds_toArray, List.set_cons_zero, List.set_cons_succ]
      refine rtake (i := 7) (d := (some 30)) (v := ?_) rfl (by kernel_rfl) (by kernel_rfl) (by kernel_rfl) (by kernel_rfl) (fun _ _ _ h => h) (by kernel_rfl) (by assumption) ?_ ?_
      rotate_left 1
      · (intro wI hSI; (try dsimp only at hSI); go_simp; (try with_reducible rfl))
      simp only [Act.put, List.setIfInBounds_toArray, List.set_cons_zero, List.set_cons_succ]
      refine wpAnyH_done (by kernel_rfl) ?_ _
      have hbe := hHeld.2.2.2
      have hze := hbe.size
      have he : ∀ i, someB v0 fn q i = inRuns (rs.take (k + 1)) f i := fun i => by rw [Hsn.out i]; unfold someB; rw [show (q : Int) = r3 by omega]
      have hM2 := (hM.below hbe).congr (fun i _ => he i)
      have hB2 := hB.below hbe
      have hb2 := below_next hbr hbe
      have hcc := cntB_congr (n := n) (fun i _ => he i)
      rw [hcc]
      rw [← Hre.out]
      go_wp2_with fail
      go_roundg (rs.length - (k + 1))
      case measure => have := hgk.out; omega
      case rel => exact ⟨k + 1, rfl, by go_num, by omega, rfl, hM2, hB2, by omega, hb2⟩
  · obtain rfl : k = rs.length := by omega
    rw [List.take_length]
    go_wp2_with fail
    refine (HLw.out _).mono ?_
    rintro e w2 ⟨rfl, hb2⟩
    have hB2 := hB.below hb2
    have hb3 := below_next hbr hb2
    have hB2_l := hB2.lt; have hB2_0 := hB2.cell 0; have hB2_1 := hB2.cell 1; simp at hB2_0 hB2_1
    have hB2_f0 := hB2.frozen 0; have hB2_f1 := hB2.frozen 1
    go_wp2_with fail
    refine bodyPost_ret (v := .agg #[.int .i64 q1, .int .i64 q2]) (by simp only [results, Tryz.results137]; go_simp) rfl ⟨rfl, ?_⟩
    exact (hb3.setCell (p := ⟨w.heap.size, 0, none⟩) (Nat.le_refl _) _).setCell (p := ⟨w.heap.size, 1, none⟩) (Nat.le_refl _) _
end Go.Proofs.YtlpknpjfmacemaaGreatDoor
