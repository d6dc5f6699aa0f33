/- For every list of raw numbers, DraftsAlike returns true. The walk. -/
import Derived.Test.YtlpknpjfmacemaaGreatDoorMakeDraft
import Derived.Test.YtlpknpjfmacemaaGreatDoorTwin3
import Derived.Test.YtlpknpjfmacemaaGreatDoorOver
import Derived.Test.YtlpknpjfmacemaaGreatDoorSubmits2
import Derived.Test.YtlpknpjfmacemaaGreatDoorReg
namespace Go.Proofs.YtlpknpjfmacemaaGreatDoor.draftsAlike
open Go.RowKit
set_option linter.unusedVariables false
set_option linter.unusedSimpArgs false

set_option maxRecDepth 100000 in
set_option maxHeartbeats 4000000 in
/-- Two slices that read alike are equal. -/
theorem eqTwin_any (l : List Twin) (a a2 : Option Addr) (cap cap2 : Nat) (w : World) (h : SA w a l) (h2 : SA w a2 l) (hlen : l.length ≤ 1000000000) :
    Calls Tryz.prog 35 #[.slice a l.length cap, .slice a2 l.length cap2] w (Draws (.bool true) w) := by
  have hq0 : ((l.length : Int) != (l.length : Int)) = false := by simp
  go_enter Tryz.func35, Tryz.ntmps35
  go_wp2_with fail
  go_loopg [13] l.length (fun gk i wr => ∃ k : Nat, i = .int .i64 k ∧ k ≤ l.length ∧ Hid (gk = l.length - k) ∧ ∃ n, wr = w.drewN n)
  case atStart => exact ⟨0, rfl, by omega, rfl, 0, rfl⟩
  case round =>
    obtain ⟨k, rfl, hk, hgk, n, rfl⟩ := hrel
    by_cases hlt : k < l.length
    · obtain ⟨b, off, ha, c0, c1, c2, c3⟩ := h.twin hlt
      obtain ⟨b', off', ha', d0, d1, d2, d3⟩ := h2.twin hlt
      rw [ha, ha']
      generalize l[k] = x at *
      obtain ⟨x1, x2, x3, x4⟩ := x
      simp only at *
      have hk1 : (0 : Int) ≤ (k : Int) := by omega
      have hk2 : (k : Int) < (l.length : Int) := by omega
      go_wp2_with fail
      go_quiet (fail)
      go_wp2_with fail
      rw [← ha, ← ha']
      go_roundg (l.length - (k + 1))
      case measure => have := hgk.out; omega
      case rel => exact ⟨k + 1, by go_num, by omega, rfl, _, rfl⟩
    · go_wp2_with fail
      go_ret
      exact ⟨rfl, _, rfl⟩
theorem draftsE_zero {ds : List Drf} {least percent : Int} (h : draftsE ds least percent = 0) : (∀ d ∈ ds, (wordsS d.2).length ≤ 600) ∧ 1 ≤ percent ∧ percent ≤ 100 := by
  unfold draftsE at h
  split at h
  · rename_i h1; exact absurd h h1
  · rename_i h1
    split at h
    · exact absurd h (by decide)
    · exact ⟨drafts_short (firstErr_all (Classical.not_not.1 h1)), by omega, by omega⟩
set_option maxRecDepth 100000 in
set_option maxHeartbeats 16000000 in
theorem walk (a0 : Option Addr) (len0 cap0 : Nat) (z0 : List Int) (w : World) (w0 : IsRow .i64 w a0 len0 cap0 z0) (hE : Env w) :
    Calls Tryz.prog 4 #[.slice a0 len0 cap0] w fun e w' => e = .returned (.bool true) ∧ Below w.heap.size w w' := by
  have hs := strm_new w0
  have hES := hE.envS
  go_enter Tryz.func4, Tryz.ntmps4
  go_wp2_with fail
  refine (draft_any w.heap.size 0 _ hs (by omega)).mono ?_
  rintro e w1 ⟨a, ha, rfl, h1, s1⟩
  have hz1 := h1.size
  simp at hz1
  go_wp2_with fail
  refine (draft_any w.heap.size (0 + 20) _ s1 (by omega)).mono ?_
  rintro e w2 ⟨b, hb, rfl, h2, s2⟩
  have hz2 := h2.size
  go_wp2_with fail
  refine (pick_box w.heap.size _ _ 3 7 [1, 2, 3, 5, 100, 0, 101] _ (s2.alloc _) (by omega) (Box.new _ _ _) (by omega) (by decide) (by decide)).mono ?_
  rintro e w3 ⟨least, hl3, rfl, h3, s3⟩
  have hz3 := h3.size
  simp at hz3
  have hst3 := ((((Stp.refl w.heap.size w).alloc (.cells #[.slice a0 len0 cap0, .int .i64 0] 25)).trans h1).trans h2).alloc (.cells #[.int .i64 1, .int .i64 2, .int .i64 3, .int .i64 5, .int .i64 100, .int .i64 0, .int .i64 101] 3)
  replace hst3 := hst3.trans h3
  have hE3 : Env w3 := hE.stp hst3 hES
  have HRu := Lib.hid (Runs_any a b least w3 hE3 (by omega) (by omega))
  have HOl := Lib.hid (fun W (h : Below w3.heap.size w3 W) => Overlap_any a b least W (hE3.below h) (by omega) (by omega))
  have HRF := Lib.hid (fun W (h : Below w3.heap.size w3 W) => runsFault_any a b least W (hE3.below h) (by omega) (by omega))
  have HLn := Lib.hid (fun h => pairE_len (a := a) (b := b) (least := least) h)
  have HRO := Lib.hid (fun W h1 h2 => runsOf_any a b least W (by omega) (by omega) h1 h2)
  have HOO := Lib.hid (fun W h1 h2 => overlapOf_any a b least W (by omega) (by omega) h1 h2)
  have HNl := Lib.hid (fun h1 h2 => runsL_len (x := wordsS a) (y := wordsS b) least h1 h2)
  have HX : Hid (runsE a b least = if pairE a b least ≠ 0 then pairE a b least else if 2000 < (runsL (wordsS a) (wordsS b) least).length then 12 else 0) := rfl
  rw [overV_eq] at HOl
  generalize runsE a b least = ex at *
  generalize pairE a b least = pe at *
  generalize wordsS a = la at *
  generalize wordsS b = lb at *
  generalize overP la lb least = ov at *
  generalize runsL la lb least = rs at *
  obtain ⟨o1, o2⟩ := ov
  simp only at HOl HOO
  obtain ⟨p1, p2, hp⟩ : ∃ p1 p2 : Int, (if pe ≠ 0 then fracV 0 0 else .agg #[.int .i64 o1, .int .i64 o2]) = .agg #[.int .i64 p1, .int .i64 p2] := by
    split
    · exact ⟨_, _, rfl⟩
    · exact ⟨_, _, rfl⟩
  have Hp : Hid (pe = 0 → p1 = o1 ∧ p2 = o2) := fun h0 => by
    rw [if_neg (fun e => e h0)] at hp
    cases hp
    exact ⟨rfl, rfl⟩
  rw [hp] at HOl
  clear hp h1 h2 h3 s1 s2 hs w0 hl3
  go_wp2_with fail
  refine HRu.out.mono ?_
  rintro e w4 ⟨hb4, hcase⟩
  obtain ⟨ra, rn, rc, rfl, Hr⟩ : ∃ ra rn rc, e = .returned (.tuple #[.slice ra rn rc, .int .i64 ex]) ∧ Hid (ex = 0 → rn = rs.length ∧ SA w4 ra rs) := by
    rcases hcase with ⟨hne, rfl⟩ | ⟨h0, v, rfl, hown⟩
    · exact ⟨none, 0, 0, rfl, fun h => absurd h hne⟩
    · obtain ⟨a4, c4, rfl, hsa, -, -⟩ := hown.sa
      rw [h0]
      exact ⟨a4, _, c4, rfl, fun _ => ⟨rfl, hsa⟩⟩
  clear hcase HRu
  go_wp2_with fail
  refine (HOl.out _ hb4).mono ?_
  rintro e w5 ⟨rfl, hb5⟩
  have hb35 := (below_next hb4 hb5).alloc (by have := (below_next hb4 hb5).size; exact this) (.cells #[.int .i64 p1, .int .i64 p2] 62)
  have hBf := Box.new w5 62 #[.int .i64 p1, .int .i64 p2]
  have Hr5 : Hid (ex = 0 → rn = rs.length ∧ SA (w5.alloc (.cells #[.int .i64 p1, .int .i64 p2] 62)) ra rs) := fun h0 => ⟨(Hr.out h0).1, ((Hr.out h0).2.below hb5).alloc _⟩
  clear Hr HOl
  go_wp2_with fail
  refine (HRF.out _ hb35).mono ?_
  rintro e w6 ⟨rfl, hb6⟩
  have hb36 := below_next hb35 hb6
  have hB6 := hBf.below hb6
  have Hr6 : Hid (ex = 0 → rn = rs.length ∧ SA w6 ra rs) := fun h0 => ⟨(Hr5.out h0).1, (Hr5.out h0).2.below hb6⟩
  clear Hr5 hBf hb35 hb5 HRF
  go_upto_if 47 with (fail)
  go_cut [12] from 47 to 82 (fun v wx => ∃ W' : World, W' = wx ∧ Below w3.heap.size w3 W')
  case first =>
    by_cases h0 : pe = 0
    · subst h0
      replace HX := Lib.hid (HX.out.trans (if_neg (by decide)))
      obtain ⟨hl1, hl2, -, -⟩ := HLn.out rfl
      obtain ⟨rfl, rfl⟩ := Hp.out rfl
      have hrl := HNl.out hl1 hl2
      have HRO2 := Lib.hid (fun W => HRO.out W hl1 hl2)
      have HOO2 := Lib.hid (fun W => HOO.out W hl1 hl2)
      clear HRO HOO HLn HNl
      go_wp2_with fail
      refine (HRO2.out _).mono ?_
      rintro e w7 ⟨v7, rfl, hown7, hb7⟩
      obtain ⟨oa, oc, rfl, hsa7, -, -⟩ := hown7.sa
      have hb37 := below_next hb36 hb7
      have hB7 := hB6.below hb7
      have Hr7 : Hid (ex = 0 → rn = rs.length ∧ SA w7 ra rs) := fun h0 => ⟨(Hr6.out h0).1, (Hr6.out h0).2.below hb7⟩
      clear hown7 hB6 Hr6 hb6 hb7 hb36
      by_cases hbig : 2000 < rs.length
      · replace HX := Lib.hid (HX.out.trans (if_pos hbig))
        have hd1 : decide ((2000 : Int) < (rs.length : Int)) = true := decide_eq_true (by omega)
        have hx := HX.out
        clear Hr7 HX hbig hsa7
        subst hx
        go_upto_region 15 with (fail)
        have hB7_l := hB7.lt; have hB7_0 := hB7.cell 0; have hB7_1 := hB7.cell 1; simp at hB7_0 hB7_1
        refine wp_region_held_drew (S := (fun wx => wx.cell? ⟨w5.heap.size, 0, none⟩ = some (.int .i64 p1) ∧ wx.cell? ⟨w5.heap.size, 1, none⟩ = some (.int .i64 p2))) (by kernel_rfl) ?hS (fun hHeld => ?_)
        case hS => exact ⟨hB7_0, hB7_1⟩
        refine rtake (i := 0) (d := (some 73)) (v := ?_) rfl (by kernel_rfl) (by kernel_rfl) (by kernel_rfl) (by kernel_rfl) (fun _ _ _ h => h) (by kernel_rfl) (by assumption) ?_ ?_
        rotate_left 1
        · (intro wI hSI; (try dsimp only at hSI); go_simp; (try with_reducible rfl))
        simp only [Act.put, List.setIfInBounds_toArray, List.set_cons_zero, List.set_cons_succ]
        refine rtake (i := 1) (d := (some 74)) (v := ?_) rfl (by kernel_rfl) (by kernel_rfl) (by kernel_rfl) (by kernel_rfl) (fun _ _ _ h => h) (by kernel_rfl) (by assumption) ?_ ?_
        rotate_left 1
        · (intro wI hSI; (try dsimp only at hSI); go_simp; (try with_reducible rfl))
        simp only [Act.put, List.setIfInBounds_toArray, List.set_cons_zero, List.set_cons_succ]
        refine rtake (i := 2) (d := (some 75)) (v := ?_) rfl (by kernel_rfl) (by kernel_rfl) (by kernel_rfl) (by kernel_rfl) (fun _ _ _ h => h) (by kernel_rfl) (by assumption) ?_ ?_
        rotate_left 1
        · (intro wI hSI; (try dsimp only at hSI); go_simp; (try with_reducible rfl))
        simp only [Act.put, List.setIfInBounds_toArray, List.set_cons_zero, List.set_cons_succ]
        refine rtake (i := 3) (d := (some 76)) (v := ?_) rfl (by kernel_rfl) (by kernel_rfl) (by kernel_rfl) (by kernel_rfl) (fun _ _ _ h => h) (by kernel_rfl) (by assumption) ?_ ?_
        rotate_left 1
        · (intro wI hSI; (try dsimp only at hSI); go_simp; (try with_reducible rfl))
        simp only [Act.put, List.setIfInBounds_toArray, List.set_cons_zero, List.set_cons_succ]
        refine rtake (i := 4) (d := (some 77)) (v := ?_) rfl (by kernel_rfl) (by kernel_rfl) (by kernel_rfl) (by kernel_rfl) (fun _ _ _ h => h) (by kernel_rfl) (by assumption) ?_ ?_
        rotate_left 1
        · (intro wI hSI; (try dsimp only at hSI); go_simp; (try with_reducible rfl))
        simp only [Act.put, List.setIfInBounds_toArray, List.set_cons_zero, List.set_cons_succ]
        refine rtake (i := 5) (d := (some 78)) (v := ?_) rfl (by kernel_rfl) (by kernel_rfl) (by kernel_rfl) (by kernel_rfl) (fun _ _ _ h => h) (by kernel_rfl) (by assumption) ?_ ?_
        rotate_left 1
        · (intro wI hSI; (try dsimp only at hSI); go_simp; (try with_reducible rfl))
        simp only [Act.put, List.setIfInBounds_toArray, List.set_cons_zero, List.set_cons_succ]
        refine rtake (i := 6) (d := (some 79)) (v := ?_) rfl (by kernel_rfl) (by kernel_rfl) (by kernel_rfl) (by kernel_rfl) (fun _ _ _ h => h) (by kernel_rfl) (by assumption) ?_ ?_
        rotate_left 1
        · (intro wI hSI; (try dsimp only at hSI); go_simp; (try with_reducible rfl))
        simp only [Act.put, List.setIfInBounds_toArray, List.set_cons_zero, List.set_cons_succ]
        refine rcall (i := 7) (d := (some 80)) (by kernel_rfl) rfl (by kernel_rfl) (fun K hK => ?_)
        go_simp
        go_at_call 31; refine (HOO2.out _).mono ?_; rintro e w9 ⟨rfl, hb9⟩; dsimp only
        refine hK.out _ _ ?hS (fun hHeld => ?_)
        case hS => exact ⟨cell_later hb9 hHeld.1, cell_later hb9 hHeld.2⟩
        clear hK K
        simp only [Act.put, List.setIfInBounds_toArray, List.set_cons_zero, List.set_cons_succ]
        refine rtake (i := 8) (d := (some 81)) (v := ?_) rfl (by kernel_rfl) (by kernel_rfl) (by kernel_rfl) (by kernel_rfl) (fun _ _ _ h => h) (by kernel_rfl) (by assumption) ?_ ?_
        rotate_left 1
        · (intro wI hSI; (try dsimp only at hSI); go_simp; (try with_reducible rfl))
        simp only [Act.put, List.setIfInBounds_toArray, List.set_cons_zero, List.set_cons_succ]
        refine rtake (i := 9) (d := (some 82)) (v := ?_) rfl (by kernel_rfl) (by kernel_rfl) (by kernel_rfl) (by kernel_rfl) (fun _ _ _ h => h) (by kernel_rfl) (by assumption) ?_ ?_
        rotate_left 1
        · (intro wI hSI; (try dsimp only at hSI); go_simp; (try with_reducible rfl))
        simp only [Act.put, List.setIfInBounds_toArray, List.set_cons_zero, List.set_cons_succ]
        refine wpAnyH_done (by kernel_rfl) ?_ _
        have hb39 := hb37.drew.trans (hb9.mono hb37.size)
        go_wp2_with fail
        go_meet
        exact ⟨_, rfl, hb39⟩
      · replace HX := Lib.hid (HX.out.trans (if_neg hbig))
        have hd1 : decide ((2000 : Int) < (rs.length : Int)) = false := decide_eq_false (by omega)
        obtain ⟨rfl, hsr7⟩ := Hr7.out HX.out
        have hx := HX.out
        clear Hr7 HX hbig
        subst hx
        go_wp2_with fail
        refine (eqRun_any rs ra oa rc oc _ hsr7 hsa7 (by omega)).mono ?_
        rintro e w8 ⟨rfl, n8, rfl⟩
        replace hB7 := hB7.drewN n8
        replace hb37 := below_drewN hb37 n8
        clear hsr7 hsa7
        go_upto_region 15 with (fail)
        have hB7_l := hB7.lt; have hB7_0 := hB7.cell 0; have hB7_1 := hB7.cell 1; simp at hB7_0 hB7_1
        refine wp_region_held_drew (S := (fun wx => wx.cell? ⟨w5.heap.size, 0, none⟩ = some (.int .i64 p1) ∧ wx.cell? ⟨w5.heap.size, 1, none⟩ = some (.int .i64 p2))) (by kernel_rfl) ?hS (fun hHeld => ?_)
        case hS => exact ⟨hB7_0, hB7_1⟩
        refine rtake (i := 0) (d := (some 73)) (v := ?_) rfl (by kernel_rfl) (by kernel_rfl) (by kernel_rfl) (by kernel_rfl) (fun _ _ _ h => h) (by kernel_rfl) (by assumption) ?_ ?_
        rotate_left 1
        · (intro wI hSI; (try dsimp only at hSI); go_simp; (try with_reducible rfl))
        simp only [Act.put, List.setIfInBounds_toArray, List.set_cons_zero, List.set_cons_succ]
        refine rtake (i := 1) (d := (some 74)) (v := ?_) rfl (by kernel_rfl) (by kernel_rfl) (by kernel_rfl) (by kernel_rfl) (fun _ _ _ h => h) (by kernel_rfl) (by assumption) ?_ ?_
        rotate_left 1
        · (intro wI hSI; (try dsimp only at hSI); go_simp; (try with_reducible rfl))
        simp only [Act.put, List.setIfInBounds_toArray, List.set_cons_zero, List.set_cons_succ]
        refine rtake (i := 2) (d := (some 75)) (v := ?_) rfl (by kernel_rfl) (by kernel_rfl) (by kernel_rfl) (by kernel_rfl) (fun _ _ _ h => h) (by kernel_rfl) (by assumption) ?_ ?_
        rotate_left 1
        · (intro wI hSI; (try dsimp only at hSI); go_simp; (try with_reducible rfl))
        simp only [Act.put, List.setIfInBounds_toArray, List.set_cons_zero, List.set_cons_succ]
        refine rtake (i := 3) (d := (some 76)) (v := ?_) rfl (by kernel_rfl) (by kernel_rfl) (by kernel_rfl) (by kernel_rfl) (fun _ _ _ h => h) (by kernel_rfl) (by assumption) ?_ ?_
        rotate_left 1
        · (intro wI hSI; (try dsimp only at hSI); go_simp; (try with_reducible rfl))
        simp only [Act.put, List.setIfInBounds_toArray, List.set_cons_zero, List.set_cons_succ]
        refine rtake (i := 4) (d := (some 77)) (v := ?_) rfl (by kernel_rfl) (by kernel_rfl) (by kernel_rfl) (by kernel_rfl) (fun _ _ _ h => h) (by kernel_rfl) (by assumption) ?_ ?_
        rotate_left 1
        · (intro wI hSI; (try dsimp only at hSI); go_simp; (try with_reducible rfl))
        simp only [Act.put, List.setIfInBounds_toArray, List.set_cons_zero, List.set_cons_succ]
        refine rtake (i := 5) (d := (some 78)) (v := ?_) rfl (by kernel_rfl) (by kernel_rfl) (by kernel_rfl) (by kernel_rfl) (fun _ _ _ h => h) (by kernel_rfl) (by assumption) ?_ ?_
        rotate_left 1
        · (intro wI hSI; (try dsimp only at hSI); go_simp; (try with_reducible rfl))
        simp only [Act.put, List.setIfInBounds_toArray, List.set_cons_zero, List.set_cons_succ]
        refine rtake (i := 6) (d := (some 79)) (v := ?_) rfl (by kernel_rfl) (by kernel_rfl) (by kernel_rfl) (by kernel_rfl) (fun _ _ _ h => h) (by kernel_rfl) (by assumption) ?_ ?_
        rotate_left 1
        · (intro wI hSI; (try dsimp only at hSI); go_simp; (try with_reducible rfl))
        simp only [Act.put, List.setIfInBounds_toArray, List.set_cons_zero, List.set_cons_succ]
        refine rcall (i := 7) (d := (some 80)) (by kernel_rfl) rfl (by kernel_rfl) (fun K hK => ?_)
        go_simp
        go_at_call 31; refine (HOO2.out _).mono ?_; rintro e w9 ⟨rfl, hb9⟩; dsimp only
        refine hK.out _ _ ?hS (fun hHeld => ?_)
        case hS => exact ⟨cell_later hb9 hHeld.1, cell_later hb9 hHeld.2⟩
        clear hK K
        simp only [Act.put, List.setIfInBounds_toArray, List.set_cons_zero, List.set_cons_succ]
        refine rtake (i := 8) (d := (some 81)) (v := ?_) rfl (by kernel_rfl) (by kernel_rfl) (by kernel_rfl) (by kernel_rfl) (fun _ _ _ h => h) (by kernel_rfl) (by assumption) ?_ ?_
        rotate_left 1
        · (intro wI hSI; (try dsimp only at hSI); go_simp; (try with_reducible rfl))
        simp only [Act.put, List.setIfInBounds_toArray, List.set_cons_zero, List.set_cons_succ]
        refine rtake (i := 9) (d := (some 82)) (v := ?_) rfl (by kernel_rfl) (by kernel_rfl) (by kernel_rfl) (by kernel_rfl) (fun _ _ _ h => h) (by kernel_rfl) (by assumption) ?_ ?_
        rotate_left 1
        · (intro wI hSI; (try dsimp only at hSI); go_simp; (try with_reducible rfl))
        simp only [Act.put, List.setIfInBounds_toArray, List.set_cons_zero, List.set_cons_succ]
        refine wpAnyH_done (by kernel_rfl) ?_ _
        have hb39 := hb37.drew.trans (hb9.mono hb37.size)
        go_wp2_with fail
        go_meet
        exact ⟨_, rfl, hb39⟩
    · replace HX := Lib.hid (HX.out.trans (if_pos h0))
      have hq : (pe != 0) = true := by simpa using h0
      have hqq : (pe != pe) = false := by simp
      have hx := HX.out
      clear h0 hB6 Hr6 HX
      subst hx
      go_wp2_with fail
      go_meet
      exact ⟨_, rfl, hb36⟩
  case rest =>
    clear hb36 hb4 hb6 hB6 Hr6 HRO HOO HLn HNl HX Hp
    obtain ⟨W7, rfl, hb37⟩ := hcut
    have hst7 := hst3.trans (Stp.of_below hb37)
    have s7 := s3.below hb37
    have hz7 := hb37.size
    clear hb37 hst3 s3 hE3
    go_wp2_with fail
    refine (drafts_any w.heap.size _ 4 _ s7 (by omega) (by omega)).mono ?_
    rintro e w8 ⟨v8, ds, rfl, hn4, hsz, hown8, h8, s8⟩
    have hz8 := h8.size
    go_wp2_with fail
    refine (pick_box w.heap.size _ _ 3 6 [1, 30, 60, 100, 0, 101] _ (s8.alloc _) (by omega) (Box.new _ _ _) (by omega) (by decide) (by decide)).mono ?_
    rintro e w9 ⟨percent, hl9, rfl, h9, s9⟩
    have hst9 := ((hst7.trans h8).alloc (.cells #[.int .i64 1, .int .i64 30, .int .i64 60, .int .i64 100, .int .i64 0, .int .i64 101] 3)).trans h9
    have hE9 : Env w9 := hE.stp hst9 hES
    have hb9 : Below w.heap.size w w9 := by have := hst9.below; rwa [Nat.min_self] at this
    obtain ⟨da, dc, rfl, hds, -, hdc⟩ := ((hown8.alloc (.cells #[.int .i64 1, .int .i64 30, .int .i64 60, .int .i64 100, .int .i64 0, .int .i64 101] 3)).stp h9 (by omega)).sa
    have hszz : ∀ d ∈ ds, d.1.size ≤ 1000 ∧ d.2.size ≤ 100000 := fun d hd => by have := hsz d hd; omega
    have HA := Lib.hid (alike_any ds da dc least percent w9 hE9 hds hn4 hszz)
    have HDF := Lib.hid (fun W (h : Below w9.heap.size w9 W) => draftsFault_any ds da dc least percent W (hE9.below h) (hds.below h) hn4 hdc hszz)
    have HSub := Lib.hid (fun W (h : Below w9.heap.size w9 W) => submits_any W (hE9.below h))
    have HAO : Hid (draftsE ds least percent = 0 → ∀ W, Below w9.heap.size w9 W → Calls Tryz.prog 36 #[.slice da ds.length dc, .int .i64 least, .int .i64 percent] W (fun e w' => ∃ a cap, e = .returned (.slice a (sortT (twinsL ds least percent)).length cap) ∧ SA w' a (sortT (twinsL ds least percent)) ∧ Below W.heap.size W w')) := fun h0 W h => alikeOf_any ds da dc least percent W (hds.below h) hn4 hszz (draftsE_zero h0).1 (draftsE_zero h0).2.1 (draftsE_zero h0).2.2
    have htl : (sortT (twinsL ds least percent)).length ≤ 12 := by rw [sortT_len]; exact twinsL_len least percent hn4
    generalize draftsE ds least percent = E at *
    generalize sortT (twinsL ds least percent) = tl at *
    clear hst7 s7 h8 s8 h9 s9 hst9 hown8 hl9 hE9 hds hsz hszz hdc hn4
    go_wp2_with fail
    refine HA.out.mono ?_
    rintro e w10 ⟨hb10, hcase⟩
    rcases hcase with ⟨hne, rfl⟩ | ⟨h0, ta, tc, rfl, hta⟩
    · have hq : (E != 0) = true := by simpa using hne
      have hqq : (E == E) = true := by simp
      clear HA
      go_wp2_with fail
      refine (HDF.out _ hb10).mono ?_
      rintro e w11 ⟨rfl, hb11⟩
      have hb1011 := below_next hb10 hb11
      go_wp2_with fail
      refine (HSub.out _ hb1011).mono ?_
      rintro e w12 ⟨rfl, hb12⟩
      have hb1012 := below_next hb1011 hb12
      go_wp2_with fail
      go_ret
      exact ⟨rfl, hb9.trans (hb1012.mono hb9.size)⟩
    · subst h0
      replace HAO := Lib.hid (HAO.out rfl)
      clear HA
      go_wp2_with fail
      refine (HDF.out _ hb10).mono ?_
      rintro e w11 ⟨rfl, hb11⟩
      have hb1011 := below_next hb10 hb11
      go_wp2_with fail
      refine (HSub.out _ hb1011).mono ?_
      rintro e w12 ⟨rfl, hb12⟩
      have hb1012 := below_next hb1011 hb12
      go_wp2_with fail
      refine (HAO.out _ hb1012).mono ?_
      rintro e w13 ⟨oa, oc, rfl, hoa, hb13⟩
      have hb1013 := below_next hb1012 hb13
      have hta2 := hta.below (below_next hb11 (below_next hb12 hb13))
      go_wp2_with fail
      refine (eqTwin_any tl ta oa tc oc _ hta2 hoa (by omega)).mono ?_
      rintro e w14 ⟨rfl, n14, rfl⟩
      have hb1014 := below_drewN hb1013 n14
      go_wp2_with fail
      go_ret
      exact ⟨rfl, hb9.trans (hb1014.mono hb9.size)⟩
end Go.Proofs.YtlpknpjfmacemaaGreatDoor.draftsAlike
