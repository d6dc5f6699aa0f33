/- For every list of raw numbers and every string of at most 2 MB, TextsFit returns true. The walk. -/
import Derived.Test.YtlpknpjfmacemaaGreatDoorMakeText
import Derived.Test.YtlpknpjfmacemaaGreatDoorFits2
import Derived.Test.YtlpknpjfmacemaaGreatDoorSubmits2
import Derived.Test.YtlpknpjfmacemaaGreatDoorStrs
import Derived.Test.YtlpknpjfmacemaaGreatDoorReg
namespace Go.Proofs.YtlpknpjfmacemaaGreatDoor.textsFit
open Go.RowKit
set_option linter.unusedVariables false
set_option linter.unusedSimpArgs false

set_option maxRecDepth 100000 in
set_option maxHeartbeats 4000000 in
/-- Two slices that read alike are equal. -/
theorem eqFault_any (l : List Flt) (a a2 : Option Addr) (cap cap2 : Nat) (w : World) (h : SA w a l) (h2 : SA w a2 l) (hlen : l.length ≤ 1000000000) :
    Calls Tryz.prog 18 #[.slice a l.length cap, .slice a2 l.length cap2] w (Draws (.bool true) w) := by
  have hq0 : ((l.length : Int) != (l.length : Int)) = false := by simp
  go_enter Tryz.func18, Tryz.ntmps18
  go_wp2_with fail
  go_loopg [13] l.length (fun gk i wr => ∃ k : Nat, i = .int .i64 k ∧ k ≤ l.length ∧ Hid (gk = l.length - k) ∧ ∃ n, wr = w.drewN n)
  case atStart => exact ⟨0, rfl, by omega, rfl, 0, rfl⟩
  case round =>
    obtain ⟨k, rfl, hk, hgk, n, rfl⟩ := hrel
    by_cases hlt : k < l.length
    · obtain ⟨b, off, ha, c0, c1⟩ := h.flt hlt
      obtain ⟨b', off', ha', d0, d1⟩ := h2.flt hlt
      rw [ha, ha']
      generalize l[k] = x at *
      obtain ⟨x1, x2⟩ := x
      simp only at *
      have hk1 : (0 : Int) ≤ (k : Int) := by omega
      have hk2 : (k : Int) < (l.length : Int) := by omega
      go_wp2_with fail
      go_quiet (fail)
      go_wp2_with fail
      rw [← ha, ← ha']
      go_roundg (l.length - (k + 1))
      case measure => have := hgk.out; omega
      case rel => exact ⟨k + 1, by go_num, by omega, rfl, _, rfl⟩
    · go_wp2_with fail
      go_ret
      exact ⟨rfl, _, rfl⟩
set_option maxRecDepth 100000 in
set_option maxHeartbeats 4000000 in
/-- Two slices that read alike are equal. -/
theorem eqSect_any (l : List Sect) (a a2 : Option Addr) (cap cap2 : Nat) (w : World) (h : SA w a l) (h2 : SA w a2 l) (hlen : l.length ≤ 1000000000) :
    Calls Tryz.prog 22 #[.slice a l.length cap, .slice a2 l.length cap2] w (Draws (.bool true) w) := by
  have hq0 : ((l.length : Int) != (l.length : Int)) = false := by simp
  go_enter Tryz.func22, Tryz.ntmps22
  go_wp2_with fail
  go_loopg [13] l.length (fun gk i wr => ∃ k : Nat, i = .int .i64 k ∧ k ≤ l.length ∧ Hid (gk = l.length - k) ∧ ∃ n, wr = w.drewN n)
  case atStart => exact ⟨0, rfl, by omega, rfl, 0, rfl⟩
  case round =>
    obtain ⟨k, rfl, hk, hgk, n, rfl⟩ := hrel
    by_cases hlt : k < l.length
    · obtain ⟨b, off, ha, c0, c1, c2⟩ := h.sect hlt
      obtain ⟨b', off', ha', d0, d1, d2⟩ := h2.sect hlt
      rw [ha, ha']
      generalize l[k] = x at *
      obtain ⟨x1, x2, x3⟩ := x
      simp only at *
      have hk1 : (0 : Int) ≤ (k : Int) := by omega
      have hk2 : (k : Int) < (l.length : Int) := by omega
      go_wp2_with fail
      go_quiet (fail)
      go_wp2_with fail
      rw [← ha, ← ha']
      go_roundg (l.length - (k + 1))
      case measure => have := hgk.out; omega
      case rel => exact ⟨k + 1, by go_num, by omega, rfl, _, rfl⟩
    · go_wp2_with fail
      go_ret
      exact ⟨rfl, _, rfl⟩
set_option maxRecDepth 100000 in
set_option maxHeartbeats 4000000 in
/-- The first of two errors that is not 0. -/
theorem cmpOrE_any (x y : Int) (b : Nat) (w : World) (h : Box w b 33 #[.int .i64 x, .int .i64 y]) :
    Calls Tryz.prog 17 #[.slice (some ⟨b, 0, none⟩) 2 2] w (fun e w' => e = .returned (.int .i64 (if x ≠ 0 then x else y)) ∧ w = w') := by
  have h_l := h.lt; have h_0 := h.cell 0; have h_1 := h.cell 1; simp at h_0 h_1
  by_cases hx : x = 0
  · rw [if_neg (by simp [hx])]
    have hq : (x != 0) = false := by simpa using hx
    clear hx
    by_cases hy : y = 0
    · have hq2 : (y != 0) = false := by simpa using hy
      go_enter Tryz.func17, Tryz.ntmps17
      go_wp2_with fail
      refine wp_loop_rounds 3 ?_
      rw [rounds_succ]
      go_wp2_with fail
      rw [rounds_succ]
      go_wp2_with fail
      rw [rounds_succ]
      go_wp2_with fail
      go_ret
      exact ⟨by rw [hy]; rfl, rfl⟩
    · have hq2 : (y != 0) = true := by simpa using hy
      go_enter Tryz.func17, Tryz.ntmps17
      go_wp2_with fail
      refine wp_loop_rounds 2 ?_
      rw [rounds_succ]
      go_wp2_with fail
      rw [rounds_succ]
      go_wp2_with fail
      go_ret
      exact ⟨rfl, rfl⟩
  · rw [if_pos hx]
    have hq : (x != 0) = true := by simpa using hx
    go_enter Tryz.func17, Tryz.ntmps17
    go_wp2_with fail
    refine wp_loop_rounds 1 ?_
    rw [rounds_succ]
    go_wp2_with fail
    go_ret
    exact ⟨rfl, rfl⟩
theorem text_ends {t : ByteArray} (h : bodyE t = 0) : ∃ l, cutB 10 t = l ++ [⟨#[]⟩] := by
  apply cutB_last
  have ht : textB t = true := by
    unfold bodyE at h
    split at h
    · exact absurd h (by decide)
    · split at h
      · next h2 => exact h2
      · exact absurd h (by decide)
  unfold textB at ht
  rw [Bool.and_eq_true, Bool.or_eq_true] at ht
  rcases ht.2 with h0 | h1
  · left
    have h0 := of_decide_eq_true h0
    have h3 : t.data.toList.length = t.size := by simp
    exact List.length_eq_zero_iff.1 (by omega)
  · right
    unfold Lib.hasSuffix at h1
    rw [List.isSuffixOf_iff_suffix] at h1
    obtain ⟨u, hu⟩ := h1
    rw [← hu, List.getLast?_append]
    rfl
theorem fill_eq {t : ByteArray} (h : bodyE t = 0) : fillN (cutB 10 t) = fillN (lineL t) := by
  obtain ⟨l, hl⟩ := text_ends h
  unfold lineL
  rw [hl, List.dropLast_concat]
  unfold fillN
  rw [List.countP_append]
  rfl
theorem secs_eq {t : ByteArray} (h : bodyE t = 0) : secsL (cutB 10 t) = secsL (lineL t) := by
  obtain ⟨l, hl⟩ := text_ends h
  unfold lineL
  rw [hl, List.dropLast_concat, secsL_snoc]
  exact secS_empty _

set_option maxRecDepth 100000 in
set_option maxHeartbeats 16000000 in
theorem walk (a0 : Option Addr) (len0 cap0 : Nat) (z0 : List Int) (any : ByteArray) (w : World) (w0 : IsRow .i64 w a0 len0 cap0 z0) (hE : Env w) (hany : any.size ≤ 2000000) :
    Calls Tryz.prog 3 #[.slice a0 len0 cap0, .string any] w fun e w' => e = .returned (.bool true) ∧ Below w.heap.size w w' := by
  have hs := strm_new w0
  have hES := hE.envS
  go_enter Tryz.func3, Tryz.ntmps3
  go_wp2_with fail
  refine (paperText_any w.heap.size 0 _ hs (by omega)).mono ?_
  rintro e w1 ⟨t, ht, rfl, h1, s1⟩
  have hz1 := h1.size
  simp at hz1
  go_wp2_with fail
  refine (form_any w.heap.size (0 + 20) _ s1 (by omega)).mono ?_
  rintro e w2 ⟨f, rfl, hml, hcap, hsmall, hfsa, hfar, h2, s2⟩
  have hz2 := h2.size
  have hst2 : Stp w.heap.size w w2 := (((Stp.refl w.heap.size w).alloc (.cells #[.slice a0 len0 cap0, .int .i64 0] 25)).trans h1).trans h2
  have hE2 : Env w2 := hE.stp hst2 hES
  have hb2 : Below w.heap.size w w2 := by have := hst2.below; rwa [Nat.min_self] at this
  have hsm6 : ∀ x ∈ f.must, x.size ≤ 1000000 := fun x hx => by have := hsmall x hx; omega
  have HCF := Lib.hid (fun W (h : Below w2.heap.size w2 W) => checkForm_any f W (hE2.below h) (hfsa.below h) hcap hsm6)
  have HFF := Lib.hid (fun W (h : Below w2.heap.size w2 W) => formFault_any f W (hE2.below h) (hfsa.below h) hcap hsm6)
  have HFi := Lib.hid (fun W (h : Below w2.heap.size w2 W) => fits_any f t W (hE2.below h) (hfsa.below h) hcap hsm6 (by omega))
  have HFo : Hid (formE f = 0 → ∀ W, Below w2.heap.size w2 W → Calls Tryz.prog 19 #[encForm f, .string t] W (fun e w' => ∃ a c, e = .returned (.slice a (fitsL f (((spots t).length : Nat) : Int) ((fillN (lineL t) : Nat) : Int) (secsL (lineL t))).length c) ∧ SA w' a (fitsL f (((spots t).length : Nat) : Int) ((fillN (lineL t) : Nat) : Int) (secsL (lineL t))) ∧ Below W.heap.size W w')) := fun h0 W h => fitsOf_any f t W (hE2.below h) (hfsa.below h) (formE_right h0) (by omega)
  have HLn := Lib.hid (fun W (h : Below w2.heap.size w2 W) => length_any t W (hE2.below h) (by omega))
  have HSe := Lib.hid (fun W (h : Below w2.heap.size w2 W) => sectionsE_any t W (hE2.below h) (by omega))
  have HBF := Lib.hid (fun W (h : Below w2.heap.size w2 W) => bodyFault_any t W (hE2.below h) (by omega))
  have HLo := Lib.hid (fun W (h : Below w2.heap.size w2 W) => lengthOf_any t W (hE2.below h) (by omega))
  have HSo := Lib.hid (fun W (h : Below w2.heap.size w2 W) => sectionsOf_any t W (hE2.below h) (by omega))
  have HSub := Lib.hid (fun W (h : Below w2.heap.size w2 W) => submits_any W (hE2.below h))
  have HWp := Lib.hid (fun W => words_any any W (by omega))
  have HWr := Lib.hid (fun W => wordsOfR_any any W (by omega))
  have hwl : (wordsS any).length ≤ 2000001 := by unfold wordsS; rw [List.length_map]; have := spots_len any; omega
  have Hfe := Lib.hid (@fill_eq t)
  have Hse := Lib.hid (@secs_eq t)
  have hscl : (secsL (lineL t)).length ≤ 100001 := by have h1 := secsL_length (lineL t); have h2 := cutB_len 10 t; unfold lineL at *; rw [List.length_dropLast] at h1; omega
  have HX : Hid (fitsX f t = if formE f ≠ 0 then formE f else bodyE t) := rfl
  have hfll : formE f = 0 → (fitsL f (((spots t).length : Nat) : Int) ((fillN (lineL t) : Nat) : Int) (secsL (lineL t))).length ≤ 1000000 := fun h0 => by
    have hm := formE_right h0
    unfold fitsL
    have k1 := secF_len f.deep (secsL (lineL t)) (mustF (secsL (lineL t)) f.must (fits3 f (((spots t).length : Nat) : Int) ((fillN (lineL t) : Nat) : Int))) (secsL (lineL t)).length
    have k2 := mustF_len (secsL (lineL t)) f.must (fits3 f (((spots t).length : Nat) : Int) ((fillN (lineL t) : Nat) : Int))
    have k3 := fits3_len f (((spots t).length : Nat) : Int) ((fillN (lineL t) : Nat) : Int)
    omega
  have Hfll := Lib.hid hfll
  clear hfll h1 h2 s1 s2 hs w0 hst2 hz1 hz2 hsmall hfsa hfar hsm6 hml hcap hE2 hES
  unfold encForm at *
  obtain ⟨f1, f2, f3, ms, fa, fc, f5⟩ := f
  simp only at HCF HFF HFi HFo ⊢
  generalize wordsS any = ws at *
  generalize formE ⟨f1, f2, f3, ms, fa, fc, f5⟩ = fe at *
  generalize fitsX ⟨f1, f2, f3, ms, fa, fc, f5⟩ t = fx at *
  have hQ := Box.new w2 29 #[.int .i64 f1, .int .i64 f2, .int .i64 f3, .slice fa ms.length fc, .int .i64 f5]
  have hbQ : Below w2.heap.size w2 (w2.alloc (.cells #[.int .i64 f1, .int .i64 f2, .int .i64 f3, .slice fa ms.length fc, .int .i64 f5] 29)) := by (repeat' (first | exact Below.refl _ _ | assumption | refine Below.setCell ?_ ?_ _ | refine below_drewN ?_ _ | refine Below.drew ?_ | refine Below.alloc ?_ ?_ _ | (with_reducible refine Below.trans ?_ (Below.mono hb ?_)) | (with_reducible refine Below.trans ?_ (Below.mono hb0 ?_)) | (with_reducible refine Below.trans ?_ (Below.mono hb1 ?_)) | (with_reducible refine Below.trans ?_ (Below.mono hb2 ?_)) | (with_reducible refine Below.trans ?_ (Below.mono hb3 ?_)) | (with_reducible refine Below.trans ?_ (Below.mono hb4 ?_)) | (with_reducible refine Below.trans ?_ (Below.mono hb5 ?_)) | (with_reducible refine Below.trans ?_ (Below.mono hb6 ?_)) | (with_reducible refine Below.trans ?_ (Below.mono hb7 ?_)) | (with_reducible refine Below.trans ?_ (Below.mono hb8 ?_)) | (with_reducible refine Below.trans ?_ (Below.mono hb9 ?_)) | (with_reducible refine Below.trans ?_ (Below.mono hb10 ?_)) | (with_reducible refine Below.trans ?_ (Below.mono hb11 ?_)) | (with_reducible refine Below.trans ?_ (Below.mono hb12 ?_)) | (with_reducible refine Below.trans ?_ (Below.mono hb13 ?_)) | (with_reducible refine Below.trans ?_ (Below.mono hb14 ?_)) | (with_reducible refine Below.trans ?_ (Below.mono hb15 ?_)) | omega | (simp; done) | (simp; omega)))
  have hzQ : (w2.alloc (.cells #[.int .i64 f1, .int .i64 f2, .int .i64 f3, .slice fa ms.length fc, .int .i64 f5] 29)).heap.size = w2.heap.size + 1 := by simp
  have hqws : decide (ws = ws) = true := by simp
  have hqfe : (fe != fe) = false := by simp
  go_upto_region 3 with (fail)
  generalize w2.alloc (.cells #[.int .i64 f1, .int .i64 f2, .int .i64 f3, .slice fa ms.length fc, .int .i64 f5] 29) = W3 at *
  have Hq : Hid (∀ W, Below W3.heap.size W3 W → Box W w2.heap.size 29 #[.int .i64 f1, .int .i64 f2, .int .i64 f3, .slice fa ms.length fc, .int .i64 f5]) := fun W h => hQ.below h
  have HB : Hid (∀ W, Below W3.heap.size W3 W → Below w2.heap.size w2 W) := fun W h => below_next hbQ h
  clear hQ hzQ
  have hQd := Hq.out _ (Below.refl _ _).drew
  refine wp_region_held_drew (S := (fun wy => Below W3.heap.size W3 wy ∧ wy.cell? ⟨w2.heap.size, 0, none⟩ = some (.int .i64 f1) ∧ wy.cell? ⟨w2.heap.size, 1, none⟩ = some (.int .i64 f2) ∧ wy.cell? ⟨w2.heap.size, 2, none⟩ = some (.int .i64 f3) ∧ wy.cell? ⟨w2.heap.size, 3, none⟩ = some (.slice fa ms.length fc) ∧ wy.cell? ⟨w2.heap.size, 4, none⟩ = some (.int .i64 f5))) (by kernel_rfl) ?hS (fun hHeld => ?_)
  case hS => exact ⟨(Below.refl _ _).drew, hQd.cell 0, hQd.cell 1, hQd.cell 2, hQd.cell 3, hQd.cell 4⟩
  refine rtake (i := 0) (d := (some 25)) (v := ?_) rfl (by kernel_rfl) (by kernel_rfl) (by kernel_rfl) (by kernel_rfl) (fun _ _ _ h => h) (by kernel_rfl) (by assumption) ?_ ?_
  rotate_left 1
  · (intro wI hSI; (try dsimp only at hSI); go_simp; (try with_reducible rfl))
  simp only [Act.put, List.setIfInBounds_toArray, List.set_cons_zero, List.set_cons_succ]
  refine rtake (i := 2) (d := (some 27)) (v := ?_) rfl (by kernel_rfl) (by kernel_rfl) (by kernel_rfl) (by kernel_rfl) (fun _ _ _ h => h) (by kernel_rfl) (by assumption) ?_ ?_
  rotate_left 1
  · (intro wI hSI; (try dsimp only at hSI); go_simp; (try with_reducible rfl))
  simp only [Act.put, List.setIfInBounds_toArray, List.set_cons_zero, List.set_cons_succ]
  refine rcall (i := 1) (d := (some 26)) (by kernel_rfl) rfl (by kernel_rfl) (fun K hK => ?_)
  go_simp
  go_at_call 9; refine (HWp.out _).mono ?_; rintro e w4 ⟨v4, rfl, hown4, hb4⟩; obtain ⟨wa, wc, rfl, hwa, -, -⟩ := hown4.sa; have hb4' := below_next hHeld.1 hb4; have hB4 := Hq.out _ hb4'
  refine hK.out _ _ ?hS (fun hHeld => ?_)
  case hS => exact ⟨hb4', hB4.cell 0, hB4.cell 1, hB4.cell 2, hB4.cell 3, hB4.cell 4⟩
  clear hK K
  simp only [Act.put, List.setIfInBounds_toArray, List.set_cons_zero, List.set_cons_succ]
  refine rcall (i := 3) (d := (some 28)) (by kernel_rfl) rfl (by kernel_rfl) (fun K hK => ?_)
  go_simp
  go_at_call 10; refine (HWr.out _).mono ?_; rintro e w5 ⟨v5, rfl, hown5, hb5⟩; obtain ⟨xa, xc, rfl, hxa, -, -⟩ := hown5.sa; have hb5' := below_next hHeld.1 hb5; have hB5 := Hq.out _ hb5'
  refine hK.out _ _ ?hS (fun hHeld => ?_)
  case hS => exact ⟨hb5', hB5.cell 0, hB5.cell 1, hB5.cell 2, hB5.cell 3, hB5.cell 4⟩
  clear hK K
  simp only [Act.put, List.setIfInBounds_toArray, List.set_cons_zero, List.set_cons_succ]
  refine rcall (i := 4) (d := (some 29)) (by kernel_rfl) rfl (by kernel_rfl) (fun K hK => ?_)
  go_simp
  go_at_call 8; refine (equal_any ws ws wa xa wc xc _ (hwa.below hb5) hxa (by omega) (by omega)).mono ?_; rintro e w6 ⟨rfl, n6, rfl⟩; have hb6' := below_drewN hb5' n6; have hB6 := Hq.out _ hb6'
  refine hK.out _ _ ?hS (fun hHeld => ?_)
  case hS => exact ⟨hb6', hB6.cell 0, hB6.cell 1, hB6.cell 2, hB6.cell 3, hB6.cell 4⟩
  clear hK K
  simp only [Act.put, List.setIfInBounds_toArray, List.set_cons_zero, List.set_cons_succ]
  refine rtake (i := 5) (d := (some 30)) (v := ?_) rfl (by kernel_rfl) (by kernel_rfl) (by kernel_rfl) (by kernel_rfl) (fun _ _ _ h => h) (by kernel_rfl) (by assumption) ?_ ?_
  rotate_left 1
  · (intro wI hSI; (try dsimp only at hSI); go_simp; (try with_reducible rfl))
  simp only [Act.put, List.setIfInBounds_toArray, List.set_cons_zero, List.set_cons_succ]
  refine rtake (i := 6) (d := (some 31)) (v := ?_) rfl (by kernel_rfl) (by kernel_rfl) (by kernel_rfl) (by kernel_rfl) (fun _ _ _ h => h) (by kernel_rfl) (by assumption) ?_ ?_
  rotate_left 1
  · (intro wI hSI; (try dsimp only at hSI); go_simp; (try with_reducible rfl))
  simp only [Act.put, List.setIfInBounds_toArray, List.set_cons_zero, List.set_cons_succ]
  refine rtake (i := 7) (d := (some 32)) (v := ?_) rfl (by kernel_rfl) (by kernel_rfl) (by kernel_rfl) (by kernel_rfl) (fun _ _ _ h => h) (by kernel_rfl) (by assumption) ?_ ?_
  rotate_left 1
  · (intro wI hSI; (try dsimp only at hSI); go_simp; (try with_reducible rfl))
  simp only [Act.put, List.setIfInBounds_toArray, List.set_cons_zero, List.set_cons_succ]
  refine rtake (i := 9) (d := (some 34)) (v := ?_) rfl (by kernel_rfl) (by kernel_rfl) (by kernel_rfl) (by kernel_rfl) (fun _ _ _ h => h) (by kernel_rfl) (by assumption) ?_ ?_
  rotate_left 1
  · (intro wI hSI; (try dsimp only at hSI); go_simp; (try with_reducible rfl))
  simp only [Act.put, List.setIfInBounds_toArray, List.set_cons_zero, List.set_cons_succ]
  refine rcall (i := 8) (d := (some 33)) (by kernel_rfl) rfl (by kernel_rfl) (fun K hK => ?_)
  rw [if_pos (by kernel_rfl)]; go_simp; go_at_call 11; refine (HCF.out _ (HB.out _ hHeld.1)).mono ?_; rintro e w7 ⟨rfl, hb7⟩; have hb7' := below_next hHeld.1 hb7; have hB7 := Hq.out _ hb7'
  refine hK.out _ _ ?hS (fun hHeld => ?_)
  case hS => exact ⟨hb7', hB7.cell 0, hB7.cell 1, hB7.cell 2, hB7.cell 3, hB7.cell 4⟩
  clear hK K
  simp only [Act.put, List.setIfInBounds_toArray, List.set_cons_zero, List.set_cons_succ]
  refine rcall (i := 10) (d := (some 35)) (by kernel_rfl) rfl (by kernel_rfl) (fun K hK => ?_)
  rw [if_pos (by kernel_rfl)]; go_simp; go_at_call 12; refine (HFF.out _ (HB.out _ hHeld.1)).mono ?_; rintro e w8 ⟨rfl, hb8⟩; have hb8' := below_next hHeld.1 hb8; have hB8 := Hq.out _ hb8'
  refine hK.out _ _ ?hS (fun hHeld => ?_)
  case hS => exact ⟨hb8', hB8.cell 0, hB8.cell 1, hB8.cell 2, hB8.cell 3, hB8.cell 4⟩
  clear hK K
  simp only [Act.put, List.setIfInBounds_toArray, List.set_cons_zero, List.set_cons_succ]
  refine rtake (i := 11) (d := (some 36)) (v := ?_) rfl (by kernel_rfl) (by kernel_rfl) (by kernel_rfl) (by kernel_rfl) (fun _ _ _ h => h) (by kernel_rfl) (by assumption) ?_ ?_
  rotate_left 1
  · (intro wI hSI; (try dsimp only at hSI); go_simp; (try with_reducible rfl))
  simp only [Act.put, List.setIfInBounds_toArray, List.set_cons_zero, List.set_cons_succ]
  refine rtake (i := 12) (d := (some 37)) (v := ?_) rfl (by kernel_rfl) (by kernel_rfl) (by kernel_rfl) (by kernel_rfl) (fun _ _ _ h => h) (by kernel_rfl) (by assumption) ?_ ?_
  rotate_left 1
  · (intro wI hSI; (try dsimp only at hSI); go_simp; (try with_reducible rfl))
  simp only [Act.put, List.setIfInBounds_toArray, List.set_cons_zero, List.set_cons_succ]
  refine wpAnyH_done (by kernel_rfl) ?_ _
  have hb38 := hHeld.1
  clear hHeld hQd hwa hxa hb4 hb5 hb7 hb8 hb4' hb5' hb6' hb7' hB4 hB5 hB6 hB7 hB8 hown4 hown5 HWp HWr HCF hwl
  have HOr : Hid (∀ b W, Box W b 33 #[.int .i64 fe, .int .i64 (bodyE t)] → Calls Tryz.prog 17 #[.slice (some ⟨b, 0, none⟩) 2 2] W (fun e w' => e = .returned (.int .i64 fx) ∧ W = w')) := fun b W h => by rw [HX.out]; exact cmpOrE_any fe (bodyE t) b W h
  have hqfx : (fx != fx) = false := by simp
  generalize hspn : (spots t).length = sn at *
  clear hspn
  by_cases hbe : bodyE t = 0
  · rw [Hfe.out hbe, Hse.out hbe] at HFi
    rw [Hfe.out hbe] at HLn
    rw [Hse.out hbe] at HSe
    rw [hbe] at HLn HSe HBF HX HOr
    clear Hfe Hse hbe
    generalize fillN (lineL t) = ln at *
    generalize secsL (lineL t) = secs at *
    go_wp2_with fail
    refine (HLn.out _ (HB.out _ hb38)).mono ?_
    rintro e w9 ⟨hb9, hcase⟩
    rcases hcase with ⟨hno, -⟩ | ⟨-, rfl⟩
    · exact absurd rfl hno
    have hb39 := below_next hb38 hb9
    go_wp2_with fail
    refine (HSe.out _ (HB.out _ hb39)).mono ?_
    rintro e w10 ⟨hb10, hcase⟩
    rcases hcase with ⟨hno, -⟩ | ⟨-, sa, sc, rfl, hsec⟩
    · exact absurd rfl hno
    have hb310 := below_next hb39 hb10
    have hB10 := Hq.out _ hb310
    have hB10_l := hB10.lt; have hB10_0 := hB10.cell 0; have hB10_1 := hB10.cell 1; have hB10_2 := hB10.cell 2; have hB10_3 := hB10.cell 3; have hB10_4 := hB10.cell 4; simp at hB10_0 hB10_1 hB10_2 hB10_3 hB10_4
    go_wp2_with fail
    refine (HFi.out _ (HB.out _ hb310)).mono ?_
    rintro e w11 ⟨hb11, hcase⟩
    have hb311 := below_next hb310 hb11
    replace hsec := hsec.below hb11
    clear hB10 hB10_l hB10_0 hB10_1 hB10_2 hB10_3 hB10_4 HLn HSe HFi hb38 hb39 hb310 hb9 hb10 hb11
    by_cases hfe : fe = 0
    · subst hfe
      have hfx : fx = 0 := by rw [HX.out]; rfl
      subst hfx
      have hfl := Hfll.out rfl
      replace HFo := Lib.hid (HFo.out rfl)
      rcases hcase with ⟨hno, -⟩ | ⟨-, ya, yc, rfl, hy⟩
      · exact absurd rfl hno
      clear HX Hfll
      generalize fitsL ⟨f1, f2, f3, ms, fa, fc, f5⟩ (sn : Int) (ln : Int) secs = out at *
      go_wp2_with fail
      refine (HBF.out _ (HB.out _ hb311)).mono ?_
      rintro e w12 ⟨rfl, hb12⟩
      have hb312 := below_next hb311 hb12
      have hB12 := Hq.out _ hb312
      have hB12_l := hB12.lt; have hB12_0 := hB12.cell 0; have hB12_1 := hB12.cell 1; have hB12_2 := hB12.cell 2; have hB12_3 := hB12.cell 3; have hB12_4 := hB12.cell 4; simp at hB12_0 hB12_1 hB12_2 hB12_3 hB12_4
      go_wp2_with fail
      refine (HFF.out _ (HB.out _ hb312)).mono ?_
      rintro e w13 ⟨rfl, hb13⟩
      have hb313 := below_next hb312 hb13
      have hb314 : Below W3.heap.size W3 (w13.alloc (.cells #[.int .i64 0, .int .i64 0] 33)) := hb313.alloc hb313.size _
      replace hsec := ((hsec.below hb12).below hb13).alloc (.cells #[.int .i64 0, .int .i64 0] 33)
      replace hy := ((hy.below hb12).below hb13).alloc (.cells #[.int .i64 0, .int .i64 0] 33)
      clear hB12 hB12_l hB12_0 hB12_1 hB12_2 hB12_3 hB12_4
      go_wp2_with fail
      refine (HOr.out _ _ (Box.new _ _ _)).mono ?_
      rintro e w14 ⟨rfl, rfl⟩
      generalize w13.alloc (.cells #[.int .i64 0, .int .i64 0] 33) = w14 at *
      have hB14 := Hq.out _ hb314
      have hB14_l := hB14.lt; have hB14_0 := hB14.cell 0; have hB14_1 := hB14.cell 1; have hB14_2 := hB14.cell 2; have hB14_3 := hB14.cell 3; have hB14_4 := hB14.cell 4; simp at hB14_0 hB14_1 hB14_2 hB14_3 hB14_4
      go_wp2_with fail
      refine (HFo.out _ (HB.out _ hb314)).mono ?_
      rintro e w20 ⟨za, zc, rfl, hz, hb20⟩
      have hb320 := below_next hb314 hb20
      clear hB14 hB14_l hB14_0 hB14_1 hB14_2 hB14_3 hB14_4
      go_wp2_with fail
      refine (eqFault_any out ya za yc zc _ (hy.below hb20) hz (by omega)).mono ?_
      rintro e w21 ⟨rfl, n21, rfl⟩
      replace hb314 := below_drewN hb320 n21
      replace hsec := (hsec.below hb20).below (below_drewN (Below.refl _ _) n21)
      clear hy hz hb20 hb320
      go_wp2_with fail
      refine (HLo.out _ (HB.out _ hb314)).mono ?_
      rintro e w15 ⟨rfl, hb15⟩
      have hb315 := below_next hb314 hb15
      go_wp2_with fail
      refine (HSub.out _ (HB.out _ hb315)).mono ?_
      rintro e w16 ⟨rfl, hb16⟩
      have hb316 := below_next hb315 hb16
      replace hsec := (hsec.below hb15).below hb16
      have hsn : ((sn : Int) == (sn : Int)) = true := by simp
      have hln : ((ln : Int) == (ln : Int)) = true := by simp
      go_wp2_with fail
      refine (HSo.out _ (HB.out _ hb316)).mono ?_
      rintro e w17 ⟨v17, rfl, hown17, hb17⟩
      obtain ⟨oa, oc, rfl, ho, -, -⟩ := hown17.sa
      have hb317 := below_next hb316 hb17
      clear hown17
      go_wp2_with fail
      refine (eqSect_any secs sa oa sc oc _ (hsec.below hb17) ho (by omega)).mono ?_
      rintro e w18 ⟨rfl, n18, rfl⟩
      go_wp2_with fail
      go_ret
      exact ⟨rfl, below_next hb2 (HB.out _ (below_drewN hb317 n18))⟩
    · have hfx : fx = fe := by rw [HX.out, if_pos hfe]
      subst hfx
      rcases hcase with ⟨-, rfl⟩ | ⟨hno, -⟩
      rotate_left 1
      · exact absurd hno hfe
      have hq0 : (fx == 0) = false := by simpa using hfe
      clear HX hfe Hfll HFo
      go_wp2_with fail
      refine (HBF.out _ (HB.out _ hb311)).mono ?_
      rintro e w12 ⟨rfl, hb12⟩
      have hb312 := below_next hb311 hb12
      have hB12 := Hq.out _ hb312
      have hB12_l := hB12.lt; have hB12_0 := hB12.cell 0; have hB12_1 := hB12.cell 1; have hB12_2 := hB12.cell 2; have hB12_3 := hB12.cell 3; have hB12_4 := hB12.cell 4; simp at hB12_0 hB12_1 hB12_2 hB12_3 hB12_4
      go_wp2_with fail
      refine (HFF.out _ (HB.out _ hb312)).mono ?_
      rintro e w13 ⟨rfl, hb13⟩
      have hb313 := below_next hb312 hb13
      have hb314 : Below W3.heap.size W3 (w13.alloc (.cells #[.int .i64 fx, .int .i64 0] 33)) := hb313.alloc hb313.size _
      replace hsec := ((hsec.below hb12).below hb13).alloc (.cells #[.int .i64 fx, .int .i64 0] 33)
      clear hB12 hB12_l hB12_0 hB12_1 hB12_2 hB12_3 hB12_4
      go_wp2_with fail
      refine (HOr.out _ _ (Box.new _ _ _)).mono ?_
      rintro e w14 ⟨rfl, rfl⟩
      generalize w13.alloc (.cells #[.int .i64 fx, .int .i64 0] 33) = w14 at *
      go_wp2_with fail
      refine (HLo.out _ (HB.out _ hb314)).mono ?_
      rintro e w15 ⟨rfl, hb15⟩
      have hb315 := below_next hb314 hb15
      go_wp2_with fail
      refine (HSub.out _ (HB.out _ hb315)).mono ?_
      rintro e w16 ⟨rfl, hb16⟩
      have hb316 := below_next hb315 hb16
      replace hsec := (hsec.below hb15).below hb16
      have hsn : ((sn : Int) == (sn : Int)) = true := by simp
      have hln : ((ln : Int) == (ln : Int)) = true := by simp
      go_wp2_with fail
      refine (HSo.out _ (HB.out _ hb316)).mono ?_
      rintro e w17 ⟨v17, rfl, hown17, hb17⟩
      obtain ⟨oa, oc, rfl, ho, -, -⟩ := hown17.sa
      have hb317 := below_next hb316 hb17
      clear hown17
      go_wp2_with fail
      refine (eqSect_any secs sa oa sc oc _ (hsec.below hb17) ho (by omega)).mono ?_
      rintro e w18 ⟨rfl, n18, rfl⟩
      go_wp2_with fail
      go_ret
      exact ⟨rfl, below_next hb2 (HB.out _ (below_drewN hb317 n18))⟩
  · have hfx0 : fx ≠ 0 := by
      rw [HX.out]
      split
      · assumption
      · exact hbe
    have Hbe := Lib.hid hbe
    clear Hfe Hse HFo Hfll hscl HSo
    generalize bodyE t = be at *
    go_wp2_with fail
    refine (HLn.out _ (HB.out _ hb38)).mono ?_
    rintro e w9 ⟨hb9, hcase⟩
    rcases hcase with ⟨-, rfl⟩ | ⟨hno, -⟩
    rotate_left 1
    · exact absurd hno Hbe.out
    have hb39 := below_next hb38 hb9
    go_wp2_with fail
    refine (HSe.out _ (HB.out _ hb39)).mono ?_
    rintro e w10 ⟨hb10, hcase⟩
    rcases hcase with ⟨-, rfl⟩ | ⟨hno, -⟩
    rotate_left 1
    · exact absurd hno Hbe.out
    have hb310 := below_next hb39 hb10
    have hB10 := Hq.out _ hb310
    have hB10_l := hB10.lt; have hB10_0 := hB10.cell 0; have hB10_1 := hB10.cell 1; have hB10_2 := hB10.cell 2; have hB10_3 := hB10.cell 3; have hB10_4 := hB10.cell 4; simp at hB10_0 hB10_1 hB10_2 hB10_3 hB10_4
    go_wp2_with fail
    refine (HFi.out _ (HB.out _ hb310)).mono ?_
    rintro e w11 ⟨hb11, hcase⟩
    have hb311 := below_next hb310 hb11
    rcases hcase with ⟨-, rfl⟩ | ⟨hno, -⟩
    rotate_left 1
    · exact absurd hno hfx0
    have hq0 : (fx == 0) = false := by simpa using hfx0
    have hqbe : (be != be) = false := by simp
    have hqb0 : (be != 0) = true := by simpa using Hbe.out
    clear hB10 hB10_l hB10_0 hB10_1 hB10_2 hB10_3 hB10_4 HLn HSe HFi hb38 hb39 hb310 hb9 hb10 hb11 hfx0 HX hbe
    go_wp2_with fail
    refine (HBF.out _ (HB.out _ hb311)).mono ?_
    rintro e w12 ⟨rfl, hb12⟩
    have hb312 := below_next hb311 hb12
    have hB12 := Hq.out _ hb312
    have hB12_l := hB12.lt; have hB12_0 := hB12.cell 0; have hB12_1 := hB12.cell 1; have hB12_2 := hB12.cell 2; have hB12_3 := hB12.cell 3; have hB12_4 := hB12.cell 4; simp at hB12_0 hB12_1 hB12_2 hB12_3 hB12_4
    go_wp2_with fail
    refine (HFF.out _ (HB.out _ hb312)).mono ?_
    rintro e w13 ⟨rfl, hb13⟩
    have hb313 := below_next hb312 hb13
    have hb314 : Below W3.heap.size W3 (w13.alloc (.cells #[.int .i64 fe, .int .i64 be] 33)) := hb313.alloc hb313.size _
    skip
    clear hB12 hB12_l hB12_0 hB12_1 hB12_2 hB12_3 hB12_4
    go_wp2_with fail
    refine (HOr.out _ _ (Box.new _ _ _)).mono ?_
    rintro e w14 ⟨rfl, rfl⟩
    generalize w13.alloc (.cells #[.int .i64 fe, .int .i64 be] 33) = w14 at *
    go_wp2_with fail
    refine (HLo.out _ (HB.out _ hb314)).mono ?_
    rintro e w15 ⟨rfl, hb15⟩
    have hb315 := below_next hb314 hb15
    go_wp2_with fail
    refine (HSub.out _ (HB.out _ hb315)).mono ?_
    rintro e w16 ⟨rfl, hb16⟩
    have hb316 := below_next hb315 hb16
    skip
    go_wp2_with fail
    go_ret
    exact ⟨rfl, below_next hb2 (HB.out _ hb316)⟩
end Go.Proofs.YtlpknpjfmacemaaGreatDoor.textsFit
