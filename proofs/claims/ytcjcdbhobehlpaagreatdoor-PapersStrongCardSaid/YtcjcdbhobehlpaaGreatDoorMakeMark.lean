/- The makers of marks. -/
import Derived.Test.YtcjcdbhobehlpaaGreatDoorMark
import Derived.Test.YtcjcdbhobehlpaaGreatDoorRange
import Derived.Test.YtcjcdbhobehlpaaGreatDoorMakeList
import Derived.Test.YtcjcdbhobehlpaaGreatDoorReg
import Derived.Laws.OwnMore
namespace Go.Proofs.YtcjcdbhobehlpaaGreatDoor
open Go.RowKit
set_option linter.unusedVariables false
set_option linter.unusedSimpArgs false

theorem Tryz.infoInt : (Tryz.prog.info? 3).map (fun i => (i.zero, i.size, i.bytes)) = some (some (.int .i64 0), 1, 8) := by kernel_rfl
theorem ints_flat (n : Nat) : List.replicate n (Value.int .i64 0) = (List.replicate n (0 : Int)).flatMap Cel.cells := by
 induction n with
 | zero => rfl
 | succ n ih => rw [List.replicate_succ, List.replicate_succ, List.flatMap_cons, ih]; rfl
theorem SA.int {w : World} {a : Option Addr} {l : List Int} (h : SA w a l) {i : Nat} (hi : i < l.length) :
  ∃ b off, a = some ⟨b, off, none⟩ ∧ w.cell? ⟨b, off + i, none⟩ = some (.int .i64 l[i]) := by
 obtain ⟨b, off, ha, hc⟩ := h.at hi
 refine ⟨b, off, ha, ?_⟩
 have := hc 0 (by decide)
 rw [show off + (i * Cel.k Int + 0) = off + i from by show off + (i * 1 + 0) = _; omega] at this
 exact this
/-- What a made mark is like. -/
def SmallM (x : Mark) : Prop := x.1.size ≤ 1000 ∧ x.2.1.size ≤ 1000 ∧ -1000 ≤ x.2.2 ∧ x.2.2 ≤ 1000
/-- Marks are made. -/
def SomeMarks (S : Nat) (B : Int) (w : World) (e : Ending) (w' : World) : Prop :=
 ∃ (l : List Mark) (v : Value), e = .returned v ∧ Own w.heap.size 51 w' v l ∧ l.length ≤ 400 ∧ (∀ x ∈ l, SmallM x) ∧ Stp S w w' ∧ Strm S (B + 1000) w'
/-- Marks are made, of a few papers. -/
def SomeMarksN (S : Nat) (B : Int) (np : Nat) (w : World) (e : Ending) (w' : World) : Prop :=
 ∃ (l : List Mark) (v : Value), e = .returned v ∧ Own w.heap.size 51 w' v l ∧ l.length ≤ 400 ∧ (∀ x ∈ l, SmallM x) ∧ Stp S w w' ∧ Strm S (B + 1000) w' ∧ ∃ names : List ByteArray, names.length ≤ np + 1 ∧ ∀ x ∈ l, x.1 ∈ names
/-- A small mark of one of the first papers. -/
def NmM (nm : Nat → ByteArray) (i : Nat) (x : Mark) : Prop := SmallM x ∧ x.1 ∈ (List.range i).map nm
theorem NmM.up {nm : Nat → ByteArray} {i : Nat} {x : Mark} (h : NmM nm i x) : NmM nm (i + 1) x := ⟨h.1, by
 obtain ⟨j, hj, e⟩ := List.mem_map.1 h.2
 exact List.mem_map.2 ⟨j, by rw [List.mem_range] at *; omega, e⟩⟩

set_option maxRecDepth 100000 in
set_option maxHeartbeats 4000000 in
theorem marksN_any (S : Nat) (B : Int) (np nq : Nat) (w : World) (hs : Strm S B w) (hB : B ≤ 1000000) (hp : np ≤ 16) (hq : nq ≤ 16) :
  Calls Tryz.prog 4 #[.pointer (some ⟨S, 0, none⟩), .int .i64 np, .int .i64 nq] w (SomeMarksN S B np w) := by
 obtain ⟨rn, Hrn⟩ : ∃ rn : Nat → ByteArray, Hid (∀ i, (rn i).size ≤ 4 ∧ ∀ W, (convert 21 9 (.int .i32 (97 + (i : Int)))).run Tryz.prog W = .ok (.string (rn i)) W) := ⟨fun i => _, fun i => ⟨encode_size_le _, fun W => run_convert_int_string W _ _ _ _ (by kernel_rfl) Tryz.underlying9⟩⟩
 obtain ⟨nm, Hnm0⟩ : ∃ nm : Nat → ByteArray, Hid (∀ i, nm i = (⟨#[112]⟩ : ByteArray) ++ rn i) := ⟨_, fun i => rfl⟩
 obtain ⟨i0, hi, hz0, hz1, hz2⟩ := info_parts Tryz.infoInt
 have hSw := hs.lt
 go_enter Tryz.func4, Tryz.ntmps4
 go_wp2_with (at_make; refine wpList_make_full w rfl _ _ 22 rfl w.heap.size 3 i0 (.int .i64 0) 1 Tryz.underlying22 hi hz0 hz1 .i64 .i64 nq nq nq rfl rfl rfl rfl (by rw [hz2]; omega) (by unfold maxLen; omega) (Nat.le_refl _) ?_; intro w1 hown1 hg1)
 have hown : Own w.heap.size 3 w1 (.slice (some ⟨w.heap.size, 0, none⟩) nq nq) (List.replicate nq (0 : Int)) := by
  unfold Own
  rw [List.length_replicate, ← ints_flat, ← toList_madeCells_one]
  have := hown1
  rw [Nat.mul_one] at this
  exact this
 have hst1 : Stp S w w1 := (Stp.refl S w).grown hg1 (by simp)
 have hs1 : Strm S B w1 := hs.grown hg1 (by simp)
 clear hown1 hg1 hi hz0 hz1 hz2 hs
 go_wp2_with fail
 go_loopg [19] nq (fun gk i wr => ∃ (k : Nat) (bl : List Int), i = .int .i64 k ∧ k ≤ nq ∧ Hid (gk = nq - k) ∧ Hid (bl.length = nq) ∧ Hid (∀ z ∈ bl, -2 ≤ z ∧ z ≤ 2) ∧ Own w.heap.size 3 wr (.slice (some ⟨w.heap.size, 0, none⟩) nq nq) bl ∧ Stp S w wr ∧ Strm S (B + k) wr)
 case atStart => exact ⟨0, List.replicate nq 0, rfl, by omega, rfl, by simp [Hid], fun z hz => by rw [List.eq_of_mem_replicate hz]; omega, hown, hst1, by simpa using hs1⟩
 case round =>
  clear hown hst1 hs1
  obtain ⟨k, bl, rfl, hk, hgk, hbl, hbz, hown, hst, hs⟩ := hrel
  have hz := hst.size
  have hS := hs.lt
  by_cases hlt : k < nq
  ·
   go_wp2_with fail
   refine (range_any S (B + k) (-2) 2 _ hs (by omega) (by omega) (by omega) (by omega)).mono ?_
   rintro e w2 ⟨r, ⟨hr1, hr2⟩, rfl, h2, s2⟩
   have hown2 := hown.stp h2 (by omega)
   have hst2 := hst.trans h2
   obtain ⟨cur, hbx⟩ := hown2.box
   have hfr := hbx.frozen k
   have hput := hown2.put k 0 r (.int .i64 r) (by rw [hbl.out]; omega) (by decide) rfl
   obtain ⟨bb', boff', hba, hbc⟩ := (show SA w2 (some ⟨w.heap.size, 0, none⟩) bl from by obtain ⟨a', c', he, hh, _⟩ := hown2.sa; cases he; exact hh).int (i := k) (by rw [hbl.out]; omega)
   cases hba
   rw [Nat.zero_add] at hbc
   rw [show k * Cel.k Int + 0 = k from by show k * 1 + 0 = k; omega] at hput
   have hbl2 : (bl.set k r).length = nq := by rw [List.length_set]; exact hbl.out
   have hbz2 : ∀ z ∈ bl.set k r, -2 ≤ z ∧ z ≤ 2 := fun z hz => by
    rcases List.mem_or_eq_of_mem_set hz with h | rfl
    ·
     exact hbz.out z h
    ·
     omega
   have Hbl2 := Lib.hid hbl2
   have Hbz2 := Lib.hid hbz2
   generalize bl[k]'(by rw [hbl.out]; omega) = old at *
   clear hbl2 hbz2
   go_wp2_with fail
   go_roundg (nq - (k + 1))
   case measure => have := hgk.out; omega
   case rel => exact ⟨k + 1, bl.set k r, by go_num, by omega, rfl, Hbl2, Hbz2, hput, hst2.setCell (.inr (Nat.le_refl _)) _, (s2.setOther (by simp; omega) _).mono (by omega)⟩
  ·
   obtain rfl : k = nq := by omega
   have hs0 := hs.mono (show B + (k : Int) ≤ B + 16 by omega)
   have hown0 := hown
   have hst0 := hst
   clear hlt hgk hown hst hs hk
   obtain ⟨wo, rfl⟩ : ∃ wo : World, wo = wr := ⟨_, rfl⟩
   have hwo : w.heap.size < wo.heap.size := (hown0.lt w.heap.size rfl).2
   go_wp2_with fail
   go_loopg [7, 29] np (fun gk v iv wr => ∃ (i : Nat) (acc : List Mark), iv = .int .i64 i ∧ i ≤ np ∧ Hid (gk = np - i) ∧ acc.length ≤ 16 * i ∧ Hid (∀ x ∈ acc, NmM nm i x) ∧ Own (w.heap.size + 1) 51 wr v acc ∧ Own w.heap.size 3 wr (.slice (some ⟨w.heap.size, 0, none⟩) k k) bl ∧ Stp S w wr ∧ Strm S (B + 16 + 33 * i) wr ∧ w.heap.size < wr.heap.size)
   case atStart => exact ⟨0, [], rfl, by omega, rfl, by simp, by simp [Hid], Own.nil _ _ _, hown0, hst0, by simpa using hs0, hwo⟩
   clear hown0 hst0 hs0
   obtain ⟨i, acc, rfl, hi, hgi, hacl, hacz, hown, hbo, hst, hs, hz0⟩ := hrel
   have hz := hst.size
   have hS := hs.lt
   by_cases hil : i < np
   ·
    go_wp2_with fail
    refine (range_any S (B + 16 + 33 * i) 2 8 _ hs (by omega) (by omega) (by omega) (by omega)).mono ?_
    rintro e w2 ⟨lv, ⟨hlv1, hlv2⟩, rfl, h2, s2⟩
    have hown2 := hown.stp h2 (by omega)
    have hbo2 := hbo.stp h2 (by omega)
    have hst2 := hst.trans h2
    have hz2 := h2.size
    clear hown hbo hst hs h2
    go_wp2_with fail
    go_loopg [7, 35] k (fun gk v jv wr => ∃ (j : Nat) (acc : List Mark), jv = .int .i64 j ∧ j ≤ k ∧ Hid (gk = k - j) ∧ acc.length ≤ 16 * i + j ∧ Hid (∀ x ∈ acc, NmM nm (i + 1) x) ∧ Own (w.heap.size + 1) 51 wr v acc ∧ Own w.heap.size 3 wr (.slice (some ⟨w.heap.size, 0, none⟩) k k) bl ∧ Stp S w wr ∧ Strm S (B + 16 + 33 * i + 1 + 2 * j) wr ∧ w.heap.size < wr.heap.size)
    case atStart => exact ⟨0, acc, rfl, by omega, rfl, by omega, fun x hx => (hacz.out x hx).up, hown2, hbo2, hst2, by simpa using s2, by omega⟩
    clear hown2 hbo2 hst2 s2 hacz hacl
    obtain ⟨j, acc, rfl, hj, hgj, hacl, hacz, hown, hbo, hst, hs, hz0⟩ := hrel
    have hz := hst.size
    have hS := hs.lt
    by_cases hjl : j < k
    ·
     go_wp2_with fail
     refine (flip_any S (B + 16 + 33 * i + 1 + 2 * j) 3 _ hs (by omega) (by omega) (by omega)).mono ?_
     rintro e w3 ⟨fl, rfl, h3, s3⟩
     have hown3 := hown.stp h3 (by omega)
     have hbo3 := hbo.stp h3 (by omega)
     have hst3 := hst.trans h3
     have hz3 := h3.size
     clear hown hbo hst hs h3
     cases fl
     ·
      obtain ⟨bb', boff', hba, hbc⟩ := (show SA w3 (some ⟨w.heap.size, 0, none⟩) bl from by obtain ⟨a', c', he, hh, _⟩ := hbo3.sa; cases he; exact hh).int (i := j) (by rw [hbl.out]; omega)
      cases hba
      rw [Nat.zero_add] at hbc
      have hzb := hbz.out (bl[j]'(by rw [hbl.out]; omega)) (List.getElem_mem _)
      generalize bl[j]'(by rw [hbl.out]; omega) = bz at *
      have hj1 : (0 : Int) ≤ (j : Int) := by omega
      have hj2 : (j : Int) < (k : Int) := by omega
      have hwj : IntKind.i64.wrap (j : Int) = (j : Int) := IntWalk.i64_in _ (by omega)
      have hw1 : IntKind.i64.wrap (lv + bz) = lv + bz := IntWalk.i64_in _ (by omega)
      go_wp2_with fail
      refine wp_region_held_drew (S := (fun wx => wx.cell? ⟨w.heap.size, j, none⟩ = some (.int .i64 bz))) (by kernel_rfl) ?hS (fun hHeld => ?_)
      case hS => exact hbc
      refine rt 0 (some 41) ?_
      refine rt 1 (some 42) ?_
      refine rt 2 (some 43) ?_
      refine rt 3 (some 44) ?_
      refine rt 4 (some 45) ?_
      refine rt 5 (some 46) ?_
      refine rt 6 (some 47) ?_
      refine rcall (i := 7) (d := (some 48)) (by kernel_rfl) rfl (by kernel_rfl) (fun K hK => ?_)
      go_simp
      refine hK.out _ _ ?hS (fun hHeld => ?_)
      case hS => exact cell_later ((Below.refl _ _).alloc (Nat.le_refl _) _) hHeld
      clear hK K
      simp only [Act.put, lsetA, lsetZ, lsetS]
      refine rcall (i := 8) (d := (some 49)) (by kernel_rfl) rfl (by kernel_rfl) (fun K hK => ?_)
      go_simp
      go_at_call 5; refine (pick_box S (B + 16 + 33 * i + 1 + 2 * j + 1) _ 3 5 [0, 0, 0, 1, -1] _ ((s3.alloc _).drew) (by omega) ((Box.new _ _ _).drew) (by omega) (by decide) (by decide)).mono ?_; rintro e w4 ⟨pk, hpk, rfl, h4, s4⟩
      refine hK.out _ _ ?hS (fun hHeld => ?_)
      case hS => (rw [h4.cell (p := ⟨w.heap.size, j, none⟩) (by simp; omega) (by simp; omega)]; exact hHeld)
      clear hK K
      simp only [Act.put, lsetA, lsetZ, lsetS]
      obtain ⟨hpk1, hpk2⟩ := pick_in hpk (-1) 1 (by decide)
      have hw2 : IntKind.i64.wrap (lv + bz + pk) = lv + bz + pk := IntWalk.i64_in _ (by omega)
      refine rt 9 (some 50) ?_
      refine rt 10 (some 51) ?_
      refine rt 11 (some 52) ?_
      refine rt 12 (some 13) ?_
      refine wpAnyH_done (by kernel_rfl) ?_ _
      generalize hsc : min (max (lv + bz + pk) 0) 10 = sc at *
      have hsc1 : 0 ≤ sc := by omega
      have hsc2 : sc ≤ 10 := by omega
      have hown4 := ((hown3.alloc _).drew).stp h4 (by omega)
      have hbo4 := ((hbo3.alloc _).drew).stp h4 (by omega)
      have hst4 := ((hst3.alloc _).drew).trans h4
      have hz4 := h4.size
      simp at hz4
      obtain ⟨xi, hxn, hxi, hcxi⟩ : ∃ x : ByteArray, Hid (nm i = (⟨#[112]⟩ : ByteArray) ++ x) ∧ x.size ≤ 4 ∧ ∀ W, (convert 21 9 (.int .i32 (97 + (i : Int)))).run Tryz.prog W = .ok (.string x) W := ⟨rn i, Hnm0.out i, Hrn.out i⟩
      obtain ⟨xj, hxj, hcxj⟩ : ∃ x : ByteArray, x.size ≤ 4 ∧ ∀ W, (convert 21 9 (.int .i32 (97 + (j : Int)))).run Tryz.prog W = .ok (.string x) W := ⟨_, encode_size_le _, fun W => run_convert_int_string W _ _ _ _ (by kernel_rfl) Tryz.underlying9⟩
      have hw32i : IntKind.i32.wrap (97 + (i : Int)) = 97 + (i : Int) := IntWalk.i32_in _ (by omega)
      have hw32j : IntKind.i32.wrap (97 + (j : Int)) = 97 + (j : Int) := IntWalk.i32_in _ (by omega)
      clear hsc hpk hpk1 hpk2 hw2 hw1 hHeld h4 hown3 hbo3 hst3 s3 hbc hzb hwj
      have hsm : SmallM ((⟨#[112]⟩ : ByteArray) ++ xi, (⟨#[104]⟩ : ByteArray) ++ xj, sc) := by
       refine ⟨?_, ?_, by simp only; omega, by simp only; omega⟩ <;> (simp only [ByteArray.size_append]; show 1 + _ ≤ _; omega)
      have Hsm : Hid (NmM nm (i + 1) ((⟨#[112]⟩ : ByteArray) ++ xi, (⟨#[104]⟩ : ByteArray) ++ xj, sc)) := ⟨hsm, List.mem_map.2 ⟨i, by simp, hxn.out⟩⟩
      clear hsm
      have hown5 := hown4.alloc (.cells #[.string ((⟨#[112]⟩ : ByteArray) ++ xi), .string ((⟨#[104]⟩ : ByteArray) ++ xj), .int .i64 sc] 51)
      have hbx5 := Box.new w4 51 #[.string ((⟨#[112]⟩ : ByteArray) ++ xi), .string ((⟨#[104]⟩ : ByteArray) ++ xj), .int .i64 sc]
      go_wp2_with (at_builtin; refine wpList_append_lie (α := Mark) rfl _ _ 26 rfl 51 40 (.agg #[.string ⟨#[]⟩, .string ⟨#[]⟩, .int .i64 0]) Tryz.underlying26 Tryz.infoMark rfl _ acc rfl hown5 ((⟨#[112]⟩ : ByteArray) ++ xi, (⟨#[104]⟩ : ByteArray) ++ xj, sc) w4.heap.size rfl hbx5 (by omega) (by omega) (by simp; omega) ?_; intro gg cap1 w5 hown6 hgrow hat)
      have hbo6 : Own w.heap.size 3 w5 (.slice (some ⟨w.heap.size, 0, none⟩) k k) bl := (hbo4.alloc _).same fun b hb => hgrow.block b ((hbo4.alloc _).lt b hb).2 (fun e => by have h1 := (hown5.lt b e.symm).1; have h2 : w.heap.size = b := Option.some.inj hb; omega)
      have hst6 : Stp S w w5 := (hst4.alloc _).grown hgrow (fun j hj => .inr (by have := (hown5.lt j hj).1; omega))
      have s6 : Strm S (B + 16 + 33 * i + 1 + 2 * j + 1 + 1) w5 := (s4.alloc _).grown hgrow (fun j hj => by have := (hown5.lt j hj).1; omega)
      have hz6 := hgrow.size
      simp at hz6
      have Hac : Hid (∀ x ∈ acc ++ [((⟨#[112]⟩ : ByteArray) ++ xi, (⟨#[104]⟩ : ByteArray) ++ xj, sc)], NmM nm (i + 1) x) := fun x hx => by
       rcases List.mem_append.1 hx with h | h
       ·
        exact hacz.out x h
       ·
        rw [List.mem_singleton.1 h]; exact Hsm.out
      clear hcxi hcxj hw32i hw32j hown4 hbo4 hst4 s4 hown5 hbx5 hgrow hat hacz
      go_wp2_with fail
      go_roundg (k - (j + 1))
      case measure => have := hgj.out; omega
      case rel => exact ⟨j + 1, _, by go_num, by omega, rfl, by rw [List.length_append]; simp; omega, Hac, hown6, hbo6, hst6, s6.mono (by omega), by omega⟩
     ·
      go_wp2_with fail
      go_roundg (k - (j + 1))
      case measure => have := hgj.out; omega
      case rel => exact ⟨j + 1, acc, by go_num, by omega, rfl, by omega, hacz, hown3, hbo3, hst3, s3.mono (by omega), by omega⟩
    ·
     obtain rfl : j = k := by omega
     go_wp2_with fail
     go_roundg (np - (i + 1))
     case measure => have := hgi.out; omega
     case rel => exact ⟨i + 1, acc, by go_num, by omega, rfl, by omega, hacz, hown, hbo, hst, hs.mono (by omega), hz0⟩
   ·
    have hown0 := hown.mono (base' := w.heap.size) (by omega)
    have hs0 := hs.mono (show B + 16 + 33 * (i : Int) ≤ B + 560 by omega)
    have hacl0 : acc.length ≤ 400 := by omega
    clear hown hs hbo hgi
    obtain ⟨wz, rfl⟩ : ∃ wz : World, wz = wr := ⟨_, rfl⟩
    go_wp2_with fail
    refine (flip_any S (B + 560) 15 _ hs0 (by omega) (by omega) (by omega)).mono ?_
    rintro e w3 ⟨fl, rfl, h3, s3⟩
    have hown3 := hown0.stp h3 (by omega)
    have hst3 := hst.trans h3
    have hz3 := h3.size
    clear hown0 hst hs0 h3
    by_cases hne : fl = true ∧ 0 < acc.length
    ·
     obtain ⟨rfl, hpos⟩ := hne
     obtain ⟨av, capv, rfl, hsav, hvb, _⟩ := hown3.form
     obtain ⟨gb, goff, ha0, _⟩ := hsav.mark hpos
     rcases hvb with rfl | ⟨g, rfl, hg1, hg2⟩
     ·
      cases ha0
     clear ha0
     go_wp2_with fail
     refine (next_any S (B + 560 + 1) acc.length _ s3 (by omega) (by omega) (by omega)).mono ?_
     rintro e w4 ⟨r, ⟨hr1, hr2⟩, rfl, h4, s4⟩
     obtain ⟨m, rfl⟩ := Int.eq_ofNat_of_zero_le hr1
     have hm : m < acc.length := by omega
     have hown4 := hown3.stp h4 (by omega)
     have hst4 := hst3.trans h4
     have hz4 := h4.size
     clear hown3 hst3 s3 h4 hsav hr1
     go_wp2_with fail
     refine (next_any S (B + 560 + 1 + 1) 3 _ s4 (by omega) (by omega) (by omega)).mono ?_
     rintro e w5 ⟨r, ⟨hr3, hr4⟩, rfl, h5, s5⟩
     have hown5 := hown4.stp h5 (by omega)
     have hst5 := hst4.trans h5
     have hz5 := h5.size
     clear hown4 hst4 s4 h5
     have hsx := (hacz.out acc[m] (List.getElem_mem hm)).1
     rcases (show r = 0 ∨ r = 1 ∨ r = 2 by omega) with rfl | rfl | rfl
     ·
      go_wp2_with fail
      refine (one_any S (B + 560 + 1 + 1 + 1) _ 3 3 9 _ _ (s5.alloc _) (by omega) (Box.new _ _ _) (by omega) rfl (by omega) (by omega) (by simp; decide)).mono ?_
      rintro e w6 ⟨x, hx, rfl, h6, s6⟩
      have hz6 := h6.size
      simp at hz6
      have hown6 := (hown5.alloc _).stp h6 (by omega)
      have hst6 := (hst5.alloc _).trans h6
      obtain ⟨cur, hbx⟩ := hown6.box
      have hfr := hbx.frozen (m * 3 + 0)
      obtain ⟨mb, moff, hba, d0, d1, d2⟩ := (show SA w6 (some ⟨g, 0, none⟩) acc from by obtain ⟨a', c', he, hh, _⟩ := hown6.sa; cases he; exact hh).mark hm
      cases hba
      rw [Nat.zero_add] at d0 d1 d2
      have hput := hown6.put m 0 (x, acc[m].2.1, acc[m].2.2) (.string x) hm (by decide) rfl
      rw [show m * Cel.k Mark + 0 = m * 3 + 0 from rfl] at hput
      (try simp only [Nat.add_zero] at hfr hput)
      have Hsm : Hid (∀ z ∈ acc.set m (x, acc[m].2.1, acc[m].2.2), SmallM z) := fun z hz => by
       rcases List.mem_or_eq_of_mem_set hz with h | rfl
       ·
        exact (hacz.out z h).1
       ·
        exact ⟨hx, hsx.2⟩
      have Hnm : Hid (∃ names : List ByteArray, names.length ≤ np + 1 ∧ ∀ z ∈ acc.set m (x, acc[m].2.1, acc[m].2.2), z.1 ∈ names) := ⟨((x, acc[m].2.1, acc[m].2.2)).1 :: (List.range i).map nm, by simp; omega, fun z hz => by
       rcases List.mem_or_eq_of_mem_set hz with h | h
       ·
        exact List.mem_cons_of_mem _ (hacz.out z h).2
       ·
        rw [h]; exact List.mem_cons_self⟩
      have Hle : Hid ((acc.set m (x, acc[m].2.1, acc[m].2.2)).length ≤ 400) := by show _ ≤ _; rw [List.length_set]; exact hacl0
      generalize acc.set m (x, acc[m].2.1, acc[m].2.2) = acc2 at *
      go_wp2_with fail
      go_ret
      exact ⟨acc2, _, rfl, hput, Hle.out, Hsm.out, hst6.setCell (.inr (by simp; omega)) _, (s6.setOther (by simp; omega) _).mono (by omega), Hnm.out⟩
     ·
      go_wp2_with fail
      refine (one_any S (B + 560 + 1 + 1 + 1) _ 3 3 9 _ _ (s5.alloc _) (by omega) (Box.new _ _ _) (by omega) rfl (by omega) (by omega) (by simp; decide)).mono ?_
      rintro e w6 ⟨x, hx, rfl, h6, s6⟩
      have hz6 := h6.size
      simp at hz6
      have hown6 := (hown5.alloc _).stp h6 (by omega)
      have hst6 := (hst5.alloc _).trans h6
      obtain ⟨cur, hbx⟩ := hown6.box
      have hfr := hbx.frozen (m * 3 + 1)
      obtain ⟨mb, moff, hba, d0, d1, d2⟩ := (show SA w6 (some ⟨g, 0, none⟩) acc from by obtain ⟨a', c', he, hh, _⟩ := hown6.sa; cases he; exact hh).mark hm
      cases hba
      rw [Nat.zero_add] at d0 d1 d2
      have hput := hown6.put m 1 (acc[m].1, x, acc[m].2.2) (.string x) hm (by decide) rfl
      rw [show m * Cel.k Mark + 1 = m * 3 + 1 from rfl] at hput
      (try simp only [Nat.add_zero] at hfr hput)
      have Hsm : Hid (∀ z ∈ acc.set m (acc[m].1, x, acc[m].2.2), SmallM z) := fun z hz => by
       rcases List.mem_or_eq_of_mem_set hz with h | rfl
       ·
        exact (hacz.out z h).1
       ·
        exact ⟨hsx.1, hx, hsx.2.2⟩
      have Hnm : Hid (∃ names : List ByteArray, names.length ≤ np + 1 ∧ ∀ z ∈ acc.set m (acc[m].1, x, acc[m].2.2), z.1 ∈ names) := ⟨((acc[m].1, x, acc[m].2.2)).1 :: (List.range i).map nm, by simp; omega, fun z hz => by
       rcases List.mem_or_eq_of_mem_set hz with h | h
       ·
        exact List.mem_cons_of_mem _ (hacz.out z h).2
       ·
        rw [h]; exact List.mem_cons_self⟩
      have Hle : Hid ((acc.set m (acc[m].1, x, acc[m].2.2)).length ≤ 400) := by show _ ≤ _; rw [List.length_set]; exact hacl0
      generalize acc.set m (acc[m].1, x, acc[m].2.2) = acc2 at *
      go_wp2_with fail
      go_ret
      exact ⟨acc2, _, rfl, hput, Hle.out, Hsm.out, hst6.setCell (.inr (by simp; omega)) _, (s6.setOther (by simp; omega) _).mono (by omega), Hnm.out⟩
     ·
      go_wp2_with fail
      refine (pick_box S (B + 560 + 1 + 1 + 1) _ 3 2 [-1, 11] _ (s5.alloc _) (by omega) (Box.new _ _ _) (by omega) (by decide) (by decide)).mono ?_
      rintro e w6 ⟨x, hx, rfl, h6, s6⟩
      have hz6 := h6.size
      simp at hz6
      have hown6 := (hown5.alloc _).stp h6 (by omega)
      have hst6 := (hst5.alloc _).trans h6
      obtain ⟨cur, hbx⟩ := hown6.box
      have hfr := hbx.frozen (m * 3 + 2)
      obtain ⟨mb, moff, hba, d0, d1, d2⟩ := (show SA w6 (some ⟨g, 0, none⟩) acc from by obtain ⟨a', c', he, hh, _⟩ := hown6.sa; cases he; exact hh).mark hm
      cases hba
      rw [Nat.zero_add] at d0 d1 d2
      have hput := hown6.put m 2 (acc[m].1, acc[m].2.1, x) (.int .i64 x) hm (by decide) rfl
      rw [show m * Cel.k Mark + 2 = m * 3 + 2 from rfl] at hput
      (try simp only [Nat.add_zero] at hfr hput)
      have Hsm : Hid (∀ z ∈ acc.set m (acc[m].1, acc[m].2.1, x), SmallM z) := fun z hz => by
       rcases List.mem_or_eq_of_mem_set hz with h | rfl
       ·
        exact (hacz.out z h).1
       ·
        exact ⟨hsx.1, hsx.2.1, by have := pick_in hx (-1) 11 (by decide); simp only; omega, by have := pick_in hx (-1) 11 (by decide); simp only; omega⟩
      have Hnm : Hid (∃ names : List ByteArray, names.length ≤ np + 1 ∧ ∀ z ∈ acc.set m (acc[m].1, acc[m].2.1, x), z.1 ∈ names) := ⟨((acc[m].1, acc[m].2.1, x)).1 :: (List.range i).map nm, by simp; omega, fun z hz => by
       rcases List.mem_or_eq_of_mem_set hz with h | h
       ·
        exact List.mem_cons_of_mem _ (hacz.out z h).2
       ·
        rw [h]; exact List.mem_cons_self⟩
      have Hle : Hid ((acc.set m (acc[m].1, acc[m].2.1, x)).length ≤ 400) := by show _ ≤ _; rw [List.length_set]; exact hacl0
      generalize acc.set m (acc[m].1, acc[m].2.1, x) = acc2 at *
      go_wp2_with fail
      go_ret
      exact ⟨acc2, _, rfl, hput, Hle.out, Hsm.out, hst6.setCell (.inr (by simp; omega)) _, (s6.setOther (by simp; omega) _).mono (by omega), Hnm.out⟩
    ·
     have hx1 : (fl && decide (0 < acc.length)) = false := by
      cases fl
      ·
       rfl
      ·
       simp at hne; simp [hne]
     obtain ⟨av, capv, rfl, hsav, hvb, _⟩ := hown3.form
     cases fl
     ·
      go_wp2_with fail
      go_ret
      exact ⟨acc, _, rfl, hown3, hacl0, fun x hx => (hacz.out x hx).1, hst3, s3.mono (by omega), (List.range i).map nm, by simp; omega, fun x hx => (hacz.out x hx).2⟩
     ·
      have hl0 : acc.length = 0 := by simp at hne; simp [hne]
      have hd : decide (0 < acc.length) = false := by simp [hl0]
      have hd2 : decide ((0 : Int) < (acc.length : Int)) = false := by simp [hl0]
      clear hne hx1 hl0
      go_wp2_with fail
      go_ret
      exact ⟨acc, _, rfl, hown3, hacl0, fun x hx => (hacz.out x hx).1, hst3, s3.mono (by omega), (List.range i).map nm, by simp; omega, fun x hx => (hacz.out x hx).2⟩
theorem marks_any (S : Nat) (B : Int) (np nq : Nat) (w : World) (hs : Strm S B w) (hB : B ≤ 1000000) (hp : np ≤ 16) (hq : nq ≤ 16) :
  Calls Tryz.prog 4 #[.pointer (some ⟨S, 0, none⟩), .int .i64 np, .int .i64 nq] w (SomeMarks S B w) := by
 refine (marksN_any S B np nq w hs hB hp hq).mono ?_
 rintro e w' ⟨l, v, h1, h2, h3, h4, h5, h6, _⟩
 exact ⟨l, v, h1, h2, h3, h4, h5, h6⟩
end Go.Proofs.YtcjcdbhobehlpaaGreatDoor
