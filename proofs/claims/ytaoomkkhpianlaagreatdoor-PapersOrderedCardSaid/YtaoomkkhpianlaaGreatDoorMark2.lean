/- Marks: what is wrong with marks (the reference). -/
import Derived.Test.YtaoomkkhpianlaaGreatDoorMark1
namespace Go.Proofs.YtaoomkkhpianlaaGreatDoor
open Go.RowKit
set_option linter.unusedVariables false
set_option linter.unusedSimpArgs false

set_option maxRecDepth 100000 in
set_option maxHeartbeats 4000000 in
/-- The first of two numbers that is not 0. -/
theorem cmpOrI_any (x y : Int) (b : Nat) (w : World) (h : Box w b 3 #[.int .i64 x, .int .i64 y]) :
    Calls Tryz.prog 107 #[.slice (some ⟨b, 0, none⟩) 2 2] w (fun e w' => e = .returned (.int .i64 (if x ≠ 0 then x else y)) ∧ w = w') := by
  have h_l := h.lt; have h_0 := h.cell 0; have h_1 := h.cell 1; simp at h_0 h_1
  by_cases hx : x = 0
  · rw [if_neg (by simp [hx])]
    have hq : (x != 0) = false := by simpa using hx
    clear hx
    by_cases hy : y = 0
    · have hq2 : (y != 0) = false := by simpa using hy
      go_enter Tryz.func107, Tryz.ntmps107
      go_wp2_with fail
      refine wp_loop_rounds 3 ?_
      rw [rounds_succ]
      go_wp2_with fail
      rw [rounds_succ]
      go_wp2_with fail
      rw [rounds_succ]
      go_wp2_with fail
      go_ret
      exact ⟨by rw [hy]; rfl, rfl⟩
    · have hq2 : (y != 0) = true := by simpa using hy
      go_enter Tryz.func107, Tryz.ntmps107
      go_wp2_with fail
      refine wp_loop_rounds 2 ?_
      rw [rounds_succ]
      go_wp2_with fail
      rw [rounds_succ]
      go_wp2_with fail
      go_ret
      exact ⟨rfl, rfl⟩
  · rw [if_pos hx]
    have hq : (x != 0) = true := by simpa using hx
    go_enter Tryz.func107, Tryz.ntmps107
    go_wp2_with fail
    refine wp_loop_rounds 1 ?_
    rw [rounds_succ]
    go_wp2_with fail
    go_ret
    exact ⟨rfl, rfl⟩

set_option maxRecDepth 100000 in
set_option maxHeartbeats 1000000 in
theorem pairOrder_any (x y : Mark) (w : World) :
    Calls Tryz.prog 71 #[.agg #[.string x.1, .string x.2.1], .agg #[.string y.1, .string y.2.1]] w (Gives (.int .i64 (cmpP x y)) w) := by
  have H := Lib.hid (show cmpP x y = if cmpS x.1 y.1 ≠ 0 then cmpS x.1 y.1 else cmpS x.2.1 y.2.1 from rfl)
  generalize cmpP x y = r at *
  have H1 := Lib.hid (compareS_any x.1 y.1)
  have H2 := Lib.hid (compareS_any x.2.1 y.2.1)
  have H3 := Lib.hid (cmpOrI_any (cmpS x.1 y.1) (cmpS x.2.1 y.2.1))
  rw [← H.out] at H3
  generalize cmpS x.1 y.1 = c1 at *
  generalize cmpS x.2.1 y.2.1 = c2 at *
  generalize x.1 = x1 at *
  generalize x.2.1 = x2 at *
  generalize y.1 = y1 at *
  generalize y.2.1 = y2 at *
  have hX := (Box.new w 52 #[.string x1, .string x2]).alloc (.cells #[.string y1, .string y2] 52)
  have hY := Box.newAt (w.alloc (.cells #[.string x1, .string x2] 52)) (w.heap.size + 1) 52 #[.string y1, .string y2] (by simp)
  go_enter Tryz.func71, Tryz.ntmps71
  go_upto_region 1 with (fail)
  have hB : Below w.heap.size w ((w.alloc (.cells #[.string x1, .string x2] 52)).alloc (.cells #[.string y1, .string y2] 52)) := by (repeat' (first | exact Below.refl _ _ | assumption | refine Below.setCell ?_ ?_ _ | refine below_drewN ?_ _ | refine Below.drew ?_ | refine Below.alloc ?_ ?_ _ | (with_reducible refine Below.trans ?_ (Below.mono hb ?_)) | (with_reducible refine Below.trans ?_ (Below.mono hb0 ?_)) | (with_reducible refine Below.trans ?_ (Below.mono hb1 ?_)) | (with_reducible refine Below.trans ?_ (Below.mono hb2 ?_)) | (with_reducible refine Below.trans ?_ (Below.mono hb3 ?_)) | (with_reducible refine Below.trans ?_ (Below.mono hb4 ?_)) | (with_reducible refine Below.trans ?_ (Below.mono hb5 ?_)) | (with_reducible refine Below.trans ?_ (Below.mono hb6 ?_)) | (with_reducible refine Below.trans ?_ (Below.mono hb7 ?_)) | (with_reducible refine Below.trans ?_ (Below.mono hb8 ?_)) | (with_reducible refine Below.trans ?_ (Below.mono hb9 ?_)) | (with_reducible refine Below.trans ?_ (Below.mono hb10 ?_)) | (with_reducible refine Below.trans ?_ (Below.mono hb11 ?_)) | (with_reducible refine Below.trans ?_ (Below.mono hb12 ?_)) | (with_reducible refine Below.trans ?_ (Below.mono hb13 ?_)) | (with_reducible refine Below.trans ?_ (Below.mono hb14 ?_)) | (with_reducible refine Below.trans ?_ (Below.mono hb15 ?_)) | omega | (simp; done) | (simp; omega)))
  generalize (w.alloc (.cells #[.string x1, .string x2] 52)).alloc (.cells #[.string y1, .string y2] 52) = W at *
  have hX_l := hX.lt; have hX_0 := hX.cell 0; have hX_1 := hX.cell 1; simp at hX_0 hX_1
  have hY_l := hY.lt; have hY_0 := hY.cell 0; have hY_1 := hY.cell 1; simp at hY_0 hY_1
  refine wp_region_held_drew (S := (fun wx => wx.cell? ⟨w.heap.size, 0, none⟩ = some (.string x1) ∧ wx.cell? ⟨w.heap.size, 1, none⟩ = some (.string x2) ∧ wx.cell? ⟨w.heap.size + 1, 0, none⟩ = some (.string y1) ∧ wx.cell? ⟨w.heap.size + 1, 1, none⟩ = some (.string y2) ∧ Below W.heap.size W wx)) (by kernel_rfl) ?hS (fun hHeld => ?_)
  case hS => exact ⟨hX_0, hX_1, hY_0, hY_1, (Below.refl _ _).drew⟩
  refine rtake (i := 0) (d := (some 5)) (v := ?_) rfl (by kernel_rfl) (by kernel_rfl) (by kernel_rfl) (by kernel_rfl) (fun _ _ _ h => h) (by kernel_rfl) (by assumption) ?_ ?_
  rotate_left 1
  · (intro wI hSI; (try dsimp only at hSI); go_simp; (try with_reducible rfl))
  simp only [Act.put, List.setIfInBounds_toArray, List.set_cons_zero, List.set_cons_succ]
  refine rtake (i := 1) (d := (some 6)) (v := ?_) rfl (by kernel_rfl) (by kernel_rfl) (by kernel_rfl) (by kernel_rfl) (fun _ _ _ h => h) (by kernel_rfl) (by assumption) ?_ ?_
  rotate_left 1
  · (intro wI hSI; (try dsimp only at hSI); go_simp; (try with_reducible rfl))
  simp only [Act.put, List.setIfInBounds_toArray, List.set_cons_zero, List.set_cons_succ]
  refine rtake (i := 2) (d := (some 7)) (v := ?_) rfl (by kernel_rfl) (by kernel_rfl) (by kernel_rfl) (by kernel_rfl) (fun _ _ _ h => h) (by kernel_rfl) (by assumption) ?_ ?_
  rotate_left 1
  · (intro wI hSI; (try dsimp only at hSI); go_simp; (try with_reducible rfl))
  simp only [Act.put, List.setIfInBounds_toArray, List.set_cons_zero, List.set_cons_succ]
  refine rtake (i := 3) (d := (some 8)) (v := ?_) rfl (by kernel_rfl) (by kernel_rfl) (by kernel_rfl) (by kernel_rfl) (fun _ _ _ h => h) (by kernel_rfl) (by assumption) ?_ ?_
  rotate_left 1
  · (intro wI hSI; (try dsimp only at hSI); go_simp; (try with_reducible rfl))
  simp only [Act.put, List.setIfInBounds_toArray, List.set_cons_zero, List.set_cons_succ]
  refine rtake (i := 5) (d := (some 10)) (v := ?_) rfl (by kernel_rfl) (by kernel_rfl) (by kernel_rfl) (by kernel_rfl) (fun _ _ _ h => h) (by kernel_rfl) (by assumption) ?_ ?_
  rotate_left 1
  · (intro wI hSI; (try dsimp only at hSI); go_simp; (try with_reducible rfl))
  simp only [Act.put, List.setIfInBounds_toArray, List.set_cons_zero, List.set_cons_succ]
  refine rtake (i := 6) (d := (some 11)) (v := ?_) rfl (by kernel_rfl) (by kernel_rfl) (by kernel_rfl) (by kernel_rfl) (fun _ _ _ h => h) (by kernel_rfl) (by assumption) ?_ ?_
  rotate_left 1
  · (intro wI hSI; (try dsimp only at hSI); go_simp; (try with_reducible rfl))
  simp only [Act.put, List.setIfInBounds_toArray, List.set_cons_zero, List.set_cons_succ]
  refine rtake (i := 7) (d := (some 12)) (v := ?_) rfl (by kernel_rfl) (by kernel_rfl) (by kernel_rfl) (by kernel_rfl) (fun _ _ _ h => h) (by kernel_rfl) (by assumption) ?_ ?_
  rotate_left 1
  · (intro wI hSI; (try dsimp only at hSI); go_simp; (try with_reducible rfl))
  simp only [Act.put, List.setIfInBounds_toArray, List.set_cons_zero, List.set_cons_succ]
  refine rtake (i := 8) (d := (some 13)) (v := ?_) rfl (by kernel_rfl) (by kernel_rfl) (by kernel_rfl) (by kernel_rfl) (fun _ _ _ h => h) (by kernel_rfl) (by assumption) ?_ ?_
  rotate_left 1
  · (intro wI hSI; (try dsimp only at hSI); go_simp; (try with_reducible rfl))
  simp only [Act.put, List.setIfInBounds_toArray, List.set_cons_zero, List.set_cons_succ]
  refine rcall (i := 4) (d := (some 9)) (by kernel_rfl) rfl (by kernel_rfl) (fun K hK => ?_)
  go_simp
  go_at_call 108; refine (H1.out _).mono ?_; rintro e w' ⟨rfl, rfl⟩
  refine hK.out _ _ ?hS (fun hHeld => ?_)
  case hS => exact hHeld
  clear hK K
  simp only [Act.put, List.setIfInBounds_toArray, List.set_cons_zero, List.set_cons_succ]
  refine rcall (i := 9) (d := (some 14)) (by kernel_rfl) rfl (by kernel_rfl) (fun K hK => ?_)
  go_simp
  go_at_call 108; refine (H2.out _).mono ?_; rintro e w' ⟨rfl, rfl⟩
  refine hK.out _ _ ?hS (fun hHeld => ?_)
  case hS => exact hHeld
  clear hK K
  simp only [Act.put, List.setIfInBounds_toArray, List.set_cons_zero, List.set_cons_succ]
  refine rcall (i := 10) (d := (some 15)) (by kernel_rfl) rfl (by kernel_rfl) (fun K hK => ?_)
  go_simp
  skip
  refine hK.out _ _ ?hS (fun hHeld => ?_)
  case hS => exact (have hA : ∀ (w : World) (o : Obj), Below w.heap.size w (w.alloc o) := fun w o => (Below.refl _ _).alloc (Nat.le_refl _) o; ⟨cell_later (hA _ _) hHeld.1, cell_later (hA _ _) hHeld.2.1, cell_later (hA _ _) hHeld.2.2.1, cell_later (hA _ _) hHeld.2.2.2.1, hHeld.2.2.2.2.trans ((hA _ _).mono hHeld.2.2.2.2.size)⟩)
  clear hK K
  simp only [Act.put, List.setIfInBounds_toArray, List.set_cons_zero, List.set_cons_succ]
  refine rcall (i := 11) (d := (some 16)) (by kernel_rfl) rfl (by kernel_rfl) (fun K hK => ?_)
  go_simp
  go_at_call 107; refine (H3.out _ _ (by first | exact Box.new _ _ _ | exact (Box.new _ _ _).drew)).mono ?_; rintro e w' ⟨rfl, rfl⟩
  refine hK.out _ _ ?hS (fun hHeld => ?_)
  case hS => exact hHeld
  clear hK K
  simp only [Act.put, List.setIfInBounds_toArray, List.set_cons_zero, List.set_cons_succ]
  refine rtake (i := 12) (d := (some 4)) (v := ?_) rfl (by kernel_rfl) (by kernel_rfl) (by kernel_rfl) (by kernel_rfl) (fun _ _ _ h => h) (by kernel_rfl) (by assumption) ?_ ?_
  rotate_left 1
  · (intro wI hSI; (try dsimp only at hSI); go_simp; (try with_reducible rfl))
  simp only [Act.put, List.setIfInBounds_toArray, List.set_cons_zero, List.set_cons_succ]
  refine wpAnyH_done (by kernel_rfl) ?_ _
  have hbF := below_next hB hHeld.2.2.2.2
  go_wp2_with fail
  go_ret
  exact ⟨rfl, hbF⟩

/-- How many marks of a paper there are. -/
def cntP (l : List Mark) (p : ByteArray) : Nat := l.countP (fun x => decide (x.1 = p))
theorem cntM_eq {l : List Mark} {k : Nat} (hk : k < l.length) : cntM l k = cntP (l.take (k + 1)) l[k].1 := by
  unfold cntM cntP; rw [List.getElem?_eq_getElem hk]; simp
theorem cntP_succ {l : List Mark} {k : Nat} (hk : k < l.length) (p : ByteArray) : cntP (l.take (k + 1)) p = cntP (l.take k) p + if l[k].1 = p then 1 else 0 := by
  unfold cntP; rw [List.take_succ_eq_append_getElem hk, List.countP_append]; simp [List.countP_cons]
theorem cntP_le (l : List Mark) (p : ByteArray) : cntP l p ≤ l.length := List.countP_le_length
/-- The map in block b counts the papers of l. -/
def MCnt (w : World) (b : Nat) (l : List Mark) : Prop := ∃ es, MBox w b es ∧ ∀ p, mget es p = if cntP l p = 0 then none else some (.int .i64 (cntP l p))
theorem MCnt.lt {w : World} {b : Nat} {l : List Mark} (h : MCnt w b l) : b < w.heap.size := by obtain ⟨es, h1, _⟩ := h; exact h1.lt
theorem MCnt.below {w w' : World} {b : Nat} {l : List Mark} (h : MCnt w b l) (k : Below w.heap.size w w') : MCnt w' b l := by obtain ⟨es, h1, h2⟩ := h; exact ⟨es, h1.below k, h2⟩
theorem MCnt.alloc {w : World} {b : Nat} {l : List Mark} (h : MCnt w b l) (o : Obj) : MCnt (w.alloc o) b l := by obtain ⟨es, h1, h2⟩ := h; exact ⟨es, h1.alloc o, h2⟩
theorem MCnt.look {w : World} {b : Nat} {l : List Mark} (h : MCnt w b l) (p : ByteArray) : (Instr.lookup 110 (.map (some b)) (.string p) false).run Tryz.prog w = .ok (.int .i64 (cntP l p)) w := by
  obtain ⟨es, h1, h2⟩ := h
  rw [MBox.look h1 Tryz.underlying110 Tryz.underlying9 (.int .i64 0) (fun w => Tryz.zeroValue3 w) p false]
  unfold looked
  rw [h2]
  by_cases h0 : cntP l p = 0 <;> simp [h0]
theorem MCnt.put {w : World} {b : Nat} {l : List Mark} {k : Nat} {es : List (ByteArray × Value)} (hk : k < l.length) (h2 : ∀ p, mget es p = if cntP (l.take k) p = 0 then none else some (.int .i64 (cntP (l.take k) p)))
    (h : MBox w b (mput es l[k].1 (.int .i64 ((cntP (l.take k) l[k].1 : Int) + 1)))) : MCnt w b (l.take (k + 1)) := by
  refine ⟨_, h, fun p => ?_⟩
  rw [mget_mput, cntP_succ hk]
  by_cases hp : l[k].1 = p
  · subst hp; simp
  · simp [hp, h2]

set_option maxRecDepth 100000 in
set_option maxHeartbeats 2000000 in
theorem marksFault_any (l : List Mark) (a : Option Addr) (cap : Nat) (w : World) (hs : SA w a l) (hsl : l.length ≤ 1000000) (hsm : ∀ x ∈ l, x.1.size ≤ 1000 ∧ x.2.1.size ≤ 1000) :
    Calls Tryz.prog 13 #[.slice a l.length cap] w (Gives (.int .i64 (marksFault l)) w) := by
  have HPF := Lib.hid (show marksFault l = if 3000 < l.length then 2 else firstErr (markE cntM l) l.length from rfl)
  generalize marksFault l = pf at *
  by_cases h5 : 3000 < l.length
  · have Hv := Lib.hid (show pf = 2 by rw [HPF.out, if_pos h5])
    go_enter Tryz.func13, Tryz.ntmps13
    go_wp2_with fail
    go_ret
    exact ⟨by rw [Hv.out]; rfl, by (repeat' (first | exact Below.refl _ _ | assumption | refine Below.setCell ?_ ?_ _ | refine below_drewN ?_ _ | refine Below.drew ?_ | refine Below.alloc ?_ ?_ _ | (with_reducible refine Below.trans ?_ (Below.mono hb ?_)) | (with_reducible refine Below.trans ?_ (Below.mono hb0 ?_)) | (with_reducible refine Below.trans ?_ (Below.mono hb1 ?_)) | (with_reducible refine Below.trans ?_ (Below.mono hb2 ?_)) | (with_reducible refine Below.trans ?_ (Below.mono hb3 ?_)) | (with_reducible refine Below.trans ?_ (Below.mono hb4 ?_)) | (with_reducible refine Below.trans ?_ (Below.mono hb5 ?_)) | (with_reducible refine Below.trans ?_ (Below.mono hb6 ?_)) | (with_reducible refine Below.trans ?_ (Below.mono hb7 ?_)) | (with_reducible refine Below.trans ?_ (Below.mono hb8 ?_)) | (with_reducible refine Below.trans ?_ (Below.mono hb9 ?_)) | (with_reducible refine Below.trans ?_ (Below.mono hb10 ?_)) | (with_reducible refine Below.trans ?_ (Below.mono hb11 ?_)) | (with_reducible refine Below.trans ?_ (Below.mono hb12 ?_)) | (with_reducible refine Below.trans ?_ (Below.mono hb13 ?_)) | (with_reducible refine Below.trans ?_ (Below.mono hb14 ?_)) | (with_reducible refine Below.trans ?_ (Below.mono hb15 ?_)) | omega | (simp; done) | (simp; omega)))⟩
  rw [if_neg h5] at HPF
  have hmm := @run_makeMap Tryz.prog
  go_enter Tryz.func13, Tryz.ntmps13
  go_wp2_with fail
  go_loopg [12] l.length (fun gk i wr => ∃ k : Nat, i = .int .i64 k ∧ k ≤ l.length ∧ Hid (gk = l.length - k) ∧ Hid (∀ j, j < k → markE cntM l j = 0) ∧ MCnt wr w.heap.size (l.take k) ∧ Below w.heap.size w wr)
  case atStart => exact ⟨0, rfl, by omega, rfl, fun j hj => by omega, ⟨[], MBox.new w, fun p => by simp [cntP, mget]⟩, by (repeat' (first | exact Below.refl _ _ | assumption | refine Below.setCell ?_ ?_ _ | refine below_drewN ?_ _ | refine Below.drew ?_ | refine Below.alloc ?_ ?_ _ | (with_reducible refine Below.trans ?_ (Below.mono hb ?_)) | (with_reducible refine Below.trans ?_ (Below.mono hb0 ?_)) | (with_reducible refine Below.trans ?_ (Below.mono hb1 ?_)) | (with_reducible refine Below.trans ?_ (Below.mono hb2 ?_)) | (with_reducible refine Below.trans ?_ (Below.mono hb3 ?_)) | (with_reducible refine Below.trans ?_ (Below.mono hb4 ?_)) | (with_reducible refine Below.trans ?_ (Below.mono hb5 ?_)) | (with_reducible refine Below.trans ?_ (Below.mono hb6 ?_)) | (with_reducible refine Below.trans ?_ (Below.mono hb7 ?_)) | (with_reducible refine Below.trans ?_ (Below.mono hb8 ?_)) | (with_reducible refine Below.trans ?_ (Below.mono hb9 ?_)) | (with_reducible refine Below.trans ?_ (Below.mono hb10 ?_)) | (with_reducible refine Below.trans ?_ (Below.mono hb11 ?_)) | (with_reducible refine Below.trans ?_ (Below.mono hb12 ?_)) | (with_reducible refine Below.trans ?_ (Below.mono hb13 ?_)) | (with_reducible refine Below.trans ?_ (Below.mono hb14 ?_)) | (with_reducible refine Below.trans ?_ (Below.mono hb15 ?_)) | omega | (simp; done) | (simp; omega)))⟩
  case round =>
    clear hmm
    obtain ⟨k, rfl, hk, hgk, hf, hM, hb⟩ := hrel
    have hz := hb.size
    by_cases hlt : k < l.length
    · obtain ⟨b, off, ha, c0, c1, c2⟩ := (hs.below hb).mark hlt
      have hE : markE cntM l k = if !keyB l[k].1 || !keyB l[k].2.1 then 5 else if badOrd l k then 7 else if decide (l[k].2.2 < 0) || decide (10 < l[k].2.2) then 1 else if 12 < cntM l k then 2 else 0 := by
        unfold markE; rw [List.getElem?_eq_getElem hlt]
      rw [cntM_eq hlt] at hE
      have HE := Lib.hid hE
      have hxs := hsm l[k] (List.getElem_mem hlt)
      have hML := hM.lt
      obtain ⟨es, hM1, hM2⟩ := hM
      have HPut := Lib.hid (fun (W : World) h => MCnt.put (w := W) (b := w.heap.size) hlt hM2 h)
      have HLk := Lib.hid (fun (W : World) (h : MBox W w.heap.size es) => MCnt.look ⟨es, h, hM2⟩ l[k].1)
      have HLk2 := Lib.hid (fun (W : World) (h : MCnt W w.heap.size (l.take (k + 1))) => MCnt.look h l[k].1)
      have hcb := cntP_le (l.take k) l[k].1
      have hcb2 := cntP_le (l.take (k + 1)) l[k].1
      rw [List.length_take] at hcb hcb2
      clear hE hM2
      generalize cntP (l.take k) l[k].1 = c at *
      generalize cntP (l.take (k + 1)) l[k].1 = c' at *
      rw [ha]
      generalize hx : l[k] = x at *
      obtain ⟨x1, x2, x3⟩ := x
      have Hx := Lib.hid hx
      clear hx
      simp only at c0 c1 c2 HE hxs HPut HLk HLk2
      have Hfe := Lib.hid (fun (e : Int) (he : markE cntM l k = e) (he0 : e ≠ 0) => (show pf = e by rw [HPF.out, firstErr_is (f := markE cntM l) hlt hf.out he he0]))
      have hT := Box.new wr 54 #[.string x1, .string x2, .int .i64 x3]
      have hlk := HLk.out _ (hM1.alloc (.cells #[.string x1, .string x2, .int .i64 x3] 54))
      go_wp2_with (at_mapUpdate; refine wpList_mapUpdate_box rfl _ _ _ 110 rfl 9 3 Tryz.underlying110 Tryz.underlying9 w.heap.size es rfl (hM1.alloc _) x1 rfl (.int .i64 ((c : Int) + 1)) rfl ?_; intro W1 hM2 hg2 hs2; have hT1 := hT.grown hg2 (by simp; omega); have hT1_l := hT1.lt; have hT1_0 := hT1.cell 0; have hT1_1 := hT1.cell 1; have hT1_2 := hT1.cell 2; simp at hT1_0 hT1_1 hT1_2)
      refine (keyOf_any x1 _ (by omega)).mono ?_
      rintro e W2 ⟨rfl, hb2⟩
      have hMc := (HPut.out _ hM2).below hb2
      have hbW1 : Below w.heap.size w W1 := Below.grown (w := wr.alloc _) (by (repeat' (first | exact Below.refl _ _ | assumption | refine Below.setCell ?_ ?_ _ | refine below_drewN ?_ _ | refine Below.drew ?_ | refine Below.alloc ?_ ?_ _ | (with_reducible refine Below.trans ?_ (Below.mono hb ?_)) | (with_reducible refine Below.trans ?_ (Below.mono hb0 ?_)) | (with_reducible refine Below.trans ?_ (Below.mono hb1 ?_)) | (with_reducible refine Below.trans ?_ (Below.mono hb2 ?_)) | (with_reducible refine Below.trans ?_ (Below.mono hb3 ?_)) | (with_reducible refine Below.trans ?_ (Below.mono hb4 ?_)) | (with_reducible refine Below.trans ?_ (Below.mono hb5 ?_)) | (with_reducible refine Below.trans ?_ (Below.mono hb6 ?_)) | (with_reducible refine Below.trans ?_ (Below.mono hb7 ?_)) | (with_reducible refine Below.trans ?_ (Below.mono hb8 ?_)) | (with_reducible refine Below.trans ?_ (Below.mono hb9 ?_)) | (with_reducible refine Below.trans ?_ (Below.mono hb10 ?_)) | (with_reducible refine Below.trans ?_ (Below.mono hb11 ?_)) | (with_reducible refine Below.trans ?_ (Below.mono hb12 ?_)) | (with_reducible refine Below.trans ?_ (Below.mono hb13 ?_)) | (with_reducible refine Below.trans ?_ (Below.mono hb14 ?_)) | (with_reducible refine Below.trans ?_ (Below.mono hb15 ?_)) | omega | (simp; done) | (simp; omega)))) hg2 (by simp; omega) (by rintro j hj; cases hj; exact Nat.le_refl _)
      have hT2 := hT1.below hb2
      have hbW2 : Below w.heap.size w W2 := below_next hbW1 hb2
      have hs3 := hb2.size
      clear hT1_l hT1_0 hT1_1 hT1_2
      simp at hs2
      clear hT hT1 hb2 hbW1 hlk hM1 hM2 hg2 c0 c1 c2 HPut HLk
      cases hk1 : keyB x1
      · rw [hk1] at HE
        have He := Lib.hid (Hfe.out 5 (by rw [HE.out]; rfl) (by decide))
        go_wp2_with fail
        go_ret
        exact ⟨by rw [He.out]; rfl, hbW2⟩
      rw [hk1] at HE
      have hT2_l := hT2.lt; have hT2_0 := hT2.cell 0; have hT2_1 := hT2.cell 1; have hT2_2 := hT2.cell 2; simp at hT2_0 hT2_1 hT2_2
      go_wp2_with fail
      refine (keyOf_any x2 _ (by omega)).mono ?_
      rintro e W3 ⟨rfl, hb3⟩
      have hMc3 := hMc.below hb3
      have hT3 := hT2.below hb3
      have hbW3 : Below w.heap.size w W3 := below_next hbW2 hb3
      have hs4 := hb3.size
      clear hT2_l hT2_0 hT2_1 hT2_2
      clear hT2 hb3 hbW2 hMc
      cases hk2 : keyB x2
      · rw [hk2] at HE
        have He := Lib.hid (Hfe.out 5 (by rw [HE.out]; rfl) (by decide))
        go_wp2_with fail
        go_ret
        exact ⟨by rw [He.out]; rfl, hbW3⟩
      rw [hk2] at HE
      simp only [Bool.not_true, Bool.or_self, Bool.false_eq_true, if_false] at HE
      have hT3_l := hT3.lt; have hT3_0 := hT3.cell 0; have hT3_1 := hT3.cell 1; have hT3_2 := hT3.cell 2; simp at hT3_0 hT3_1 hT3_2
      go_upto_region 10 with (fail)
      go_cut [36] (fun v wx => v = .bool (badOrd l k) ∧ ∃ W', W' = wx ∧ Below W3.heap.size W3 W')
      case first =>
        by_cases hk0 : k = 0
        · have hd : decide (0 < k) = false := by simp [hk0]
          have hd' : decide ((0 : Int) < (k : Int)) = false := by simp [hk0]
          have ho0 : badOrd l k = false := by rw [hk0]; rfl
          have Ho := Lib.hid ho0
          clear hk0 ho0
          refine wp_region_held_drew (S := (fun wx => Below W3.heap.size W3 wx)) (by kernel_rfl) ?hS (fun hHeld => ?_)
          case hS => exact (Below.refl _ _).drew
          refine rtake (i := 0) (d := (some 37)) (v := ?_) rfl (by kernel_rfl) (by kernel_rfl) (by kernel_rfl) (by kernel_rfl) (fun _ _ _ h => h) (by kernel_rfl) (by assumption) ?_ ?_
          rotate_left 1
          · (intro wI hSI; (try dsimp only at hSI); go_simp; (try with_reducible rfl))
          simp only [Act.put, List.setIfInBounds_toArray, List.set_cons_zero, List.set_cons_succ]
          refine rtake (i := 1) (d := (some 38)) (v := ?_) rfl (by kernel_rfl) (by kernel_rfl) (by kernel_rfl) (by kernel_rfl) (fun _ _ _ h => h) (by kernel_rfl) (by assumption) ?_ ?_
          rotate_left 1
          · (intro wI hSI; (try dsimp only at hSI); go_simp; (try with_reducible rfl))
          simp only [Act.put, List.setIfInBounds_toArray, List.set_cons_zero, List.set_cons_succ]
          refine rtake (i := 2) (d := (some 39)) (v := ?_) rfl (by kernel_rfl) (by kernel_rfl) (by kernel_rfl) (by kernel_rfl) (fun _ _ _ h => h) (by kernel_rfl) (by assumption) ?_ ?_
          rotate_left 1
          · (intro wI hSI; (try dsimp only at hSI); go_simp; (try with_reducible rfl))
          simp only [Act.put, List.setIfInBounds_toArray, List.set_cons_zero, List.set_cons_succ]
          refine rskip (i := 3) (d := (some 40)) rfl (by kernel_rfl) (by kernel_rfl) (by kernel_rfl) (by kernel_rfl) (fun _ _ _ h => h) (by kernel_rfl) (by assumption) ?_
          simp only [Act.put, List.setIfInBounds_toArray, List.set_cons_zero, List.set_cons_succ]
          refine rskip (i := 4) (d := (some 41)) rfl (by kernel_rfl) (by kernel_rfl) (by kernel_rfl) (by kernel_rfl) (fun _ _ _ h => h) (by kernel_rfl) (by assumption) ?_
          simp only [Act.put, List.setIfInBounds_toArray, List.set_cons_zero, List.set_cons_succ]
          refine rskip (i := 5) (d := (some 42)) rfl (by kernel_rfl) (by kernel_rfl) (by kernel_rfl) (by kernel_rfl) (fun _ _ _ h => h) (by kernel_rfl) (by assumption) ?_
          simp only [Act.put, List.setIfInBounds_toArray, List.set_cons_zero, List.set_cons_succ]
          refine rskip (i := 6) (d := (some 43)) rfl (by kernel_rfl) (by kernel_rfl) (by kernel_rfl) (by kernel_rfl) (fun _ _ _ h => h) (by kernel_rfl) (by assumption) ?_
          simp only [Act.put, List.setIfInBounds_toArray, List.set_cons_zero, List.set_cons_succ]
          refine rskip (i := 7) (d := (some 44)) rfl (by kernel_rfl) (by kernel_rfl) (by kernel_rfl) (by kernel_rfl) (fun _ _ _ h => h) (by kernel_rfl) (by assumption) ?_
          simp only [Act.put, List.setIfInBounds_toArray, List.set_cons_zero, List.set_cons_succ]
          refine rskip (i := 8) (d := (some 45)) rfl (by kernel_rfl) (by kernel_rfl) (by kernel_rfl) (by kernel_rfl) (fun _ _ _ h => h) (by kernel_rfl) (by assumption) ?_
          simp only [Act.put, List.setIfInBounds_toArray, List.set_cons_zero, List.set_cons_succ]
          refine rskip (i := 9) (d := (some 46)) rfl (by kernel_rfl) (by kernel_rfl) (by kernel_rfl) (by kernel_rfl) (fun _ _ _ h => h) (by kernel_rfl) (by assumption) ?_
          simp only [Act.put, List.setIfInBounds_toArray, List.set_cons_zero, List.set_cons_succ]
          refine rskip (i := 10) (d := (some 47)) rfl (by kernel_rfl) (by kernel_rfl) (by kernel_rfl) (by kernel_rfl) (fun _ _ _ h => h) (by kernel_rfl) (by assumption) ?_
          simp only [Act.put, List.setIfInBounds_toArray, List.set_cons_zero, List.set_cons_succ]
          refine rskip (i := 11) (d := (some 48)) rfl (by kernel_rfl) (by kernel_rfl) (by kernel_rfl) (by kernel_rfl) (fun _ _ _ h => h) (by kernel_rfl) (by assumption) ?_
          simp only [Act.put, List.setIfInBounds_toArray, List.set_cons_zero, List.set_cons_succ]
          refine rskip (i := 12) (d := (some 49)) rfl (by kernel_rfl) (by kernel_rfl) (by kernel_rfl) (by kernel_rfl) (fun _ _ _ h => h) (by kernel_rfl) (by assumption) ?_
          simp only [Act.put, List.setIfInBounds_toArray, List.set_cons_zero, List.set_cons_succ]
          refine rtake (i := 13) (d := (some 50)) (v := ?_) rfl (by kernel_rfl) (by kernel_rfl) (by kernel_rfl) (by kernel_rfl) (fun _ _ _ h => h) (by kernel_rfl) (by assumption) ?_ ?_
          rotate_left 1
          · (intro wI hSI; (try dsimp only at hSI); go_simp; (try with_reducible rfl))
          simp only [Act.put, List.setIfInBounds_toArray, List.set_cons_zero, List.set_cons_succ]
          refine rtake (i := 14) (d := (some 36)) (v := ?_) rfl (by kernel_rfl) (by kernel_rfl) (by kernel_rfl) (by kernel_rfl) (fun _ _ _ h => h) (by kernel_rfl) (by assumption) ?_ ?_
          rotate_left 1
          · (intro wI hSI; (try dsimp only at hSI); go_simp; (try with_reducible rfl))
          simp only [Act.put, List.setIfInBounds_toArray, List.set_cons_zero, List.set_cons_succ]
          refine wpAnyH_done (by kernel_rfl) ?_ _
          go_wp2_with fail
          go_meet
          exact ⟨by rw [Ho.out] <;> rfl, _, rfl, hHeld⟩
        · obtain ⟨p, hp⟩ : ∃ p, k = p + 1 := ⟨k - 1, by omega⟩
          have hpl : p < l.length := by omega
          obtain ⟨b', off', ha', d0, d1, d2⟩ := (hs.below hbW3).mark hpl
          rw [ha] at ha'
          cases ha'
          generalize hy : l[p] = y at *
          obtain ⟨y1, y2, y3⟩ := y
          have Hy := Lib.hid hy
          clear hy
          simp only at d0 d1 d2
          have hwp : IntKind.i64.wrap ((k : Int) - 1) = (p : Int) := by rw [hp, IntWalk.i64_in _ (by omega)]; omega
          have hwq : IntKind.i64.wrap (p : Int) = (p : Int) := IntWalk.i64_in _ (by omega)
          have hk1 : 0 < k := by omega
          have hk2 : (0 : Int) < (k : Int) := by omega
          have hp1 : (0 : Int) ≤ (p : Int) := by omega
          have hp2 : (p : Int) < (l.length : Int) := by omega
          have hp3 : (k : Int) - 1 = (p : Int) := by omega
          have Hp := Lib.hid hp
          clear hp hk0
          have Ho := Lib.hid (badOrd_at (l := l) (k := k) (p := p) (x := (y1, y2, y3)) (y := (x1, x2, x3)) Hp.out (by rw [List.getElem?_eq_getElem hpl, Hy.out]) (by rw [List.getElem?_eq_getElem hlt, Hx.out]))
          have HC := Lib.hid (fun W => pairOrder_any (y1, y2, y3) (x1, x2, x3) W)
          simp only at HC
          generalize cmpP (y1, y2, y3) (x1, x2, x3) = cp at *
          refine wp_region_held_drew (S := (fun wx => wx.cell? ⟨b, off + p * 3, none⟩ = some (.string y1) ∧ wx.cell? ⟨b, off + p * 3 + 1, none⟩ = some (.string y2) ∧ wx.cell? ⟨wr.heap.size, 0, none⟩ = some (.string x1) ∧ wx.cell? ⟨wr.heap.size, 1, none⟩ = some (.string x2) ∧ Below W3.heap.size W3 wx)) (by kernel_rfl) ?hS (fun hHeld => ?_)
          case hS => exact ⟨d0, d1, hT3_0, hT3_1, (Below.refl _ _).drew⟩
          refine rtake (i := 0) (d := (some 37)) (v := ?_) rfl (by kernel_rfl) (by kernel_rfl) (by kernel_rfl) (by kernel_rfl) (fun _ _ _ h => h) (by kernel_rfl) (by assumption) ?_ ?_
          rotate_left 1
          · (intro wI hSI; (try dsimp only at hSI); go_simp; (try with_reducible rfl))
          simp only [Act.put, List.setIfInBounds_toArray, List.set_cons_zero, List.set_cons_succ]
          refine rtake (i := 1) (d := (some 38)) (v := ?_) rfl (by kernel_rfl) (by kernel_rfl) (by kernel_rfl) (by kernel_rfl) (fun _ _ _ h => h) (by kernel_rfl) (by assumption) ?_ ?_
          rotate_left 1
          · (intro wI hSI; (try dsimp only at hSI); go_simp; (try with_reducible rfl))
          simp only [Act.put, List.setIfInBounds_toArray, List.set_cons_zero, List.set_cons_succ]
          refine rtake (i := 2) (d := (some 39)) (v := ?_) rfl (by kernel_rfl) (by kernel_rfl) (by kernel_rfl) (by kernel_rfl) (fun _ _ _ h => h) (by kernel_rfl) (by assumption) ?_ ?_
          rotate_left 1
          · (intro wI hSI; (try dsimp only at hSI); go_simp; (try with_reducible rfl))
          simp only [Act.put, List.setIfInBounds_toArray, List.set_cons_zero, List.set_cons_succ]
          refine rtake (i := 3) (d := (some 40)) (v := ?_) rfl (by kernel_rfl) (by kernel_rfl) (by kernel_rfl) (by kernel_rfl) (fun _ _ _ h => h) (by kernel_rfl) (by assumption) ?_ ?_
          rotate_left 1
          · (intro wI hSI; (try dsimp only at hSI); go_simp; (try with_reducible rfl))
          simp only [Act.put, List.setIfInBounds_toArray, List.set_cons_zero, List.set_cons_succ]
          refine rtake (i := 4) (d := (some 41)) (v := ?_) rfl (by kernel_rfl) (by kernel_rfl) (by kernel_rfl) (by kernel_rfl) (fun _ _ _ h => h) (by kernel_rfl) (by assumption) ?_ ?_
          rotate_left 1
          · (intro wI hSI; (try dsimp only at hSI); go_simp; (try with_reducible rfl))
          simp only [Act.put, List.setIfInBounds_toArray, List.set_cons_zero, List.set_cons_succ]
          refine rtake (i := 5) (d := (some 42)) (v := ?_) rfl (by kernel_rfl) (by kernel_rfl) (by kernel_rfl) (by kernel_rfl) (fun _ _ _ h => h) (by kernel_rfl) (by assumption) ?_ ?_
          rotate_left 1
          · (intro wI hSI; (try dsimp only at hSI); go_simp; (try with_reducible rfl))
          simp only [Act.put, List.setIfInBounds_toArray, List.set_cons_zero, List.set_cons_succ]
          refine rtake (i := 6) (d := (some 43)) (v := ?_) rfl (by kernel_rfl) (by kernel_rfl) (by kernel_rfl) (by kernel_rfl) (fun _ _ _ h => h) (by kernel_rfl) (by assumption) ?_ ?_
          rotate_left 1
          · (intro wI hSI; (try dsimp only at hSI); go_simp; (try with_reducible rfl))
          simp only [Act.put, List.setIfInBounds_toArray, List.set_cons_zero, List.set_cons_succ]
          refine rtake (i := 7) (d := (some 44)) (v := ?_) rfl (by kernel_rfl) (by kernel_rfl) (by kernel_rfl) (by kernel_rfl) (fun _ _ _ h => h) (by kernel_rfl) (by assumption) ?_ ?_
          rotate_left 1
          · (intro wI hSI; (try dsimp only at hSI); go_simp; (try with_reducible rfl))
          simp only [Act.put, List.setIfInBounds_toArray, List.set_cons_zero, List.set_cons_succ]
          refine rtake (i := 8) (d := (some 45)) (v := ?_) rfl (by kernel_rfl) (by kernel_rfl) (by kernel_rfl) (by kernel_rfl) (fun _ _ _ h => h) (by kernel_rfl) (by assumption) ?_ ?_
          rotate_left 1
          · (intro wI hSI; (try dsimp only at hSI); go_simp; (try with_reducible rfl))
          simp only [Act.put, List.setIfInBounds_toArray, List.set_cons_zero, List.set_cons_succ]
          refine rtake (i := 9) (d := (some 46)) (v := ?_) rfl (by kernel_rfl) (by kernel_rfl) (by kernel_rfl) (by kernel_rfl) (fun _ _ _ h => h) (by kernel_rfl) (by assumption) ?_ ?_
          rotate_left 1
          · (intro wI hSI; (try dsimp only at hSI); go_simp; (try with_reducible rfl))
          simp only [Act.put, List.setIfInBounds_toArray, List.set_cons_zero, List.set_cons_succ]
          refine rtake (i := 10) (d := (some 47)) (v := ?_) rfl (by kernel_rfl) (by kernel_rfl) (by kernel_rfl) (by kernel_rfl) (fun _ _ _ h => h) (by kernel_rfl) (by assumption) ?_ ?_
          rotate_left 1
          · (intro wI hSI; (try dsimp only at hSI); go_simp; (try with_reducible rfl))
          simp only [Act.put, List.setIfInBounds_toArray, List.set_cons_zero, List.set_cons_succ]
          refine rcall (i := 11) (d := (some 48)) (by kernel_rfl) rfl (by kernel_rfl) (fun K hK => ?_)
          go_simp
          go_at_call 71; refine (HC.out _).mono ?_; rintro e w' ⟨rfl, hb4⟩
          refine hK.out _ _ ?hS (fun hHeld => ?_)
          case hS => exact ⟨cell_later hb4 hHeld.1, cell_later hb4 hHeld.2.1, cell_later hb4 hHeld.2.2.1, cell_later hb4 hHeld.2.2.2.1, hHeld.2.2.2.2.trans (hb4.mono hHeld.2.2.2.2.size)⟩
          clear hK K
          simp only [Act.put, List.setIfInBounds_toArray, List.set_cons_zero, List.set_cons_succ]
          refine rtake (i := 12) (d := (some 49)) (v := ?_) rfl (by kernel_rfl) (by kernel_rfl) (by kernel_rfl) (by kernel_rfl) (fun _ _ _ h => h) (by kernel_rfl) (by assumption) ?_ ?_
          rotate_left 1
          · (intro wI hSI; (try dsimp only at hSI); go_simp; (try with_reducible rfl))
          simp only [Act.put, List.setIfInBounds_toArray, List.set_cons_zero, List.set_cons_succ]
          refine rtake (i := 13) (d := (some 50)) (v := ?_) rfl (by kernel_rfl) (by kernel_rfl) (by kernel_rfl) (by kernel_rfl) (fun _ _ _ h => h) (by kernel_rfl) (by assumption) ?_ ?_
          rotate_left 1
          · (intro wI hSI; (try dsimp only at hSI); go_simp; (try with_reducible rfl))
          simp only [Act.put, List.setIfInBounds_toArray, List.set_cons_zero, List.set_cons_succ]
          refine rtake (i := 14) (d := (some 36)) (v := ?_) rfl (by kernel_rfl) (by kernel_rfl) (by kernel_rfl) (by kernel_rfl) (fun _ _ _ h => h) (by kernel_rfl) (by assumption) ?_ ?_
          rotate_left 1
          · (intro wI hSI; (try dsimp only at hSI); go_simp; (try with_reducible rfl))
          simp only [Act.put, List.setIfInBounds_toArray, List.set_cons_zero, List.set_cons_succ]
          refine wpAnyH_done (by kernel_rfl) ?_ _
          go_wp2_with fail
          go_meet
          exact ⟨by rw [Ho.out] <;> rfl, _, rfl, hHeld.2.2.2.2⟩
      case rest =>
        obtain ⟨hso, W4, rfl, hb4⟩ := hcut
        rw [hso]
        have hT4 := hT3.below hb4
        have hbW4 : Below w.heap.size w W4 := below_next hbW3 hb4
        have hMc4 := hMc3.below hb4
        clear hT3_l hT3_0 hT3_1 hT3_2
        clear hT3 hb4 hbW3 hMc3
        cases hob : badOrd l k
        · rw [hob] at HE
          have hT4_l := hT4.lt; have hT4_0 := hT4.cell 0; have hT4_1 := hT4.cell 1; have hT4_2 := hT4.cell 2; simp at hT4_0 hT4_1 hT4_2
          have hlk4 := HLk2.out _ hMc4
          cases hr : (decide (x3 < 0) || decide (10 < x3))
          · rw [hr] at HE
            have hr1 : 0 ≤ x3 := by simp at hr; omega
            have hr2 : x3 ≤ 10 := by simp at hr; omega
            clear hr
            by_cases h12 : 12 < c'
            · have He := Lib.hid (Hfe.out 2 (by rw [HE.out]; simp; omega) (by decide))
              have h12' : (12 : Int) < (c' : Int) := by omega
              go_wp2_with fail
              go_ret
              exact ⟨by rw [He.out]; rfl, hbW4⟩
            · have h12' : decide ((12 : Int) < (c' : Int)) = false := decide_eq_false (by omega)
              have HZ := Lib.hid (show markE cntM l k = 0 by rw [HE.out]; simp; omega)
              have h12'' : decide (12 < c') = false := decide_eq_false h12
              go_wp2_with fail
              rw [← ha]
              go_roundg (l.length - (k + 1))
              case measure => have := hgk.out; omega
              case rel => exact ⟨k + 1, by go_num, by omega, rfl, zeros_succ hf.out HZ.out, hMc4, hbW4⟩
          · rw [hr] at HE
            have He := Lib.hid (Hfe.out 1 (by rw [HE.out]; rfl) (by decide))
            rcases (show x3 < 0 ∨ 10 < x3 by simpa using hr) with h9 | h9
            · clear hr
              go_wp2_with fail
              go_ret
              exact ⟨by rw [He.out]; rfl, hbW4⟩
            · clear hr
              have h9' : decide (x3 < 0) = false := decide_eq_false (by omega)
              go_wp2_with fail
              go_ret
              exact ⟨by rw [He.out]; rfl, hbW4⟩
        · rw [hob] at HE
          have He := Lib.hid (Hfe.out 7 (by rw [HE.out]; rfl) (by decide))
          go_wp2_with fail
          go_ret
          exact ⟨by rw [He.out]; rfl, hbW4⟩
    · have hE0 : firstErr (markE cntM l) l.length = 0 := by
        obtain rfl : k = l.length := by omega
        exact firstErr_zero hf.out
      have Hv := Lib.hid (show pf = 0 by rw [HPF.out, hE0])
      clear hE0
      go_wp2_with fail
      go_ret
      exact ⟨by rw [Hv.out]; rfl, hb⟩
end Go.Proofs.YtaoomkkhpianlaaGreatDoor
