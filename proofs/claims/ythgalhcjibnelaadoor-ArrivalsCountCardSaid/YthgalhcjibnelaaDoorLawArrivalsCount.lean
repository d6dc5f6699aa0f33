/- For every list of raw numbers, ArrivalsCount returns true. The walk. -/
import Derived.Test.YthgalhcjibnelaaDoorMakeCall2
import Derived.Test.YthgalhcjibnelaaDoorArrive6
import Derived.Test.YthgalhcjibnelaaDoorSubmits2
import Derived.Test.YthgalhcjibnelaaDoorReg
namespace Go.Proofs.YthgalhcjibnelaaDoor.arrivalsCount
open Go.RowKit
set_option linter.unusedVariables false
set_option linter.unusedSimpArgs false

/-- What the law keeps of its call and its arrival. -/
def Held (n : Nat) (o a f : Int) (a3 : Option Addr) (l3 c3 : Nat) (p : ByteArray) (t k : Int) (r x : ByteArray) (wx : World) : Prop :=
  wx.cell? ⟨n, 0, none⟩ = some (.int .i64 o) ∧ wx.cell? ⟨n, 1, none⟩ = some (.int .i64 a) ∧ wx.cell? ⟨n, 2, none⟩ = some (.int .i64 f) ∧ wx.cell? ⟨n, 3, none⟩ = some (.slice a3 l3 c3) ∧
  wx.cell? ⟨n + 1, 0, none⟩ = some (.string p) ∧ wx.cell? ⟨n + 1, 1, none⟩ = some (.int .i64 t) ∧ wx.cell? ⟨n + 1, 2, none⟩ = some (.int .i64 k) ∧ wx.cell? ⟨n + 1, 3, none⟩ = some (.string r) ∧ wx.cell? ⟨n + 1, 4, none⟩ = some (.string x)
theorem Held.later {n : Nat} {o a f : Int} {a3 : Option Addr} {l3 c3 : Nat} {p : ByteArray} {t k : Int} {r x : ByteArray} {w w' : World} (h : Held n o a f a3 l3 c3 p t k r x w) (hb : Below w.heap.size w w') : Held n o a f a3 l3 c3 p t k r x w' := by
  obtain ⟨h0, h1, h2, h3, h4, h5, h6, h7, h8⟩ := h
  exact ⟨cell_later hb h0, cell_later hb h1, cell_later hb h2, cell_later hb h3, cell_later hb h4, cell_later hb h5, cell_later hb h6, cell_later hb h7, cell_later hb h8⟩
/-- The law's two boxes are laid. -/
theorem laid (w : World) (TC TA : TypeId) (o a f : Int) (a3 : Option Addr) (l3 c3 : Nat) (p : ByteArray) (t k : Int) (r x : ByteArray) :
    Held w.heap.size o a f a3 l3 c3 p t k r x ((w.alloc (.cells #[.int .i64 o, .int .i64 a, .int .i64 f, .slice a3 l3 c3] TC)).alloc (.cells #[.string p, .int .i64 t, .int .i64 k, .string r, .string x] TA)) := by
  have hc := (Box.new w TC #[.int .i64 o, .int .i64 a, .int .i64 f, .slice a3 l3 c3]).alloc (.cells #[.string p, .int .i64 t, .int .i64 k, .string r, .string x] TA)
  have ha := Box.newAt (w.alloc (.cells #[.int .i64 o, .int .i64 a, .int .i64 f, .slice a3 l3 c3] TC)) (w.heap.size + 1) TA #[.string p, .int .i64 t, .int .i64 k, .string r, .string x] (by simp)
  exact ⟨hc.cell 0, hc.cell 1, hc.cell 2, hc.cell 3, ha.cell 0, ha.cell 1, ha.cell 2, ha.cell 3, ha.cell 4⟩

set_option maxRecDepth 100000 in
set_option maxHeartbeats 8000000 in
theorem walk (a0 : Option Addr) (len0 cap0 : Nat) (z0 : List Int) (w : World) (w0 : IsRow .i64 w a0 len0 cap0 z0) (hE : Env w) :
    Calls Tryd.prog 3 #[.slice a0 len0 cap0] w fun e w' => e = .returned (.bool true) ∧ Below w.heap.size w w' := by
  have hs := strm_new w0
  have hES := hE.envS
  go_enter Tryd.func3, Tryd.ntmps3
  go_wp2_with fail
  refine (call_any w.heap.size 0 _ hs (by omega)).mono ?_
  rintro e w1 ⟨o, a, f, s, a3, c3, rfl, ⟨ho1, ho2, ha1, ha2, hf1, hf2⟩, hsl, hok, hown, h1, s1⟩
  have hz1 := h1.size
  simp at hz1
  obtain ⟨a3', cap', heq, hsa, hbl, hcap⟩ := hown.sa
  obtain ⟨rfl, rfl⟩ : a3 = a3' ∧ c3 = cap' := by simpa using heq
  have hst1 : Stp w.heap.size w w1 := ((Stp.refl _ w).alloc _).trans h1
  have hE1 : Env w1 := hE.stp hst1 hES
  have hnS : ∀ x : Addr, a3 = some x → x.block ≠ w.heap.size := fun x hx => by have := hbl x hx; simp at this; omega
  have HnS := Lib.hid hnS
  have hsm : ∀ x ∈ s, x.1.size ≤ 1000 := fun x hx => (hok x hx).1
  have hbd : ∀ x ∈ s, 0 ≤ x.2 ∧ x.2 ≤ 10000000 := fun x hx => (hok x hx).2
  have Hsm := Lib.hid hsm
  have Hbd := Lib.hid hbd
  clear w0 hs hown hnS hbl h1 heq hok hsm hbd hE
  unfold callAgg
  go_wp2_with fail
  refine (arrival_any w.heap.size (0 + 20) _ s1 (by omega)).mono ?_
  rintro e w2 ⟨p, t, k, r, x, rfl, ⟨hp, hr, hx, ht1, ht2, hk1, hk2⟩, h2, s2⟩
  have hz2 := h2.size
  have hst2 := hst1.trans h2
  have hsa2 := hsa.stp h2 HnS.out
  have hE2 := hE1.stp h2 hES
  clear h2 s1 hst1 hsa hE1
  unfold arrAgg
  go_wp2_with fail
  refine (range_any w.heap.size (0 + 20 + 8) 0 4 _ s2 (by omega) (by omega) (by omega) (by omega)).mono ?_
  rintro e w3 ⟨kd, ⟨hkd1, hkd2⟩, rfl, h3, s3⟩
  have hz3 := h3.size
  have hst3 := hst2.trans h3
  have hsa3 := hsa2.stp h3 HnS.out
  have hE3 := hE2.stp h3 hES
  clear h3 s2 hst2 hsa2 hE2
  go_wp2_with fail
  refine (oneP_any w.heap.size (0 + 20 + 8 + 1) _ 5 5 9 _ _ (s3.alloc _) (by omega) (Box.new _ _ _) (by omega) rfl (by omega) (by omega) (by simp; decide)).mono ?_
  rintro e w4 ⟨rs, hrs, rfl, h4, s4⟩
  have hz4 := h4.size
  simp at hz4
  have hst4 := (hst3.alloc _).trans h4
  have hsa4 := (hsa3.alloc _).stp h4 HnS.out
  have hE4 := (hE3.alloc _).stp h4 hES
  clear h4 s3 hst3 hsa3 hE3 s4
  have hH0 := laid w4 28 31 o a f a3 s.length c3 p t k r x
  have hB0 : Below w4.heap.size w4 ((w4.alloc (.cells #[.int .i64 o, .int .i64 a, .int .i64 f, .slice a3 s.length c3] 28)).alloc (.cells #[.string p, .int .i64 t, .int .i64 k, .string r, .string x] 31)) := by (repeat' (first | exact Below.refl _ _ | assumption | refine Below.setCell ?_ ?_ _ | refine below_drewN ?_ _ | refine Below.drew ?_ | refine Below.alloc ?_ ?_ _ | (with_reducible refine Below.trans ?_ (Below.mono hb ?_)) | (with_reducible refine Below.trans ?_ (Below.mono hb0 ?_)) | (with_reducible refine Below.trans ?_ (Below.mono hb1 ?_)) | (with_reducible refine Below.trans ?_ (Below.mono hb2 ?_)) | (with_reducible refine Below.trans ?_ (Below.mono hb3 ?_)) | (with_reducible refine Below.trans ?_ (Below.mono hb4 ?_)) | (with_reducible refine Below.trans ?_ (Below.mono hb5 ?_)) | (with_reducible refine Below.trans ?_ (Below.mono hb6 ?_)) | (with_reducible refine Below.trans ?_ (Below.mono hb7 ?_)) | (with_reducible refine Below.trans ?_ (Below.mono hb8 ?_)) | (with_reducible refine Below.trans ?_ (Below.mono hb9 ?_)) | (with_reducible refine Below.trans ?_ (Below.mono hb10 ?_)) | (with_reducible refine Below.trans ?_ (Below.mono hb11 ?_)) | (with_reducible refine Below.trans ?_ (Below.mono hb12 ?_)) | (with_reducible refine Below.trans ?_ (Below.mono hb13 ?_)) | (with_reducible refine Below.trans ?_ (Below.mono hb14 ?_)) | (with_reducible refine Below.trans ?_ (Below.mono hb15 ?_)) | omega | (simp; done) | (simp; omega)))
  have hsaW := hsa4.below hB0
  have hEW := hE4.below hB0
  have hbW : Below w.heap.size w ((w4.alloc (.cells #[.int .i64 o, .int .i64 a, .int .i64 f, .slice a3 s.length c3] 28)).alloc (.cells #[.string p, .int .i64 t, .int .i64 k, .string r, .string x] 31)) := by
    have := hst4.below
    rw [Nat.min_self] at this
    exact this.trans (hB0.mono (by omega))
  have H1 := Lib.hid (fun w (h : SA w a3 s) => callFault_any o a f s a3 c3 w h (by omega) Hsm.out)
  have H2 := Lib.hid (fun w (h : SA w a3 s) => checkCall_any o a f s a3 c3 w h (by omega) Hsm.out)
  have H3 := Lib.hid (fun w (h : Env w) => checkArrival_any p t k r x w h (by omega) (by omega) (by omega))
  have H4 := Lib.hid (fun w (h : Env w) => arrivalFault_any p t k r x w h (by omega) (by omega) (by omega))
  have H5 := Lib.hid (fun w (h : SA w a3 s) => deadline_any o a f s a3 c3 kd rs w h (by omega) Hsm.out Hbd.out (by omega) (by omega) (by omega) (by omega))
  have H6 := Lib.hid (fun w (hE : Env w) (h : SA w a3 s) => countsP_any o a f s a3 c3 p t k r x w hE h (by omega) Hsm.out Hbd.out (by omega) (by omega) (by omega) (by omega) (by omega) (by omega) (by omega))
  have H7 := Lib.hid (fun w (h : SA w a3 s) => deadlineOf_any o a f s a3 c3 kd rs w h (by omega) Hbd.out (by omega) (by omega) (by omega) (by omega))
  have H8 := Lib.hid (fun w (h : SA w a3 s) (h0 : arrivalFault p t k r x = 0) => countsOf_any o a f s a3 c3 p t k r x w h (by omega) Hbd.out (by omega) (by omega) (by omega) (by omega) (arrival_kind h0))
  clear hsa4 hE4 hB0 hst4 Hsm Hbd HnS
  unfold callAgg at *
  unfold arrAgg at *
  generalize callFault o a f s = cf at *
  generalize arrivalFault p t k r x = af at *
  generalize cntN o a f s t k r = cn at *
  generalize dlN a f s kd rs = dn at *
  generalize dlE s kd rs = de at *
  go_upto_region 3 with (fail)
  generalize (w4.alloc (.cells #[.int .i64 o, .int .i64 a, .int .i64 f, .slice a3 s.length c3] 28)).alloc (.cells #[.string p, .int .i64 t, .int .i64 k, .string r, .string x] 31) = W0 at *
  generalize w4.heap.size = n at *
  have ⟨z0, z1, z2, z3, y0, y1, y2, y3, y4⟩ := hH0
  go_wp2_with fail
  refine (H1.out _ hsaW).mono ?_
  rintro e W1 ⟨rfl, hb1⟩
  have hH1 := hH0.later hb1
  have hsa1 := hsaW.below hb1
  have hE1 := hEW.below hb1
  have hbw1 := below_next hbW hb1
  clear z0 z1 z2 z3 y0 y1 y2 y3 y4
  clear hb1 hbW hsaW hEW hH0
  have ⟨z0, z1, z2, z3, y0, y1, y2, y3, y4⟩ := hH1
  have hnn1 : (cf != cf) = false := by simp
  have hnn2 : (af != af) = false := by simp
  go_upto_region 4 with (fail)
  refine wp_region_held_drew (S := (fun wx => (wx.cell? ⟨n, 0, none⟩ = some (.int .i64 o) ∧ wx.cell? ⟨n, 1, none⟩ = some (.int .i64 a) ∧ wx.cell? ⟨n, 2, none⟩ = some (.int .i64 f) ∧ wx.cell? ⟨n, 3, none⟩ = some (.slice a3 s.length c3) ∧ wx.cell? ⟨n + 1, 0, none⟩ = some (.string p) ∧ wx.cell? ⟨n + 1, 1, none⟩ = some (.int .i64 t) ∧ wx.cell? ⟨n + 1, 2, none⟩ = some (.int .i64 k) ∧ wx.cell? ⟨n + 1, 3, none⟩ = some (.string r) ∧ wx.cell? ⟨n + 1, 4, none⟩ = some (.string x)) ∧ Below W1.heap.size W1 wx)) (by kernel_rfl) ?hS (fun hHeld => ?_)
  case hS => exact ⟨hH1, (Below.refl _ _).drew⟩
  refine rtake (i := 0) (d := (some 30)) (v := ?_) rfl (by kernel_rfl) (by kernel_rfl) (by kernel_rfl) (by kernel_rfl) (fun _ _ _ h => h) (by kernel_rfl) (by assumption) ?_ ?_
  rotate_left 1
  · (intro wI hSI; (try dsimp only at hSI); go_simp; (try with_reducible rfl))
  simp only [Act.put, List.setIfInBounds_toArray, List.set_cons_zero, List.set_cons_succ]
  refine rtake (i := 2) (d := (some 32)) (v := ?_) rfl (by kernel_rfl) (by kernel_rfl) (by kernel_rfl) (by kernel_rfl) (fun _ _ _ h => h) (by kernel_rfl) (by assumption) ?_ ?_
  rotate_left 1
  · (intro wI hSI; (try dsimp only at hSI); go_simp; (try with_reducible rfl))
  simp only [Act.put, List.setIfInBounds_toArray, List.set_cons_zero, List.set_cons_succ]
  refine rcall (i := 1) (d := (some 31)) (by kernel_rfl) rfl (by kernel_rfl) (fun K hK => ?_)
  go_simp
  go_at_call 10; refine (H2.out _ (hsa1.below hHeld.2)).mono ?_; rintro e w' ⟨rfl, hb3⟩
  refine hK.out _ _ ?hS (fun hHeld => ?_)
  case hS => exact ⟨Held.later hHeld.1 hb3, hHeld.2.trans (hb3.mono hHeld.2.size)⟩
  clear hK K
  simp only [Act.put, List.setIfInBounds_toArray, List.set_cons_zero, List.set_cons_succ]
  refine rtake (i := 3) (d := (some 33)) (v := ?_) rfl (by kernel_rfl) (by kernel_rfl) (by kernel_rfl) (by kernel_rfl) (fun _ _ _ h => h) (by kernel_rfl) (by assumption) ?_ ?_
  rotate_left 1
  · (intro wI hSI; (try dsimp only at hSI); go_simp; (try with_reducible rfl))
  simp only [Act.put, List.setIfInBounds_toArray, List.set_cons_zero, List.set_cons_succ]
  refine rtake (i := 4) (d := (some 34)) (v := ?_) rfl (by kernel_rfl) (by kernel_rfl) (by kernel_rfl) (by kernel_rfl) (fun _ _ _ h => h) (by kernel_rfl) (by assumption) ?_ ?_
  rotate_left 1
  · (intro wI hSI; (try dsimp only at hSI); go_simp; (try with_reducible rfl))
  simp only [Act.put, List.setIfInBounds_toArray, List.set_cons_zero, List.set_cons_succ]
  refine rtake (i := 5) (d := (some 35)) (v := ?_) rfl (by kernel_rfl) (by kernel_rfl) (by kernel_rfl) (by kernel_rfl) (fun _ _ _ h => h) (by kernel_rfl) (by assumption) ?_ ?_
  rotate_left 1
  · (intro wI hSI; (try dsimp only at hSI); go_simp; (try with_reducible rfl))
  simp only [Act.put, List.setIfInBounds_toArray, List.set_cons_zero, List.set_cons_succ]
  refine rtake (i := 7) (d := (some 37)) (v := ?_) rfl (by kernel_rfl) (by kernel_rfl) (by kernel_rfl) (by kernel_rfl) (fun _ _ _ h => h) (by kernel_rfl) (by assumption) ?_ ?_
  rotate_left 1
  · (intro wI hSI; (try dsimp only at hSI); go_simp; (try with_reducible rfl))
  simp only [Act.put, List.setIfInBounds_toArray, List.set_cons_zero, List.set_cons_succ]
  refine rcall (i := 6) (d := (some 36)) (by kernel_rfl) rfl (by kernel_rfl) (fun K hK => ?_)
  go_simp
  go_at_call 11; refine (H3.out _ (hE1.below hHeld.2)).mono ?_; rintro e w' ⟨rfl, hb3⟩
  refine hK.out _ _ ?hS (fun hHeld => ?_)
  case hS => exact ⟨Held.later hHeld.1 hb3, hHeld.2.trans (hb3.mono hHeld.2.size)⟩
  clear hK K
  simp only [Act.put, List.setIfInBounds_toArray, List.set_cons_zero, List.set_cons_succ]
  refine rcall (i := 8) (d := (some 38)) (by kernel_rfl) rfl (by kernel_rfl) (fun K hK => ?_)
  go_simp
  go_at_call 12; refine (H4.out _ (hE1.below hHeld.2)).mono ?_; rintro e w' ⟨rfl, hb3⟩
  refine hK.out _ _ ?hS (fun hHeld => ?_)
  case hS => exact ⟨Held.later hHeld.1 hb3, hHeld.2.trans (hb3.mono hHeld.2.size)⟩
  clear hK K
  simp only [Act.put, List.setIfInBounds_toArray, List.set_cons_zero, List.set_cons_succ]
  refine rtake (i := 9) (d := (some 39)) (v := ?_) rfl (by kernel_rfl) (by kernel_rfl) (by kernel_rfl) (by kernel_rfl) (fun _ _ _ h => h) (by kernel_rfl) (by assumption) ?_ ?_
  rotate_left 1
  · (intro wI hSI; (try dsimp only at hSI); go_simp; (try with_reducible rfl))
  simp only [Act.put, List.setIfInBounds_toArray, List.set_cons_zero, List.set_cons_succ]
  refine rtake (i := 10) (d := (some 40)) (v := ?_) rfl (by kernel_rfl) (by kernel_rfl) (by kernel_rfl) (by kernel_rfl) (fun _ _ _ h => h) (by kernel_rfl) (by assumption) ?_ ?_
  rotate_left 1
  · (intro wI hSI; (try dsimp only at hSI); go_simp; (try with_reducible rfl))
  simp only [Act.put, List.setIfInBounds_toArray, List.set_cons_zero, List.set_cons_succ]
  refine wpAnyH_done (by kernel_rfl) ?_ _
  have hH2 : Held n o a f a3 s.length c3 p t k r x w' := hHeld.1
  have hsa2 := hsa1.below hHeld.2
  have hE2 := hE1.below hHeld.2
  have hbw2 := below_next hbw1 hHeld.2
  clear z0 z1 z2 z3 y0 y1 y2 y3 y4
  clear hHeld hb3 hbw1 hE1 hsa1 hH1
  generalize hrn : (if cf = 0 then dn else 0) = rn at *
  generalize hre : (if cf = 0 then de else cf) = re at *
  generalize hcv : cntV cf af cn = cv at *
  generalize hce : cntE cf af = ce at *
  have Hrn := Lib.hid hrn
  have Hre := Lib.hid hre
  have Hcv := Lib.hid hcv
  have Hce := Lib.hid hce
  clear hrn hre hcv hce
  have ⟨z0, z1, z2, z3, y0, y1, y2, y3, y4⟩ := hH2
  go_wp2_with fail
  refine (H5.out _ hsa2).mono ?_
  rintro e W3 ⟨rfl, hb3⟩
  have hH3 := hH2.later hb3
  have hsa3 := hsa2.below hb3
  have hE3 := hE2.below hb3
  have hbw3 := below_next hbw2 hb3
  clear z0 z1 z2 z3 y0 y1 y2 y3 y4
  clear hb3 hbw2 hE2 hsa2 hH2
  have ⟨z0, z1, z2, z3, y0, y1, y2, y3, y4⟩ := hH3
  go_wp2_with fail
  refine (H6.out _ hE3 hsa3).mono ?_
  rintro e W4 ⟨rfl, hb4⟩
  have hH4 := hH3.later hb4
  have hsa4 := hsa3.below hb4
  have hE4 := hE3.below hb4
  have hbw4 := below_next hbw3 hb4
  clear z0 z1 z2 z3 y0 y1 y2 y3 y4
  clear hb4 hbw3 hE3 hsa3 hH3
  by_cases hcf : cf = 0
  · subst hcf
    have Ere : re = de := by rw [← Hre.out]; rfl
    have Ern : rn = dn := by rw [← Hrn.out]; rfl
    have Ece : ce = af := by rw [← Hce.out]; rfl
    have Hcv' := Lib.hid (show cv = if af = 0 then cn else 0 by rw [← Hcv.out]; rfl)
    subst Ere Ern Ece
    clear Hre Hrn Hce Hcv
    have hq1 : (re != re) = false := by simp
    have hq2 : (rn != rn) = false := by simp
    have ⟨z0, z1, z2, z3, y0, y1, y2, y3, y4⟩ := hH4
    go_wp2_with fail
    refine (H7.out _ hsa4).mono ?_
    rintro e W5 ⟨rfl, hb5⟩
    have hH5 := hH4.later hb5
    have hsa5 := hsa4.below hb5
    have hE5 := hE4.below hb5
    have hbw5 := below_next hbw4 hb5
    clear z0 z1 z2 z3 y0 y1 y2 y3 y4
    clear hb5 hbw4 hE4 hsa4 hH4
    have ⟨z0, z1, z2, z3, y0, y1, y2, y3, y4⟩ := hH5
    go_wp2_with fail
    refine (H4.out _ hE5).mono ?_
    rintro e W6 ⟨rfl, hb6⟩
    have hH6 := hH5.later hb6
    have hsa6 := hsa5.below hb6
    have hE6 := hE5.below hb6
    have hbw6 := below_next hbw5 hb6
    clear z0 z1 z2 z3 y0 y1 y2 y3 y4
    clear hb6 hbw5 hE5 hsa5 hH5
    by_cases haf : ce = 0
    · subst haf
      have hcv : cv = cn := Hcv'.out
      subst hcv
      clear Hcv'
      have ⟨z0, z1, z2, z3, y0, y1, y2, y3, y4⟩ := hH6
      have hq3 : (cv == cv) = true := by simp
      go_wp2_with fail
      refine (submits_any _ hE6).mono ?_
      rintro e W7 ⟨rfl, hb7⟩
      have hH7 := hH6.later hb7
      have hsa7 := hsa6.below hb7
      have hbw7 := below_next hbw6 hb7
      clear z0 z1 z2 z3 y0 y1 y2 y3 y4
      clear hb7 hbw6 hE6 hsa6 hH6
      have ⟨z0, z1, z2, z3, y0, y1, y2, y3, y4⟩ := hH7
      go_wp2_with fail
      refine (H8.out _ hsa7 (by first | rfl | trivial)).mono ?_
      rintro e W8 ⟨rfl, hb8⟩
      go_wp2_with fail
      go_ret
      exact ⟨rfl, below_next hbw7 hb8⟩
    · have haf1 : (ce != 0) = true := by simpa using haf
      have haf2 : (ce == 0) = false := by simpa using haf
      have hq3 : (ce == ce) = true := by simp
      clear haf
      go_wp2_with fail
      refine (submits_any _ hE6).mono ?_
      rintro e W7 ⟨rfl, hb7⟩
      go_wp2_with fail
      go_ret
      exact ⟨rfl, below_next hbw6 hb7⟩
  · have Ere : re = cf := by rw [← Hre.out, if_neg hcf]
    have Ece : ce = cf := by rw [← Hce.out]; unfold cntE; rw [if_neg hcf]
    subst Ere Ece
    have hcf1 : (ce != 0) = true := by simpa using hcf
    have hcf2 : (ce == 0) = false := by simpa using hcf
    have hq3 : (ce == ce) = true := by simp
    clear hcf Hre Hrn Hce Hcv
    go_wp2_with fail
    refine (submits_any _ hE4).mono ?_
    rintro e W7 ⟨rfl, hb7⟩
    go_wp2_with fail
    go_ret
    exact ⟨rfl, below_next hbw4 hb7⟩
end Go.Proofs.YthgalhcjibnelaaDoor.arrivalsCount
