/- Whether an arrival counts: counts, Counts and CountsOf. -/
import Derived.Test.YtifflpilnpcmoaaGreatDoorArrive4
import Derived.Test.YtifflpilnpcmoaaGreatDoorReg
namespace Go.Proofs.YtifflpilnpcmoaaGreatDoor
open Go.RowKit
set_option linter.unusedVariables false
set_option linter.unusedSimpArgs false

theorem kindB_of {k : Int} (h : kindB k = true) : 1 ≤ k ∧ k ≤ 3 := kindB_yes h
theorem arrival_kind {p : ByteArray} {t k : Int} {r x : ByteArray} (h : arrivalFault p t k r x = 0) : kindB k = true := by
  unfold arrivalFault at h
  cases hk : kindB k
  · rw [hk] at h
    cases hp : keyB p <;> cases ht : momB t <;> simp [hp, ht] at h
  · rfl

set_option maxRecDepth 100000 in
set_option maxHeartbeats 4000000 in
theorem counts_any (o a f : Int) (s : List Skill) (a3 : Option Addr) (c3 : Nat) (p : ByteArray) (t k : Int) (r x : ByteArray) (w : World) (hs : SA w a3 s) (hsl : s.length ≤ 1000000) (hbd : ∀ x ∈ s, 0 ≤ x.2 ∧ x.2 ≤ 10000000) (ha : 0 ≤ a) (ha2 : a ≤ 10000000) (hf : 0 ≤ f) (hf2 : f ≤ 10000000) :
    Calls Tryz.prog 66 #[callAgg o a f s a3 c3, arrAgg p t k r x] w (Gives (.int .i64 (cntN o a f s t k r)) w) := by
  have HM := Lib.hid (fun w (h : SA w a3 s) => more_any o a f s a3 c3 r w h hsl)
  have HBf := Lib.hid (before_any o a f s a3 c3 k)
  obtain ⟨m0, m1⟩ := moreN_bd (r := r) hbd
  obtain ⟨b0, b1⟩ := befN_bd (k := k) ha ha2 hf hf2
  have HC := Lib.hid (show cntN o a f s t k r = if moreB s r = false then 4 else if t < o then 2 else if min (befN a f k + moreN s r) 5761440 ≤ t then 3 else 1 from rfl)
  generalize cntN o a f s t k r = cn at *
  generalize moreN s r = mn at *
  generalize moreB s r = mb at *
  generalize befN a f k = bf at *
  unfold callAgg at *
  unfold arrAgg
  have hbx := (Box.new w 28 #[.int .i64 o, .int .i64 a, .int .i64 f, .slice a3 s.length c3]).alloc (.cells #[.string p, .int .i64 t, .int .i64 k, .string r, .string x] 63)
  have hby := Box.newAt (w.alloc (.cells #[.int .i64 o, .int .i64 a, .int .i64 f, .slice a3 s.length c3] 28)) (w.heap.size + 1) 63 #[.string p, .int .i64 t, .int .i64 k, .string r, .string x] (by simp)
  go_enter Tryz.func66, Tryz.ntmps66
  go_wp2_with fail
  refine (HM.out _ ((hs.alloc _).alloc _)).mono ?_
  rintro e w1 ⟨rfl, hb1⟩
  have hz1 := hb1.size
  simp at hz1
  have hbx1 := hbx.below hb1
  have hby1 := hby.below hb1
  have hb1' : Below w.heap.size w w1 := by (repeat' (first | exact Below.refl _ _ | assumption | refine Below.setCell ?_ ?_ _ | refine below_drewN ?_ _ | refine Below.drew ?_ | refine Below.alloc ?_ ?_ _ | (with_reducible refine Below.trans ?_ (Below.mono hb ?_)) | (with_reducible refine Below.trans ?_ (Below.mono hb0 ?_)) | (with_reducible refine Below.trans ?_ (Below.mono hb1 ?_)) | (with_reducible refine Below.trans ?_ (Below.mono hb2 ?_)) | (with_reducible refine Below.trans ?_ (Below.mono hb3 ?_)) | (with_reducible refine Below.trans ?_ (Below.mono hb4 ?_)) | (with_reducible refine Below.trans ?_ (Below.mono hb5 ?_)) | (with_reducible refine Below.trans ?_ (Below.mono hb6 ?_)) | (with_reducible refine Below.trans ?_ (Below.mono hb7 ?_)) | (with_reducible refine Below.trans ?_ (Below.mono hb8 ?_)) | (with_reducible refine Below.trans ?_ (Below.mono hb9 ?_)) | (with_reducible refine Below.trans ?_ (Below.mono hb10 ?_)) | (with_reducible refine Below.trans ?_ (Below.mono hb11 ?_)) | (with_reducible refine Below.trans ?_ (Below.mono hb12 ?_)) | (with_reducible refine Below.trans ?_ (Below.mono hb13 ?_)) | (with_reducible refine Below.trans ?_ (Below.mono hb14 ?_)) | (with_reducible refine Below.trans ?_ (Below.mono hb15 ?_)) | omega | (simp; done) | (simp; omega)))
  clear hbx hby hb1
  cases mb
  · have H1 := Lib.hid (show cn = 4 by rw [HC.out]; rfl)
    go_wp2_with fail
    go_ret
    exact ⟨by rw [H1.out]; rfl, hb1'⟩
  rw [if_neg (by decide)] at HC
  have hbx1_l := hbx1.lt; have hbx1_0 := hbx1.cell 0; have hbx1_1 := hbx1.cell 1; have hbx1_2 := hbx1.cell 2; have hbx1_3 := hbx1.cell 3; simp at hbx1_0 hbx1_1 hbx1_2 hbx1_3
  have hby1_l := hby1.lt; have hby1_0 := hby1.cell 0; have hby1_1 := hby1.cell 1; have hby1_2 := hby1.cell 2; have hby1_3 := hby1.cell 3; have hby1_4 := hby1.cell 4; simp at hby1_0 hby1_1 hby1_2 hby1_3 hby1_4
  by_cases hto : t < o
  · have H1 := Lib.hid (show cn = 2 by rw [HC.out, if_pos hto])
    go_wp2_with fail
    go_ret
    exact ⟨by rw [H1.out]; rfl, hb1'⟩
  rw [if_neg hto] at HC
  have hto' : decide (t < o) = false := decide_eq_false hto
  clear hto
  have hw1 : IntKind.i64.wrap (bf + mn) = bf + mn := IntWalk.i64_in _ (by omega)
  go_wp2_with fail
  refine wp_region_held_drew (S := (fun wx => wx.cell? ⟨w.heap.size, 0, none⟩ = some (.int .i64 o) ∧ wx.cell? ⟨w.heap.size, 1, none⟩ = some (.int .i64 a) ∧ wx.cell? ⟨w.heap.size, 2, none⟩ = some (.int .i64 f) ∧ wx.cell? ⟨w.heap.size, 3, none⟩ = some (.slice a3 s.length c3) ∧ wx.cell? ⟨w.heap.size + 1, 1, none⟩ = some (.int .i64 t) ∧ wx.cell? ⟨w.heap.size + 1, 2, none⟩ = some (.int .i64 k) ∧ Below w1.heap.size w1 wx)) (by kernel_rfl) ?hS (fun hHeld => ?_)
  case hS => exact ⟨hbx1_0, hbx1_1, hbx1_2, hbx1_3, hby1_1, hby1_2, (Below.refl _ _).drew⟩
  refine rtake (i := 0) (d := (some 24)) (v := ?_) rfl (by kernel_rfl) (by kernel_rfl) (by kernel_rfl) (by kernel_rfl) (fun _ _ _ h => h) (by kernel_rfl) (by assumption) ?_ ?_
  rotate_left 1
  · (intro wI hSI; (try dsimp only at hSI); go_simp; (try with_reducible rfl))
  simp only [Act.put, List.setIfInBounds_toArray, List.set_cons_zero, List.set_cons_succ]
  refine rtake (i := 1) (d := (some 25)) (v := ?_) rfl (by kernel_rfl) (by kernel_rfl) (by kernel_rfl) (by kernel_rfl) (fun _ _ _ h => h) (by kernel_rfl) (by assumption) ?_ ?_
  rotate_left 1
  · (intro wI hSI; (try dsimp only at hSI); go_simp; (try with_reducible rfl))
  simp only [Act.put, List.setIfInBounds_toArray, List.set_cons_zero, List.set_cons_succ]
  refine rtake (i := 2) (d := (some 26)) (v := ?_) rfl (by kernel_rfl) (by kernel_rfl) (by kernel_rfl) (by kernel_rfl) (fun _ _ _ h => h) (by kernel_rfl) (by assumption) ?_ ?_
  rotate_left 1
  · (intro wI hSI; (try dsimp only at hSI); go_simp; (try with_reducible rfl))
  simp only [Act.put, List.setIfInBounds_toArray, List.set_cons_zero, List.set_cons_succ]
  refine rtake (i := 3) (d := (some 27)) (v := ?_) rfl (by kernel_rfl) (by kernel_rfl) (by kernel_rfl) (by kernel_rfl) (fun _ _ _ h => h) (by kernel_rfl) (by assumption) ?_ ?_
  rotate_left 1
  · (intro wI hSI; (try dsimp only at hSI); go_simp; (try with_reducible rfl))
  simp only [Act.put, List.setIfInBounds_toArray, List.set_cons_zero, List.set_cons_succ]
  refine rtake (i := 4) (d := (some 28)) (v := ?_) rfl (by kernel_rfl) (by kernel_rfl) (by kernel_rfl) (by kernel_rfl) (fun _ _ _ h => h) (by kernel_rfl) (by assumption) ?_ ?_
  rotate_left 1
  · (intro wI hSI; (try dsimp only at hSI); go_simp; (try with_reducible rfl))
  simp only [Act.put, List.setIfInBounds_toArray, List.set_cons_zero, List.set_cons_succ]
  refine rtake (i := 6) (d := (some 30)) (v := ?_) rfl (by kernel_rfl) (by kernel_rfl) (by kernel_rfl) (by kernel_rfl) (fun _ _ _ h => h) (by kernel_rfl) (by assumption) ?_ ?_
  rotate_left 1
  · (intro wI hSI; (try dsimp only at hSI); go_simp; (try with_reducible rfl))
  simp only [Act.put, List.setIfInBounds_toArray, List.set_cons_zero, List.set_cons_succ]
  refine rcall (i := 5) (d := (some 29)) (by kernel_rfl) rfl (by kernel_rfl) (fun K hK => ?_)
  go_simp
  go_at_call 97; refine (HBf.out _).mono ?_; rintro e w' ⟨rfl, hb3⟩
  refine hK.out _ _ ?hS (fun hHeld => ?_)
  case hS => exact ⟨cell_later hb3 hHeld.1, cell_later hb3 hHeld.2.1, cell_later hb3 hHeld.2.2.1, cell_later hb3 hHeld.2.2.2.1, cell_later hb3 hHeld.2.2.2.2.1, cell_later hb3 hHeld.2.2.2.2.2.1, hHeld.2.2.2.2.2.2.trans (hb3.mono hHeld.2.2.2.2.2.2.size)⟩
  clear hK K
  simp only [Act.put, List.setIfInBounds_toArray, List.set_cons_zero, List.set_cons_succ]
  refine rtake (i := 7) (d := (some 31)) (v := ?_) rfl (by kernel_rfl) (by kernel_rfl) (by kernel_rfl) (by kernel_rfl) (fun _ _ _ h => h) (by kernel_rfl) (by assumption) ?_ ?_
  rotate_left 1
  · (intro wI hSI; (try dsimp only at hSI); go_simp; (try with_reducible rfl))
  simp only [Act.put, List.setIfInBounds_toArray, List.set_cons_zero, List.set_cons_succ]
  refine rtake (i := 8) (d := (some 32)) (v := ?_) rfl (by kernel_rfl) (by kernel_rfl) (by kernel_rfl) (by kernel_rfl) (fun _ _ _ h => h) (by kernel_rfl) (by assumption) ?_ ?_
  rotate_left 1
  · (intro wI hSI; (try dsimp only at hSI); go_simp; (try with_reducible rfl))
  simp only [Act.put, List.setIfInBounds_toArray, List.set_cons_zero, List.set_cons_succ]
  refine rtake (i := 9) (d := (some 33)) (v := ?_) rfl (by kernel_rfl) (by kernel_rfl) (by kernel_rfl) (by kernel_rfl) (fun _ _ _ h => h) (by kernel_rfl) (by assumption) ?_ ?_
  rotate_left 1
  · (intro wI hSI; (try dsimp only at hSI); go_simp; (try with_reducible rfl))
  simp only [Act.put, List.setIfInBounds_toArray, List.set_cons_zero, List.set_cons_succ]
  refine rtake (i := 10) (d := (some 23)) (v := ?_) rfl (by kernel_rfl) (by kernel_rfl) (by kernel_rfl) (by kernel_rfl) (fun _ _ _ h => h) (by kernel_rfl) (by assumption) ?_ ?_
  rotate_left 1
  · (intro wI hSI; (try dsimp only at hSI); go_simp; (try with_reducible rfl))
  simp only [Act.put, List.setIfInBounds_toArray, List.set_cons_zero, List.set_cons_succ]
  refine wpAnyH_done (by kernel_rfl) ?_ _
  have hbF := below_next hb1' hHeld.2.2.2.2.2.2
  by_cases hdt : min (bf + mn) 5761440 ≤ t
  · have H1 := Lib.hid (show cn = 3 by rw [HC.out, if_pos hdt])
    have hdt' : decide (min (bf + mn) 5761440 ≤ t) = true := decide_eq_true hdt
    go_wp2_with fail
    go_ret
    exact ⟨by rw [H1.out]; rfl, hbF⟩
  · have H1 := Lib.hid (show cn = 1 by rw [HC.out, if_neg hdt])
    have hdt' : decide (min (bf + mn) 5761440 ≤ t) = false := decide_eq_false hdt
    go_wp2_with fail
    go_ret
    exact ⟨by rw [H1.out]; rfl, hbF⟩
end Go.Proofs.YtifflpilnpcmoaaGreatDoor
