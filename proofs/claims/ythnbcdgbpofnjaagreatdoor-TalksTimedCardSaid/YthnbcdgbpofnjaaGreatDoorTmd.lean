/- Times of talks: how they lie, how they are sorted. Written by gen/src/sortst.py. -/
import Derived.Test.YthnbcdgbpofnjaaGreatDoorTotC
import Derived.Test.YthnbcdgbpofnjaaGreatDoorSortW
import Derived.Test.YthnbcdgbpofnjaaGreatDoorCmpF
import Derived.Test.YthnbcdgbpofnjaaGreatDoorSortL
import Derived.Test.YthnbcdgbpofnjaaGreatDoorRegF
import Derived.Shelf.SlSortCmp.WholeK
import Derived.Test.YthnbcdgbpofnjaaGreatDoorPrgW
/-! Times of talks: how they lie, how they are sorted. Written by gen/src/sortst.py. -/
namespace Go.Proofs.YthnbcdgbpofnjaaGreatDoor
open Go.RowKit Go.Sort
set_option linter.unusedVariables false
set_option linter.unusedSimpArgs false

/-- When a talk is: its paper, its slot, its room, from when to when. -/
abbrev Tmd := ByteArray × ByteArray × ByteArray × Int × Int
instance instCelTmd : Cel Tmd := ⟨5, fun t => [.string t.1, .string t.2.1, .string t.2.2.1, .int .i64 t.2.2.2.1, .int .i64 t.2.2.2.2], fun _ => rfl, by decide, by simp [Value.oneCell']⟩
theorem SA.tmdC {w : World} {a : Option Addr} {l : List Tmd} (h : SA w a l) {i : Nat} (hi : i < l.length) :
  ∃ b off, a = some ⟨b, off, none⟩ ∧ w.cell? ⟨b, off + i * 5, none⟩ = some (.string l[i].1) ∧ w.cell? ⟨b, off + i * 5 + 1, none⟩ = some (.string l[i].2.1) ∧ w.cell? ⟨b, off + i * 5 + 2, none⟩ = some (.string l[i].2.2.1) ∧ w.cell? ⟨b, off + i * 5 + 3, none⟩ = some (.int .i64 l[i].2.2.2.1) ∧ w.cell? ⟨b, off + i * 5 + 4, none⟩ = some (.int .i64 l[i].2.2.2.2) := by
 obtain ⟨b, off, ha, hc⟩ := h.at hi
 exact ⟨b, off, ha, hc 0 (by decide), hc 1 (by decide), hc 2 (by decide), hc 3 (by decide), hc 4 (by decide)⟩
def cmpTmd (x y : Tmd) : Int := firstOf [Lib.compareInt x.2.2.2.1 y.2.2.2.1, cmpS x.2.2.1 y.2.2.1, cmpS x.1 y.1]
theorem totC_Tmd : TotC cmpTmd := by
 have h := (totC_int.pull (fun x : Tmd => x.2.2.2.1)).lex ((totC_S.pull (fun x : Tmd => x.2.2.1)).lex ((totC_S.pull (fun x : Tmd => x.1)).lex (d := fun _ _ => 0) ⟨fun _ _ => by omega, fun _ _ _ _ _ => Int.le_refl _⟩))
 exact h
theorem swoTmd : SWO (ltOf cmpTmd) := totC_Tmd.swo
instance instInhTmd : Inhabited Tmd := ⟨(⟨#[]⟩, ⟨#[]⟩, ⟨#[]⟩, 0, 0)⟩
/-- As slices.SortFunc puts them. -/
noncomputable def sortTmd (l : List Tmd) : List Tmd := (pdq (ltOf cmpTmd) l.toArray 0 l.length (Lib.bitLen l.length) true true).toList
theorem sortTmd_len (l : List Tmd) : (sortTmd l).length = l.length := by
 have h := (pdq_sorts (ltOf cmpTmd) swoTmd l.toArray 0 l.length (Lib.bitLen l.length) true true (Nat.zero_le _) (by rw [List.size_toArray]; exact Nat.le_refl _) (Or.inl rfl)).1.1
 unfold sortTmd
 rw [Array.length_toList, h, List.size_toArray]
theorem sortTmd_nil : sortTmd [] = [] := List.length_eq_zero_iff.1 (sortTmd_len [])
def encTmd (x : Tmd) : Value := .agg #[.string x.1, .string x.2.1, .string x.2.2.1, .int .i64 x.2.2.2.1, .int .i64 x.2.2.2.2]
set_option maxRecDepth 100000 in
set_option maxHeartbeats 2000000 in
theorem timesClo_any (x y : Tmd) (w : World) : Calls Tryz.prog 137 #[encTmd x, encTmd y] w (fun e w' => e = .returned (.int .i64 (cmpTmd x y)) ∧ Grw w w') := by
 obtain ⟨x1, x2, x3, x4, x5⟩ := x
 obtain ⟨y1, y2, y3, y4, y5⟩ := y
 have HC : Hid (cmpTmd (x1, x2, x3, x4, x5) (y1, y2, y3, y4, y5) = firstOf [Lib.compareInt x4 y4, cmpS x3 y3, cmpS x1 y1]) := rfl
 have HI0 := Lib.hid (fun W => Tryz.cmp_Compare_int x4 y4 W)
 have HI1 : Hid (∀ W', Calls Tryz.prog 89 #[.string x3, .string y3] W' (fun e w' => e = .returned (.int .i64 (cmpS x3 y3)) ∧ w' = W')) := fun W' => Tryz.strings_Compare x3 y3 W'
 have HI2 : Hid (∀ W', Calls Tryz.prog 89 #[.string x1, .string y1] W' (fun e w' => e = .returned (.int .i64 (cmpS x1 y1)) ∧ w' = W')) := fun W' => Tryz.strings_Compare x1 y1 W'
 generalize cmpTmd (x1, x2, x3, x4, x5) (y1, y2, y3, y4, y5) = z at *
 generalize Lib.compareInt x4 y4 = c1 at *
 generalize cmpS x3 y3 = c2 at *
 generalize cmpS x1 y1 = c3 at *
 have hX := (Box.new w 86 #[.string x1, .string x2, .string x3, .int .i64 x4, .int .i64 x5]).alloc (.cells #[.string y1, .string y2, .string y3, .int .i64 y4, .int .i64 y5] 86)
 have hY := Box.newAt (w.alloc (.cells #[.string x1, .string x2, .string x3, .int .i64 x4, .int .i64 x5] 86)) (w.heap.size + 1) 86 #[.string y1, .string y2, .string y3, .int .i64 y4, .int .i64 y5] (by simp)
 unfold encTmd
 go_enter Tryz.func137, Tryz.ntmps137
 go_upto_region 1 with (fail)
 have hG : Grw w ((w.alloc (.cells #[.string x1, .string x2, .string x3, .int .i64 x4, .int .i64 x5] 86)).alloc (.cells #[.string y1, .string y2, .string y3, .int .i64 y4, .int .i64 y5] 86)) := ((Grw.refl _).alloc _).alloc _
 generalize (w.alloc (.cells #[.string x1, .string x2, .string x3, .int .i64 x4, .int .i64 x5] 86)).alloc (.cells #[.string y1, .string y2, .string y3, .int .i64 y4, .int .i64 y5] 86) = W at *
 have hX_l := hX.lt; have hX_0 := hX.cell 0; have hX_1 := hX.cell 1; have hX_2 := hX.cell 2; have hX_3 := hX.cell 3; have hX_4 := hX.cell 4; simp at hX_0 hX_1 hX_2 hX_3 hX_4
 have hY_l := hY.lt; have hY_0 := hY.cell 0; have hY_1 := hY.cell 1; have hY_2 := hY.cell 2; have hY_3 := hY.cell 3; have hY_4 := hY.cell 4; simp at hY_0 hY_1 hY_2 hY_3 hY_4
 refine wp_region_held_drew (S := (fun wx => wx.cell? ⟨w.heap.size, 0, none⟩ = some (.string x1) ∧ wx.cell? ⟨w.heap.size, 2, none⟩ = some (.string x3) ∧ wx.cell? ⟨w.heap.size, 3, none⟩ = some (.int .i64 x4) ∧ wx.cell? ⟨w.heap.size + 1, 0, none⟩ = some (.string y1) ∧ wx.cell? ⟨w.heap.size + 1, 2, none⟩ = some (.string y3) ∧ wx.cell? ⟨w.heap.size + 1, 3, none⟩ = some (.int .i64 y4) ∧ Grw W wx)) (by kernel_rfl) ?hS (fun hHeld => ?_)
 case hS => exact ⟨hX_0, hX_2, hX_3, hY_0, hY_2, hY_3, (Grw.refl _).drew⟩
 refine rtake (i := 0) (d := (some 5)) (v := ?_) rfl (by kernel_rfl) (by kernel_rfl) (by kernel_rfl) (by kernel_rfl) (fun _ _ _ h => h) (by kernel_rfl) (by assumption) ?_ ?_
 rotate_left 1
 ·
  (intro wI hSI; (try dsimp only at hSI); go_simp; (try with_reducible rfl))
 simp only [Act.put, lsetA, lsetZ, lsetS]
 refine rtake (i := 1) (d := (some 6)) (v := ?_) rfl (by kernel_rfl) (by kernel_rfl) (by kernel_rfl) (by kernel_rfl) (fun _ _ _ h => h) (by kernel_rfl) (by assumption) ?_ ?_
 rotate_left 1
 ·
  (intro wI hSI; (try dsimp only at hSI); go_simp; (try with_reducible rfl))
 simp only [Act.put, lsetA, lsetZ, lsetS]
 refine rtake (i := 2) (d := (some 7)) (v := ?_) rfl (by kernel_rfl) (by kernel_rfl) (by kernel_rfl) (by kernel_rfl) (fun _ _ _ h => h) (by kernel_rfl) (by assumption) ?_ ?_
 rotate_left 1
 ·
  (intro wI hSI; (try dsimp only at hSI); go_simp; (try with_reducible rfl))
 simp only [Act.put, lsetA, lsetZ, lsetS]
 refine rtake (i := 3) (d := (some 8)) (v := ?_) rfl (by kernel_rfl) (by kernel_rfl) (by kernel_rfl) (by kernel_rfl) (fun _ _ _ h => h) (by kernel_rfl) (by assumption) ?_ ?_
 rotate_left 1
 ·
  (intro wI hSI; (try dsimp only at hSI); go_simp; (try with_reducible rfl))
 simp only [Act.put, lsetA, lsetZ, lsetS]
 refine rtake (i := 5) (d := (some 10)) (v := ?_) rfl (by kernel_rfl) (by kernel_rfl) (by kernel_rfl) (by kernel_rfl) (fun _ _ _ h => h) (by kernel_rfl) (by assumption) ?_ ?_
 rotate_left 1
 ·
  (intro wI hSI; (try dsimp only at hSI); go_simp; (try with_reducible rfl))
 simp only [Act.put, lsetA, lsetZ, lsetS]
 refine rtake (i := 6) (d := (some 11)) (v := ?_) rfl (by kernel_rfl) (by kernel_rfl) (by kernel_rfl) (by kernel_rfl) (fun _ _ _ h => h) (by kernel_rfl) (by assumption) ?_ ?_
 rotate_left 1
 ·
  (intro wI hSI; (try dsimp only at hSI); go_simp; (try with_reducible rfl))
 simp only [Act.put, lsetA, lsetZ, lsetS]
 refine rtake (i := 7) (d := (some 12)) (v := ?_) rfl (by kernel_rfl) (by kernel_rfl) (by kernel_rfl) (by kernel_rfl) (fun _ _ _ h => h) (by kernel_rfl) (by assumption) ?_ ?_
 rotate_left 1
 ·
  (intro wI hSI; (try dsimp only at hSI); go_simp; (try with_reducible rfl))
 simp only [Act.put, lsetA, lsetZ, lsetS]
 refine rtake (i := 8) (d := (some 13)) (v := ?_) rfl (by kernel_rfl) (by kernel_rfl) (by kernel_rfl) (by kernel_rfl) (fun _ _ _ h => h) (by kernel_rfl) (by assumption) ?_ ?_
 rotate_left 1
 ·
  (intro wI hSI; (try dsimp only at hSI); go_simp; (try with_reducible rfl))
 simp only [Act.put, lsetA, lsetZ, lsetS]
 refine rtake (i := 10) (d := (some 15)) (v := ?_) rfl (by kernel_rfl) (by kernel_rfl) (by kernel_rfl) (by kernel_rfl) (fun _ _ _ h => h) (by kernel_rfl) (by assumption) ?_ ?_
 rotate_left 1
 ·
  (intro wI hSI; (try dsimp only at hSI); go_simp; (try with_reducible rfl))
 simp only [Act.put, lsetA, lsetZ, lsetS]
 refine rtake (i := 11) (d := (some 16)) (v := ?_) rfl (by kernel_rfl) (by kernel_rfl) (by kernel_rfl) (by kernel_rfl) (fun _ _ _ h => h) (by kernel_rfl) (by assumption) ?_ ?_
 rotate_left 1
 ·
  (intro wI hSI; (try dsimp only at hSI); go_simp; (try with_reducible rfl))
 simp only [Act.put, lsetA, lsetZ, lsetS]
 refine rtake (i := 12) (d := (some 17)) (v := ?_) rfl (by kernel_rfl) (by kernel_rfl) (by kernel_rfl) (by kernel_rfl) (fun _ _ _ h => h) (by kernel_rfl) (by assumption) ?_ ?_
 rotate_left 1
 ·
  (intro wI hSI; (try dsimp only at hSI); go_simp; (try with_reducible rfl))
 simp only [Act.put, lsetA, lsetZ, lsetS]
 refine rtake (i := 13) (d := (some 18)) (v := ?_) rfl (by kernel_rfl) (by kernel_rfl) (by kernel_rfl) (by kernel_rfl) (fun _ _ _ h => h) (by kernel_rfl) (by assumption) ?_ ?_
 rotate_left 1
 ·
  (intro wI hSI; (try dsimp only at hSI); go_simp; (try with_reducible rfl))
 simp only [Act.put, lsetA, lsetZ, lsetS]
 refine rcall (i := 4) (d := (some 9)) (by kernel_rfl) rfl (by kernel_rfl) (fun K hK => ?_)
 go_simp
 go_at_call 88; refine (HI0.out _).mono ?_; rintro e w' ⟨rfl, rfl⟩
 refine hK.out _ _ ?hS (fun hHeld => ?_)
 case hS => exact hHeld
 clear hK K
 simp only [Act.put, lsetA, lsetZ, lsetS]
 refine rcall (i := 9) (d := (some 14)) (by kernel_rfl) rfl (by kernel_rfl) (fun K hK => ?_)
 go_simp
 go_at_call 89; refine (HI1.out _).mono ?_; rintro e w' ⟨rfl, rfl⟩
 refine hK.out _ _ ?hS (fun hHeld => ?_)
 case hS => exact hHeld
 clear hK K
 simp only [Act.put, lsetA, lsetZ, lsetS]
 refine rcall (i := 14) (d := (some 19)) (by kernel_rfl) rfl (by kernel_rfl) (fun K hK => ?_)
 go_simp
 go_at_call 89; refine (HI2.out _).mono ?_; rintro e w' ⟨rfl, rfl⟩
 refine hK.out _ _ ?hS (fun hHeld => ?_)
 case hS => exact hHeld
 clear hK K
 simp only [Act.put, lsetA, lsetZ, lsetS]
 refine rcall (i := 15) (d := (some 20)) (by kernel_rfl) rfl (by kernel_rfl) (fun K hK => ?_)
 go_simp
 skip
 refine hK.out _ _ ?hS (fun hHeld => ?_)
 case hS => exact (have hA : ∀ (w : World) (o : Obj), Grw w (w.alloc o) := fun w o => (Grw.refl _).alloc o; ⟨cell_later (hA _ _).1 hHeld.1, cell_later (hA _ _).1 hHeld.2.1, cell_later (hA _ _).1 hHeld.2.2.1, cell_later (hA _ _).1 hHeld.2.2.2.1, cell_later (hA _ _).1 hHeld.2.2.2.2.1, cell_later (hA _ _).1 hHeld.2.2.2.2.2.1, hHeld.2.2.2.2.2.2.trans (hA _ _)⟩)
 clear hK K
 simp only [Act.put, lsetA, lsetZ, lsetS]
 refine rcall (i := 16) (d := (some 21)) (by kernel_rfl) rfl (by kernel_rfl) (fun K hK => ?_)
 go_simp
 go_at_call 87; refine (orI_any [c1, c2, c3] _ 3 _ (Box.sa (by first | exact Box.new _ _ _ | exact (Box.new _ _ _).drew) [c1, c2, c3] rfl) (by simp)).mono ?_; rintro e w' ⟨rfl, rfl⟩
 refine hK.out _ _ ?hS (fun hHeld => ?_)
 case hS => exact hHeld
 clear hK K
 simp only [Act.put, lsetA, lsetZ, lsetS]
 refine rtake (i := 17) (d := (some 4)) (v := ?_) rfl (by kernel_rfl) (by kernel_rfl) (by kernel_rfl) (by kernel_rfl) (fun _ _ _ h => h) (by kernel_rfl) (by assumption) ?_ ?_
 rotate_left 1
 ·
  (intro wI hSI; (try dsimp only at hSI); go_simp; (try with_reducible rfl))
 simp only [Act.put, lsetA, lsetZ, lsetS]
 refine wpAnyH_done (by kernel_rfl) ?_ _
 have hbF := hG.trans hHeld.2.2.2.2.2.2
 go_wp2_with fail
 go_ret
 exact ⟨by rw [HC.out] <;> rfl, hbF⟩
set_option maxRecDepth 100000 in
set_option maxHeartbeats 2000000 in
theorem timesOfClo_any (x y : Tmd) (w : World) : Calls Tryz.prog 102 #[encTmd x, encTmd y] w (fun e w' => e = .returned (.int .i64 (cmpTmd x y)) ∧ Grw w w') := by
 obtain ⟨x1, x2, x3, x4, x5⟩ := x
 obtain ⟨y1, y2, y3, y4, y5⟩ := y
 have HC : Hid (cmpTmd (x1, x2, x3, x4, x5) (y1, y2, y3, y4, y5) = firstOf [Lib.compareInt x4 y4, cmpS x3 y3, cmpS x1 y1]) := rfl
 have HI0 := Lib.hid (fun W => Tryz.cmp_Compare_int x4 y4 W)
 have HI1 : Hid (∀ W', Calls Tryz.prog 89 #[.string x3, .string y3] W' (fun e w' => e = .returned (.int .i64 (cmpS x3 y3)) ∧ w' = W')) := fun W' => Tryz.strings_Compare x3 y3 W'
 have HI2 : Hid (∀ W', Calls Tryz.prog 89 #[.string x1, .string y1] W' (fun e w' => e = .returned (.int .i64 (cmpS x1 y1)) ∧ w' = W')) := fun W' => Tryz.strings_Compare x1 y1 W'
 generalize cmpTmd (x1, x2, x3, x4, x5) (y1, y2, y3, y4, y5) = z at *
 generalize Lib.compareInt x4 y4 = c1 at *
 generalize cmpS x3 y3 = c2 at *
 generalize cmpS x1 y1 = c3 at *
 have hX := (Box.new w 86 #[.string x1, .string x2, .string x3, .int .i64 x4, .int .i64 x5]).alloc (.cells #[.string y1, .string y2, .string y3, .int .i64 y4, .int .i64 y5] 86)
 have hY := Box.newAt (w.alloc (.cells #[.string x1, .string x2, .string x3, .int .i64 x4, .int .i64 x5] 86)) (w.heap.size + 1) 86 #[.string y1, .string y2, .string y3, .int .i64 y4, .int .i64 y5] (by simp)
 unfold encTmd
 go_enter Tryz.func102, Tryz.ntmps102
 go_upto_region 1 with (fail)
 have hG : Grw w ((w.alloc (.cells #[.string x1, .string x2, .string x3, .int .i64 x4, .int .i64 x5] 86)).alloc (.cells #[.string y1, .string y2, .string y3, .int .i64 y4, .int .i64 y5] 86)) := ((Grw.refl _).alloc _).alloc _
 generalize (w.alloc (.cells #[.string x1, .string x2, .string x3, .int .i64 x4, .int .i64 x5] 86)).alloc (.cells #[.string y1, .string y2, .string y3, .int .i64 y4, .int .i64 y5] 86) = W at *
 have hX_l := hX.lt; have hX_0 := hX.cell 0; have hX_1 := hX.cell 1; have hX_2 := hX.cell 2; have hX_3 := hX.cell 3; have hX_4 := hX.cell 4; simp at hX_0 hX_1 hX_2 hX_3 hX_4
 have hY_l := hY.lt; have hY_0 := hY.cell 0; have hY_1 := hY.cell 1; have hY_2 := hY.cell 2; have hY_3 := hY.cell 3; have hY_4 := hY.cell 4; simp at hY_0 hY_1 hY_2 hY_3 hY_4
 refine wp_region_held_drew (S := (fun wx => wx.cell? ⟨w.heap.size, 0, none⟩ = some (.string x1) ∧ wx.cell? ⟨w.heap.size, 2, none⟩ = some (.string x3) ∧ wx.cell? ⟨w.heap.size, 3, none⟩ = some (.int .i64 x4) ∧ wx.cell? ⟨w.heap.size + 1, 0, none⟩ = some (.string y1) ∧ wx.cell? ⟨w.heap.size + 1, 2, none⟩ = some (.string y3) ∧ wx.cell? ⟨w.heap.size + 1, 3, none⟩ = some (.int .i64 y4) ∧ Grw W wx)) (by kernel_rfl) ?hS (fun hHeld => ?_)
 case hS => exact ⟨hX_0, hX_2, hX_3, hY_0, hY_2, hY_3, (Grw.refl _).drew⟩
 refine rtake (i := 0) (d := (some 5)) (v := ?_) rfl (by kernel_rfl) (by kernel_rfl) (by kernel_rfl) (by kernel_rfl) (fun _ _ _ h => h) (by kernel_rfl) (by assumption) ?_ ?_
 rotate_left 1
 ·
  (intro wI hSI; (try dsimp only at hSI); go_simp; (try with_reducible rfl))
 simp only [Act.put, lsetA, lsetZ, lsetS]
 refine rtake (i := 1) (d := (some 6)) (v := ?_) rfl (by kernel_rfl) (by kernel_rfl) (by kernel_rfl) (by kernel_rfl) (fun _ _ _ h => h) (by kernel_rfl) (by assumption) ?_ ?_
 rotate_left 1
 ·
  (intro wI hSI; (try dsimp only at hSI); go_simp; (try with_reducible rfl))
 simp only [Act.put, lsetA, lsetZ, lsetS]
 refine rtake (i := 2) (d := (some 7)) (v := ?_) rfl (by kernel_rfl) (by kernel_rfl) (by kernel_rfl) (by kernel_rfl) (fun _ _ _ h => h) (by kernel_rfl) (by assumption) ?_ ?_
 rotate_left 1
 ·
  (intro wI hSI; (try dsimp only at hSI); go_simp; (try with_reducible rfl))
 simp only [Act.put, lsetA, lsetZ, lsetS]
 refine rtake (i := 3) (d := (some 8)) (v := ?_) rfl (by kernel_rfl) (by kernel_rfl) (by kernel_rfl) (by kernel_rfl) (fun _ _ _ h => h) (by kernel_rfl) (by assumption) ?_ ?_
 rotate_left 1
 ·
  (intro wI hSI; (try dsimp only at hSI); go_simp; (try with_reducible rfl))
 simp only [Act.put, lsetA, lsetZ, lsetS]
 refine rtake (i := 5) (d := (some 10)) (v := ?_) rfl (by kernel_rfl) (by kernel_rfl) (by kernel_rfl) (by kernel_rfl) (fun _ _ _ h => h) (by kernel_rfl) (by assumption) ?_ ?_
 rotate_left 1
 ·
  (intro wI hSI; (try dsimp only at hSI); go_simp; (try with_reducible rfl))
 simp only [Act.put, lsetA, lsetZ, lsetS]
 refine rtake (i := 6) (d := (some 11)) (v := ?_) rfl (by kernel_rfl) (by kernel_rfl) (by kernel_rfl) (by kernel_rfl) (fun _ _ _ h => h) (by kernel_rfl) (by assumption) ?_ ?_
 rotate_left 1
 ·
  (intro wI hSI; (try dsimp only at hSI); go_simp; (try with_reducible rfl))
 simp only [Act.put, lsetA, lsetZ, lsetS]
 refine rtake (i := 7) (d := (some 12)) (v := ?_) rfl (by kernel_rfl) (by kernel_rfl) (by kernel_rfl) (by kernel_rfl) (fun _ _ _ h => h) (by kernel_rfl) (by assumption) ?_ ?_
 rotate_left 1
 ·
  (intro wI hSI; (try dsimp only at hSI); go_simp; (try with_reducible rfl))
 simp only [Act.put, lsetA, lsetZ, lsetS]
 refine rtake (i := 8) (d := (some 13)) (v := ?_) rfl (by kernel_rfl) (by kernel_rfl) (by kernel_rfl) (by kernel_rfl) (fun _ _ _ h => h) (by kernel_rfl) (by assumption) ?_ ?_
 rotate_left 1
 ·
  (intro wI hSI; (try dsimp only at hSI); go_simp; (try with_reducible rfl))
 simp only [Act.put, lsetA, lsetZ, lsetS]
 refine rtake (i := 10) (d := (some 15)) (v := ?_) rfl (by kernel_rfl) (by kernel_rfl) (by kernel_rfl) (by kernel_rfl) (fun _ _ _ h => h) (by kernel_rfl) (by assumption) ?_ ?_
 rotate_left 1
 ·
  (intro wI hSI; (try dsimp only at hSI); go_simp; (try with_reducible rfl))
 simp only [Act.put, lsetA, lsetZ, lsetS]
 refine rtake (i := 11) (d := (some 16)) (v := ?_) rfl (by kernel_rfl) (by kernel_rfl) (by kernel_rfl) (by kernel_rfl) (fun _ _ _ h => h) (by kernel_rfl) (by assumption) ?_ ?_
 rotate_left 1
 ·
  (intro wI hSI; (try dsimp only at hSI); go_simp; (try with_reducible rfl))
 simp only [Act.put, lsetA, lsetZ, lsetS]
 refine rtake (i := 12) (d := (some 17)) (v := ?_) rfl (by kernel_rfl) (by kernel_rfl) (by kernel_rfl) (by kernel_rfl) (fun _ _ _ h => h) (by kernel_rfl) (by assumption) ?_ ?_
 rotate_left 1
 ·
  (intro wI hSI; (try dsimp only at hSI); go_simp; (try with_reducible rfl))
 simp only [Act.put, lsetA, lsetZ, lsetS]
 refine rtake (i := 13) (d := (some 18)) (v := ?_) rfl (by kernel_rfl) (by kernel_rfl) (by kernel_rfl) (by kernel_rfl) (fun _ _ _ h => h) (by kernel_rfl) (by assumption) ?_ ?_
 rotate_left 1
 ·
  (intro wI hSI; (try dsimp only at hSI); go_simp; (try with_reducible rfl))
 simp only [Act.put, lsetA, lsetZ, lsetS]
 refine rcall (i := 4) (d := (some 9)) (by kernel_rfl) rfl (by kernel_rfl) (fun K hK => ?_)
 go_simp
 go_at_call 88; refine (HI0.out _).mono ?_; rintro e w' ⟨rfl, rfl⟩
 refine hK.out _ _ ?hS (fun hHeld => ?_)
 case hS => exact hHeld
 clear hK K
 simp only [Act.put, lsetA, lsetZ, lsetS]
 refine rcall (i := 9) (d := (some 14)) (by kernel_rfl) rfl (by kernel_rfl) (fun K hK => ?_)
 go_simp
 go_at_call 89; refine (HI1.out _).mono ?_; rintro e w' ⟨rfl, rfl⟩
 refine hK.out _ _ ?hS (fun hHeld => ?_)
 case hS => exact hHeld
 clear hK K
 simp only [Act.put, lsetA, lsetZ, lsetS]
 refine rcall (i := 14) (d := (some 19)) (by kernel_rfl) rfl (by kernel_rfl) (fun K hK => ?_)
 go_simp
 go_at_call 89; refine (HI2.out _).mono ?_; rintro e w' ⟨rfl, rfl⟩
 refine hK.out _ _ ?hS (fun hHeld => ?_)
 case hS => exact hHeld
 clear hK K
 simp only [Act.put, lsetA, lsetZ, lsetS]
 refine rcall (i := 15) (d := (some 20)) (by kernel_rfl) rfl (by kernel_rfl) (fun K hK => ?_)
 go_simp
 skip
 refine hK.out _ _ ?hS (fun hHeld => ?_)
 case hS => exact (have hA : ∀ (w : World) (o : Obj), Grw w (w.alloc o) := fun w o => (Grw.refl _).alloc o; ⟨cell_later (hA _ _).1 hHeld.1, cell_later (hA _ _).1 hHeld.2.1, cell_later (hA _ _).1 hHeld.2.2.1, cell_later (hA _ _).1 hHeld.2.2.2.1, cell_later (hA _ _).1 hHeld.2.2.2.2.1, cell_later (hA _ _).1 hHeld.2.2.2.2.2.1, hHeld.2.2.2.2.2.2.trans (hA _ _)⟩)
 clear hK K
 simp only [Act.put, lsetA, lsetZ, lsetS]
 refine rcall (i := 16) (d := (some 21)) (by kernel_rfl) rfl (by kernel_rfl) (fun K hK => ?_)
 go_simp
 go_at_call 87; refine (orI_any [c1, c2, c3] _ 3 _ (Box.sa (by first | exact Box.new _ _ _ | exact (Box.new _ _ _).drew) [c1, c2, c3] rfl) (by simp)).mono ?_; rintro e w' ⟨rfl, rfl⟩
 refine hK.out _ _ ?hS (fun hHeld => ?_)
 case hS => exact hHeld
 clear hK K
 simp only [Act.put, lsetA, lsetZ, lsetS]
 refine rtake (i := 17) (d := (some 4)) (v := ?_) rfl (by kernel_rfl) (by kernel_rfl) (by kernel_rfl) (by kernel_rfl) (fun _ _ _ h => h) (by kernel_rfl) (by assumption) ?_ ?_
 rotate_left 1
 ·
  (intro wI hSI; (try dsimp only at hSI); go_simp; (try with_reducible rfl))
 simp only [Act.put, lsetA, lsetZ, lsetS]
 refine wpAnyH_done (by kernel_rfl) ?_ _
 have hbF := hG.trans hHeld.2.2.2.2.2.2
 go_wp2_with fail
 go_ret
 exact ⟨by rw [HC.out] <;> rfl, hbF⟩
set_option maxRecDepth 100000 in
theorem insTmds_nil (a : Option Addr) (cap : Nat) (fv : Value) (w : World) : Calls Tryz.prog 174 #[.slice a 0 cap, .int .i64 0, .int .i64 0, fv] w (fun e w' => e = .returned (.tuple #[]) ∧ w' = w) := by
 go_enter Tryz.func174, Tryz.ntmps174
 go_wp2_with fail
 refine wp_loop_rounds 1 ?_
 rw [rounds_succ]
 go_wp2_with fail
 go_end0
 exact ⟨rfl, rfl⟩
set_option maxRecDepth 100000 in
theorem pdqTmds_nil (a : Option Addr) (cap : Nat) (m : Int) (fv : Value) (w : World) : Calls Tryz.prog 140 #[.slice a 0 cap, .int .i64 0, .int .i64 0, .int .i64 m, fv] w (fun e w' => e = .returned (.tuple #[]) ∧ w' = w) := by
 have HI := Lib.hid (fun W => insTmds_nil a cap fv W)
 go_enter Tryz.func140, Tryz.ntmps140
 go_wp2_with fail
 refine wp_loop_rounds 1 ?_
 rw [rounds_succ]
 go_wp2_with fail
 refine (HI.out _).mono ?_
 rintro e w' ⟨rfl, rfl⟩
 go_wp2_with fail
 (try simp only [Exit.inBlock, Exit.then]); refine bodyPost_ret (results_none rfl _ _ _) rfl ?_
 exact ⟨rfl, rfl⟩
set_option maxRecDepth 100000 in
theorem sortTmds_nil (a : Option Addr) (cap : Nat) (fv : Value) (w : World) : Calls Tryz.prog 101 #[.slice a 0 cap, fv] w (fun e w' => e = .returned (.tuple #[]) ∧ w' = w) := by
 have HI := Lib.hid (fun m W => pdqTmds_nil a cap m fv W)
 have HB := Lib.hid (fun W => Tryz.bits_Len 0 W (by omega) (by omega))
 go_enter Tryz.func101, Tryz.ntmps101
 go_wp2_with fail
 refine (HB.out _).mono ?_
 rintro e w' ⟨rfl, rfl⟩
 go_wp2_with fail
 refine (HI.out _ _).mono ?_
 rintro e w' ⟨rfl, rfl⟩
 go_wp2_with fail
 go_end0
 exact ⟨rfl, rfl⟩
theorem sortTmds_any (base : Nat) (l : List Tmd) (v : Value) (w : World) (g : Nat) (eg : ∀ args w, (callFunc g args).run Tryz.prog w = .ok (.enter g args) w) (hc : ∀ x y W, Calls Tryz.prog g #[encTmd x, encTmd y] W (fun e w' => e = .returned (.int .i64 (cmpTmd x y)) ∧ Grw W w'))
  (h : Own base 86 w v l) (hl : l.length ≤ 100000000) :
  Calls Tryz.prog 101 #[v, .func (.func g) #[] #[]] w (fun e w' => e = .returned (.tuple #[]) ∧ Own base 86 w' v (sortTmd l) ∧ Kp (fun j => v.ownBlock = some j) w w') := by
 by_cases hn : l = []
 ·
  subst hn
  obtain ⟨a, cap, rfl, _⟩ := h.form
  refine (sortTmds_nil a cap _ w).mono ?_
  rintro e w' ⟨rfl, rfl⟩
  rw [sortTmd_nil]
  exact ⟨rfl, h, Kp.refl _ _⟩
 ·
  obtain ⟨a, cap, rfl, hsa, hab⟩ := h.form
  rcases hsa with hsa | ⟨b, off, rfl, hA⟩
  ·
   exact absurd hsa hn
  have hob : off = 0 := by
   rcases hab with ⟨h1 | ⟨b2, h1, -⟩, -⟩
   ·
    cases h1
   ·
    exact congrArg (·.off) (Option.some.inj h1)
  subst hob
  obtain ⟨cur, hbox⟩ := h.box
  have hH := holdsK_of (fun x : Tmd => x) l hbox (by rw [List.map_id']; exact hA)
  have hcon := AnyQ.slices_SortFunc_eq Tryz.sort_Timed 5 Tryz.isAgg86 Tryz.sizeOf86 (fun x : Tmd => Cel.cells x) (fun x => Cel.len _) (fun x => Cel.one _) cmpTmd swoTmd g #[] b 0 cap l.toArray w eg
   (fun m os dk hs x y => (hc x y _).mono fun e w' ⟨h1, h2⟩ => ⟨h1, h2.grown⟩) hH hbox.lt (by rw [List.size_toArray]; omega)
  rw [List.size_toArray] at hcon
  refine hcon.mono ?_
  rintro e w' ⟨rfl, n, os, rfl⟩
  refine ⟨rfl, ?_, (kp_sortK _ _ _ _ _ _ _).mono (fun k hk => .inl (by rw [hk]; rfl))⟩
  have hlen := sortTmd_len l
  have hd := holdsK_sortWorldK_c (fun x : Tmd => Cel.cells x) 5 w b 0 _ (pdq (ltOf cmpTmd) l.toArray 0 l.length (Lib.bitLen l.length) true true) n os hH hbox.lt (by unfold sortTmd at hlen; rw [Array.length_toList] at hlen; rw [hlen, List.size_toArray])
  have hsa := arr_of_holdsK (fun x : Tmd => x) hd
  rw [List.map_id'] at hsa
  exact h.turned (fun cur hb => box_sortK hb _ _ _ _ _) hlen hsa
end Go.Proofs.YthnbcdgbpofnjaaGreatDoor

/-! slices.IndexFunc and slices.DeleteFunc of times of talks: what is left is the call's own. Written by gen/src/deltmd.py. -/
namespace Go.Proofs.YthnbcdgbpofnjaaGreatDoor
open Go.RowKit
set_option linter.unusedVariables false
set_option linter.unusedSimpArgs false

theorem run_clear_tmd (w : World) (b o n c : Nat) (hn : 0 < n) (hc : ∀ j, j < n * 5 → (w.cell? ⟨b, o + j, none⟩).isSome = true) (hf : ∀ j, j < n * 5 → w.frozen? ⟨b, o + j, none⟩ = false) :
  ∃ vs : List Value, vs.length = n * 5 ∧ ∀ ty, (Builtin.clear_ #[77] ty #[.slice (some ⟨b, o, none⟩) n c]).run Tryz.prog w = .ok (.tuple #[]) (w.setCells b o vs) := by
 have hlen : (Builtin.zeroCells #[.string ⟨#[]⟩, .string ⟨#[]⟩, .string ⟨#[]⟩, .int .i64 0, .int .i64 0] n).toList.length = n * 5 := by simp [Builtin.zeroCells]
 have hone : ∀ v ∈ (Builtin.zeroCells #[.string ⟨#[]⟩, .string ⟨#[]⟩, .string ⟨#[]⟩, .int .i64 0, .int .i64 0] n).toList, v.oneCell' = true := by
  intro v hv
  simp only [Builtin.zeroCells, Array.toList_map, List.mem_map] at hv
  obtain ⟨i, _, rfl⟩ := hv
  have h3 : i % 5 < 5 := Nat.mod_lt _ (by decide)
  show (#[Value.string ⟨#[]⟩, .string ⟨#[]⟩, .string ⟨#[]⟩, .int .i64 0, .int .i64 0][i % 5]!).oneCell' = true
  generalize i % 5 = r at *
  rcases (show r = 0 ∨ r = 1 ∨ r = 2 ∨ r = 3 ∨ r = 4 by omega) with rfl | rfl | rfl | rfl | rfl <;> rfl
 generalize hz : (Builtin.zeroCells #[.string ⟨#[]⟩, .string ⟨#[]⟩, .string ⟨#[]⟩, .int .i64 0, .int .i64 0] n).toList = vs at *
 have hst := run_storeCells_cells (P := Tryz.prog) b o vs 0 w (by rw [hlen]; simpa using hc) (by rw [hlen]; simpa using hf) hone
 simp only [Nat.add_zero] at hst
 obtain ⟨m, rfl⟩ : ∃ m, n = m + 1 := ⟨n - 1, by omega⟩
 refine ⟨vs, hlen, fun ty => ?_⟩
 have hv : (zeroValue 86).run Tryz.prog w = .ok (.agg #[.string ⟨#[]⟩, .string ⟨#[]⟩, .string ⟨#[]⟩, .int .i64 0, .int .i64 0]) w := Tryz.zeroValue86 w
 simp [Builtin.clear_, run_underlying Tryz.underlying77, hv, Value.cells, hz, hst]

set_option maxHeartbeats 1000000 in
/-- The first mark of which a function says true, or -1. -/
theorem idxTmd_any (l : List Tmd) (a : Option Addr) (cap g : Nat) (lb : Array Value) (q : Tmd → Bool) (k0 : Nat) (W : World) (hs : SA W a l) (hl : l.length ≤ 1000000) (eg : ∀ args w, (callFunc g args).run Tryz.prog w = .ok (.enter g args) w)
  (hc : ∀ W' x, x ∈ l → Below W.heap.size W W' → Calls Tryz.prog g (#[.agg #[.string x.1, .string x.2.1, .string x.2.2.1, .int .i64 x.2.2.2.1, .int .i64 x.2.2.2.2]] ++ lb) W' (Gives (.bool (q x)) W')) (hk0 : k0 ≤ l.length) (hq : ∀ h : k0 < l.length, q l[k0] = true) (hfirst : ∀ j (hj : j < k0), q (l[j]'(by omega)) = false) :
  Calls Tryz.prog 138 #[.slice a l.length cap, .func (.func g) #[] lb] W (Gives (.int .i64 (if k0 < l.length then (k0 : Int) else -1)) W) := by
 have HC := Lib.hid hc
 have HQ := Lib.hid hq
 have HF := Lib.hid hfirst
 have HR1 : Hid (k0 < l.length → (if k0 < l.length then (k0 : Int) else -1) = k0) := fun h => by rw [if_pos h]
 have HR2 : Hid (¬ k0 < l.length → (if k0 < l.length then (k0 : Int) else -1) = -1) := fun h => by rw [if_neg h]
 generalize (if k0 < l.length then (k0 : Int) else -1) = res at *
 clear hc hq hfirst
 go_enter Tryz.func138, Tryz.ntmps138
 go_wp2_with fail
 go_loopg [8] l.length (fun gk i wr => ∃ k : Nat, i = .int .i64 k ∧ k ≤ k0 ∧ Hid (gk = l.length - k) ∧ Below W.heap.size W wr)
 case atStart => exact ⟨0, rfl, by omega, rfl, Below.refl _ _⟩
 case round =>
  obtain ⟨k, rfl, hk, hgk, hb⟩ := hrel
  by_cases hlt : k < l.length
  ·
   obtain ⟨b, off, ha, c0, c1, c2, c3, c4⟩ := (hs.below hb).tmdC hlt
   have HCx := Lib.hid (HC.out wr l[k] (List.getElem_mem hlt) hb)
   rw [ha]
   by_cases hkk : k = k0
   ·
    subst hkk
    rw [HQ.out hlt] at HCx
    have HR := Lib.hid (HR1.out hlt)
    generalize l[k] = x at *
    obtain ⟨x1, x2, x3, x4, x5⟩ := x
    simp only at c0 c1 c2 c3 c4 HCx
    go_wp2_with (go_at_fn g; refine HCx.out.mono ?_; rintro e w1 ⟨rfl, hb1⟩)
    go_ret
    exact ⟨by rw [HR.out] <;> rfl, below_next hb hb1⟩
   ·
    rw [HF.out k (by omega)] at HCx
    generalize l[k] = x at *
    obtain ⟨x1, x2, x3, x4, x5⟩ := x
    simp only at c0 c1 c2 c3 c4 HCx
    go_wp2_with (go_at_fn g; refine HCx.out.mono ?_; rintro e w1 ⟨rfl, hb1⟩)
    rw [← ha]
    go_roundg (l.length - (k + 1))
    case measure => have := hgk.out; omega
    case rel => exact ⟨k + 1, by go_num, by omega, rfl, below_next hb hb1⟩
  ·
   have HR := Lib.hid (HR2.out (by omega))
   go_wp2_with fail
   go_ret
   exact ⟨by rw [HR.out] <;> rfl, hb⟩

/-- A first mark of which a function says true, or the length. -/
theorem first_hitT (q : Tmd → Bool) : ∀ l : List Tmd, ∃ k0, k0 ≤ l.length ∧ (∀ h : k0 < l.length, q l[k0] = true) ∧ ∀ j (hj : j < k0) (hl : j < l.length), q l[j] = false
 | [] => ⟨0, Nat.le_refl _, fun h => absurd h (Nat.lt_irrefl _), fun j hj => absurd hj (Nat.not_lt_zero _)⟩
 | x :: r => by
  cases hx : q x
  ·
   obtain ⟨k, h1, h2, h3⟩ := first_hitT q r
   refine ⟨k + 1, by simpa using h1, fun h => by simpa using h2 (by simpa using h), fun j hj hl => ?_⟩
   cases j with
   | zero => simpa using hx
   | succ j => simpa using h3 j (by omega) (by simpa using hl)
  ·
   exact ⟨0, Nat.zero_le _, fun _ => by simpa using hx, fun j hj => absurd hj (Nat.not_lt_zero _)⟩
theorem filter_take_allT (q : Tmd → Bool) (l : List Tmd) (k : Nat) (h : ∀ j (hj : j < k) (hl : j < l.length), q l[j] = true) : (l.take k).filter q = l.take k := by
 rw [List.filter_eq_self]
 intro x hx
 obtain ⟨j, hj, rfl⟩ := List.mem_iff_getElem.1 hx
 rw [List.length_take] at hj
 rw [List.getElem_take]
 exact h j (by omega) (by omega)
theorem take_set_succT (s : List Tmd) (i : Nat) (x : Tmd) (h : i < s.length) : (s.set i x).take (i + 1) = s.take i ++ [x] := by
 rw [List.take_succ_eq_append_getElem (by rw [List.length_set]; exact h), List.getElem_set_self]
 congr 1
 apply List.ext_getElem?
 intro k
 rw [List.getElem?_take, List.getElem?_take, List.getElem?_set]
 split
 ·
  rw [if_neg (by omega)]
 ·
  rfl
theorem drop_set_ltT (s : List Tmd) (i j : Nat) (x : Tmd) (h : i < j) : (s.set i x).drop j = s.drop j := by
 apply List.ext_getElem?
 intro k
 rw [List.getElem?_drop, List.getElem?_drop, List.getElem?_set, if_neg (by omega)]
set_option maxRecDepth 100000 in
set_option maxHeartbeats 4000000 in
/-- The marks of which a function says false are left. -/
theorem deleteTmd_any (base : Nat) (l : List Tmd) (v : Value) (g : Nat) (lb : Array Value) (q : Tmd → Bool) (w : World) (hown : Own base 86 w v l) (hl : l.length ≤ 1000000) (eg : ∀ args w, (callFunc g args).run Tryz.prog w = .ok (.enter g args) w)
  (hc : ∀ W' x, x ∈ l → Kp (fun k => v.ownBlock = some k) w W' → Calls Tryz.prog g (#[.agg #[.string x.1, .string x.2.1, .string x.2.2.1, .int .i64 x.2.2.2.1, .int .i64 x.2.2.2.2]] ++ lb) W' (Gives (.bool (q x)) W')) :
  Calls Tryz.prog 94 #[v, .func (.func g) #[] lb] w (fun e w' => ∃ v', e = .returned v' ∧ Own base 86 w' v' (l.filter (fun x => !q x)) ∧ (∀ j, v'.ownBlock = some j → v.ownBlock = some j) ∧ Kp (fun k => v.ownBlock = some k) w w') := by
 obtain ⟨a, cap, rfl, hsa, hf, hcap⟩ := hown.form
 obtain ⟨k0, hk0, hq, hfirst⟩ := first_hitT q l
 have HC := Lib.hid hc
 have HI := Lib.hid (idxTmd_any l a cap g lb q k0 w hsa hl eg (fun W' x hx hb => hc W' x hx (Kp.of_below hb)) hk0 hq (fun j hj => hfirst j hj (by omega)))
 by_cases hk : k0 < l.length
 ·
  rw [if_pos hk] at HI
  rcases hf with rfl | ⟨gs, rfl, hg1, hg2⟩
  ·
   obtain ⟨b, off, ha, _⟩ := hsa.tmdC hk
   cases ha
  have hne : ((k0 : Int) == -1) = false := beq_eq_false_iff_ne.2 (by omega)
  have hst0 : Hid (l.take k0 = (l.take (k0 + 1)).filter (fun x => !q x)) := by
   show _ = _
   rw [List.take_succ_eq_append_getElem hk, List.filter_append, filter_take_allT _ _ _ (fun j hj hl' => by rw [hfirst j hj hl']; rfl)]
   simp [hq hk]
  have Hlt := Lib.hid hk
  clear hc hsa hq hfirst hk
  go_enter Tryz.func94, Tryz.ntmps94
  go_wp2_with fail
  refine HI.out.mono ?_
  rintro e w1 ⟨rfl, hb1⟩
  have hown1 := hown.below hb1
  have hk1 : Kp (fun k => (Value.slice (some ⟨gs, 0, none⟩) l.length cap).ownBlock = some k) w w1 := Kp.of_below hb1
  have hklt := Hlt.out
  have hg21 : gs < w1.heap.size := by have := hb1.size; omega
  clear hown HI hb1
  go_wp2_with fail
  go_loopg [5, 6, 7] l.length (fun gk iv jv _ wr => ∃ (i j : Nat) (cur : List Tmd), iv = .int .i64 i ∧ jv = .int .i64 j ∧ i < j ∧ j ≤ l.length ∧ l.length - j ≤ gk ∧ cur.length = l.length ∧ Hid (cur.take i = (l.take j).filter (fun x => !q x)) ∧ Hid (cur.drop j = l.drop j) ∧ Own base 86 wr (.slice (some ⟨gs, 0, none⟩) l.length cap) cur ∧ Kp (fun k => (Value.slice (some ⟨gs, 0, none⟩) l.length cap).ownBlock = some k) w wr ∧ gs < wr.heap.size)
  case atStart => exact ⟨k0, k0 + 1, l, rfl, by go_num, by omega, by omega, by omega, rfl, hst0, rfl, hown1, hk1, hg21⟩
  case round =>
   clear hown1 hk1 hst0
   obtain ⟨i, j, cur, rfl, rfl, hij, hj, hgk, hcl, hti, hdj, hown, hkp, hgw⟩ := hrel
   have hsac : SA wr (some ⟨gs, 0, none⟩) cur := by obtain ⟨a', c', he, hh, _⟩ := hown.sa; simp only [Value.slice.injEq] at he; rw [he.1]; exact hh
   by_cases hlt : j < l.length
   ·
    have hjc : j < cur.length := by omega
    have hic : i < cur.length := by omega
    have hel : cur[j] = l[j] := by
     have h1 := congrArg (fun z => z[0]?) hdj.out
     simp only [List.getElem?_drop, Nat.add_zero] at h1
     rw [List.getElem?_eq_getElem hjc, List.getElem?_eq_getElem hlt] at h1
     exact Option.some.inj h1
    obtain ⟨mb, moff, ha', c0, c1, c2, c3, c4⟩ := hsac.tmdC hjc
    cases ha'
    rw [Nat.zero_add] at c0 c1 c2 c3 c4
    rw [hel] at c0 c1 c2 c3 c4
    have Hf : Hid ((l.take (j + 1)).filter (fun x => !q x) = (l.take j).filter (fun x => !q x) ++ if q l[j] then [] else [l[j]]) := by
     show _ = _
     rw [List.take_succ_eq_append_getElem hlt, List.filter_append]
     cases hq0 : q l[j] <;> simp [hq0]
    have HCx := fun W' hW => HC.out W' l[j] (List.getElem_mem hlt) hW
    have Hdj : Hid (cur.drop (j + 1) = l.drop (j + 1)) := by
     show _ = _
     have h1 := congrArg (fun z => z.drop 1) hdj.out
     simpa [List.drop_drop, Nat.add_comm] using h1
    generalize l[j] = x at *
    obtain ⟨x1, x2, x3, x4, x5⟩ := x
    simp only at c0 c1 c2 c3 c4 HCx
    have HCy := Lib.hid (HCx _ (hkp.alloc (.cells #[.string x1, .string x2, .string x3, .int .i64 x4, .int .i64 x5] 86)))
    have hown1 := hown.alloc (.cells #[.string x1, .string x2, .string x3, .int .i64 x4, .int .i64 x5] 86)
    have hkp1 := hkp.alloc (.cells #[.string x1, .string x2, .string x3, .int .i64 x4, .int .i64 x5] 86)
    have hbx1 := Box.new wr 86 #[.string x1, .string x2, .string x3, .int .i64 x4, .int .i64 x5]
    have hj1 : (0 : Int) ≤ (j : Int) := by omega
    have hj2 : (j : Int) < (l.length : Int) := by omega
    have hi1 : (0 : Int) ≤ (i : Int) := by omega
    have hi2 : (i : Int) < (l.length : Int) := by omega
    clear HCx hel hown hkp hsac hdj
    cases hqx : q ((x1, x2, x3, x4, x5) : Tmd)
    ·
     rw [hqx] at HCy Hf
     go_upto_region 9 with (go_at_fn g; refine HCy.out.mono ?_; rintro e w2 ⟨rfl, hb2⟩)
     have hown2 := hown1.below hb2
     have hkp2 := hkp1.trans (Kp.of_below hb2)
     have hbx2 := hbx1.below hb2
     have hz2 := hb2.size
     simp at hz2
     have hsac2 : SA w2 (some ⟨gs, 0, none⟩) cur := by obtain ⟨a', c', he, hh, _⟩ := hown2.sa; simp only [Value.slice.injEq] at he; rw [he.1]; exact hh
     obtain ⟨mb, moff, ha', d0, d1, d2, d3, d4⟩ := hsac2.tmdC hic
     cases ha'
     rw [Nat.zero_add] at d0 d1 d2 d3 d4
     obtain ⟨cr, hbxo⟩ := hown2.box
     have hfr0 := hbxo.frozen (i * 5)
     have hfr1 := hbxo.frozen (i * 5 + 1)
     have hfr2 := hbxo.frozen (i * 5 + 2)
     have hfr3 := hbxo.frozen (i * 5 + 3)
     have hfr4 := hbxo.frozen (i * 5 + 4)
     have hput1 := hown2.put i 0 ((x1, cur[i].2.1, cur[i].2.2.1, cur[i].2.2.2.1, cur[i].2.2.2.2) : Tmd) (.string x1) hic (by decide) rfl
     have hput2 := hput1.put i 1 ((x1, x2, cur[i].2.2.1, cur[i].2.2.2.1, cur[i].2.2.2.2) : Tmd) (.string x2) (by rw [List.length_set]; exact hic) (by decide) (by rw [List.getElem_set_self]; rfl)
     have hput3 := hput2.put i 2 ((x1, x2, x3, cur[i].2.2.2.1, cur[i].2.2.2.2) : Tmd) (.string x3) (by rw [List.length_set, List.length_set]; exact hic) (by decide) (by rw [List.getElem_set_self]; rfl)
     have hput4 := hput3.put i 3 ((x1, x2, x3, x4, cur[i].2.2.2.2) : Tmd) (.int .i64 x4) (by rw [List.length_set, List.length_set, List.length_set]; exact hic) (by decide) (by rw [List.getElem_set_self]; rfl)
     have hput5 := hput4.put i 4 ((x1, x2, x3, x4, x5) : Tmd) (.int .i64 x5) (by rw [List.length_set, List.length_set, List.length_set, List.length_set]; exact hic) (by decide) (by rw [List.getElem_set_self]; rfl)
     rw [List.set_set, List.set_set, List.set_set, List.set_set, show i * Cel.k Tmd + 0 = i * 5 from rfl, show i * Cel.k Tmd + 1 = i * 5 + 1 from rfl, show i * Cel.k Tmd + 2 = i * 5 + 2 from rfl, show i * Cel.k Tmd + 3 = i * 5 + 3 from rfl, show i * Cel.k Tmd + 4 = i * 5 + 4 from rfl] at hput5
     have hkp3 := (((((hkp2.setCell (p := ⟨gs, i * 5, none⟩) (.inl rfl) (.string x1)).setCell (p := ⟨gs, i * 5 + 1, none⟩) (.inl rfl) (.string x2)).setCell (p := ⟨gs, i * 5 + 2, none⟩) (.inl rfl) (.string x3)).setCell (p := ⟨gs, i * 5 + 3, none⟩) (.inl rfl) (.int .i64 x4)).setCell (p := ⟨gs, i * 5 + 4, none⟩) (.inl rfl) (.int .i64 x5))
     have Hti : Hid ((cur.set i ((x1, x2, x3, x4, x5) : Tmd)).take (i + 1) = (l.take (j + 1)).filter (fun x => !q x)) := by
      show _ = _
      rw [take_set_succT _ _ _ hic, hti.out, Hf.out]; simp
     have Hdj2 : Hid ((cur.set i ((x1, x2, x3, x4, x5) : Tmd)).drop (j + 1) = l.drop (j + 1)) := by
      show _ = _
      rw [drop_set_ltT _ _ _ _ (by omega)]; exact Hdj.out
     have hcl3 : (cur.set i ((x1, x2, x3, x4, x5) : Tmd)).length = l.length := by rw [List.length_set]; exact hcl
     have hgw3 : gs < (((((w2.setCell ⟨gs, i * 5, none⟩ (.string x1)).setCell ⟨gs, i * 5 + 1, none⟩ (.string x2)).setCell ⟨gs, i * 5 + 2, none⟩ (.string x3)).setCell ⟨gs, i * 5 + 3, none⟩ (.int .i64 x4)).setCell ⟨gs, i * 5 + 4, none⟩ (.int .i64 x5)).heap.size := by simp; omega
     generalize cur.set i ((x1, x2, x3, x4, x5) : Tmd) = cur3 at *
     generalize cur[i] = old at *
     have hne2 : wr.heap.size ≠ gs := by omega
     clear hput1 hput2 hput3 hput4 hown2 hkp2 hsac2 hbxo hti hcl hown1 hkp1 hbx1
     have hbx2_l := hbx2.lt; have hbx2_0 := hbx2.cell 0; have hbx2_1 := hbx2.cell 1; have hbx2_2 := hbx2.cell 2; have hbx2_3 := hbx2.cell 3; have hbx2_4 := hbx2.cell 4; simp at hbx2_0 hbx2_1 hbx2_2 hbx2_3 hbx2_4
     go_wp2_with fail
     go_roundg (l.length - (j + 1))
     case measure => omega
     case rel => exact ⟨i + 1, j + 1, cur3, by go_num, by go_num, by omega, by omega, Nat.le_refl _, hcl3, Hti, Hdj2, hput5, hkp3, hgw3⟩
    ·
     rw [hqx] at HCy Hf
     go_wp2_with (go_at_fn g; refine HCy.out.mono ?_; rintro e w2 ⟨rfl, hb2⟩)
     go_roundg (l.length - (j + 1))
     case measure => omega
     case rel => exact ⟨i, j + 1, cur, rfl, by go_num, by omega, by omega, Nat.le_refl _, hcl, by show _ = _; rw [hti.out, Hf.out]; simp, Hdj, hown1.below hb2, hkp1.trans (Kp.of_below hb2), by have := hb2.size; simp at this; omega⟩
   ·
    obtain rfl : j = l.length := by omega
    rw [List.take_length] at hti
    have hil : i < cur.length := by omega
    have hsome : ∀ t, t < cur.length * 5 → (wr.cell? ⟨gs, t, none⟩).isSome = true := fun t ht => by
     obtain ⟨mb, moff, ha', d0, d1, d2, d3, d4⟩ := hsac.tmdC (i := t / 5) (by omega)
     cases ha'
     rw [Nat.zero_add] at d0 d1 d2 d3 d4
     rcases (show t % 5 = 0 ∨ t % 5 = 1 ∨ t % 5 = 2 ∨ t % 5 = 3 ∨ t % 5 = 4 by omega) with h | h | h | h | h
     ·
      rw [show t = t / 5 * 5 by omega, d0]; rfl
     ·
      rw [show t = t / 5 * 5 + 1 by omega, d1]; rfl
     ·
      rw [show t = t / 5 * 5 + 2 by omega, d2]; rfl
     ·
      rw [show t = t / 5 * 5 + 3 by omega, d3]; rfl
     ·
      rw [show t = t / 5 * 5 + 4 by omega, d4]; rfl
    obtain ⟨cr, hbxo⟩ := hown.box
    obtain ⟨vs, hvl, hclr⟩ := run_clear_tmd wr gs (i * 5) (l.length - i) (cap - i) (by omega) (fun t ht => hsome _ (by omega)) (fun t ht => hbxo.frozen _)
    have hSA : Own base 86 (wr.setCells gs (i * 5) vs) (.slice (some ⟨gs, 0, none⟩) (l.filter (fun x => !q x)).length cap) (l.filter (fun x => !q x)) := by
     rw [← hti.out]
     refine Own.turnedN hown (fun c0 h0 => h0.sets vs (i * 5)) (by rw [List.length_take]; omega) (fun t jj x hx hj' => ?_)
     rw [List.getElem?_take] at hx
     have hti' : t < i := by
      by_cases h : t < i
      ·
       exact h
      ·
       rw [if_neg h] at hx; cases hx
     rw [if_pos hti'] at hx
     have hjj : jj < 5 := hj'
     rw [World.cell?_setCells_out gs vs (i * 5) wr _ (fun _ _ => .inl (by show 0 + (t * 5 + jj) < i * 5; omega))]
     rcases hsac with h | ⟨b', off', he, hh⟩
     ·
      rw [h] at hil; simp at hil
     ·
      cases he; exact hh t jj x hx hj'
    have hKP : Kp (fun k => (Value.slice (some ⟨gs, 0, none⟩) l.length cap).ownBlock = some k) w (wr.setCells gs (i * 5) vs) := by
     have : ∀ (vs : List Value) (o : Nat) (W : World), Kp (fun k => (Value.slice (some ⟨gs, 0, none⟩) l.length cap).ownBlock = some k) w W → Kp (fun k => (Value.slice (some ⟨gs, 0, none⟩) l.length cap).ownBlock = some k) w (W.setCells gs o vs) := by
      intro vs
      induction vs with
      | nil => intro o W h; exact h
      | cons v r ih => intro o W h; exact ih _ _ (h.setCell (p := ⟨gs, o, none⟩) (.inl rfl) v)
     exact this vs _ _ hkp
    have Hil : Hid ((l.filter (fun x => !q x)).length = i) := by
     show _ = _
     rw [← hti.out, List.length_take]; omega
    have hi1 : (0 : Int) ≤ (i : Int) := by omega
    have hi2 : (i : Int) < (l.length : Int) := by omega
    have HSA := Lib.hid hSA
    have HKP := Lib.hid hKP
    clear hlt hdj hgk hsome hbxo hsac hown hSA hKP hkp hil hti hcl
    go_wp2_with fail
    go_ret
    exact ⟨.slice (some ⟨gs, 0, none⟩) (l.filter (fun x => !q x)).length cap, by rw [Hil.out] <;> rfl, HSA.out, fun j hj => hj, HKP.out⟩
 ·
  have hfl : l.filter (fun x => !q x) = l := by
   have := filter_take_allT (fun x => !q x) l l.length (fun j hj hl' => by rw [hfirst j (by omega) hl']; rfl)
   rwa [List.take_length] at this
  rw [if_neg hk] at HI
  rw [hfl]
  clear hc hq hfirst hfl hk hsa hcap
  have hsaH := Lib.hid (fun W (h : Below w.heap.size w W) => hown.below h)
  clear hown
  go_enter Tryz.func94, Tryz.ntmps94
  go_wp2_with fail
  refine HI.out.mono ?_
  rintro e w1 ⟨rfl, hb1⟩
  go_wp2_with fail
  go_ret
  exact ⟨_, rfl, hsaH.out _ hb1, fun j hj => hj, Kp.of_below hb1⟩
end Go.Proofs.YthnbcdgbpofnjaaGreatDoor
