/- Clashes: how they lie, how they are sorted. Written by gen/src/sortst.py. -/
import Derived.Test.YtldgphhiajhfhaaGreatDoorTotC
import Derived.Test.YtldgphhiajhfhaaGreatDoorSortW
import Derived.Test.YtldgphhiajhfhaaGreatDoorCmpF
import Derived.Test.YtldgphhiajhfhaaGreatDoorSortL
import Derived.Test.YtldgphhiajhfhaaGreatDoorRegF
import Derived.Shelf.SlSortCmp.WholeK
namespace Go.Proofs.YtldgphhiajhfhaaGreatDoor
open Go.RowKit Go.Sort
set_option linter.unusedVariables false
set_option linter.unusedSimpArgs false

theorem TotC.flip {α : Type} {c : α → α → Int} (h : TotC c) : TotC (fun x y => c y x) := ⟨fun x y => h.neg y x, fun x y z h1 h2 => h.trans z y x h2 h1⟩
/-- Two papers at one time, and how many want to hear both. -/
abbrev Clh := ByteArray × ByteArray × Int
instance instCelClh : Cel Clh := ⟨3, fun t => [.string t.1, .string t.2.1, .int .i64 t.2.2], fun _ => rfl, by decide, by simp [Value.oneCell']⟩
theorem SA.clhC {w : World} {a : Option Addr} {l : List Clh} (h : SA w a l) {i : Nat} (hi : i < l.length) :
  ∃ b off, a = some ⟨b, off, none⟩ ∧ w.cell? ⟨b, off + i * 3, none⟩ = some (.string l[i].1) ∧ w.cell? ⟨b, off + i * 3 + 1, none⟩ = some (.string l[i].2.1) ∧ w.cell? ⟨b, off + i * 3 + 2, none⟩ = some (.int .i64 l[i].2.2) := by
 obtain ⟨b, off, ha, hc⟩ := h.at hi
 exact ⟨b, off, ha, hc 0 (by decide), hc 1 (by decide), hc 2 (by decide)⟩
def cmpClh (x y : Clh) : Int := firstOf [Lib.compareInt y.2.2 x.2.2, cmpS x.1 y.1, cmpS x.2.1 y.2.1]
theorem totC_Clh : TotC cmpClh := by
 have h := (totC_int.flip.pull (fun x : Clh => x.2.2)).lex ((totC_S.pull (fun x : Clh => x.1)).lex ((totC_S.pull (fun x : Clh => x.2.1)).lex (d := fun _ _ => 0) ⟨fun _ _ => by omega, fun _ _ _ _ _ => Int.le_refl _⟩))
 exact h
theorem swoClh : SWO (ltOf cmpClh) := totC_Clh.swo
instance instInhClh : Inhabited Clh := ⟨(⟨#[]⟩, ⟨#[]⟩, 0)⟩
/-- As slices.SortFunc puts them. -/
noncomputable def sortClh (l : List Clh) : List Clh := (pdq (ltOf cmpClh) l.toArray 0 l.length (Lib.bitLen l.length) true true).toList
theorem sortClh_len (l : List Clh) : (sortClh l).length = l.length := by
 have h := (pdq_sorts (ltOf cmpClh) swoClh l.toArray 0 l.length (Lib.bitLen l.length) true true (Nat.zero_le _) (by rw [List.size_toArray]; exact Nat.le_refl _) (Or.inl rfl)).1.1
 unfold sortClh
 rw [Array.length_toList, h, List.size_toArray]
theorem sortClh_nil : sortClh [] = [] := List.length_eq_zero_iff.1 (sortClh_len [])
def encClh (x : Clh) : Value := .agg #[.string x.1, .string x.2.1, .int .i64 x.2.2]
set_option maxRecDepth 100000 in
set_option maxHeartbeats 2000000 in
theorem clashesClo_any (x y : Clh) (w : World) : Calls Tryz.prog 144 #[encClh x, encClh y] w (fun e w' => e = .returned (.int .i64 (cmpClh x y)) ∧ Grw w w') := by
 obtain ⟨x1, x2, x3⟩ := x
 obtain ⟨y1, y2, y3⟩ := y
 have HC : Hid (cmpClh (x1, x2, x3) (y1, y2, y3) = firstOf [Lib.compareInt y3 x3, cmpS x1 y1, cmpS x2 y2]) := rfl
 have HI0 := Lib.hid (fun W => Tryz.cmp_Compare_int y3 x3 W)
 have HI1 : Hid (∀ W', Calls Tryz.prog 96 #[.string x1, .string y1] W' (fun e w' => e = .returned (.int .i64 (cmpS x1 y1)) ∧ w' = W')) := fun W' => Tryz.strings_Compare x1 y1 W'
 have HI2 : Hid (∀ W', Calls Tryz.prog 96 #[.string x2, .string y2] W' (fun e w' => e = .returned (.int .i64 (cmpS x2 y2)) ∧ w' = W')) := fun W' => Tryz.strings_Compare x2 y2 W'
 generalize cmpClh (x1, x2, x3) (y1, y2, y3) = z at *
 generalize Lib.compareInt y3 x3 = c1 at *
 generalize cmpS x1 y1 = c2 at *
 generalize cmpS x2 y2 = c3 at *
 have hX := (Box.new w 156 #[.string x1, .string x2, .int .i64 x3]).alloc (.cells #[.string y1, .string y2, .int .i64 y3] 156)
 have hY := Box.newAt (w.alloc (.cells #[.string x1, .string x2, .int .i64 x3] 156)) (w.heap.size + 1) 156 #[.string y1, .string y2, .int .i64 y3] (by simp)
 unfold encClh
 go_enter Tryz.func144, Tryz.ntmps144
 go_upto_region 1 with (fail)
 have hG : Grw w ((w.alloc (.cells #[.string x1, .string x2, .int .i64 x3] 156)).alloc (.cells #[.string y1, .string y2, .int .i64 y3] 156)) := ((Grw.refl _).alloc _).alloc _
 generalize (w.alloc (.cells #[.string x1, .string x2, .int .i64 x3] 156)).alloc (.cells #[.string y1, .string y2, .int .i64 y3] 156) = W at *
 have hX_l := hX.lt; have hX_0 := hX.cell 0; have hX_1 := hX.cell 1; have hX_2 := hX.cell 2; simp at hX_0 hX_1 hX_2
 have hY_l := hY.lt; have hY_0 := hY.cell 0; have hY_1 := hY.cell 1; have hY_2 := hY.cell 2; simp at hY_0 hY_1 hY_2
 refine wp_region_held_drew (S := (fun wx => wx.cell? ⟨w.heap.size, 0, none⟩ = some (.string x1) ∧ wx.cell? ⟨w.heap.size, 1, none⟩ = some (.string x2) ∧ wx.cell? ⟨w.heap.size, 2, none⟩ = some (.int .i64 x3) ∧ wx.cell? ⟨w.heap.size + 1, 0, none⟩ = some (.string y1) ∧ wx.cell? ⟨w.heap.size + 1, 1, none⟩ = some (.string y2) ∧ wx.cell? ⟨w.heap.size + 1, 2, none⟩ = some (.int .i64 y3) ∧ Grw W wx)) (by kernel_rfl) ?hS (fun hHeld => ?_)
 case hS => exact ⟨hX_0, hX_1, hX_2, hY_0, hY_1, hY_2, (Grw.refl _).drew⟩
 refine rt 0 (some 5) ?_
 refine rt 1 (some 6) ?_
 refine rt 2 (some 7) ?_
 refine rt 3 (some 8) ?_
 refine rt 5 (some 10) ?_
 refine rt 6 (some 11) ?_
 refine rt 7 (some 12) ?_
 refine rt 8 (some 13) ?_
 refine rt 10 (some 15) ?_
 refine rt 11 (some 16) ?_
 refine rt 12 (some 17) ?_
 refine rt 13 (some 18) ?_
 refine rcall (i := 4) (d := (some 9)) (by kernel_rfl) rfl (by kernel_rfl) (fun K hK => ?_)
 go_simp
 go_at_call 145; refine (HI0.out _).mono ?_; rintro e w' ⟨rfl, rfl⟩
 refine hK.out _ _ ?hS (fun hHeld => ?_)
 case hS => exact hHeld
 clear hK K
 simp only [Act.put, lsetA, lsetZ, lsetS]
 refine rcall (i := 9) (d := (some 14)) (by kernel_rfl) rfl (by kernel_rfl) (fun K hK => ?_)
 go_simp
 go_at_call 96; refine (HI1.out _).mono ?_; rintro e w' ⟨rfl, rfl⟩
 refine hK.out _ _ ?hS (fun hHeld => ?_)
 case hS => exact hHeld
 clear hK K
 simp only [Act.put, lsetA, lsetZ, lsetS]
 refine rcall (i := 14) (d := (some 19)) (by kernel_rfl) rfl (by kernel_rfl) (fun K hK => ?_)
 go_simp
 go_at_call 96; refine (HI2.out _).mono ?_; rintro e w' ⟨rfl, rfl⟩
 refine hK.out _ _ ?hS (fun hHeld => ?_)
 case hS => exact hHeld
 clear hK K
 simp only [Act.put, lsetA, lsetZ, lsetS]
 refine rcall (i := 15) (d := (some 20)) (by kernel_rfl) rfl (by kernel_rfl) (fun K hK => ?_)
 go_simp
 skip
 refine hK.out _ _ ?hS (fun hHeld => ?_)
 case hS => exact (have hA : ∀ (w : World) (o : Obj), Grw w (w.alloc o) := fun w o => (Grw.refl _).alloc o; ⟨cell_later (hA _ _).1 hHeld.1, cell_later (hA _ _).1 hHeld.2.1, cell_later (hA _ _).1 hHeld.2.2.1, cell_later (hA _ _).1 hHeld.2.2.2.1, cell_later (hA _ _).1 hHeld.2.2.2.2.1, cell_later (hA _ _).1 hHeld.2.2.2.2.2.1, hHeld.2.2.2.2.2.2.trans (hA _ _)⟩)
 clear hK K
 simp only [Act.put, lsetA, lsetZ, lsetS]
 refine rcall (i := 16) (d := (some 21)) (by kernel_rfl) rfl (by kernel_rfl) (fun K hK => ?_)
 go_simp
 go_at_call 95; refine (orI_any [c1, c2, c3] _ 3 _ (Box.sa (by first | exact Box.new _ _ _ | exact (Box.new _ _ _).drew) [c1, c2, c3] rfl) (by simp)).mono ?_; rintro e w' ⟨rfl, rfl⟩
 refine hK.out _ _ ?hS (fun hHeld => ?_)
 case hS => exact hHeld
 clear hK K
 simp only [Act.put, lsetA, lsetZ, lsetS]
 refine rt 17 (some 4) ?_
 refine wpAnyH_done (by kernel_rfl) ?_ _
 have hbF := hG.trans hHeld.2.2.2.2.2.2
 go_wp2_with fail
 go_ret
 exact ⟨by rw [HC.out] <;> rfl, hbF⟩
set_option maxRecDepth 100000 in
set_option maxHeartbeats 2000000 in
theorem clashesOfClo_any (x y : Clh) (w : World) : Calls Tryz.prog 150 #[encClh x, encClh y] w (fun e w' => e = .returned (.int .i64 (cmpClh x y)) ∧ Grw w w') := by
 obtain ⟨x1, x2, x3⟩ := x
 obtain ⟨y1, y2, y3⟩ := y
 have HC : Hid (cmpClh (x1, x2, x3) (y1, y2, y3) = firstOf [Lib.compareInt y3 x3, cmpS x1 y1, cmpS x2 y2]) := rfl
 have HI0 := Lib.hid (fun W => Tryz.cmp_Compare_int y3 x3 W)
 have HI1 : Hid (∀ W', Calls Tryz.prog 96 #[.string x1, .string y1] W' (fun e w' => e = .returned (.int .i64 (cmpS x1 y1)) ∧ w' = W')) := fun W' => Tryz.strings_Compare x1 y1 W'
 have HI2 : Hid (∀ W', Calls Tryz.prog 96 #[.string x2, .string y2] W' (fun e w' => e = .returned (.int .i64 (cmpS x2 y2)) ∧ w' = W')) := fun W' => Tryz.strings_Compare x2 y2 W'
 generalize cmpClh (x1, x2, x3) (y1, y2, y3) = z at *
 generalize Lib.compareInt y3 x3 = c1 at *
 generalize cmpS x1 y1 = c2 at *
 generalize cmpS x2 y2 = c3 at *
 have hX := (Box.new w 156 #[.string x1, .string x2, .int .i64 x3]).alloc (.cells #[.string y1, .string y2, .int .i64 y3] 156)
 have hY := Box.newAt (w.alloc (.cells #[.string x1, .string x2, .int .i64 x3] 156)) (w.heap.size + 1) 156 #[.string y1, .string y2, .int .i64 y3] (by simp)
 unfold encClh
 go_enter Tryz.func150, Tryz.ntmps150
 go_upto_region 1 with (fail)
 have hG : Grw w ((w.alloc (.cells #[.string x1, .string x2, .int .i64 x3] 156)).alloc (.cells #[.string y1, .string y2, .int .i64 y3] 156)) := ((Grw.refl _).alloc _).alloc _
 generalize (w.alloc (.cells #[.string x1, .string x2, .int .i64 x3] 156)).alloc (.cells #[.string y1, .string y2, .int .i64 y3] 156) = W at *
 have hX_l := hX.lt; have hX_0 := hX.cell 0; have hX_1 := hX.cell 1; have hX_2 := hX.cell 2; simp at hX_0 hX_1 hX_2
 have hY_l := hY.lt; have hY_0 := hY.cell 0; have hY_1 := hY.cell 1; have hY_2 := hY.cell 2; simp at hY_0 hY_1 hY_2
 refine wp_region_held_drew (S := (fun wx => wx.cell? ⟨w.heap.size, 0, none⟩ = some (.string x1) ∧ wx.cell? ⟨w.heap.size, 1, none⟩ = some (.string x2) ∧ wx.cell? ⟨w.heap.size, 2, none⟩ = some (.int .i64 x3) ∧ wx.cell? ⟨w.heap.size + 1, 0, none⟩ = some (.string y1) ∧ wx.cell? ⟨w.heap.size + 1, 1, none⟩ = some (.string y2) ∧ wx.cell? ⟨w.heap.size + 1, 2, none⟩ = some (.int .i64 y3) ∧ Grw W wx)) (by kernel_rfl) ?hS (fun hHeld => ?_)
 case hS => exact ⟨hX_0, hX_1, hX_2, hY_0, hY_1, hY_2, (Grw.refl _).drew⟩
 refine rt 0 (some 5) ?_
 refine rt 1 (some 6) ?_
 refine rt 2 (some 7) ?_
 refine rt 3 (some 8) ?_
 refine rt 5 (some 10) ?_
 refine rt 6 (some 11) ?_
 refine rt 7 (some 12) ?_
 refine rt 8 (some 13) ?_
 refine rt 10 (some 15) ?_
 refine rt 11 (some 16) ?_
 refine rt 12 (some 17) ?_
 refine rt 13 (some 18) ?_
 refine rcall (i := 4) (d := (some 9)) (by kernel_rfl) rfl (by kernel_rfl) (fun K hK => ?_)
 go_simp
 go_at_call 145; refine (HI0.out _).mono ?_; rintro e w' ⟨rfl, rfl⟩
 refine hK.out _ _ ?hS (fun hHeld => ?_)
 case hS => exact hHeld
 clear hK K
 simp only [Act.put, lsetA, lsetZ, lsetS]
 refine rcall (i := 9) (d := (some 14)) (by kernel_rfl) rfl (by kernel_rfl) (fun K hK => ?_)
 go_simp
 go_at_call 96; refine (HI1.out _).mono ?_; rintro e w' ⟨rfl, rfl⟩
 refine hK.out _ _ ?hS (fun hHeld => ?_)
 case hS => exact hHeld
 clear hK K
 simp only [Act.put, lsetA, lsetZ, lsetS]
 refine rcall (i := 14) (d := (some 19)) (by kernel_rfl) rfl (by kernel_rfl) (fun K hK => ?_)
 go_simp
 go_at_call 96; refine (HI2.out _).mono ?_; rintro e w' ⟨rfl, rfl⟩
 refine hK.out _ _ ?hS (fun hHeld => ?_)
 case hS => exact hHeld
 clear hK K
 simp only [Act.put, lsetA, lsetZ, lsetS]
 refine rcall (i := 15) (d := (some 20)) (by kernel_rfl) rfl (by kernel_rfl) (fun K hK => ?_)
 go_simp
 skip
 refine hK.out _ _ ?hS (fun hHeld => ?_)
 case hS => exact (have hA : ∀ (w : World) (o : Obj), Grw w (w.alloc o) := fun w o => (Grw.refl _).alloc o; ⟨cell_later (hA _ _).1 hHeld.1, cell_later (hA _ _).1 hHeld.2.1, cell_later (hA _ _).1 hHeld.2.2.1, cell_later (hA _ _).1 hHeld.2.2.2.1, cell_later (hA _ _).1 hHeld.2.2.2.2.1, cell_later (hA _ _).1 hHeld.2.2.2.2.2.1, hHeld.2.2.2.2.2.2.trans (hA _ _)⟩)
 clear hK K
 simp only [Act.put, lsetA, lsetZ, lsetS]
 refine rcall (i := 16) (d := (some 21)) (by kernel_rfl) rfl (by kernel_rfl) (fun K hK => ?_)
 go_simp
 go_at_call 95; refine (orI_any [c1, c2, c3] _ 3 _ (Box.sa (by first | exact Box.new _ _ _ | exact (Box.new _ _ _).drew) [c1, c2, c3] rfl) (by simp)).mono ?_; rintro e w' ⟨rfl, rfl⟩
 refine hK.out _ _ ?hS (fun hHeld => ?_)
 case hS => exact hHeld
 clear hK K
 simp only [Act.put, lsetA, lsetZ, lsetS]
 refine rt 17 (some 4) ?_
 refine wpAnyH_done (by kernel_rfl) ?_ _
 have hbF := hG.trans hHeld.2.2.2.2.2.2
 go_wp2_with fail
 go_ret
 exact ⟨by rw [HC.out] <;> rfl, hbF⟩
set_option maxRecDepth 100000 in
theorem insClhs_nil (a : Option Addr) (cap : Nat) (fv : Value) (w : World) : Calls Tryz.prog 195 #[.slice a 0 cap, .int .i64 0, .int .i64 0, fv] w (fun e w' => e = .returned (.tuple #[]) ∧ w' = w) := by
 go_enter Tryz.func195, Tryz.ntmps195
 go_wp2_with fail
 refine wp_loop_rounds 1 ?_
 rw [rounds_succ]
 go_wp2_with fail
 go_end0
 exact ⟨rfl, rfl⟩
set_option maxRecDepth 100000 in
theorem pdqClhs_nil (a : Option Addr) (cap : Nat) (m : Int) (fv : Value) (w : World) : Calls Tryz.prog 170 #[.slice a 0 cap, .int .i64 0, .int .i64 0, .int .i64 m, fv] w (fun e w' => e = .returned (.tuple #[]) ∧ w' = w) := by
 have HI := Lib.hid (fun W => insClhs_nil a cap fv W)
 go_enter Tryz.func170, Tryz.ntmps170
 go_wp2_with fail
 refine wp_loop_rounds 1 ?_
 rw [rounds_succ]
 go_wp2_with fail
 refine (HI.out _).mono ?_
 rintro e w' ⟨rfl, rfl⟩
 go_wp2_with fail
 (try simp only [Exit.inBlock, Exit.then]); refine bodyPost_ret (results_none rfl _ _ _) rfl ?_
 exact ⟨rfl, rfl⟩
set_option maxRecDepth 100000 in
theorem sortClhs_nil (a : Option Addr) (cap : Nat) (fv : Value) (w : World) : Calls Tryz.prog 143 #[.slice a 0 cap, fv] w (fun e w' => e = .returned (.tuple #[]) ∧ w' = w) := by
 have HI := Lib.hid (fun m W => pdqClhs_nil a cap m fv W)
 have HB := Lib.hid (fun W => Tryz.bits_Len 0 W (by omega) (by omega))
 go_enter Tryz.func143, Tryz.ntmps143
 go_wp2_with fail
 refine (HB.out _).mono ?_
 rintro e w' ⟨rfl, rfl⟩
 go_wp2_with fail
 refine (HI.out _ _).mono ?_
 rintro e w' ⟨rfl, rfl⟩
 go_wp2_with fail
 go_end0
 exact ⟨rfl, rfl⟩
theorem sortClhs_any (base : Nat) (l : List Clh) (v : Value) (w : World) (g : Nat) (eg : ∀ args w, (callFunc g args).run Tryz.prog w = .ok (.enter g args) w) (hc : ∀ x y W, Calls Tryz.prog g #[encClh x, encClh y] W (fun e w' => e = .returned (.int .i64 (cmpClh x y)) ∧ Grw W w'))
  (h : Own base 156 w v l) (hl : l.length ≤ 100000000) :
  Calls Tryz.prog 143 #[v, .func (.func g) #[] #[]] w (fun e w' => e = .returned (.tuple #[]) ∧ Own base 156 w' v (sortClh l) ∧ Kp (fun j => v.ownBlock = some j) w w') := by
 by_cases hn : l = []
 ·
  subst hn
  obtain ⟨a, cap, rfl, _⟩ := h.form
  refine (sortClhs_nil a cap _ w).mono ?_
  rintro e w' ⟨rfl, rfl⟩
  rw [sortClh_nil]
  exact ⟨rfl, h, Kp.refl _ _⟩
 ·
  obtain ⟨a, cap, rfl, hsa, hab⟩ := h.form
  rcases hsa with hsa | ⟨b, off, rfl, hA⟩
  ·
   exact absurd hsa hn
  have hob : off = 0 := by
   rcases hab with ⟨h1 | ⟨b2, h1, -⟩, -⟩
   ·
    cases h1
   ·
    exact congrArg (·.off) (Option.some.inj h1)
  subst hob
  obtain ⟨cur, hbox⟩ := h.box
  have hH := holdsK_of (fun x : Clh => x) l hbox (by rw [List.map_id']; exact hA)
  have hcon := AnyQ.slices_SortFunc_eq Tryz.sort_Clash 3 Tryz.isAgg156 Tryz.sizeOf156 (fun x : Clh => Cel.cells x) (fun x => Cel.len _) (fun x => Cel.one _) cmpClh swoClh g #[] b 0 cap l.toArray w eg
   (fun m os dk hs x y => (hc x y _).mono fun e w' ⟨h1, h2⟩ => ⟨h1, h2.grown⟩) hH hbox.lt (by rw [List.size_toArray]; omega)
  rw [List.size_toArray] at hcon
  refine hcon.mono ?_
  rintro e w' ⟨rfl, n, os, rfl⟩
  refine ⟨rfl, ?_, (kp_sortK _ _ _ _ _ _ _).mono (fun k hk => .inl (by rw [hk]; rfl))⟩
  have hlen := sortClh_len l
  have hd := holdsK_sortWorldK_c (fun x : Clh => Cel.cells x) 3 w b 0 _ (pdq (ltOf cmpClh) l.toArray 0 l.length (Lib.bitLen l.length) true true) n os hH hbox.lt (by unfold sortClh at hlen; rw [Array.length_toList] at hlen; rw [hlen, List.size_toArray])
  have hsa := arr_of_holdsK (fun x : Clh => x) hd
  rw [List.map_id'] at hsa
  exact h.turned (fun cur hb => box_sortK hb _ _ _ _ _) hlen hsa
end Go.Proofs.YtldgphhiajhfhaaGreatDoor
