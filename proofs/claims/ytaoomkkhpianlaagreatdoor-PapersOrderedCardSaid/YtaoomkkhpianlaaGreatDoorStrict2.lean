/- How strict people are: beyond, Strict of the program. -/
import Derived.Test.YtaoomkkhpianlaaGreatDoorStrict1
import Derived.Test.YtaoomkkhpianlaaGreatDoorAgree3
namespace Go.Proofs.YtaoomkkhpianlaaGreatDoor
open Go.RowKit Go.Sort
set_option linter.unusedVariables false
set_option linter.unusedSimpArgs false

/-- What beyond gives. -/
def beyV (l : List Mark) (m : Mark) : Value := if 1 < (ofP l m.1).length then .tuple #[.agg #[.int .i64 (beyN l m), .int .i64 (beyD l m)], .bool true] else .tuple #[.agg #[.int .i64 0, .int .i64 0], .bool false]
set_option maxHeartbeats 1000000 in
theorem beyond_any (sb b1 b2 base : Nat) (a : Option Addr) (cap : Nat) (l : List Mark) (es1 es2 : List (ByteArray × Value)) (w : World) (hst : ShSt sb b1 b2 base a l.length cap l l es1 es2 w) (h0 : marksFault l = 0) (x1 x2 : ByteArray) (x3 : Int) (hm : ((x1, x2, x3) : Mark) ∈ l) :
    Calls Tryz.prog 78 #[.pointer (some ⟨sb, 0, none⟩), .agg #[.string x1, .string x2, .int .i64 x3]] w (Gives (beyV l (x1, x2, x3)) w) := by
  have hst1 := hst.below (w' := ((w.alloc (.cells #[.string x1, .string x2, .int .i64 x3] 54)).alloc (.cells #[.int .i64 0, .int .i64 0] 30)).drew) (by (repeat' (first | exact Below.refl _ _ | assumption | refine Below.setCell ?_ ?_ _ | refine below_drewN ?_ _ | refine Below.drew ?_ | refine Below.alloc ?_ ?_ _ | (with_reducible refine Below.trans ?_ (Below.mono hb ?_)) | (with_reducible refine Below.trans ?_ (Below.mono hb0 ?_)) | (with_reducible refine Below.trans ?_ (Below.mono hb1 ?_)) | (with_reducible refine Below.trans ?_ (Below.mono hb2 ?_)) | (with_reducible refine Below.trans ?_ (Below.mono hb3 ?_)) | (with_reducible refine Below.trans ?_ (Below.mono hb4 ?_)) | (with_reducible refine Below.trans ?_ (Below.mono hb5 ?_)) | (with_reducible refine Below.trans ?_ (Below.mono hb6 ?_)) | (with_reducible refine Below.trans ?_ (Below.mono hb7 ?_)) | (with_reducible refine Below.trans ?_ (Below.mono hb8 ?_)) | (with_reducible refine Below.trans ?_ (Below.mono hb9 ?_)) | (with_reducible refine Below.trans ?_ (Below.mono hb10 ?_)) | (with_reducible refine Below.trans ?_ (Below.mono hb11 ?_)) | (with_reducible refine Below.trans ?_ (Below.mono hb12 ?_)) | (with_reducible refine Below.trans ?_ (Below.mono hb13 ?_)) | (with_reducible refine Below.trans ?_ (Below.mono hb14 ?_)) | (with_reducible refine Below.trans ?_ (Below.mono hb15 ?_)) | omega | (simp; done) | (simp; omega))))
  have hS := hst1.box
  have hval := hst1.one.vals x1
  have hlk := hst1.one.look x1
  obtain ⟨av, capv, hv, hsav, _, _⟩ := hval.sa
  rw [hv] at hlk
  have hok := fault_scores h0
  have h12 := paper_few h0 x1
  have hms : ((x1, x2, x3) : Mark) ∈ ofP l x1 := ofP_mem.2 ⟨hm, rfl⟩
  have hpos := List.length_pos_of_mem hms
  have hoks : okScores (ofP l x1) := okScores_sel (f := fun x => x.1) (p := x1) hok
  have ho := others_bd hoks hms
  have hx := hok _ hm
  have HB := Lib.hid (fun h => bey_bd h0 hm h)
  have HV := Lib.hid (show beyV l (x1, x2, x3) = if 1 < (ofP l x1).length then .tuple #[.agg #[.int .i64 (lowN (beyT l (x1, x2, x3)) (((ofP l x1).length : Int) - 1)), .int .i64 (lowD (beyT l (x1, x2, x3)) (((ofP l x1).length : Int) - 1))], .bool true] else .tuple #[.agg #[.int .i64 0, .int .i64 0], .bool false] from rfl)
  have HT := Lib.hid (show beyT l (x1, x2, x3) = x3 * (((ofP l x1).length : Int) - 1) - (sum1 (ofP l x1) - x3) from rfl)
  simp only at hx ho
  generalize hbv : beyV l (x1, x2, x3) = bv at *
  generalize beyT l (x1, x2, x3) = bt at *
  have hT := ((Box.new w 54 #[.string x1, .string x2, .int .i64 x3]).alloc (.cells #[.int .i64 0, .int .i64 0] 30)).drew
  have hR := (Box.newAt (w.alloc (.cells #[.string x1, .string x2, .int .i64 x3] 54)) (w.heap.size + 1) 30 #[.int .i64 0, .int .i64 0] (by simp)).drew
  have hb0 : Below w.heap.size w ((w.alloc (.cells #[.string x1, .string x2, .int .i64 x3] 54)).alloc (.cells #[.int .i64 0, .int .i64 0] 30)).drew := by (repeat' (first | exact Below.refl _ _ | assumption | refine Below.setCell ?_ ?_ _ | refine below_drewN ?_ _ | refine Below.drew ?_ | refine Below.alloc ?_ ?_ _ | (with_reducible refine Below.trans ?_ (Below.mono hb ?_)) | (with_reducible refine Below.trans ?_ (Below.mono hb0 ?_)) | (with_reducible refine Below.trans ?_ (Below.mono hb1 ?_)) | (with_reducible refine Below.trans ?_ (Below.mono hb2 ?_)) | (with_reducible refine Below.trans ?_ (Below.mono hb3 ?_)) | (with_reducible refine Below.trans ?_ (Below.mono hb4 ?_)) | (with_reducible refine Below.trans ?_ (Below.mono hb5 ?_)) | (with_reducible refine Below.trans ?_ (Below.mono hb6 ?_)) | (with_reducible refine Below.trans ?_ (Below.mono hb7 ?_)) | (with_reducible refine Below.trans ?_ (Below.mono hb8 ?_)) | (with_reducible refine Below.trans ?_ (Below.mono hb9 ?_)) | (with_reducible refine Below.trans ?_ (Below.mono hb10 ?_)) | (with_reducible refine Below.trans ?_ (Below.mono hb11 ?_)) | (with_reducible refine Below.trans ?_ (Below.mono hb12 ?_)) | (with_reducible refine Below.trans ?_ (Below.mono hb13 ?_)) | (with_reducible refine Below.trans ?_ (Below.mono hb14 ?_)) | (with_reducible refine Below.trans ?_ (Below.mono hb15 ?_)) | omega | (simp; done) | (simp; omega)))
  clear hval hst hst1 hv hms hm hbv h0 hok
  unfold ofP at *
  generalize sel (fun x => x.1) x1 l = ms at *
  go_enter Tryz.func78, Tryz.ntmps78
  go_upto_region 1 with (fail)
  generalize hW : ((w.alloc (.cells #[.string x1, .string x2, .int .i64 x3] 54)).alloc (.cells #[.int .i64 0, .int .i64 0] 30)) = W at *
  clear hW
  have hS_l := hS.lt; have hS_0 := hS.cell 0; have hS_1 := hS.cell 1; have hS_2 := hS.cell 2; simp at hS_0 hS_1 hS_2
  have hT_l := hT.lt; have hT_0 := hT.cell 0; have hT_1 := hT.cell 1; have hT_2 := hT.cell 2; simp at hT_0 hT_1 hT_2
  refine wp_region_held_drew (S := (fun wx => wx.cell? ⟨sb, 1, none⟩ = some (.map (some b1)) ∧ wx.cell? ⟨w.heap.size, 0, none⟩ = some (.string x1) ∧ (Instr.lookup 104 (.map (some b1)) (.string x1) false).run Tryz.prog wx = .ok (.slice av ms.length capv) wx)) (by kernel_rfl) ?hS (fun hHeld => ?_)
  case hS => exact ⟨hS_1, hT_0, hlk⟩
  refine rtake (i := 0) (d := (some 10)) (v := ?_) rfl (by kernel_rfl) (by kernel_rfl) (by kernel_rfl) (by kernel_rfl) (fun _ _ _ h => h) (by kernel_rfl) (by assumption) ?_ ?_
  rotate_left 1
  · (intro wI hSI; (try dsimp only at hSI); go_simp; (try with_reducible rfl))
  simp only [Act.put, List.setIfInBounds_toArray, List.set_cons_zero, List.set_cons_succ]
  refine rtake (i := 1) (d := (some 11)) (v := ?_) rfl (by kernel_rfl) (by kernel_rfl) (by kernel_rfl) (by kernel_rfl) (fun _ _ _ h => h) (by kernel_rfl) (by assumption) ?_ ?_
  rotate_left 1
  · (intro wI hSI; (try dsimp only at hSI); go_simp; (try with_reducible rfl))
  simp only [Act.put, List.setIfInBounds_toArray, List.set_cons_zero, List.set_cons_succ]
  refine rtake (i := 2) (d := (some 12)) (v := ?_) rfl (by kernel_rfl) (by kernel_rfl) (by kernel_rfl) (by kernel_rfl) (fun _ _ _ h => h) (by kernel_rfl) (by assumption) ?_ ?_
  rotate_left 1
  · (intro wI hSI; (try dsimp only at hSI); go_simp; (try with_reducible rfl))
  simp only [Act.put, List.setIfInBounds_toArray, List.set_cons_zero, List.set_cons_succ]
  refine rtake (i := 3) (d := (some 13)) (v := ?_) rfl (by kernel_rfl) (by kernel_rfl) (by kernel_rfl) (by kernel_rfl) (fun _ _ _ h => h) (by kernel_rfl) (by assumption) ?_ ?_
  rotate_left 1
  · (intro wI hSI; (try dsimp only at hSI); go_simp; (try with_reducible rfl))
  simp only [Act.put, List.setIfInBounds_toArray, List.set_cons_zero, List.set_cons_succ]
  refine rtake (i := 4) (d := (some 14)) (v := ?_) rfl (by kernel_rfl) (by kernel_rfl) (by kernel_rfl) (by kernel_rfl) (fun _ _ _ h => h) (by kernel_rfl) (by assumption) ?_ ?_
  rotate_left 1
  · (intro wI hSI; (try dsimp only at hSI); go_simp; (try with_reducible rfl))
  simp only [Act.put, List.setIfInBounds_toArray, List.set_cons_zero, List.set_cons_succ]
  refine rtake (i := 5) (d := (some 15)) (v := ?_) rfl (by kernel_rfl) (by kernel_rfl) (by kernel_rfl) (by kernel_rfl) (fun _ _ _ h => h) (by kernel_rfl) (by assumption) ?_ ?_
  rotate_left 1
  · (intro wI hSI; (try dsimp only at hSI); go_simp; (try with_reducible rfl))
  simp only [Act.put, List.setIfInBounds_toArray, List.set_cons_zero, List.set_cons_succ]
  refine rtake (i := 6) (d := (some 16)) (v := ?_) rfl (by kernel_rfl) (by kernel_rfl) (by kernel_rfl) (by kernel_rfl) (fun _ _ _ h => h) (by kernel_rfl) (by assumption) ?_ ?_
  rotate_left 1
  · (intro wI hSI; (try dsimp only at hSI); go_simp; (try with_reducible rfl))
  simp only [Act.put, List.setIfInBounds_toArray, List.set_cons_zero, List.set_cons_succ]
  refine rtake (i := 7) (d := (some 17)) (v := ?_) rfl (by kernel_rfl) (by kernel_rfl) (by kernel_rfl) (by kernel_rfl) (fun _ _ _ h => h) (by kernel_rfl) (by assumption) ?_ ?_
  rotate_left 1
  · (intro wI hSI; (try dsimp only at hSI); go_simp; (try with_reducible rfl))
  simp only [Act.put, List.setIfInBounds_toArray, List.set_cons_zero, List.set_cons_succ]
  refine rtake (i := 8) (d := (some 6)) (v := ?_) rfl (by kernel_rfl) (by kernel_rfl) (by kernel_rfl) (by kernel_rfl) (fun _ _ _ h => h) (by kernel_rfl) (by assumption) ?_ ?_
  rotate_left 1
  · (intro wI hSI; (try dsimp only at hSI); go_simp; (try with_reducible rfl))
  simp only [Act.put, List.setIfInBounds_toArray, List.set_cons_zero, List.set_cons_succ]
  refine wpAnyH_done (by kernel_rfl) ?_ _
  clear hS_l hS_0 hS_1 hS_2
  clear hT_l hT_0 hT_1 hT_2
  clear hlk hHeld hS
  generalize W.drew = W1 at *
  by_cases hbig : 1 < ms.length
  · rw [if_pos hbig] at HV
    have hbd := HB.out hbig
    have hw1 : IntKind.i64.wrap ((ms.length : Int) - 1) = (ms.length : Int) - 1 := IntWalk.i64_in _ (by omega)
    have hn0 : (((ms.length : Int) - 1) == 0) = false := by simp; omega
    have hq := mul_in (x := x3) (y := (ms.length : Int) - 1) (X := 10) (Y := 11) (by omega) (by omega) (by omega) (by omega)
    have hsb := sums_bd hoks
    have HS := Lib.hid (sums_any ms av capv W1 hsav (by omega) hoks)
    have hb1 : bt.natAbs ≤ 1000 := by have := HT.out; omega
    have HL := Lib.hid (fun W => lowest_any bt ((ms.length : Int) - 1) W (by omega) (by omega) (by omega))
    unfold low at HL
    generalize lowN bt ((ms.length : Int) - 1) = q1 at *
    generalize lowD bt ((ms.length : Int) - 1) = q2 at *
    rw [HT.out] at HL
    have hw2 : IntKind.i64.wrap (x3 * ((ms.length : Int) - 1)) = x3 * ((ms.length : Int) - 1) := IntWalk.i64_in _ (by omega)
    have hw3 : IntKind.i64.wrap (sum1 ms - x3) = sum1 ms - x3 := IntWalk.i64_in _ (by omega)
    have hw4 : IntKind.i64.wrap (x3 * ((ms.length : Int) - 1) - (sum1 ms - x3)) = x3 * ((ms.length : Int) - 1) - (sum1 ms - x3) := IntWalk.i64_in _ (by rw [← HT.out]; omega)
    generalize sum1 ms = s1 at *
    generalize sum2 ms = s2 at *
    clear hbd HB hb1 hsav hoks hx ho hsb
    go_wp2_with fail
    refine HS.out.mono ?_
    rintro e wa ⟨rfl, hba⟩
    have hTa := hT.below hba
    have hRa := hR.below hba
    have hbwa := below_next hb0 hba
    have hTa_l := hTa.lt; have hTa_0 := hTa.cell 0; have hTa_1 := hTa.cell 1; have hTa_2 := hTa.cell 2; simp at hTa_0 hTa_1 hTa_2
    go_wp2_with fail
    refine (HL.out _).mono ?_
    rintro e wb ⟨rfl, hbb⟩
    have hRb := hRa.below hbb
    have hbwb := below_next hbwa hbb
    have hRb_l := hRb.lt; have hRb_0 := hRb.cell 0; have hRb_1 := hRb.cell 1; simp at hRb_0 hRb_1
    have hRb_f0 := hRb.frozen 0; have hRb_f1 := hRb.frozen 1
    go_wp2_with fail
    refine bodyPost_ret (v := .tuple #[.agg #[.int .i64 q1, .int .i64 q2], .bool true]) (by simp only [results, Tryz.results78]; go_simp) rfl ⟨by rw [HV.out], ?_⟩
    (repeat' (first | exact Below.refl _ _ | assumption | refine Below.setCell ?_ ?_ _ | refine below_drewN ?_ _ | refine Below.drew ?_ | refine Below.alloc ?_ ?_ _ | (with_reducible refine Below.trans ?_ (Below.mono hb ?_)) | (with_reducible refine Below.trans ?_ (Below.mono hb0 ?_)) | (with_reducible refine Below.trans ?_ (Below.mono hb1 ?_)) | (with_reducible refine Below.trans ?_ (Below.mono hb2 ?_)) | (with_reducible refine Below.trans ?_ (Below.mono hb3 ?_)) | (with_reducible refine Below.trans ?_ (Below.mono hb4 ?_)) | (with_reducible refine Below.trans ?_ (Below.mono hb5 ?_)) | (with_reducible refine Below.trans ?_ (Below.mono hb6 ?_)) | (with_reducible refine Below.trans ?_ (Below.mono hb7 ?_)) | (with_reducible refine Below.trans ?_ (Below.mono hb8 ?_)) | (with_reducible refine Below.trans ?_ (Below.mono hb9 ?_)) | (with_reducible refine Below.trans ?_ (Below.mono hb10 ?_)) | (with_reducible refine Below.trans ?_ (Below.mono hb11 ?_)) | (with_reducible refine Below.trans ?_ (Below.mono hb12 ?_)) | (with_reducible refine Below.trans ?_ (Below.mono hb13 ?_)) | (with_reducible refine Below.trans ?_ (Below.mono hb14 ?_)) | (with_reducible refine Below.trans ?_ (Below.mono hb15 ?_)) | omega | (simp; done) | (simp; omega)))
  · rw [if_neg hbig] at HV
    obtain hl1 : ms.length = 1 := by omega
    have hn0 : (((ms.length : Int) - 1) == 0) = true := by simp; omega
    have hw1 : IntKind.i64.wrap ((ms.length : Int) - 1) = (ms.length : Int) - 1 := IntWalk.i64_in _ (by omega)
    have Hl1 := Lib.hid hl1
    clear hl1
    have hR_l := hR.lt; have hR_0 := hR.cell 0; have hR_1 := hR.cell 1; simp at hR_0 hR_1
    have hR_f0 := hR.frozen 0; have hR_f1 := hR.frozen 1
    go_wp2_with fail
    refine bodyPost_ret (v := .tuple #[.agg #[.int .i64 0, .int .i64 0], .bool false]) (by simp only [results, Tryz.results78]; go_simp) rfl ⟨by rw [HV.out], ?_⟩
    (repeat' (first | exact Below.refl _ _ | assumption | refine Below.setCell ?_ ?_ _ | refine below_drewN ?_ _ | refine Below.drew ?_ | refine Below.alloc ?_ ?_ _ | (with_reducible refine Below.trans ?_ (Below.mono hb ?_)) | (with_reducible refine Below.trans ?_ (Below.mono hb0 ?_)) | (with_reducible refine Below.trans ?_ (Below.mono hb1 ?_)) | (with_reducible refine Below.trans ?_ (Below.mono hb2 ?_)) | (with_reducible refine Below.trans ?_ (Below.mono hb3 ?_)) | (with_reducible refine Below.trans ?_ (Below.mono hb4 ?_)) | (with_reducible refine Below.trans ?_ (Below.mono hb5 ?_)) | (with_reducible refine Below.trans ?_ (Below.mono hb6 ?_)) | (with_reducible refine Below.trans ?_ (Below.mono hb7 ?_)) | (with_reducible refine Below.trans ?_ (Below.mono hb8 ?_)) | (with_reducible refine Below.trans ?_ (Below.mono hb9 ?_)) | (with_reducible refine Below.trans ?_ (Below.mono hb10 ?_)) | (with_reducible refine Below.trans ?_ (Below.mono hb11 ?_)) | (with_reducible refine Below.trans ?_ (Below.mono hb12 ?_)) | (with_reducible refine Below.trans ?_ (Below.mono hb13 ?_)) | (with_reducible refine Below.trans ?_ (Below.mono hb14 ?_)) | (with_reducible refine Below.trans ?_ (Below.mono hb15 ?_)) | omega | (simp; done) | (simp; omega)))
theorem mul_inZ {x y X Y : Int} (h1 : -X ≤ x) (h2 : x ≤ X) (h3 : 0 ≤ y) (h4 : y ≤ Y) : -(X * Y) ≤ x * y ∧ x * y ≤ X * Y := by
  have hX : 0 ≤ X := by omega
  have e1 : X * y ≤ X * Y := Int.mul_le_mul_of_nonneg_left h4 hX
  have e2 : x * y ≤ X * y := Int.mul_le_mul_of_nonneg_right h2 h3
  have e3 : -X * y ≤ x * y := Int.mul_le_mul_of_nonneg_right h1 h3
  rw [Int.neg_mul] at e3
  omega
theorem strict_bd {l : List Mark} (h : marksFault l = 0) (ms : List Mark) (hm : ∀ x ∈ ms, x ∈ l) (hl : ms.length ≤ 400) :
    -110880000 ≤ (strictS l ms).1.1 ∧ (strictS l ms).1.1 ≤ 110880000 ∧ 1 ≤ (strictS l ms).1.2 ∧ (strictS l ms).1.2 ≤ 27720 ∧ 0 ≤ (strictS l ms).2 ∧ (strictS l ms).2 ≤ 400 := by
  have hf := strict_fit h ms.length ms rfl hm
  have hd := Int.le_of_dvd (by decide) hf.2.1
  have hm := mul_in (x := 10 * (ms.length : Int)) (y := (strictS l ms).1.2) (X := 4000) (Y := 27720) (by omega) (by omega) (by omega) hd
  omega
theorem Tryz.infoValued : (Tryz.prog.info? 48).map (fun i => (i.zero, i.size, i.bytes)) = some (some (.agg #[.string ⟨#[]⟩, .int .i64 0, .int .i64 0]), 3, 32) := by kernel_rfl

theorem ShSt.alloc1 {sb b1 b2 base : Nat} {a : Option Addr} {n cap : Nat} {l1 l2 : List Mark} {es1 es2 : List (ByteArray × Value)} {w : World} (h : ShSt sb b1 b2 base a n cap l1 l2 es1 es2 w) (o : Obj) : ShSt sb b1 b2 base a n cap l1 l2 es1 es2 (w.alloc o) := h.below ((Below.refl _ _).alloc (Nat.le_refl _) o)
set_option maxRecDepth 100000 in
set_option maxHeartbeats 2000000 in
theorem strictP_any (l : List Mark) (a : Option Addr) (cap : Nat) (w : World) (hs : SA w a l) (hl : l.length ≤ 400) (hks : ∀ x ∈ l, x.1.size ≤ 1000 ∧ x.2.1.size ≤ 1000) :
    Calls Tryz.prog 19 #[.slice a l.length cap] w (GivesList (strictL l (keysOf (fun x => x.2.1) l)) (marksFault l) w) := by
  generalize hq : strictL l (keysOf (fun x => x.2.1) l) = out at *
  have HO := Lib.hid hq
  clear hq
  go_enter Tryz.func19, Tryz.ntmps19
  go_wp2_with fail
  refine (checked_any l a cap _ hs (by omega) hks).mono ?_
  rintro e w1 ⟨hb1, h1⟩
  rcases h1 with ⟨h0, rfl⟩ | ⟨h0, sb, rfl, hsh, hsb⟩
  · have h0' : (marksFault l != 0) = true := by simpa using h0
    have H0 := Lib.hid h0
    clear h0
    go_wp2_with fail
    go_ret2
    exact ⟨hb1, none, 0, 0, rfl, by omega, fun h => absurd h H0.out⟩
  · obtain ⟨b1, b2, base, a', cap', es1, es2, hst, hsa'⟩ := hsh
    have hS := hst.box
    have H0 := Lib.hid h0
    clear h0
    have hS_l := hS.lt; have hS_0 := hS.cell 0; have hS_1 := hS.cell 1; have hS_2 := hS.cell 2; simp at hS_0 hS_1 hS_2
    go_wp2_with fail
    refine (keys_any b2 base (fun x => x.2.1) l es2 _ hst.two (by omega) (fun x hx => (hks x hx).2)).mono ?_
    rintro e wk ⟨vk, rfl, hownk, hbk⟩
    clear hS_l hS_0 hS_1 hS_2
    obtain ⟨aK, capK, rfl, hsaK, hbK, _⟩ := hownk.sa
    have hzk := hbk.size
    have HbK : Hid (∀ x : Addr, aK = some x → x.block < wk.heap.size) := fun x hx => (hbK x hx).2
    have hkl := keysOf_length (fun x => x.2.1) l
    clear hownk hbK hS
    generalize keysOf (fun x => x.2.1) l = ks at *
    go_wp2_with fail
    go_loopg [6, 29] ks.length (fun gk v i wr => ∃ k : Nat, i = .int .i64 k ∧ k ≤ ks.length ∧ Hid (gk = ks.length - k) ∧ Own wk.heap.size 48 wr v (strictL l (ks.take k)) ∧ SA wr aK ks ∧ Below w1.heap.size w1 wr ∧ wk.heap.size ≤ wr.heap.size)
    case atStart => exact ⟨0, rfl, by omega, rfl, Own.nil _ _ _, hsaK, hbk, Nat.le_refl _⟩
    clear hsaK hbk
    obtain ⟨k, rfl, hk, hgk, hown, hsaK, hbr, hzr⟩ := hrel
    by_cases hlt : k < ks.length
    · obtain ⟨kb, koff, haK, ck⟩ := hsaK.str hlt
      have htake := List.take_succ_eq_append_getElem hlt
      have Hsl := Lib.hid (strictL_snoc l (ks.take k) ks[k])
      rw [← htake] at Hsl
      have hsll := strictL_len l (ks.take k)
      rw [List.length_take] at hsll
      have HaK := Lib.hid haK
      rw [haK]
      clear haK htake
      generalize ks[k] = p at *
      generalize strictL l (ks.take k) = vs at *
      unfold strict1 at Hsl
      go_wp2_with fail
      refine (zeroC_any _).mono ?_
      rintro e wz ⟨rfl, hbz⟩
      have hown1 := hown.below hbz
      have hsaK1 := hsaK.below hbz
      have hbrz := hbr.trans (hbz.mono hbr.size)
      have hzz := hbz.size
      have hstz := hst.below hbrz
      have hst0 := hstz.alloc1 (.cells #[.int .i64 0, .int .i64 1] 30)
      have hS := hst0.box
      have hval := hstz.two.vals p
      have hlk := hst0.two.look p
      obtain ⟨av, capv, hv, hsavz, _, _⟩ := hval.sa
      rw [hv] at hlk
      have Hms : Hid (∀ x ∈ sel (fun x => x.2.1) p l, x ∈ l) := fun x hx => (List.mem_filter.1 hx).1
      have hmsl := sel_len (fun x => x.2.1) p l
      clear hval hv hst0 hbz hown hsaK hbr
      generalize sel (fun x => x.2.1) p l = ms at *
      have hF := Box.new wz 30 #[.int .i64 0, .int .i64 1]
      have hbz0 : Below wz.heap.size wz (wz.alloc (.cells #[.int .i64 0, .int .i64 1] 30)) := (Below.refl _ _).alloc (Nat.le_refl _) _
      have hS_l := hS.lt; have hS_0 := hS.cell 0; have hS_1 := hS.cell 1; have hS_2 := hS.cell 2; simp at hS_0 hS_1 hS_2
      go_wp2_with fail
      clear hS_l hS_0 hS_1 hS_2
      clear hlk hS
      go_loopg [10, 41] ms.length (fun gk nv i wx => ∃ j : Nat, i = .int .i64 j ∧ j ≤ ms.length ∧ Hid (gk = ms.length - j) ∧ nv = .int .i64 (strictS l (ms.take j)).2 ∧ Box wx wz.heap.size 30 #[.int .i64 (strictS l (ms.take j)).1.1, .int .i64 (strictS l (ms.take j)).1.2] ∧ Below wz.heap.size wz wx)
      case atStart => exact ⟨0, rfl, by omega, rfl, rfl, hF, hbz0⟩
      clear hF hbz0
      obtain ⟨j, rfl, hj, hgj, rfl, hF, hbx⟩ := hrel
      have hzx := hF.lt
      by_cases hjl : j < ms.length
      · obtain ⟨mb, moff, ha', c0, c1, c2⟩ := (hsavz.below hbx).mark hjl
        have htake := List.take_succ_eq_append_getElem hjl
        have Hss := Lib.hid (strictS_snoc l (ms.take j) ms[j])
        rw [← htake] at Hss
        have hsb := strict_bd H0.out (ms.take j) (fun x hx => Hms.out x (List.mem_of_mem_take hx)) (by rw [List.length_take]; omega)
        have hxl := Hms.out ms[j] (List.getElem_mem hjl)
        have HA := Lib.hid ha'
        rw [ha']
        generalize hx : ms[j] = x at *
        obtain ⟨x1, x2, x3⟩ := x
        simp only at c0 c1 c2
        clear hx htake ha'
        have HBV := Lib.hid (fun W (h : Below wz.heap.size wz W) => beyond_any sb b1 b2 base a' cap' l es1 es2 W (hstz.below h) H0.out x1 x2 x3 hxl)
        have hbt : Below wz.heap.size wz (wr.alloc (.cells #[.string x1, .string x2, .int .i64 x3] 54)) := hbx.alloc hbx.size _
        have hFt := hF.alloc (.cells #[.string x1, .string x2, .int .i64 x3] 54)
        have HBD := Lib.hid (fun h => bey_bd H0.out hxl h)
        unfold sStep at Hss
        simp only at Hss HBD
        unfold beyV at HBV
        simp only at HBV
        generalize hN0 : (strictS l (ms.take j)).1.1 = N0 at *
        generalize hD0 : (strictS l (ms.take j)).1.2 = D0 at *
        generalize hC0 : (strictS l (ms.take j)).2 = C0 at *
        have HN0 := Lib.hid hN0
        have HD0 := Lib.hid hD0
        have HC0 := Lib.hid hC0
        clear hN0 hD0 hC0 hxl
        by_cases hbig : 1 < (ofP l x1).length
        · rw [if_pos hbig] at Hss HBV
          have hbd := HBD.out hbig
          generalize beyN l (x1, x2, x3) = q1 at *
          generalize beyD l (x1, x2, x3) = q2 at *
          have hm1 := mul_inZ (x := N0) (y := q2) (X := 110880000) (Y := 12) (by omega) (by omega) (by omega) (by omega)
          have hm2 := mul_inZ (x := q1) (y := D0) (X := 120) (Y := 27720) (by omega) (by omega) (by omega) (by omega)
          have hm3 := mul_in (x := D0) (y := q2) (X := 27720) (Y := 12) (by omega) (by omega) (by omega) (by omega)
          have hm4 := mul_pos D0 q2 (by omega) (by omega)
          have HP := Lib.hid (fun W => plusC_any N0 D0 q1 q2 W (by omega) (by omega) (by omega) (by omega))
          unfold low at HP
          generalize lowN (N0 * q2 + q1 * D0) (D0 * q2) = r1 at *
          generalize lowD (N0 * q2 + q1 * D0) (D0 * q2) = r2 at *
          clear hm1 hm2 hm3 hm4 hbd HBD hbig
          go_wp2_with fail
          refine (HBV.out _ hbt).mono ?_
          rintro e wa ⟨rfl, hba⟩
          have hFa := (hFt.below hba).alloc (.cells #[.int .i64 q1, .int .i64 q2] 30)
          have hG := Box.new wa 30 #[.int .i64 q1, .int .i64 q2]
          have hbza : Below wz.heap.size wz (wa.alloc (.cells #[.int .i64 q1, .int .i64 q2] 30)) := (hbt.trans (hba.mono hbt.size)).alloc (by have := (hbt.trans (hba.mono hbt.size)).size; exact this) _
          go_upto_region 14 with (fail)
          generalize wa.alloc (.cells #[.int .i64 q1, .int .i64 q2] 30) = W1 at *
          generalize wa.heap.size = g1 at *
          clear hFt hbt hba HBV hF hbx c0 c1 c2
          have hFa_l := hFa.lt; have hFa_0 := hFa.cell 0; have hFa_1 := hFa.cell 1; simp at hFa_0 hFa_1
          have hG_l := hG.lt; have hG_0 := hG.cell 0; have hG_1 := hG.cell 1; simp at hG_0 hG_1
          go_wp2_with fail
          refine (HP.out _).mono ?_
          rintro e wc ⟨rfl, hbc⟩
          have hFc := hFa.below hbc
          clear hFa_l hFa_0 hFa_1
          clear hG_l hG_0 hG_1
          have hFc_l := hFc.lt; have hFc_0 := hFc.cell 0; have hFc_1 := hFc.cell 1; simp at hFc_0 hFc_1
          have hFc_f0 := hFc.frozen 0; have hFc_f1 := hFc.frozen 1
          have hF2 : Box ((wc.setCell ⟨wz.heap.size, 0, none⟩ (.int .i64 r1)).setCell ⟨wz.heap.size, 1, none⟩ (.int .i64 r2)) wz.heap.size 30 #[.int .i64 r1, .int .i64 r2] := (hFc.set 0 (.int .i64 r1)).set 1 (.int .i64 r2)
          have hb14 := hbza.trans (hbc.mono hbza.size)
          have hbz2 := (hb14.setCell (p := ⟨wz.heap.size, 0, none⟩) (Nat.le_refl _) (.int .i64 r1)).setCell (p := ⟨wz.heap.size, 1, none⟩) (Nat.le_refl _) (.int .i64 r2)
          go_wp2_with fail
          rw [← HA.out]
          go_roundg (ms.length - (j + 1))
          case measure => have := hgj.out; omega
          case rel => exact ⟨j + 1, by go_num, by omega, rfl, by rw [Hss.out], by rw [Hss.out]; exact hF2, hbz2⟩
        · rw [if_neg hbig] at Hss HBV
          clear HBD hbig
          go_wp2_with fail
          refine (HBV.out _ hbt).mono ?_
          rintro e wa ⟨rfl, hba⟩
          have hFa := (hFt.below hba).alloc (.cells #[.int .i64 0, .int .i64 0] 30)
          have hbza : Below wz.heap.size wz (wa.alloc (.cells #[.int .i64 0, .int .i64 0] 30)) := (hbt.trans (hba.mono hbt.size)).alloc (by have := (hbt.trans (hba.mono hbt.size)).size; exact this) _
          go_wp2_with fail
          rw [← HA.out]
          go_roundg (ms.length - (j + 1))
          case measure => have := hgj.out; omega
          case rel => exact ⟨j + 1, by go_num, by omega, rfl, by rw [Hss.out, HC0.out], by rw [Hss.out, HN0.out, HD0.out]; exact hFa, hbza⟩
      · obtain rfl : j = ms.length := by omega
        rw [List.take_length] at hF ⊢
        have hsb := strict_bd H0.out ms Hms.out (by omega)
        generalize (strictS l ms).1.1 = N0 at *
        generalize (strictS l ms).1.2 = D0 at *
        generalize (strictS l ms).2 = C0 at *
        have hown2 := hown1.below hbx
        have hsaK2 := hsaK1.below hbx
        have hbr2 := hbrz.trans (hbx.mono hbrz.size)
        clear hjl hgj hown1 hsaK1 hbrz hbx hsavz
        by_cases hpos : 0 < C0
        · rw [if_pos hpos] at Hsl
          have hm3 := mul_in (x := D0) (y := C0) (X := 27720) (Y := 400) (by omega) (by omega) (by omega) (by omega)
          have hm4 := mul_pos D0 C0 (by omega) (by omega)
          have HL := Lib.hid (fun W => lowest_any N0 (D0 * C0) W (by omega) (by omega) hm4)
          have hw1 : IntKind.i64.wrap (D0 * C0) = D0 * C0 := IntWalk.i64_in _ (by omega)
          unfold low at HL
          generalize lowN N0 (D0 * C0) = q1 at *
          generalize lowD N0 (D0 * C0) = q2 at *
          clear hm3 hm4
          have hF_l := hF.lt; have hF_0 := hF.cell 0; have hF_1 := hF.cell 1; simp at hF_0 hF_1
          go_wp2_with fail
          refine (HL.out _).mono ?_
          rintro e wl ⟨rfl, hbl⟩
          have hown3 := (hown2.below hbl).alloc (.cells #[.string p, .int .i64 q1, .int .i64 q2] 48)
          have hbo := Box.new wl 48 #[.string p, .int .i64 q1, .int .i64 q2]
          have hsaK3 := (hsaK2.below hbl).alloc (.cells #[.string p, .int .i64 q1, .int .i64 q2] 48)
          have hbr3 : Below w1.heap.size w1 (wl.alloc (.cells #[.string p, .int .i64 q1, .int .i64 q2] 48)) := (hbr2.trans (hbl.mono hbr2.size)).alloc (by have := (hbr2.trans (hbl.mono hbr2.size)).size; exact this) _
          have hzl := hbl.size
          clear hF_l hF_0 hF_1
          clear hw1
          go_wp2_with (at_builtin; refine wpList_append_lie (α := Valued) rfl _ _ 40 rfl 48 32 (.agg #[.string ⟨#[]⟩, .int .i64 0, .int .i64 0]) Tryz.underlying40 Tryz.infoValued rfl u6 vs rfl hown3 (p, q1, q2) wl.heap.size rfl hbo (by omega) (by omega) (by simp; omega) ?_; intro gg cap1 W4 hown4 hgrow hat)
          have hbr4 : Below w1.heap.size w1 W4 := hbr3.grown hgrow hbr3.size (fun j hj => by have := (hown3.lt j hj).1; omega)
          have hsaK4 := hsaK3.grownT hgrow (fun x hx e => by have := (hown3.lt _ e.symm).1; have := HbK.out x hx; omega)
          have hz4 := hgrow.size
          simp at hz4
          go_wp2_with fail
          rw [← HaK.out]
          go_roundg (ks.length - (k + 1))
          case measure => have := hgk.out; omega
          case rel => exact ⟨k + 1, by go_num, by omega, rfl, by rw [Hsl.out]; exact hown4, hsaK4, hbr4, by omega⟩
        · rw [if_neg hpos] at Hsl
          rw [List.append_nil] at Hsl
          go_wp2_with fail
          rw [← HaK.out]
          go_roundg (ks.length - (k + 1))
          case measure => have := hgk.out; omega
          case rel => exact ⟨k + 1, by go_num, by omega, rfl, by rw [Hsl.out]; exact hown2, hsaK2, hbr2, by omega⟩
    · obtain rfl : k = ks.length := by omega
      rw [List.take_length] at hown
      obtain ⟨ao, capo, rfl, hsao, _, _⟩ := hown.sa
      have hsll := strictL_len l ks
      rw [HO.out] at hsao hsll ⊢
      clear hlt hown
      go_wp2_with fail
      go_ret2
      exact ⟨hb1.trans (hbr.mono hb1.size), ao, _, capo, by rw [H0.out] <;> rfl, by omega, fun _ => ⟨rfl, hsao⟩⟩
end Go.Proofs.YtaoomkkhpianlaaGreatDoor
