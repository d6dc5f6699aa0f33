/- sheetOf: marks by papers and by persons. -/
import Derived.Test.YtaoomkkhpianlaaGreatDoorMark3
namespace Go.Proofs.YtaoomkkhpianlaaGreatDoor
open Go.RowKit
set_option linter.unusedVariables false
set_option linter.unusedSimpArgs false

theorem two_step {w w1 w2 : World} {b1 b2 base : Nat} {f f' : Mark → ByteArray} {l l' : List Mark} {es1 es2 : List (ByteArray × Value)} (h1 : MSl w b1 base f l es1) (h2 : MSl w b2 base f' l' es2) (cr : ∀ j, blk es1 j → ¬ blk es2 j) (x : Mark) {g cap : Nat} {p : ByteArray} (hp : f x = p)
    (hown : Own base 54 w1 (.slice (some ⟨g, 0, none⟩) ((sel f p l).length + 1) cap) (sel f p l ++ [x]))
    (hg : w.grownBy w1 (valOf es1 p).ownBlock) (hat : (valOf es1 p).ownBlock = some g ∨ g = w.heap.size) (hM : MBox w2 b1 (mput es1 p (.slice (some ⟨g, 0, none⟩) ((sel f p l).length + 1) cap))) (hg2 : w1.grownBy w2 (some b1)) (hb1 : b1 < base) (hb2 : b2 < base) (hne : b1 ≠ b2) :
    MSl w2 b1 base f (l ++ [x]) (mput es1 p (.slice (some ⟨g, 0, none⟩) ((sel f p l).length + 1) cap)) ∧ MSl w2 b2 base f' l' es2 ∧ (∀ j, blk (mput es1 p (.slice (some ⟨g, 0, none⟩) ((sel f p l).length + 1) cap)) j → ¬ blk es2 j) := by
  subst hp
  refine ⟨h1.step x hown hg hat hM hg2 hb1, h2.keep fun j hj => ?_, fun j hj hj2 => ?_⟩
  · have hlt : j < w.heap.size := by rcases hj with rfl | hj; exact h2.box.lt; exact (h2.blk hj).2
    rw [hg2.block j (Nat.lt_of_lt_of_le hlt hg.size) (fun e => by
      cases e
      rcases hj with hj | hj
      · exact hne hj
      · have := (h2.blk hj).1; omega), hg.block j hlt (fun e => by
      rcases hj with rfl | hj
      · have := ((h1.vals (f x)).lt _ e.symm).1; omega
      · exact cr j ⟨f x, e.symm⟩ hj)]
  · rcases blk_step hj with rfl | hj
    · rcases hat with h | h
      · exact cr j ⟨f x, h⟩ hj2
      · have := (h2.blk hj2).2; omega
    · exact cr j hj hj2

/-- While the sheet is made. -/
structure ShSt (sb b1 b2 base : Nat) (a : Option Addr) (n cap : Nat) (l1 l2 : List Mark) (es1 es2 : List (ByteArray × Value)) (w : World) : Prop where
  box : Box w sb 106 #[.slice a n cap, .map (some b1), .map (some b2)]
  one : MSl w b1 base (·.1) l1 es1
  two : MSl w b2 base (·.2.1) l2 es2
  cross : ∀ j, blk es1 j → ¬ blk es2 j

theorem ShSt.below {sb b1 b2 base : Nat} {a : Option Addr} {n cap : Nat} {l1 l2 : List Mark} {es1 es2 : List (ByteArray × Value)} {w w' : World} (h : ShSt sb b1 b2 base a n cap l1 l2 es1 es2 w) (k : Below w.heap.size w w') : ShSt sb b1 b2 base a n cap l1 l2 es1 es2 w' :=
  ⟨h.box.below k, h.one.below k, h.two.below k, h.cross⟩


set_option maxRecDepth 100000 in
set_option maxHeartbeats 2000000 in
theorem sheetOf_any (l : List Mark) (a : Option Addr) (cap : Nat) (w : World) (hs : SA w a l) (hsl : l.length ≤ 1000000) :
    Calls Tryz.prog 110 #[.slice a l.length cap] w (fun e w' => ∃ es1 es2, e = .returned (.pointer (some ⟨w.heap.size + 1 + 1, 0, none⟩)) ∧ ShSt (w.heap.size + 1 + 1) w.heap.size (w.heap.size + 1) (w.heap.size + 1 + 1 + 1) a l.length cap l l es1 es2 w' ∧ Below w.heap.size w w') := by
  have hmm := @run_makeMap Tryz.prog
  go_enter Tryz.func110, Tryz.ntmps110
  go_wp2_with fail
  go_loopg [13] l.length (fun gk i wr => ∃ (k : Nat) (es1 es2 : List (ByteArray × Value)), i = .int .i64 k ∧ k ≤ l.length ∧ Hid (gk = l.length - k) ∧ ShSt (w.heap.size + 1 + 1) w.heap.size (w.heap.size + 1) (w.heap.size + 1 + 1 + 1) a l.length cap (l.take k) (l.take k) es1 es2 wr ∧ Below w.heap.size w wr ∧ w.heap.size + 1 + 1 + 1 ≤ wr.heap.size)
  case atStart =>
    refine ⟨0, [], [], rfl, by omega, rfl, ⟨Box.newAt _ _ _ _ (by simp), ((MSl.new w _ _).alloc _).alloc _, ?_, fun j hj => by obtain ⟨p, hp⟩ := hj; cases hp⟩, by (repeat' (first | exact Below.refl _ _ | assumption | refine Below.setCell ?_ ?_ _ | refine below_drewN ?_ _ | refine Below.drew ?_ | refine Below.alloc ?_ ?_ _ | (with_reducible refine Below.trans ?_ (Below.mono hb ?_)) | (with_reducible refine Below.trans ?_ (Below.mono hb0 ?_)) | (with_reducible refine Below.trans ?_ (Below.mono hb1 ?_)) | (with_reducible refine Below.trans ?_ (Below.mono hb2 ?_)) | (with_reducible refine Below.trans ?_ (Below.mono hb3 ?_)) | (with_reducible refine Below.trans ?_ (Below.mono hb4 ?_)) | (with_reducible refine Below.trans ?_ (Below.mono hb5 ?_)) | (with_reducible refine Below.trans ?_ (Below.mono hb6 ?_)) | (with_reducible refine Below.trans ?_ (Below.mono hb7 ?_)) | (with_reducible refine Below.trans ?_ (Below.mono hb8 ?_)) | (with_reducible refine Below.trans ?_ (Below.mono hb9 ?_)) | (with_reducible refine Below.trans ?_ (Below.mono hb10 ?_)) | (with_reducible refine Below.trans ?_ (Below.mono hb11 ?_)) | (with_reducible refine Below.trans ?_ (Below.mono hb12 ?_)) | (with_reducible refine Below.trans ?_ (Below.mono hb13 ?_)) | (with_reducible refine Below.trans ?_ (Below.mono hb14 ?_)) | (with_reducible refine Below.trans ?_ (Below.mono hb15 ?_)) | omega | (simp; done) | (simp; omega))), by simp⟩
    have := MSl.new (w.alloc (.map #[] 0)) (w.heap.size + 1 + 1 + 1) (fun x => x.2.1)
    rw [show (w.alloc (.map #[] 0)).heap.size = w.heap.size + 1 from by simp] at this
    exact this.alloc _
  case round =>
    clear hmm
    obtain ⟨k, es1, es2, rfl, hk, hgk, hst, hb, hz3⟩ := hrel
    have hz := hb.size
    by_cases hlt : k < l.length
    · obtain ⟨b, off, ha, c0, c1, c2⟩ := (hs.below hb).mark hlt
      have htake := List.take_succ_eq_append_getElem hlt
      have hlen : (l.take k).length ≤ l.length := by rw [List.length_take]; omega
      rw [ha] at hst ⊢
      have Ha := Lib.hid ha
      clear ha
      generalize hx : l[k] = x at *
      obtain ⟨x1, x2, x3⟩ := x
      simp only at c0 c1 c2
      have Htake := Lib.hid htake
      clear hx htake
      generalize l.take k = lk at *
      have hT := Box.new wr 54 #[.string x1, .string x2, .int .i64 x3]
      have hst0 := hst.below (w' := wr.alloc (.cells #[.string x1, .string x2, .int .i64 x3] 54)) (by (repeat' (first | exact Below.refl _ _ | assumption | refine Below.setCell ?_ ?_ _ | refine below_drewN ?_ _ | refine Below.drew ?_ | refine Below.alloc ?_ ?_ _ | (with_reducible refine Below.trans ?_ (Below.mono hb ?_)) | (with_reducible refine Below.trans ?_ (Below.mono hb0 ?_)) | (with_reducible refine Below.trans ?_ (Below.mono hb1 ?_)) | (with_reducible refine Below.trans ?_ (Below.mono hb2 ?_)) | (with_reducible refine Below.trans ?_ (Below.mono hb3 ?_)) | (with_reducible refine Below.trans ?_ (Below.mono hb4 ?_)) | (with_reducible refine Below.trans ?_ (Below.mono hb5 ?_)) | (with_reducible refine Below.trans ?_ (Below.mono hb6 ?_)) | (with_reducible refine Below.trans ?_ (Below.mono hb7 ?_)) | (with_reducible refine Below.trans ?_ (Below.mono hb8 ?_)) | (with_reducible refine Below.trans ?_ (Below.mono hb9 ?_)) | (with_reducible refine Below.trans ?_ (Below.mono hb10 ?_)) | (with_reducible refine Below.trans ?_ (Below.mono hb11 ?_)) | (with_reducible refine Below.trans ?_ (Below.mono hb12 ?_)) | (with_reducible refine Below.trans ?_ (Below.mono hb13 ?_)) | (with_reducible refine Below.trans ?_ (Below.mono hb14 ?_)) | (with_reducible refine Below.trans ?_ (Below.mono hb15 ?_)) | omega | (simp; done) | (simp; omega))))
      have hb0 : Below w.heap.size w (wr.alloc (.cells #[.string x1, .string x2, .int .i64 x3] 54)) := by (repeat' (first | exact Below.refl _ _ | assumption | refine Below.setCell ?_ ?_ _ | refine below_drewN ?_ _ | refine Below.drew ?_ | refine Below.alloc ?_ ?_ _ | (with_reducible refine Below.trans ?_ (Below.mono hb ?_)) | (with_reducible refine Below.trans ?_ (Below.mono hb0 ?_)) | (with_reducible refine Below.trans ?_ (Below.mono hb1 ?_)) | (with_reducible refine Below.trans ?_ (Below.mono hb2 ?_)) | (with_reducible refine Below.trans ?_ (Below.mono hb3 ?_)) | (with_reducible refine Below.trans ?_ (Below.mono hb4 ?_)) | (with_reducible refine Below.trans ?_ (Below.mono hb5 ?_)) | (with_reducible refine Below.trans ?_ (Below.mono hb6 ?_)) | (with_reducible refine Below.trans ?_ (Below.mono hb7 ?_)) | (with_reducible refine Below.trans ?_ (Below.mono hb8 ?_)) | (with_reducible refine Below.trans ?_ (Below.mono hb9 ?_)) | (with_reducible refine Below.trans ?_ (Below.mono hb10 ?_)) | (with_reducible refine Below.trans ?_ (Below.mono hb11 ?_)) | (with_reducible refine Below.trans ?_ (Below.mono hb12 ?_)) | (with_reducible refine Below.trans ?_ (Below.mono hb13 ?_)) | (with_reducible refine Below.trans ?_ (Below.mono hb14 ?_)) | (with_reducible refine Below.trans ?_ (Below.mono hb15 ?_)) | omega | (simp; done) | (simp; omega)))
      have hnT1 : ∀ j, blk es1 j → j ≠ wr.heap.size := fun j hj => by have := hst.one.blk hj; omega
      have hnT2 : ∀ j, blk es2 j → j ≠ wr.heap.size := fun j hj => by have := hst.two.blk hj; omega
      have hzW : wr.heap.size < (wr.alloc (.cells #[.string x1, .string x2, .int .i64 x3] 54)).heap.size := by simp
      clear hst hb
      go_upto_region 5 with (fail)
      generalize wr.alloc (.cells #[.string x1, .string x2, .int .i64 x3] 54) = W0 at *
      generalize hmbk : wr.heap.size = mbk at *
      generalize hsb : w.heap.size + 1 + 1 = sb at *
      generalize hbs : sb + 1 = base at *
      have hsb1 : w.heap.size + 1 < sb := by omega
      have hsb2 : sb < base := by omega
      have Hsb := Lib.hid hsb
      have Hbs := Lib.hid hbs
      have HnT1 := Lib.hid hnT1
      have HnT2 := Lib.hid hnT2
      obtain ⟨hS, h1, h2, hcr⟩ := hst0
      have Hcr := Lib.hid hcr
      clear hmbk c0 c1 c2 hsb hbs hcr hnT1 hnT2
      have hvl : ∀ j, (valOf es1 x1).ownBlock = some j → base ≤ j ∧ j < W0.heap.size ∧ j ≠ mbk := fun j hj => ⟨(h1.blk ⟨_, hj⟩).1, (h1.blk ⟨_, hj⟩).2, HnT1.out j ⟨_, hj⟩⟩
      have hown := ((h1.vals x1).alloc (.cells #[.string x1, .string x2, .int .i64 x3] 54)).drew
      have hlk := h1.drew.look x1
      have hlk2 := (h1.alloc (.cells #[.string x1, .string x2, .int .i64 x3] 54)).drew.look x1
      have hMb := (h1.box.alloc (.cells #[.string x1, .string x2, .int .i64 x3] 54)).drew
      have HStep := Lib.hid (fun (w1 w2 : World) (g cap : Nat) => two_step (w1 := w1) (w2 := w2) (g := g) (cap := cap) ((h1.alloc (.cells #[.string x1, .string x2, .int .i64 x3] 54)).drew) ((h2.alloc (.cells #[.string x1, .string x2, .int .i64 x3] 54)).drew) Hcr.out (x1, x2, x3) (p := x1) rfl)
      have hsel : (sel (fun x => x.1) x1 lk).length ≤ 1000000 := Nat.le_trans (List.length_filter_le _ _) (by omega)
      generalize valOf es1 x1 = v at *
      generalize sel (fun x => x.1) x1 lk = ls at *
      have hvT : some mbk ≠ v.ownBlock := fun h => (hvl _ h.symm).2.2 rfl
      have hvS : some sb ≠ v.ownBlock := fun h => by have := (hvl _ h.symm).1; omega
      have hvb : some w.heap.size ≠ v.ownBlock := fun h => by have := (hvl _ h.symm).1; omega
      have Hvl := Lib.hid hvl
      have HvT := Lib.hid hvT
      have HvS := Lib.hid hvS
      have Hvb := Lib.hid hvb
      clear hvl hvT hvS hvb
      have hT_l := hT.lt; have hT_0 := hT.cell 0; have hT_1 := hT.cell 1; have hT_2 := hT.cell 2; simp at hT_0 hT_1 hT_2
      have hS_l := hS.lt; have hS_0 := hS.cell 0; have hS_1 := hS.cell 1; have hS_2 := hS.cell 2; simp at hS_0 hS_1 hS_2
      refine wp_region_held_drew (S := (fun wx => wx.cell? ⟨mbk, 0, none⟩ = some (.string x1) ∧ wx.cell? ⟨mbk, 1, none⟩ = some (.string x2) ∧ wx.cell? ⟨mbk, 2, none⟩ = some (.int .i64 x3) ∧ wx.cell? ⟨sb, 1, none⟩ = some (.map (some w.heap.size)))) (by kernel_rfl) ?hS (fun hHeld => ?_)
      case hS => exact ⟨hT_0, hT_1, hT_2, hS_1⟩
      refine rtake (i := 0) (d := (some 17)) (v := ?_) rfl (by kernel_rfl) (by kernel_rfl) (by kernel_rfl) (by kernel_rfl) (fun _ _ _ h => h) (by kernel_rfl) (by assumption) ?_ ?_
      rotate_left 1
      · (intro wI hSI; (try dsimp only at hSI); go_simp; (try with_reducible rfl))
      simp only [Act.put, List.setIfInBounds_toArray, List.set_cons_zero, List.set_cons_succ]
      refine rtake (i := 1) (d := (some 18)) (v := ?_) rfl (by kernel_rfl) (by kernel_rfl) (by kernel_rfl) (by kernel_rfl) (fun _ _ _ h => h) (by kernel_rfl) (by assumption) ?_ ?_
      rotate_left 1
      · (intro wI hSI; (try dsimp only at hSI); go_simp; (try with_reducible rfl))
      simp only [Act.put, List.setIfInBounds_toArray, List.set_cons_zero, List.set_cons_succ]
      refine rtake (i := 2) (d := (some 19)) (v := ?_) rfl (by kernel_rfl) (by kernel_rfl) (by kernel_rfl) (by kernel_rfl) (fun _ _ _ h => h) (by kernel_rfl) (by assumption) ?_ ?_
      rotate_left 1
      · (intro wI hSI; (try dsimp only at hSI); go_simp; (try with_reducible rfl))
      simp only [Act.put, List.setIfInBounds_toArray, List.set_cons_zero, List.set_cons_succ]
      refine rtake (i := 3) (d := (some 20)) (v := ?_) rfl (by kernel_rfl) (by kernel_rfl) (by kernel_rfl) (by kernel_rfl) (fun _ _ _ h => h) (by kernel_rfl) (by assumption) ?_ ?_
      rotate_left 1
      · (intro wI hSI; (try dsimp only at hSI); go_simp; (try with_reducible rfl))
      simp only [Act.put, List.setIfInBounds_toArray, List.set_cons_zero, List.set_cons_succ]
      refine rtake (i := 4) (d := (some 21)) (v := ?_) rfl (by kernel_rfl) (by kernel_rfl) (by kernel_rfl) (by kernel_rfl) (fun _ _ _ h => h) (by kernel_rfl) (by assumption) ?_ ?_
      rotate_left 1
      · (intro wI hSI; (try dsimp only at hSI); go_simp; (try with_reducible rfl))
      simp only [Act.put, List.setIfInBounds_toArray, List.set_cons_zero, List.set_cons_succ]
      refine rtake (i := 5) (d := (some 22)) (v := ?_) rfl (by kernel_rfl) (by kernel_rfl) (by kernel_rfl) (by kernel_rfl) (fun _ _ _ h => h) (by kernel_rfl) (by assumption) ?_ ?_
      rotate_left 1
      · (intro wI hSI; (try dsimp only at hSI); go_simp; (try with_reducible rfl))
      simp only [Act.put, List.setIfInBounds_toArray, List.set_cons_zero, List.set_cons_succ]
      refine rtake (i := 6) (d := (some 23)) (v := ?_) rfl (by kernel_rfl) (by kernel_rfl) (by kernel_rfl) (by kernel_rfl) (fun _ _ _ h => h) (by kernel_rfl) (by assumption) ?_ ?_
      rotate_left 1
      · (intro wI hSI; (try dsimp only at hSI); go_simp; (try with_reducible rfl))
      simp only [Act.put, List.setIfInBounds_toArray, List.set_cons_zero, List.set_cons_succ]
      refine rtake (i := 7) (d := (some 24)) (v := ?_) rfl (by kernel_rfl) (by kernel_rfl) (by kernel_rfl) (by kernel_rfl) (fun _ _ _ h => h) (by kernel_rfl) (by assumption) ?_ ?_
      rotate_left 1
      · (intro wI hSI; (try dsimp only at hSI); go_simp; (try with_reducible rfl))
      simp only [Act.put, List.setIfInBounds_toArray, List.set_cons_zero, List.set_cons_succ]
      refine rtake (i := 8) (d := (some 25)) (v := ?_) rfl (by kernel_rfl) (by kernel_rfl) (by kernel_rfl) (by kernel_rfl) (fun _ _ _ h => h) (by kernel_rfl) (by assumption) ?_ ?_
      rotate_left 1
      · (intro wI hSI; (try dsimp only at hSI); go_simp; (try with_reducible rfl))
      simp only [Act.put, List.setIfInBounds_toArray, List.set_cons_zero, List.set_cons_succ]
      refine rtake (i := 9) (d := (some 26)) (v := ?_) rfl (by kernel_rfl) (by kernel_rfl) (by kernel_rfl) (by kernel_rfl) (fun _ _ _ h => h) (by kernel_rfl) (by assumption) ?_ ?_
      rotate_left 1
      · (intro wI hSI; (try dsimp only at hSI); go_simp; (try with_reducible rfl))
      simp only [Act.put, List.setIfInBounds_toArray, List.set_cons_zero, List.set_cons_succ]
      refine rtake (i := 10) (d := (some 27)) (v := ?_) rfl (by kernel_rfl) (by kernel_rfl) (by kernel_rfl) (by kernel_rfl) (fun _ _ _ h => h) (by kernel_rfl) (by assumption) ?_ ?_
      rotate_left 1
      · (intro wI hSI; (try dsimp only at hSI); go_simp; (try with_reducible rfl))
      simp only [Act.put, List.setIfInBounds_toArray, List.set_cons_zero, List.set_cons_succ]
      refine rtake (i := 11) (d := (some 28)) (v := ?_) rfl (by kernel_rfl) (by kernel_rfl) (by kernel_rfl) (by kernel_rfl) (fun _ _ _ h => h) (by kernel_rfl) (by assumption) ?_ ?_
      rotate_left 1
      · (intro wI hSI; (try dsimp only at hSI); go_simp; (try with_reducible rfl))
      simp only [Act.put, List.setIfInBounds_toArray, List.set_cons_zero, List.set_cons_succ]
      refine rtake (i := 12) (d := (some 29)) (v := ?_) rfl (by kernel_rfl) (by kernel_rfl) (by kernel_rfl) (by kernel_rfl) (fun _ _ _ h => h) (by kernel_rfl) (by assumption) ?_ ?_
      rotate_left 1
      · (intro wI hSI; (try dsimp only at hSI); go_simp; (try with_reducible rfl))
      simp only [Act.put, List.setIfInBounds_toArray, List.set_cons_zero, List.set_cons_succ]
      refine rtake (i := 13) (d := (some 30)) (v := ?_) rfl (by kernel_rfl) (by kernel_rfl) (by kernel_rfl) (by kernel_rfl) (fun _ _ _ h => h) (by kernel_rfl) (by assumption) ?_ ?_
      rotate_left 1
      · (intro wI hSI; (try dsimp only at hSI); go_simp; (try with_reducible rfl))
      simp only [Act.put, List.setIfInBounds_toArray, List.set_cons_zero, List.set_cons_succ]
      refine rtake (i := 15) (d := (some 32)) (v := ?_) rfl (by kernel_rfl) (by kernel_rfl) (by kernel_rfl) (by kernel_rfl) (fun _ _ _ h => h) (by kernel_rfl) (by assumption) ?_ ?_
      rotate_left 1
      · (intro wI hSI; (try dsimp only at hSI); go_simp; (try with_reducible rfl))
      simp only [Act.put, List.setIfInBounds_toArray, List.set_cons_zero, List.set_cons_succ]
      refine rpair (i := 14) (j := 16) (di := some 31) (dj := some 33) (vi := v) (vj := .slice (some ⟨W0.heap.size, 0, none⟩) 1 1) (w' := (W0.alloc (.cells #[.string x1, .string x2, .int .i64 x3] 54)).drew) (by kernel_rfl) (by kernel_rfl) (by kernel_rfl) rfl rfl (by kernel_rfl) (by kernel_rfl) rfl rfl (by go_simp) (by go_simp) (by go_simp) (by go_simp) hHeld ?hS rfl (by kernel_rfl) ?_
      case hS => exact ⟨(hT.alloc _).cell 0, (hT.alloc _).cell 1, (hT.alloc _).cell 2, (hS.alloc _).cell 1⟩
      simp only [Act.put, List.setIfInBounds_toArray, List.set_cons_zero, List.set_cons_succ]
      clear hT_l hT_0 hT_1 hT_2
      clear hS_l hS_0 hS_1 hS_2
      clear hHeld hlk hlk2
      refine rcall (i := 17) (d := (some 34)) (by kernel_rfl) rfl (by kernel_rfl) (fun K hK => ?_)
      refine step_append_lie (by rfl) _ _ 26 (by rfl) 54 40 (.agg #[.string ⟨#[]⟩, .string ⟨#[]⟩, .int .i64 0]) Tryz.underlying26 Tryz.infoMark (by rfl) v ls (by rfl) hown (x1, x2, x3) W0.heap.size (by rfl) (Box.drew (Box.new W0 54 #[.string x1, .string x2, .int .i64 x3])) (by omega) (by omega) (by simp; omega) ?_; intro gg cap1 w1 hown1 hgrow hat
      refine hK.out _ _ ?hS (fun hHeld => ?_)
      case hS => exact ⟨(((hT.alloc (.cells #[.string x1, .string x2, .int .i64 x3] 54)).drew).grown hgrow HvT.out).cell 0, (((hT.alloc (.cells #[.string x1, .string x2, .int .i64 x3] 54)).drew).grown hgrow HvT.out).cell 1, (((hT.alloc (.cells #[.string x1, .string x2, .int .i64 x3] 54)).drew).grown hgrow HvT.out).cell 2, (((hS.alloc (.cells #[.string x1, .string x2, .int .i64 x3] 54)).drew).grown hgrow HvS.out).cell 1⟩
      clear hK K
      simp only [Act.put, List.setIfInBounds_toArray, List.set_cons_zero, List.set_cons_succ]
      have hT1 := ((hT.alloc (.cells #[.string x1, .string x2, .int .i64 x3] 54)).drew).grown hgrow HvT.out
      have hS1 := ((hS.alloc (.cells #[.string x1, .string x2, .int .i64 x3] 54)).drew).grown hgrow HvS.out
      obtain ⟨w2, hrun2, hM2, hg2, hs2⟩ := MBox.store (P := Tryz.prog) (hMb.grown hgrow Hvb.out) Tryz.underlying104 Tryz.underlying9 x1 (.slice (some ⟨gg, 0, none⟩) (ls.length + 1) cap1)
      have hT2 := hT1.grown hg2 (by simp; omega)
      have hS2 := hS1.grown hg2 (by simp; omega)
      clear hHeld
      refine rcall (i := 18) (d := none) (by kernel_rfl) rfl (by kernel_rfl) (fun K hK => ?_)
      go_simp
      refine hK.out undef _ ?hS (fun hHeld => ?_)
      case hS => exact ⟨hT2.cell 0, hT2.cell 1, hT2.cell 2, hS2.cell 1⟩
      clear hK K
      simp only [Act.put, List.setIfInBounds_toArray, List.set_cons_zero, List.set_cons_succ]
      refine wpAnyH_done (by kernel_rfl) ?_ _
      have hb1 : Below w.heap.size w w1 := Below.grown (w := (W0.alloc (.cells #[.string x1, .string x2, .int .i64 x3] 54)).drew) (by (repeat' (first | exact Below.refl _ _ | assumption | refine Below.setCell ?_ ?_ _ | refine below_drewN ?_ _ | refine Below.drew ?_ | refine Below.alloc ?_ ?_ _ | (with_reducible refine Below.trans ?_ (Below.mono hb ?_)) | (with_reducible refine Below.trans ?_ (Below.mono hb0 ?_)) | (with_reducible refine Below.trans ?_ (Below.mono hb1 ?_)) | (with_reducible refine Below.trans ?_ (Below.mono hb2 ?_)) | (with_reducible refine Below.trans ?_ (Below.mono hb3 ?_)) | (with_reducible refine Below.trans ?_ (Below.mono hb4 ?_)) | (with_reducible refine Below.trans ?_ (Below.mono hb5 ?_)) | (with_reducible refine Below.trans ?_ (Below.mono hb6 ?_)) | (with_reducible refine Below.trans ?_ (Below.mono hb7 ?_)) | (with_reducible refine Below.trans ?_ (Below.mono hb8 ?_)) | (with_reducible refine Below.trans ?_ (Below.mono hb9 ?_)) | (with_reducible refine Below.trans ?_ (Below.mono hb10 ?_)) | (with_reducible refine Below.trans ?_ (Below.mono hb11 ?_)) | (with_reducible refine Below.trans ?_ (Below.mono hb12 ?_)) | (with_reducible refine Below.trans ?_ (Below.mono hb13 ?_)) | (with_reducible refine Below.trans ?_ (Below.mono hb14 ?_)) | (with_reducible refine Below.trans ?_ (Below.mono hb15 ?_)) | omega | (simp; done) | (simp; omega)))) hgrow (by simp; omega) (fun j hj => by have := (Hvl.out j hj).1; omega)
      have hb2 : Below w.heap.size w w2 := Below.grown hb1 hg2 (by have := hb1.size; omega) (by rintro j hj; cases hj; omega)
      have ⟨hO', hN', hcr'⟩ := HStep.out w1 w2 gg cap1 hown1 hgrow hat hM2 hg2 (by omega) (by omega) (by omega)
      have hz2 : mbk < w2.heap.size := hT2.lt
      clear hT1 hS1 hrun2 hM2 hg2 hs2 hHeld hown1 hgrow hat HStep Hvl HvT HvS Hvb hMb hown hT hS hb1
      have hcr2 := fun j (hj : blk es2 j) (hj' : blk _ j) => hcr' j hj' hj
      have Hcr2 := Lib.hid hcr2
      clear hcr' hcr2 h1 h2 Hcr hb0 hzW
      obtain ⟨W1, rfl⟩ : ∃ W1, W1 = w2 := ⟨_, rfl⟩
      have hT := hT2
      have hS := hS2
      have hb0 := hb2
      have h1 := hO'
      have h2 := hN'
      clear hT2 hS2 hb2 hO' hN'
      go_wp2_with fail
      have hvl : ∀ j, (valOf es2 x2).ownBlock = some j → base ≤ j ∧ j < W1.heap.size ∧ j ≠ mbk := fun j hj => ⟨(h2.blk ⟨_, hj⟩).1, (h2.blk ⟨_, hj⟩).2, HnT2.out j ⟨_, hj⟩⟩
      have hown := ((h2.vals x2).alloc (.cells #[.string x1, .string x2, .int .i64 x3] 54)).drew
      have hlk := h2.drew.look x2
      have hlk2 := (h2.alloc (.cells #[.string x1, .string x2, .int .i64 x3] 54)).drew.look x2
      have hMb := (h2.box.alloc (.cells #[.string x1, .string x2, .int .i64 x3] 54)).drew
      have HStep := Lib.hid (fun (w1 w2 : World) (g cap : Nat) => two_step (w1 := w1) (w2 := w2) (g := g) (cap := cap) ((h2.alloc (.cells #[.string x1, .string x2, .int .i64 x3] 54)).drew) ((h1.alloc (.cells #[.string x1, .string x2, .int .i64 x3] 54)).drew) Hcr2.out (x1, x2, x3) (p := x2) rfl)
      have hsel : (sel (fun x => x.2.1) x2 lk).length ≤ 1000000 := Nat.le_trans (List.length_filter_le _ _) (by omega)
      generalize valOf es2 x2 = v at *
      generalize sel (fun x => x.2.1) x2 lk = ls at *
      have hvT : some mbk ≠ v.ownBlock := fun h => (hvl _ h.symm).2.2 rfl
      have hvS : some sb ≠ v.ownBlock := fun h => by have := (hvl _ h.symm).1; omega
      have hvb : some (w.heap.size + 1) ≠ v.ownBlock := fun h => by have := (hvl _ h.symm).1; omega
      have Hvl := Lib.hid hvl
      have HvT := Lib.hid hvT
      have HvS := Lib.hid hvS
      have Hvb := Lib.hid hvb
      clear hvl hvT hvS hvb
      have hT_l := hT.lt; have hT_0 := hT.cell 0; have hT_1 := hT.cell 1; have hT_2 := hT.cell 2; simp at hT_0 hT_1 hT_2
      have hS_l := hS.lt; have hS_0 := hS.cell 0; have hS_1 := hS.cell 1; have hS_2 := hS.cell 2; simp at hS_0 hS_1 hS_2
      refine wp_region_held_drew (S := (fun wx => wx.cell? ⟨mbk, 0, none⟩ = some (.string x1) ∧ wx.cell? ⟨mbk, 1, none⟩ = some (.string x2) ∧ wx.cell? ⟨mbk, 2, none⟩ = some (.int .i64 x3) ∧ wx.cell? ⟨sb, 2, none⟩ = some (.map (some (w.heap.size + 1))))) (by kernel_rfl) ?hS (fun hHeld => ?_)
      case hS => exact ⟨hT_0, hT_1, hT_2, hS_2⟩
      refine rtake (i := 0) (d := (some 35)) (v := ?_) rfl (by kernel_rfl) (by kernel_rfl) (by kernel_rfl) (by kernel_rfl) (fun _ _ _ h => h) (by kernel_rfl) (by assumption) ?_ ?_
      rotate_left 1
      · (intro wI hSI; (try dsimp only at hSI); go_simp; (try with_reducible rfl))
      simp only [Act.put, List.setIfInBounds_toArray, List.set_cons_zero, List.set_cons_succ]
      refine rtake (i := 1) (d := (some 36)) (v := ?_) rfl (by kernel_rfl) (by kernel_rfl) (by kernel_rfl) (by kernel_rfl) (fun _ _ _ h => h) (by kernel_rfl) (by assumption) ?_ ?_
      rotate_left 1
      · (intro wI hSI; (try dsimp only at hSI); go_simp; (try with_reducible rfl))
      simp only [Act.put, List.setIfInBounds_toArray, List.set_cons_zero, List.set_cons_succ]
      refine rtake (i := 2) (d := (some 37)) (v := ?_) rfl (by kernel_rfl) (by kernel_rfl) (by kernel_rfl) (by kernel_rfl) (fun _ _ _ h => h) (by kernel_rfl) (by assumption) ?_ ?_
      rotate_left 1
      · (intro wI hSI; (try dsimp only at hSI); go_simp; (try with_reducible rfl))
      simp only [Act.put, List.setIfInBounds_toArray, List.set_cons_zero, List.set_cons_succ]
      refine rtake (i := 3) (d := (some 38)) (v := ?_) rfl (by kernel_rfl) (by kernel_rfl) (by kernel_rfl) (by kernel_rfl) (fun _ _ _ h => h) (by kernel_rfl) (by assumption) ?_ ?_
      rotate_left 1
      · (intro wI hSI; (try dsimp only at hSI); go_simp; (try with_reducible rfl))
      simp only [Act.put, List.setIfInBounds_toArray, List.set_cons_zero, List.set_cons_succ]
      refine rtake (i := 4) (d := (some 39)) (v := ?_) rfl (by kernel_rfl) (by kernel_rfl) (by kernel_rfl) (by kernel_rfl) (fun _ _ _ h => h) (by kernel_rfl) (by assumption) ?_ ?_
      rotate_left 1
      · (intro wI hSI; (try dsimp only at hSI); go_simp; (try with_reducible rfl))
      simp only [Act.put, List.setIfInBounds_toArray, List.set_cons_zero, List.set_cons_succ]
      refine rtake (i := 5) (d := (some 40)) (v := ?_) rfl (by kernel_rfl) (by kernel_rfl) (by kernel_rfl) (by kernel_rfl) (fun _ _ _ h => h) (by kernel_rfl) (by assumption) ?_ ?_
      rotate_left 1
      · (intro wI hSI; (try dsimp only at hSI); go_simp; (try with_reducible rfl))
      simp only [Act.put, List.setIfInBounds_toArray, List.set_cons_zero, List.set_cons_succ]
      refine rtake (i := 6) (d := (some 41)) (v := ?_) rfl (by kernel_rfl) (by kernel_rfl) (by kernel_rfl) (by kernel_rfl) (fun _ _ _ h => h) (by kernel_rfl) (by assumption) ?_ ?_
      rotate_left 1
      · (intro wI hSI; (try dsimp only at hSI); go_simp; (try with_reducible rfl))
      simp only [Act.put, List.setIfInBounds_toArray, List.set_cons_zero, List.set_cons_succ]
      refine rtake (i := 7) (d := (some 42)) (v := ?_) rfl (by kernel_rfl) (by kernel_rfl) (by kernel_rfl) (by kernel_rfl) (fun _ _ _ h => h) (by kernel_rfl) (by assumption) ?_ ?_
      rotate_left 1
      · (intro wI hSI; (try dsimp only at hSI); go_simp; (try with_reducible rfl))
      simp only [Act.put, List.setIfInBounds_toArray, List.set_cons_zero, List.set_cons_succ]
      refine rtake (i := 8) (d := (some 43)) (v := ?_) rfl (by kernel_rfl) (by kernel_rfl) (by kernel_rfl) (by kernel_rfl) (fun _ _ _ h => h) (by kernel_rfl) (by assumption) ?_ ?_
      rotate_left 1
      · (intro wI hSI; (try dsimp only at hSI); go_simp; (try with_reducible rfl))
      simp only [Act.put, List.setIfInBounds_toArray, List.set_cons_zero, List.set_cons_succ]
      refine rtake (i := 9) (d := (some 44)) (v := ?_) rfl (by kernel_rfl) (by kernel_rfl) (by kernel_rfl) (by kernel_rfl) (fun _ _ _ h => h) (by kernel_rfl) (by assumption) ?_ ?_
      rotate_left 1
      · (intro wI hSI; (try dsimp only at hSI); go_simp; (try with_reducible rfl))
      simp only [Act.put, List.setIfInBounds_toArray, List.set_cons_zero, List.set_cons_succ]
      refine rtake (i := 10) (d := (some 45)) (v := ?_) rfl (by kernel_rfl) (by kernel_rfl) (by kernel_rfl) (by kernel_rfl) (fun _ _ _ h => h) (by kernel_rfl) (by assumption) ?_ ?_
      rotate_left 1
      · (intro wI hSI; (try dsimp only at hSI); go_simp; (try with_reducible rfl))
      simp only [Act.put, List.setIfInBounds_toArray, List.set_cons_zero, List.set_cons_succ]
      refine rtake (i := 11) (d := (some 46)) (v := ?_) rfl (by kernel_rfl) (by kernel_rfl) (by kernel_rfl) (by kernel_rfl) (fun _ _ _ h => h) (by kernel_rfl) (by assumption) ?_ ?_
      rotate_left 1
      · (intro wI hSI; (try dsimp only at hSI); go_simp; (try with_reducible rfl))
      simp only [Act.put, List.setIfInBounds_toArray, List.set_cons_zero, List.set_cons_succ]
      refine rtake (i := 12) (d := (some 47)) (v := ?_) rfl (by kernel_rfl) (by kernel_rfl) (by kernel_rfl) (by kernel_rfl) (fun _ _ _ h => h) (by kernel_rfl) (by assumption) ?_ ?_
      rotate_left 1
      · (intro wI hSI; (try dsimp only at hSI); go_simp; (try with_reducible rfl))
      simp only [Act.put, List.setIfInBounds_toArray, List.set_cons_zero, List.set_cons_succ]
      refine rtake (i := 13) (d := (some 48)) (v := ?_) rfl (by kernel_rfl) (by kernel_rfl) (by kernel_rfl) (by kernel_rfl) (fun _ _ _ h => h) (by kernel_rfl) (by assumption) ?_ ?_
      rotate_left 1
      · (intro wI hSI; (try dsimp only at hSI); go_simp; (try with_reducible rfl))
      simp only [Act.put, List.setIfInBounds_toArray, List.set_cons_zero, List.set_cons_succ]
      refine rtake (i := 15) (d := (some 50)) (v := ?_) rfl (by kernel_rfl) (by kernel_rfl) (by kernel_rfl) (by kernel_rfl) (fun _ _ _ h => h) (by kernel_rfl) (by assumption) ?_ ?_
      rotate_left 1
      · (intro wI hSI; (try dsimp only at hSI); go_simp; (try with_reducible rfl))
      simp only [Act.put, List.setIfInBounds_toArray, List.set_cons_zero, List.set_cons_succ]
      refine rpair (i := 14) (j := 16) (di := some 49) (dj := some 51) (vi := v) (vj := .slice (some ⟨W1.heap.size, 0, none⟩) 1 1) (w' := (W1.alloc (.cells #[.string x1, .string x2, .int .i64 x3] 54)).drew) (by kernel_rfl) (by kernel_rfl) (by kernel_rfl) rfl rfl (by kernel_rfl) (by kernel_rfl) rfl rfl (by go_simp) (by go_simp) (by go_simp) (by go_simp) hHeld ?hS rfl (by kernel_rfl) ?_
      case hS => exact ⟨(hT.alloc _).cell 0, (hT.alloc _).cell 1, (hT.alloc _).cell 2, (hS.alloc _).cell 2⟩
      simp only [Act.put, List.setIfInBounds_toArray, List.set_cons_zero, List.set_cons_succ]
      clear hT_l hT_0 hT_1 hT_2
      clear hS_l hS_0 hS_1 hS_2
      clear hHeld hlk hlk2
      refine rcall (i := 17) (d := (some 52)) (by kernel_rfl) rfl (by kernel_rfl) (fun K hK => ?_)
      refine step_append_lie (by rfl) _ _ 26 (by rfl) 54 40 (.agg #[.string ⟨#[]⟩, .string ⟨#[]⟩, .int .i64 0]) Tryz.underlying26 Tryz.infoMark (by rfl) v ls (by rfl) hown (x1, x2, x3) W1.heap.size (by rfl) (Box.drew (Box.new W1 54 #[.string x1, .string x2, .int .i64 x3])) (by omega) (by omega) (by simp; omega) ?_; intro gg cap1 w1 hown1 hgrow hat
      refine hK.out _ _ ?hS (fun hHeld => ?_)
      case hS => exact ⟨(((hT.alloc (.cells #[.string x1, .string x2, .int .i64 x3] 54)).drew).grown hgrow HvT.out).cell 0, (((hT.alloc (.cells #[.string x1, .string x2, .int .i64 x3] 54)).drew).grown hgrow HvT.out).cell 1, (((hT.alloc (.cells #[.string x1, .string x2, .int .i64 x3] 54)).drew).grown hgrow HvT.out).cell 2, (((hS.alloc (.cells #[.string x1, .string x2, .int .i64 x3] 54)).drew).grown hgrow HvS.out).cell 2⟩
      clear hK K
      simp only [Act.put, List.setIfInBounds_toArray, List.set_cons_zero, List.set_cons_succ]
      have hT1 := ((hT.alloc (.cells #[.string x1, .string x2, .int .i64 x3] 54)).drew).grown hgrow HvT.out
      have hS1 := ((hS.alloc (.cells #[.string x1, .string x2, .int .i64 x3] 54)).drew).grown hgrow HvS.out
      obtain ⟨w2, hrun2, hM2, hg2, hs2⟩ := MBox.store (P := Tryz.prog) (hMb.grown hgrow Hvb.out) Tryz.underlying104 Tryz.underlying9 x2 (.slice (some ⟨gg, 0, none⟩) (ls.length + 1) cap1)
      have hT2 := hT1.grown hg2 (by simp; omega)
      have hS2 := hS1.grown hg2 (by simp; omega)
      clear hHeld
      refine rcall (i := 18) (d := none) (by kernel_rfl) rfl (by kernel_rfl) (fun K hK => ?_)
      go_simp
      refine hK.out undef _ ?hS (fun hHeld => ?_)
      case hS => exact ⟨hT2.cell 0, hT2.cell 1, hT2.cell 2, hS2.cell 2⟩
      clear hK K
      simp only [Act.put, List.setIfInBounds_toArray, List.set_cons_zero, List.set_cons_succ]
      refine wpAnyH_done (by kernel_rfl) ?_ _
      have hb1 : Below w.heap.size w w1 := Below.grown (w := (W1.alloc (.cells #[.string x1, .string x2, .int .i64 x3] 54)).drew) (by (repeat' (first | exact Below.refl _ _ | assumption | refine Below.setCell ?_ ?_ _ | refine below_drewN ?_ _ | refine Below.drew ?_ | refine Below.alloc ?_ ?_ _ | (with_reducible refine Below.trans ?_ (Below.mono hb ?_)) | (with_reducible refine Below.trans ?_ (Below.mono hb0 ?_)) | (with_reducible refine Below.trans ?_ (Below.mono hb1 ?_)) | (with_reducible refine Below.trans ?_ (Below.mono hb2 ?_)) | (with_reducible refine Below.trans ?_ (Below.mono hb3 ?_)) | (with_reducible refine Below.trans ?_ (Below.mono hb4 ?_)) | (with_reducible refine Below.trans ?_ (Below.mono hb5 ?_)) | (with_reducible refine Below.trans ?_ (Below.mono hb6 ?_)) | (with_reducible refine Below.trans ?_ (Below.mono hb7 ?_)) | (with_reducible refine Below.trans ?_ (Below.mono hb8 ?_)) | (with_reducible refine Below.trans ?_ (Below.mono hb9 ?_)) | (with_reducible refine Below.trans ?_ (Below.mono hb10 ?_)) | (with_reducible refine Below.trans ?_ (Below.mono hb11 ?_)) | (with_reducible refine Below.trans ?_ (Below.mono hb12 ?_)) | (with_reducible refine Below.trans ?_ (Below.mono hb13 ?_)) | (with_reducible refine Below.trans ?_ (Below.mono hb14 ?_)) | (with_reducible refine Below.trans ?_ (Below.mono hb15 ?_)) | omega | (simp; done) | (simp; omega)))) hgrow (by simp; omega) (fun j hj => by have := (Hvl.out j hj).1; omega)
      have hb2 : Below w.heap.size w w2 := Below.grown hb1 hg2 (by have := hb1.size; omega) (by rintro j hj; cases hj; omega)
      have ⟨hO', hN', hcr'⟩ := HStep.out w1 w2 gg cap1 hown1 hgrow hat hM2 hg2 (by omega) (by omega) (by omega)
      have hz2 : mbk < w2.heap.size := hT2.lt
      clear hT1 hS1 hrun2 hM2 hg2 hs2 hHeld hown1 hgrow hat HStep Hvl HvT HvS Hvb hMb hown hT hS hb1
      have Hcr3 := Lib.hid (fun j hj hj' => hcr' j hj' hj)
      clear hcr' h1 h2 hb0 hT2
      go_wp2_with fail
      rw [← Ha.out]
      go_roundg (l.length - (k + 1))
      case measure => have := hgk.out; omega
      case rel => exact ⟨k + 1, _, _, by go_num, by omega, rfl, ⟨by rw [Ha.out]; exact hS2, by rw [Htake.out]; exact hN', by rw [Htake.out]; exact hO', Hcr3.out⟩, hb2, by omega⟩
    · obtain rfl : k = l.length := by omega
      rw [List.take_length] at hst
      go_wp2_with fail
      go_ret
      exact ⟨es1, es2, rfl, hst, hb⟩
end Go.Proofs.YtaoomkkhpianlaaGreatDoor
