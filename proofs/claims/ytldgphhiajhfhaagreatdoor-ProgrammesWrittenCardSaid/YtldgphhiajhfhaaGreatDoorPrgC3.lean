/- The program's Overlaps. Written by gen/src/progc3.py. -/
import Derived.Test.YtldgphhiajhfhaaGreatDoorPrgC2
import Derived.Test.YtldgphhiajhfhaaGreatDoorGridR5
/-! The program's Overlaps. Written by gen/src/progc3.py. -/
/-! The program's Overlaps. Written by gen/src/progc3.py. -/
namespace Go.Proofs.YtldgphhiajhfhaaGreatDoor
open Go.RowKit
set_option linter.unusedVariables false
set_option linter.unusedSimpArgs false

set_option maxRecDepth 100000 in
set_option maxHeartbeats 8000000 in
theorem overlapsP_any (a b : Slt) (w : World) : Calls Tryz.prog 136 #[sltV a, sltV b] w (Gives (.bool (overlapsB a b)) w) := by
 obtain ⟨a1, a2, a3⟩ := a
 obtain ⟨b1, b2, b3⟩ := b
 have HR : Hid (overlapsB (a1, a2, a3) (b1, b2, b3) = if ((decide (a2 < 0) || decide (5761440 < a2)) || (decide (a3 < 0) || decide (1440 < a3))) = true then false else if ((decide (b2 < 0) || decide (5761440 < b2)) || (decide (b3 < 0) || decide (1440 < b3))) = true then false else (decide (a2 < b2 + b3) && decide (b2 < a2 + a3))) := rfl
 generalize overlapsB (a1, a2, a3) (b1, b2, b3) = R at *
 unfold sltV
 simp only
 have hX := (Box.new w 56 #[.string a1, .int .i64 a2, .int .i64 a3]).alloc (.cells #[.string b1, .int .i64 b2, .int .i64 b3] 56)
 have hY := Box.newAt (w.alloc (.cells #[.string a1, .int .i64 a2, .int .i64 a3] 56)) (w.heap.size + 1) 56 #[.string b1, .int .i64 b2, .int .i64 b3] (by simp)
 have hb : Below w.heap.size w ((w.alloc (.cells #[.string a1, .int .i64 a2, .int .i64 a3] 56)).alloc (.cells #[.string b1, .int .i64 b2, .int .i64 b3] 56)) := ((Below.refl _ _).alloc (Nat.le_refl _) _).alloc (by simp) _
 have hi0 : ∀ W, (Instr.index 208 (.agg #[.string a1, .int .i64 a2, .int .i64 a3, .string b1, .int .i64 b2, .int .i64 b3]) (.int .i64 0)).run Tryz.prog W = .ok (.agg #[.string a1, .int .i64 a2, .int .i64 a3]) W := fun W => by
  simp [Instr.index, run_underlying Tryz.underlying208, asIntOf, part, go_sem, Tryz.sizeOf56, Tryz.isAgg56]
 have hi1 : ∀ W, (Instr.index 208 (.agg #[.string a1, .int .i64 a2, .int .i64 a3, .string b1, .int .i64 b2, .int .i64 b3]) (.int .i64 1)).run Tryz.prog W = .ok (.agg #[.string b1, .int .i64 b2, .int .i64 b3]) W := fun W => by
  simp [Instr.index, run_underlying Tryz.underlying208, asIntOf, part, go_sem, Tryz.sizeOf56, Tryz.isAgg56]
 go_enter Tryz.func136, Tryz.ntmps136
 go_upto_region 1 with (fail)
 generalize (w.alloc (.cells #[.string a1, .int .i64 a2, .int .i64 a3] 56)).alloc (.cells #[.string b1, .int .i64 b2, .int .i64 b3] 56) = w1 at *
 have hz1 := hb.size
 have hYl := hY.lt
 have hX_l := hX.lt; have hX_0 := hX.cell 0; have hX_1 := hX.cell 1; have hX_2 := hX.cell 2; simp at hX_0 hX_1 hX_2
 have hY_l := hY.lt; have hY_0 := hY.cell 0; have hY_1 := hY.cell 1; have hY_2 := hY.cell 2; simp at hY_0 hY_1 hY_2
 go_wp2_with fail
 refine wp_loop_rounds 3 ?_
 rw [rounds_succ]
 go_wp2_with fail
 refine (outside_any a2 0 5761440 _).mono ?_
 rintro e w9 ⟨rfl, rfl⟩
 cases ho1 : (decide (a2 < 0) || decide (5761440 < a2))
 ·
  go_wp2_with fail
  refine (outside_any a3 0 1440 _).mono ?_
  rintro e w9 ⟨rfl, rfl⟩
  cases ho2 : (decide (a3 < 0) || decide (1440 < a3))
  ·
   go_wp2_with fail
   rw [rounds_succ]
   go_wp2_with fail
   refine (outside_any b2 0 5761440 _).mono ?_
   rintro e w9 ⟨rfl, rfl⟩
   cases ho3 : (decide (b2 < 0) || decide (5761440 < b2))
   ·
    go_wp2_with fail
    refine (outside_any b3 0 1440 _).mono ?_
    rintro e w9 ⟨rfl, rfl⟩
    cases ho4 : (decide (b3 < 0) || decide (1440 < b3))
    ·
     go_wp2_with fail
     have p1 : 0 ≤ a2 ∧ a2 ≤ 5761440 := by simp at ho1; omega
     have p2 : 0 ≤ a3 ∧ a3 ≤ 1440 := by simp at ho2; omega
     have p3 : 0 ≤ b2 ∧ b2 ≤ 5761440 := by simp at ho3; omega
     have p4 : 0 ≤ b3 ∧ b3 ≤ 1440 := by simp at ho4; omega
     have hw1 : IntKind.i64.wrap (b2 + b3) = b2 + b3 := IntWalk.i64_in _ (by omega)
     have hw2 : IntKind.i64.wrap (a2 + a3) = a2 + a3 := IntWalk.i64_in _ (by omega)
     have HR2 : Hid (R = (decide (a2 < b2 + b3) && decide (b2 < a2 + a3))) := by show _ = _; rw [HR.out, ho1, ho2, ho3, ho4]; rfl
     clear HR ho1 ho2 ho3 ho4 p1 p2 p3 p4
     by_cases q1 : a2 < b2 + b3
     ·
      have hd1 : decide (a2 < b2 + b3) = true := decide_eq_true q1
      by_cases q2 : b2 < a2 + a3
      ·
       have hd2 : decide (b2 < a2 + a3) = true := decide_eq_true q2
       rw [hd1, hd2] at HR2
       rw [rounds_succ]
       go_wp2_with fail
       go_ret
       exact ⟨by rw [HR2.out] <;> rfl, by (repeat' (first | exact Below.refl _ _ | assumption | refine Below.setCell ?_ ?_ _ | refine below_drewN ?_ _ | refine Below.drew ?_ | refine Below.alloc ?_ ?_ _ | (with_reducible refine Below.trans ?_ (Below.mono hb ?_)) | (with_reducible refine Below.trans ?_ (Below.mono hb0 ?_)) | (with_reducible refine Below.trans ?_ (Below.mono hb1 ?_)) | (with_reducible refine Below.trans ?_ (Below.mono hb2 ?_)) | (with_reducible refine Below.trans ?_ (Below.mono hb3 ?_)) | (with_reducible refine Below.trans ?_ (Below.mono hb4 ?_)) | (with_reducible refine Below.trans ?_ (Below.mono hb5 ?_)) | (with_reducible refine Below.trans ?_ (Below.mono hb6 ?_)) | (with_reducible refine Below.trans ?_ (Below.mono hb7 ?_)) | (with_reducible refine Below.trans ?_ (Below.mono hb8 ?_)) | (with_reducible refine Below.trans ?_ (Below.mono hb9 ?_)) | (with_reducible refine Below.trans ?_ (Below.mono hb10 ?_)) | (with_reducible refine Below.trans ?_ (Below.mono hb11 ?_)) | (with_reducible refine Below.trans ?_ (Below.mono hb12 ?_)) | (with_reducible refine Below.trans ?_ (Below.mono hb13 ?_)) | (with_reducible refine Below.trans ?_ (Below.mono hb14 ?_)) | (with_reducible refine Below.trans ?_ (Below.mono hb15 ?_)) | omega | (simp; done) | (simp; omega)))⟩
      ·
       have hd2 : decide (b2 < a2 + a3) = false := decide_eq_false q2
       rw [hd1, hd2] at HR2
       rw [rounds_succ]
       go_wp2_with fail
       go_ret
       exact ⟨by rw [HR2.out] <;> rfl, by (repeat' (first | exact Below.refl _ _ | assumption | refine Below.setCell ?_ ?_ _ | refine below_drewN ?_ _ | refine Below.drew ?_ | refine Below.alloc ?_ ?_ _ | (with_reducible refine Below.trans ?_ (Below.mono hb ?_)) | (with_reducible refine Below.trans ?_ (Below.mono hb0 ?_)) | (with_reducible refine Below.trans ?_ (Below.mono hb1 ?_)) | (with_reducible refine Below.trans ?_ (Below.mono hb2 ?_)) | (with_reducible refine Below.trans ?_ (Below.mono hb3 ?_)) | (with_reducible refine Below.trans ?_ (Below.mono hb4 ?_)) | (with_reducible refine Below.trans ?_ (Below.mono hb5 ?_)) | (with_reducible refine Below.trans ?_ (Below.mono hb6 ?_)) | (with_reducible refine Below.trans ?_ (Below.mono hb7 ?_)) | (with_reducible refine Below.trans ?_ (Below.mono hb8 ?_)) | (with_reducible refine Below.trans ?_ (Below.mono hb9 ?_)) | (with_reducible refine Below.trans ?_ (Below.mono hb10 ?_)) | (with_reducible refine Below.trans ?_ (Below.mono hb11 ?_)) | (with_reducible refine Below.trans ?_ (Below.mono hb12 ?_)) | (with_reducible refine Below.trans ?_ (Below.mono hb13 ?_)) | (with_reducible refine Below.trans ?_ (Below.mono hb14 ?_)) | (with_reducible refine Below.trans ?_ (Below.mono hb15 ?_)) | omega | (simp; done) | (simp; omega)))⟩
     ·
      have hd1 : decide (a2 < b2 + b3) = false := decide_eq_false q1
      rw [hd1] at HR2
      rw [rounds_succ]
      go_wp2_with fail
      go_ret
      exact ⟨by rw [HR2.out] <;> rfl, by (repeat' (first | exact Below.refl _ _ | assumption | refine Below.setCell ?_ ?_ _ | refine below_drewN ?_ _ | refine Below.drew ?_ | refine Below.alloc ?_ ?_ _ | (with_reducible refine Below.trans ?_ (Below.mono hb ?_)) | (with_reducible refine Below.trans ?_ (Below.mono hb0 ?_)) | (with_reducible refine Below.trans ?_ (Below.mono hb1 ?_)) | (with_reducible refine Below.trans ?_ (Below.mono hb2 ?_)) | (with_reducible refine Below.trans ?_ (Below.mono hb3 ?_)) | (with_reducible refine Below.trans ?_ (Below.mono hb4 ?_)) | (with_reducible refine Below.trans ?_ (Below.mono hb5 ?_)) | (with_reducible refine Below.trans ?_ (Below.mono hb6 ?_)) | (with_reducible refine Below.trans ?_ (Below.mono hb7 ?_)) | (with_reducible refine Below.trans ?_ (Below.mono hb8 ?_)) | (with_reducible refine Below.trans ?_ (Below.mono hb9 ?_)) | (with_reducible refine Below.trans ?_ (Below.mono hb10 ?_)) | (with_reducible refine Below.trans ?_ (Below.mono hb11 ?_)) | (with_reducible refine Below.trans ?_ (Below.mono hb12 ?_)) | (with_reducible refine Below.trans ?_ (Below.mono hb13 ?_)) | (with_reducible refine Below.trans ?_ (Below.mono hb14 ?_)) | (with_reducible refine Below.trans ?_ (Below.mono hb15 ?_)) | omega | (simp; done) | (simp; omega)))⟩
    ·
     have He : Hid (R = false) := by show _ = _; rw [HR.out]; simp [*]
     clear HR
     go_wp2_with fail
     go_ret
     exact ⟨by rw [He.out] <;> rfl, by (repeat' (first | exact Below.refl _ _ | assumption | refine Below.setCell ?_ ?_ _ | refine below_drewN ?_ _ | refine Below.drew ?_ | refine Below.alloc ?_ ?_ _ | (with_reducible refine Below.trans ?_ (Below.mono hb ?_)) | (with_reducible refine Below.trans ?_ (Below.mono hb0 ?_)) | (with_reducible refine Below.trans ?_ (Below.mono hb1 ?_)) | (with_reducible refine Below.trans ?_ (Below.mono hb2 ?_)) | (with_reducible refine Below.trans ?_ (Below.mono hb3 ?_)) | (with_reducible refine Below.trans ?_ (Below.mono hb4 ?_)) | (with_reducible refine Below.trans ?_ (Below.mono hb5 ?_)) | (with_reducible refine Below.trans ?_ (Below.mono hb6 ?_)) | (with_reducible refine Below.trans ?_ (Below.mono hb7 ?_)) | (with_reducible refine Below.trans ?_ (Below.mono hb8 ?_)) | (with_reducible refine Below.trans ?_ (Below.mono hb9 ?_)) | (with_reducible refine Below.trans ?_ (Below.mono hb10 ?_)) | (with_reducible refine Below.trans ?_ (Below.mono hb11 ?_)) | (with_reducible refine Below.trans ?_ (Below.mono hb12 ?_)) | (with_reducible refine Below.trans ?_ (Below.mono hb13 ?_)) | (with_reducible refine Below.trans ?_ (Below.mono hb14 ?_)) | (with_reducible refine Below.trans ?_ (Below.mono hb15 ?_)) | omega | (simp; done) | (simp; omega)))⟩
   ·
    have He : Hid (R = false) := by show _ = _; rw [HR.out]; simp [*]
    clear HR
    go_wp2_with fail
    go_ret
    exact ⟨by rw [He.out] <;> rfl, by (repeat' (first | exact Below.refl _ _ | assumption | refine Below.setCell ?_ ?_ _ | refine below_drewN ?_ _ | refine Below.drew ?_ | refine Below.alloc ?_ ?_ _ | (with_reducible refine Below.trans ?_ (Below.mono hb ?_)) | (with_reducible refine Below.trans ?_ (Below.mono hb0 ?_)) | (with_reducible refine Below.trans ?_ (Below.mono hb1 ?_)) | (with_reducible refine Below.trans ?_ (Below.mono hb2 ?_)) | (with_reducible refine Below.trans ?_ (Below.mono hb3 ?_)) | (with_reducible refine Below.trans ?_ (Below.mono hb4 ?_)) | (with_reducible refine Below.trans ?_ (Below.mono hb5 ?_)) | (with_reducible refine Below.trans ?_ (Below.mono hb6 ?_)) | (with_reducible refine Below.trans ?_ (Below.mono hb7 ?_)) | (with_reducible refine Below.trans ?_ (Below.mono hb8 ?_)) | (with_reducible refine Below.trans ?_ (Below.mono hb9 ?_)) | (with_reducible refine Below.trans ?_ (Below.mono hb10 ?_)) | (with_reducible refine Below.trans ?_ (Below.mono hb11 ?_)) | (with_reducible refine Below.trans ?_ (Below.mono hb12 ?_)) | (with_reducible refine Below.trans ?_ (Below.mono hb13 ?_)) | (with_reducible refine Below.trans ?_ (Below.mono hb14 ?_)) | (with_reducible refine Below.trans ?_ (Below.mono hb15 ?_)) | omega | (simp; done) | (simp; omega)))⟩
  ·
   have He : Hid (R = false) := by show _ = _; rw [HR.out]; simp [*]
   clear HR
   go_wp2_with fail
   go_ret
   exact ⟨by rw [He.out] <;> rfl, by (repeat' (first | exact Below.refl _ _ | assumption | refine Below.setCell ?_ ?_ _ | refine below_drewN ?_ _ | refine Below.drew ?_ | refine Below.alloc ?_ ?_ _ | (with_reducible refine Below.trans ?_ (Below.mono hb ?_)) | (with_reducible refine Below.trans ?_ (Below.mono hb0 ?_)) | (with_reducible refine Below.trans ?_ (Below.mono hb1 ?_)) | (with_reducible refine Below.trans ?_ (Below.mono hb2 ?_)) | (with_reducible refine Below.trans ?_ (Below.mono hb3 ?_)) | (with_reducible refine Below.trans ?_ (Below.mono hb4 ?_)) | (with_reducible refine Below.trans ?_ (Below.mono hb5 ?_)) | (with_reducible refine Below.trans ?_ (Below.mono hb6 ?_)) | (with_reducible refine Below.trans ?_ (Below.mono hb7 ?_)) | (with_reducible refine Below.trans ?_ (Below.mono hb8 ?_)) | (with_reducible refine Below.trans ?_ (Below.mono hb9 ?_)) | (with_reducible refine Below.trans ?_ (Below.mono hb10 ?_)) | (with_reducible refine Below.trans ?_ (Below.mono hb11 ?_)) | (with_reducible refine Below.trans ?_ (Below.mono hb12 ?_)) | (with_reducible refine Below.trans ?_ (Below.mono hb13 ?_)) | (with_reducible refine Below.trans ?_ (Below.mono hb14 ?_)) | (with_reducible refine Below.trans ?_ (Below.mono hb15 ?_)) | omega | (simp; done) | (simp; omega)))⟩
 ·
  have He : Hid (R = false) := by show _ = _; rw [HR.out]; simp [*]
  clear HR
  go_wp2_with fail
  go_ret
  exact ⟨by rw [He.out] <;> rfl, by (repeat' (first | exact Below.refl _ _ | assumption | refine Below.setCell ?_ ?_ _ | refine below_drewN ?_ _ | refine Below.drew ?_ | refine Below.alloc ?_ ?_ _ | (with_reducible refine Below.trans ?_ (Below.mono hb ?_)) | (with_reducible refine Below.trans ?_ (Below.mono hb0 ?_)) | (with_reducible refine Below.trans ?_ (Below.mono hb1 ?_)) | (with_reducible refine Below.trans ?_ (Below.mono hb2 ?_)) | (with_reducible refine Below.trans ?_ (Below.mono hb3 ?_)) | (with_reducible refine Below.trans ?_ (Below.mono hb4 ?_)) | (with_reducible refine Below.trans ?_ (Below.mono hb5 ?_)) | (with_reducible refine Below.trans ?_ (Below.mono hb6 ?_)) | (with_reducible refine Below.trans ?_ (Below.mono hb7 ?_)) | (with_reducible refine Below.trans ?_ (Below.mono hb8 ?_)) | (with_reducible refine Below.trans ?_ (Below.mono hb9 ?_)) | (with_reducible refine Below.trans ?_ (Below.mono hb10 ?_)) | (with_reducible refine Below.trans ?_ (Below.mono hb11 ?_)) | (with_reducible refine Below.trans ?_ (Below.mono hb12 ?_)) | (with_reducible refine Below.trans ?_ (Below.mono hb13 ?_)) | (with_reducible refine Below.trans ?_ (Below.mono hb14 ?_)) | (with_reducible refine Below.trans ?_ (Below.mono hb15 ?_)) | omega | (simp; done) | (simp; omega)))⟩
end Go.Proofs.YtldgphhiajhfhaaGreatDoor

/-! A field's slot and talk of a key. Written by gen/src/progc4.py. -/
namespace Go.Proofs.YtldgphhiajhfhaaGreatDoor
open Go.RowKit
set_option linter.unusedVariables false
set_option linter.unusedSimpArgs false

set_option maxRecDepth 100000 in
set_option maxHeartbeats 4000000 in
theorem slotP_any (g : Grd) (fb br bs bt bb : Nat) (key : ByteArray) (w : World) (hF : FieldAt g fb br bs bt bb w) (hg : GRd w g) (hz : GSm g) (hn : (g.slots.map (·.1)).Nodup) (hk : (slotOf g key).isSome = true) :
  Calls Tryz.prog 134 #[.pointer (some ⟨fb, 0, none⟩), .string key] w (Gives (sltV (slotOr g key)) w) := by
 have hn1 := hz.slots
 obtain ⟨v, hv⟩ : ∃ v, mget (idxL (g.slots.map (·.1))) key = some v := by
  apply Option.isSome_iff_exists.1
  unfold slotOf at hk
  rw [find_any] at hk
  rw [idxL_has]; exact hk
 obtain ⟨i, hi, rfl, hki⟩ := idxL_some hv
 have hi' : i < g.slots.length := by simpa using hi
 have hkx : g.slots[i] = slotOr g key := by
  have h := idx_find hn hi' (by simpa using hki)
  unfold slotOr slotOf
  rw [h]; rfl
 obtain ⟨b, off, ha, c0, c1, c2⟩ := hg.slots.sltC hi'
 have HL : Hid (∀ W : World, MBox W bs (idxL (g.slots.map (·.1))) → (Instr.lookup 140 (.map (some bs)) (.string key) false).run Tryz.prog W = .ok (.int .i64 (i : Nat)) W) := fun W hW => by
  have h1 := MBox.look hW Tryz.underlying140 Tryz.underlying9 _ Tryz.zeroValue3 key false
  rw [h1]
  unfold looked
  rw [if_neg (by decide), hv]; rfl
 rw [hkx] at c0 c1 c2
 generalize slotOr g key = x at *
 obtain ⟨x1, x2, x3⟩ := x
 unfold sltV
 simp only at c0 c1 c2 ⊢
 have hi1 : (0 : Int) ≤ (i : Int) := by omega
 have hi2 : (i : Int) < (g.slots.length : Int) := by omega
 have hR := Box.new w 56 #[.string ⟨#[]⟩, .int .i64 0, .int .i64 0]
 have hb0n : Below w.heap.size w (w.alloc (.cells #[.string ⟨#[]⟩, .int .i64 0, .int .i64 0] 56)) := (Below.refl _ _).alloc (Nat.le_refl _) _
 have hf1 := (hF.box.below hb0n).cell 1
 have hf2 := (hF.box.below hb0n).cell 6
 simp at hf1 hf2
 rw [ha] at hf1
 have k0 := cell_later hb0n c0
 have k1 := cell_later hb0n c1
 have k2 := cell_later hb0n c2
 have hm1 := hF.s.below hb0n
 have hb1 := hb0n
 clear hF hg hz hn hk hv hi hi' hki hkx ha hb0n c0 c1 c2
 go_enter Tryz.func134, Tryz.ntmps134
 go_upto_region 1 with (fail)
 generalize w.alloc (.cells #[.string ⟨#[]⟩, .int .i64 0, .int .i64 0] 56) = w1 at *
 refine wp_regionF (S := (fun wx => wx.cell? ⟨fb, 1, none⟩ = some (.slice (some ⟨b, off, none⟩) g.slots.length g.sc) ∧ wx.cell? ⟨fb, 6, none⟩ = some (.map (some bs)) ∧ wx.cell? ⟨b, off + i * 3, none⟩ = some (.string x1) ∧ wx.cell? ⟨b, off + i * 3 + 1, none⟩ = some (.int .i64 x2) ∧ wx.cell? ⟨b, off + i * 3 + 2, none⟩ = some (.int .i64 x3) ∧ MBox wx bs (idxL (g.slots.map (·.1))))) 13 (by kernel_rfl) ?hS (fun hHeld => ?_)
 case hS => exact ⟨hf1, hf2, k0, k1, k2, hm1.drew⟩
 refine rtakeF (i := 0) (d := (some 5)) (v := ?_) (n := 40) rfl (by kernel_rfl) (by kernel_rfl) (by kernel_rfl) (by kernel_rfl) (by kernel_rfl) (by kernel_rfl) (fun _ _ _ h => h) (by kernel_rfl) (by assumption) ?_ ?_
 rotate_left 1
 ·
  (intro wI hSI; (try dsimp only at hSI); go_simp; (try with_reducible rfl))
 simp only [Act.put, lsetA, lsetZ, lsetS]
 refine rtakeF (i := 1) (d := (some 6)) (v := ?_) (n := 40) rfl (by kernel_rfl) (by kernel_rfl) (by kernel_rfl) (by kernel_rfl) (by kernel_rfl) (by kernel_rfl) (fun _ _ _ h => h) (by kernel_rfl) (by assumption) ?_ ?_
 rotate_left 1
 ·
  (intro wI hSI; (try dsimp only at hSI); go_simp; (try with_reducible rfl))
 simp only [Act.put, lsetA, lsetZ, lsetS]
 refine rtakeF (i := 2) (d := (some 7)) (v := ?_) (n := 40) rfl (by kernel_rfl) (by kernel_rfl) (by kernel_rfl) (by kernel_rfl) (by kernel_rfl) (by kernel_rfl) (fun _ _ _ h => h) (by kernel_rfl) (by assumption) ?_ ?_
 rotate_left 1
 ·
  (intro wI hSI; (try dsimp only at hSI); go_simp; (try with_reducible rfl))
 simp only [Act.put, lsetA, lsetZ, lsetS]
 refine rtakeF (i := 3) (d := (some 8)) (v := ?_) (n := 40) rfl (by kernel_rfl) (by kernel_rfl) (by kernel_rfl) (by kernel_rfl) (by kernel_rfl) (by kernel_rfl) (fun _ _ _ h => h) (by kernel_rfl) (by assumption) ?_ ?_
 rotate_left 1
 ·
  (intro wI hSI; (try dsimp only at hSI); go_simp; (try with_reducible rfl))
 simp only [Act.put, lsetA, lsetZ, lsetS]
 refine rtakeF (i := 4) (d := (some 9)) (v := ?_) (n := 40) rfl (by kernel_rfl) (by kernel_rfl) (by kernel_rfl) (by kernel_rfl) (by kernel_rfl) (by kernel_rfl) (fun _ _ _ h => h) (by kernel_rfl) (by assumption) ?_ ?_
 rotate_left 1
 ·
  (intro wI hSI; (try dsimp only at hSI); go_simp; (try with_reducible rfl))
 simp only [Act.put, lsetA, lsetZ, lsetS]
 refine rtakeF (i := 5) (d := (some 10)) (v := ?_) (n := 40) rfl (by kernel_rfl) (by kernel_rfl) (by kernel_rfl) (by kernel_rfl) (by kernel_rfl) (by kernel_rfl) (fun _ _ _ h => h) (by kernel_rfl) (by assumption) ?_ ?_
 rotate_left 1
 ·
  (intro wI hSI; (try dsimp only at hSI); go_simp; (try with_reducible rfl))
 simp only [Act.put, lsetA, lsetZ, lsetS]
 refine rtakeF (i := 6) (d := (some 11)) (v := ?_) (n := 40) rfl (by kernel_rfl) (by kernel_rfl) (by kernel_rfl) (by kernel_rfl) (by kernel_rfl) (by kernel_rfl) (fun _ _ _ h => h) (by kernel_rfl) (by assumption) ?_ ?_
 rotate_left 1
 ·
  (intro wI hSI; (try dsimp only at hSI); go_simp; (try with_reducible rfl))
 simp only [Act.put, lsetA, lsetZ, lsetS]
 refine rtakeF (i := 7) (d := (some 12)) (v := ?_) (n := 40) rfl (by kernel_rfl) (by kernel_rfl) (by kernel_rfl) (by kernel_rfl) (by kernel_rfl) (by kernel_rfl) (fun _ _ _ h => h) (by kernel_rfl) (by assumption) ?_ ?_
 rotate_left 1
 ·
  (intro wI hSI; (try dsimp only at hSI); go_simp; (try with_reducible rfl))
 simp only [Act.put, lsetA, lsetZ, lsetS]
 refine rtakeF (i := 8) (d := (some 13)) (v := ?_) (n := 40) rfl (by kernel_rfl) (by kernel_rfl) (by kernel_rfl) (by kernel_rfl) (by kernel_rfl) (by kernel_rfl) (fun _ _ _ h => h) (by kernel_rfl) (by assumption) ?_ ?_
 rotate_left 1
 ·
  (intro wI hSI; (try dsimp only at hSI); go_simp; (try with_reducible rfl))
 simp only [Act.put, lsetA, lsetZ, lsetS]
 refine rtakeF (i := 9) (d := (some 14)) (v := ?_) (n := 40) rfl (by kernel_rfl) (by kernel_rfl) (by kernel_rfl) (by kernel_rfl) (by kernel_rfl) (by kernel_rfl) (fun _ _ _ h => h) (by kernel_rfl) (by assumption) ?_ ?_
 rotate_left 1
 ·
  (intro wI hSI; (try dsimp only at hSI); go_simp; (try with_reducible rfl))
 simp only [Act.put, lsetA, lsetZ, lsetS]
 refine rtakeF (i := 10) (d := (some 15)) (v := ?_) (n := 40) rfl (by kernel_rfl) (by kernel_rfl) (by kernel_rfl) (by kernel_rfl) (by kernel_rfl) (by kernel_rfl) (fun _ _ _ h => h) (by kernel_rfl) (by assumption) ?_ ?_
 rotate_left 1
 ·
  (intro wI hSI; have hlk := HL.out wI hSI.2.2.2.2.2; go_simp; (try with_reducible rfl))
 simp only [Act.put, lsetA, lsetZ, lsetS]
 refine rtakeF (i := 11) (d := (some 16)) (v := ?_) (n := 40) rfl (by kernel_rfl) (by kernel_rfl) (by kernel_rfl) (by kernel_rfl) (by kernel_rfl) (by kernel_rfl) (fun _ _ _ h => h) (by kernel_rfl) (by assumption) ?_ ?_
 rotate_left 1
 ·
  (intro wI hSI; (try dsimp only at hSI); go_simp; (try with_reducible rfl))
 simp only [Act.put, lsetA, lsetZ, lsetS]
 refine rtakeF (i := 12) (d := (some 17)) (v := ?_) (n := 40) rfl (by kernel_rfl) (by kernel_rfl) (by kernel_rfl) (by kernel_rfl) (by kernel_rfl) (by kernel_rfl) (fun _ _ _ h => h) (by kernel_rfl) (by assumption) ?_ ?_
 rotate_left 1
 ·
  (intro wI hSI; (try dsimp only at hSI); go_simp; (try with_reducible rfl))
 simp only [Act.put, lsetA, lsetZ, lsetS]
 have hR_l := hR.lt; have hR_0 := hR.cell 0; have hR_1 := hR.cell 1; have hR_2 := hR.cell 2; simp at hR_0 hR_1 hR_2
 have hR_f0 := hR.frozen 0; have hR_f1 := hR.frozen 1; have hR_f2 := hR.frozen 2
 refine rcallF (i := 13) (d := none) (by kernel_rfl) rfl (by kernel_rfl) (fun K hK => ?_)
 go_simp
 refine hK.out undef _ (.inl rfl) (fun _ => ?_)
 clear hK K
 simp only [Act.put, lsetA, lsetZ, lsetS]
 refine wpAnyF_done (by kernel_rfl) ?_ _
 have hfin : Below w.heap.size w ((((w1.setCell ⟨w.heap.size, 0, none⟩ (.string x1)).setCell ⟨w.heap.size, 1, none⟩ (.int .i64 x2)).setCell ⟨w.heap.size, 2, none⟩ (.int .i64 x3))).drew := ((((hb1.setCell (p := ⟨w.heap.size, 0, none⟩) (Nat.le_refl _) _).setCell (p := ⟨w.heap.size, 1, none⟩) (Nat.le_refl _) _).setCell (p := ⟨w.heap.size, 2, none⟩) (Nat.le_refl _) _)).drew
 have Hfin := Lib.hid hfin
 clear hfin hHeld
 go_wp2_with fail
 refine bodyPost_ret (v := .agg #[.string x1, .int .i64 x2, .int .i64 x3]) (by simp only [results, Tryz.results134]; go_simp) rfl ?_
 exact ⟨rfl, Hfin.out⟩

set_option maxRecDepth 100000 in
set_option maxHeartbeats 4000000 in
theorem talkP_any (g : Grd) (fb br bs bt bb : Nat) (key : ByteArray) (w : World) (hF : FieldAt g fb br bs bt bb w) (hg : GRd w g) (hz : GSm g) (hn : (g.talks.map (·.paper)).Nodup) (hk : (talkOf g key).isSome = true) :
  Calls Tryz.prog 135 #[.pointer (some ⟨fb, 0, none⟩), .string key] w (Gives ((talkOr g key).agg) w) := by
 have hn1 := hz.talks
 obtain ⟨v, hv⟩ : ∃ v, mget (idxL (g.talks.map (·.paper))) key = some v := by
  apply Option.isSome_iff_exists.1
  unfold talkOf at hk
  rw [find_any] at hk
  rw [idxL_has]; exact hk
 obtain ⟨i, hi, rfl, hki⟩ := idxL_some hv
 have hi' : i < g.talks.length := by simpa using hi
 have hkx : g.talks[i] = talkOr g key := by
  have h := idx_find hn hi' (by simpa using hki)
  unfold talkOr talkOf
  rw [h]; rfl
 obtain ⟨b, off, ha, c0, c1, c2, c3⟩ := hg.talks.tlkC hi'
 have HL : Hid (∀ W : World, MBox W bt (idxL (g.talks.map (·.paper))) → (Instr.lookup 140 (.map (some bt)) (.string key) false).run Tryz.prog W = .ok (.int .i64 (i : Nat)) W) := fun W hW => by
  have h1 := MBox.look hW Tryz.underlying140 Tryz.underlying9 _ Tryz.zeroValue3 key false
  rw [h1]
  unfold looked
  rw [if_neg (by decide), hv]; rfl
 rw [hkx] at c0 c1 c2 c3
 generalize talkOr g key = x at *
 obtain ⟨x1, x2, x3, x4, x5, x6, x7, x8⟩ := x
 unfold Tlk.agg
 simp only at c0 c1 c2 c3 ⊢
 have hi1 : (0 : Int) ≤ (i : Int) := by omega
 have hi2 : (i : Int) < (g.talks.length : Int) := by omega
 have hR := Box.new w 60 #[.string ⟨#[]⟩, .slice none 0 0, .slice none 0 0, .int .i64 0]
 have hb0n : Below w.heap.size w (w.alloc (.cells #[.string ⟨#[]⟩, .slice none 0 0, .slice none 0 0, .int .i64 0] 60)) := (Below.refl _ _).alloc (Nat.le_refl _) _
 have hf1 := (hF.box.below hb0n).cell 2
 have hf2 := (hF.box.below hb0n).cell 7
 simp at hf1 hf2
 rw [ha] at hf1
 have k0 := cell_later hb0n c0
 have k1 := cell_later hb0n c1
 have k2 := cell_later hb0n c2
 have k3 := cell_later hb0n c3
 have hm1 := hF.t.below hb0n
 have hb1 := hb0n
 clear hF hg hz hn hk hv hi hi' hki hkx ha hb0n c0 c1 c2 c3
 go_enter Tryz.func135, Tryz.ntmps135
 go_upto_region 1 with (fail)
 generalize w.alloc (.cells #[.string ⟨#[]⟩, .slice none 0 0, .slice none 0 0, .int .i64 0] 60) = w1 at *
 refine wp_regionF (S := (fun wx => wx.cell? ⟨fb, 2, none⟩ = some (.slice (some ⟨b, off, none⟩) g.talks.length g.tc) ∧ wx.cell? ⟨fb, 7, none⟩ = some (.map (some bt)) ∧ wx.cell? ⟨b, off + i * 4, none⟩ = some (.string x1) ∧ wx.cell? ⟨b, off + i * 4 + 1, none⟩ = some (.slice x5 x2.length x6) ∧ wx.cell? ⟨b, off + i * 4 + 2, none⟩ = some (.slice x7 x3.length x8) ∧ wx.cell? ⟨b, off + i * 4 + 3, none⟩ = some (.int .i64 x4) ∧ MBox wx bt (idxL (g.talks.map (·.paper))))) 13 (by kernel_rfl) ?hS (fun hHeld => ?_)
 case hS => exact ⟨hf1, hf2, k0, k1, k2, k3, hm1.drew⟩
 refine rtakeF (i := 0) (d := (some 5)) (v := ?_) (n := 40) rfl (by kernel_rfl) (by kernel_rfl) (by kernel_rfl) (by kernel_rfl) (by kernel_rfl) (by kernel_rfl) (fun _ _ _ h => h) (by kernel_rfl) (by assumption) ?_ ?_
 rotate_left 1
 ·
  (intro wI hSI; (try dsimp only at hSI); go_simp; (try with_reducible rfl))
 simp only [Act.put, lsetA, lsetZ, lsetS]
 refine rtakeF (i := 1) (d := (some 6)) (v := ?_) (n := 40) rfl (by kernel_rfl) (by kernel_rfl) (by kernel_rfl) (by kernel_rfl) (by kernel_rfl) (by kernel_rfl) (fun _ _ _ h => h) (by kernel_rfl) (by assumption) ?_ ?_
 rotate_left 1
 ·
  (intro wI hSI; (try dsimp only at hSI); go_simp; (try with_reducible rfl))
 simp only [Act.put, lsetA, lsetZ, lsetS]
 refine rtakeF (i := 2) (d := (some 7)) (v := ?_) (n := 40) rfl (by kernel_rfl) (by kernel_rfl) (by kernel_rfl) (by kernel_rfl) (by kernel_rfl) (by kernel_rfl) (fun _ _ _ h => h) (by kernel_rfl) (by assumption) ?_ ?_
 rotate_left 1
 ·
  (intro wI hSI; (try dsimp only at hSI); go_simp; (try with_reducible rfl))
 simp only [Act.put, lsetA, lsetZ, lsetS]
 refine rtakeF (i := 3) (d := (some 8)) (v := ?_) (n := 40) rfl (by kernel_rfl) (by kernel_rfl) (by kernel_rfl) (by kernel_rfl) (by kernel_rfl) (by kernel_rfl) (fun _ _ _ h => h) (by kernel_rfl) (by assumption) ?_ ?_
 rotate_left 1
 ·
  (intro wI hSI; (try dsimp only at hSI); go_simp; (try with_reducible rfl))
 simp only [Act.put, lsetA, lsetZ, lsetS]
 refine rtakeF (i := 4) (d := (some 9)) (v := ?_) (n := 40) rfl (by kernel_rfl) (by kernel_rfl) (by kernel_rfl) (by kernel_rfl) (by kernel_rfl) (by kernel_rfl) (fun _ _ _ h => h) (by kernel_rfl) (by assumption) ?_ ?_
 rotate_left 1
 ·
  (intro wI hSI; (try dsimp only at hSI); go_simp; (try with_reducible rfl))
 simp only [Act.put, lsetA, lsetZ, lsetS]
 refine rtakeF (i := 5) (d := (some 10)) (v := ?_) (n := 40) rfl (by kernel_rfl) (by kernel_rfl) (by kernel_rfl) (by kernel_rfl) (by kernel_rfl) (by kernel_rfl) (fun _ _ _ h => h) (by kernel_rfl) (by assumption) ?_ ?_
 rotate_left 1
 ·
  (intro wI hSI; (try dsimp only at hSI); go_simp; (try with_reducible rfl))
 simp only [Act.put, lsetA, lsetZ, lsetS]
 refine rtakeF (i := 6) (d := (some 11)) (v := ?_) (n := 40) rfl (by kernel_rfl) (by kernel_rfl) (by kernel_rfl) (by kernel_rfl) (by kernel_rfl) (by kernel_rfl) (fun _ _ _ h => h) (by kernel_rfl) (by assumption) ?_ ?_
 rotate_left 1
 ·
  (intro wI hSI; (try dsimp only at hSI); go_simp; (try with_reducible rfl))
 simp only [Act.put, lsetA, lsetZ, lsetS]
 refine rtakeF (i := 7) (d := (some 12)) (v := ?_) (n := 40) rfl (by kernel_rfl) (by kernel_rfl) (by kernel_rfl) (by kernel_rfl) (by kernel_rfl) (by kernel_rfl) (fun _ _ _ h => h) (by kernel_rfl) (by assumption) ?_ ?_
 rotate_left 1
 ·
  (intro wI hSI; (try dsimp only at hSI); go_simp; (try with_reducible rfl))
 simp only [Act.put, lsetA, lsetZ, lsetS]
 refine rtakeF (i := 8) (d := (some 13)) (v := ?_) (n := 40) rfl (by kernel_rfl) (by kernel_rfl) (by kernel_rfl) (by kernel_rfl) (by kernel_rfl) (by kernel_rfl) (fun _ _ _ h => h) (by kernel_rfl) (by assumption) ?_ ?_
 rotate_left 1
 ·
  (intro wI hSI; (try dsimp only at hSI); go_simp; (try with_reducible rfl))
 simp only [Act.put, lsetA, lsetZ, lsetS]
 refine rtakeF (i := 9) (d := (some 14)) (v := ?_) (n := 40) rfl (by kernel_rfl) (by kernel_rfl) (by kernel_rfl) (by kernel_rfl) (by kernel_rfl) (by kernel_rfl) (fun _ _ _ h => h) (by kernel_rfl) (by assumption) ?_ ?_
 rotate_left 1
 ·
  (intro wI hSI; (try dsimp only at hSI); go_simp; (try with_reducible rfl))
 simp only [Act.put, lsetA, lsetZ, lsetS]
 refine rtakeF (i := 10) (d := (some 15)) (v := ?_) (n := 40) rfl (by kernel_rfl) (by kernel_rfl) (by kernel_rfl) (by kernel_rfl) (by kernel_rfl) (by kernel_rfl) (fun _ _ _ h => h) (by kernel_rfl) (by assumption) ?_ ?_
 rotate_left 1
 ·
  (intro wI hSI; have hlk := HL.out wI hSI.2.2.2.2.2.2; go_simp; (try with_reducible rfl))
 simp only [Act.put, lsetA, lsetZ, lsetS]
 refine rtakeF (i := 11) (d := (some 16)) (v := ?_) (n := 40) rfl (by kernel_rfl) (by kernel_rfl) (by kernel_rfl) (by kernel_rfl) (by kernel_rfl) (by kernel_rfl) (fun _ _ _ h => h) (by kernel_rfl) (by assumption) ?_ ?_
 rotate_left 1
 ·
  (intro wI hSI; (try dsimp only at hSI); go_simp; (try with_reducible rfl))
 simp only [Act.put, lsetA, lsetZ, lsetS]
 refine rtakeF (i := 12) (d := (some 17)) (v := ?_) (n := 40) rfl (by kernel_rfl) (by kernel_rfl) (by kernel_rfl) (by kernel_rfl) (by kernel_rfl) (by kernel_rfl) (fun _ _ _ h => h) (by kernel_rfl) (by assumption) ?_ ?_
 rotate_left 1
 ·
  (intro wI hSI; (try dsimp only at hSI); go_simp; (try with_reducible rfl))
 simp only [Act.put, lsetA, lsetZ, lsetS]
 have hR_l := hR.lt; have hR_0 := hR.cell 0; have hR_1 := hR.cell 1; have hR_2 := hR.cell 2; have hR_3 := hR.cell 3; simp at hR_0 hR_1 hR_2 hR_3
 have hR_f0 := hR.frozen 0; have hR_f1 := hR.frozen 1; have hR_f2 := hR.frozen 2; have hR_f3 := hR.frozen 3
 refine rcallF (i := 13) (d := none) (by kernel_rfl) rfl (by kernel_rfl) (fun K hK => ?_)
 go_simp
 refine hK.out undef _ (.inl rfl) (fun _ => ?_)
 clear hK K
 simp only [Act.put, lsetA, lsetZ, lsetS]
 refine wpAnyF_done (by kernel_rfl) ?_ _
 have hfin : Below w.heap.size w (((((w1.setCell ⟨w.heap.size, 0, none⟩ (.string x1)).setCell ⟨w.heap.size, 1, none⟩ (.slice x5 x2.length x6)).setCell ⟨w.heap.size, 2, none⟩ (.slice x7 x3.length x8)).setCell ⟨w.heap.size, 3, none⟩ (.int .i64 x4))).drew := (((((hb1.setCell (p := ⟨w.heap.size, 0, none⟩) (Nat.le_refl _) _).setCell (p := ⟨w.heap.size, 1, none⟩) (Nat.le_refl _) _).setCell (p := ⟨w.heap.size, 2, none⟩) (Nat.le_refl _) _).setCell (p := ⟨w.heap.size, 3, none⟩) (Nat.le_refl _) _)).drew
 have Hfin := Lib.hid hfin
 clear hfin hHeld
 go_wp2_with fail
 refine bodyPost_ret (v := .agg #[.string x1, .slice x5 x2.length x6, .slice x7 x3.length x8, .int .i64 x4]) (by simp only [results, Tryz.results135]; go_simp) rfl ?_
 exact ⟨rfl, Hfin.out⟩

end Go.Proofs.YtldgphhiajhfhaaGreatDoor

/-! Two sessions at one time, by the program; its first closure. -/
namespace Go.Proofs.YtldgphhiajhfhaaGreatDoor
open Go.RowKit
set_option linter.unusedVariables false
set_option linter.unusedSimpArgs false

/-- No key of slots or of talks stands twice. -/
structure GNd (g : Grd) : Prop where
 slots : (g.slots.map (·.1)).Nodup
 talks : (g.talks.map (·.paper)).Nodup
set_option maxRecDepth 100000 in
set_option maxHeartbeats 4000000 in
theorem besideP_any (g : Grd) (fb br bs bt bb : Nat) (x y : Ses) (w : World) (hF : FieldAt g fb br bs bt bb w) (hg : GRd w g) (hz : GSm g) (hn : GNd g) (hx : (slotOf g x.slot).isSome = true) (hy : (slotOf g y.slot).isSome = true) :
  Calls Tryz.prog 91 #[.pointer (some ⟨fb, 0, none⟩), x.agg, y.agg] w (Gives (.bool (meetsB g x y)) w) := by
 have H1 := Lib.hid (fun W (h : Below w.heap.size w W) => slotP_any g fb br bs bt bb x.slot W (hF.below h) (hg.below h) hz hn.slots hx)
 have H2 := Lib.hid (fun W (h : Below w.heap.size w W) => slotP_any g fb br bs bt bb y.slot W (hF.below h) (hg.below h) hz hn.slots hy)
 have HO := Lib.hid (fun W => overlapsP_any (slotOr g x.slot) (slotOr g y.slot) W)
 have HR : Hid (meetsB g x y = overlapsB (slotOr g x.slot) (slotOr g y.slot)) := rfl
 generalize meetsB g x y = R at *
 generalize overlapsB (slotOr g x.slot) (slotOr g y.slot) = R2 at *
 generalize sltV (slotOr g x.slot) = v1 at *
 generalize sltV (slotOr g y.slot) = v2 at *
 clear hF hg hz hn hx hy
 obtain ⟨x1, x2, x3, x4, x5⟩ := x
 obtain ⟨y1, y2, y3, y4, y5⟩ := y
 unfold Ses.agg
 simp only at H1 H2 ⊢
 have hX := (Box.new w 67 #[.string x1, .string x2, .slice x4 x3.length x5]).alloc (.cells #[.string y1, .string y2, .slice y4 y3.length y5] 67)
 have hY := Box.newAt (w.alloc (.cells #[.string x1, .string x2, .slice x4 x3.length x5] 67)) (w.heap.size + 1) 67 #[.string y1, .string y2, .slice y4 y3.length y5] (by simp)
 have hb0 : Below w.heap.size w ((w.alloc (.cells #[.string x1, .string x2, .slice x4 x3.length x5] 67)).alloc (.cells #[.string y1, .string y2, .slice y4 y3.length y5] 67)) := ((Below.refl _ _).alloc (Nat.le_refl _) _).alloc (by simp) _
 go_enter Tryz.func91, Tryz.ntmps91
 go_upto_region 1 with (fail)
 generalize (w.alloc (.cells #[.string x1, .string x2, .slice x4 x3.length x5] 67)).alloc (.cells #[.string y1, .string y2, .slice y4 y3.length y5] 67) = w1 at *
 have hx0 := hX.cell 0
 have hy0 := hY.cell 0
 simp at hx0 hy0
 refine wp_region_held_drew (S := (fun wx => wx.cell? ⟨w.heap.size, 0, none⟩ = some (.string x1) ∧ wx.cell? ⟨w.heap.size + 1, 0, none⟩ = some (.string y1) ∧ Below w1.heap.size w1 wx)) (by kernel_rfl) ?hS (fun hHeld => ?_)
 case hS => exact ⟨hx0, hy0, (Below.refl _ _).drew⟩
 refine rt 0 (some 7) ?_
 refine rt 1 (some 8) ?_
 refine rt 2 (some 9) ?_
 refine rt 4 (some 11) ?_
 refine rt 5 (some 12) ?_
 refine rt 6 (some 13) ?_
 refine rcall (i := 3) (d := (some 10)) (by kernel_rfl) rfl (by kernel_rfl) (fun K hK => ?_)
 go_simp
 go_at_call 134; refine (H1.out _ (below_next hb0 hHeld.2.2)).mono ?_; rintro e w3 ⟨rfl, hb3⟩
 refine hK.out _ _ ?hS (fun hHeld => ?_)
 case hS => exact ⟨cell_later hb3 hHeld.1, cell_later hb3 hHeld.2.1, below_next hHeld.2.2 hb3⟩
 clear hK K
 simp only [Act.put, lsetA, lsetZ, lsetS]
 refine rcall (i := 7) (d := (some 14)) (by kernel_rfl) rfl (by kernel_rfl) (fun K hK => ?_)
 go_simp
 go_at_call 134; refine (H2.out _ (below_next hb0 hHeld.2.2)).mono ?_; rintro e w4 ⟨rfl, hb3⟩
 refine hK.out _ _ ?hS (fun hHeld => ?_)
 case hS => exact ⟨cell_later hb3 hHeld.1, cell_later hb3 hHeld.2.1, below_next hHeld.2.2 hb3⟩
 clear hK K
 simp only [Act.put, lsetA, lsetZ, lsetS]
 refine rcall (i := 8) (d := (some 15)) (by kernel_rfl) rfl (by kernel_rfl) (fun K hK => ?_)
 go_simp
 go_at_call 136; refine (HO.out _).mono ?_; rintro e w5 ⟨rfl, hb3⟩
 refine hK.out _ _ ?hS (fun hHeld => ?_)
 case hS => exact ⟨cell_later hb3 hHeld.1, cell_later hb3 hHeld.2.1, below_next hHeld.2.2 hb3⟩
 clear hK K
 simp only [Act.put, lsetA, lsetZ, lsetS]
 refine rt 9 (some 6) ?_
 refine wpAnyH_done (by kernel_rfl) ?_ _
 have hbF := below_next hb0 hHeld.2.2
 go_wp2_with fail
 go_ret
 exact ⟨by rw [HR.out] <;> rfl, hbF⟩
set_option maxRecDepth 100000 in
set_option maxHeartbeats 4000000 in
theorem faultClo_any (g : Grd) (fb br bs bt bb : Nat) (s o : Ses) (bo bf : Nat) (w : World) (hF : FieldAt g fb br bs bt bb w) (hg : GRd w g) (hz : GSm g) (hn : GNd g) (hs : (slotOf g s.slot).isSome = true) (ho : (slotOf g o.slot).isSome = true) (hsb : Box w bo 67 #[.string s.slot, .string s.room, .slice s.a1 s.papers.length s.c1]) (hfc : w.cell? ⟨bf, 0, none⟩ = some (.pointer (some ⟨fb, 0, none⟩))) :
  Calls Tryz.prog 90 #[o.agg, .pointer (some ⟨bo, 0, none⟩), .pointer (some ⟨bf, 0, none⟩)] w (Gives (.bool (decide (o.room = s.room) && meetsB g o s)) w) := by
 have HM := Lib.hid (fun W (h : Below w.heap.size w W) => besideP_any g fb br bs bt bb o s W (hF.below h) (hg.below h) hz hn ho hs)
 generalize meetsB g o s = mb at *
 clear hF hg hz hn hs ho
 obtain ⟨s1, s2, s3, s4, s5⟩ := s
 obtain ⟨o1, o2, o3, o4, o5⟩ := o
 simp only at hsb ⊢
 unfold Ses.agg at *
 simp only at HM
 have hO := Box.new w 67 #[.string o1, .string o2, .slice o4 o3.length o5]
 have hS := hsb.alloc (.cells #[.string o1, .string o2, .slice o4 o3.length o5] 67)
 have hb0 : Below w.heap.size w (w.alloc (.cells #[.string o1, .string o2, .slice o4 o3.length o5] 67)) := (Below.refl _ _).alloc (Nat.le_refl _) _
 have hf1 := cell_later hb0 hfc
 clear hsb hfc
 go_enter Tryz.func90, Tryz.ntmps90
 go_upto_region 1 with (fail)
 generalize w.alloc (.cells #[.string o1, .string o2, .slice o4 o3.length o5] 67) = w2 at *
 have hO_l := hO.lt; have hO_0 := hO.cell 0; have hO_1 := hO.cell 1; have hO_2 := hO.cell 2; simp at hO_0 hO_1 hO_2
 have hS_l := hS.lt; have hS_0 := hS.cell 0; have hS_1 := hS.cell 1; have hS_2 := hS.cell 2; simp at hS_0 hS_1 hS_2
 by_cases h : o2 = s2
 ·
  have e1 := tl_eq h
  have Hd : Hid ((decide (o2 = s2) && mb) = mb) := by show _ = _; rw [decide_eq_true h]; rfl
  clear h
  go_wp2_with fail
  refine (HM.out _ hb0).mono ?_
  rintro e w3 ⟨rfl, hb3⟩
  go_wp2_with fail
  go_ret
  exact ⟨by rw [Hd.out] <;> rfl, below_next hb0 hb3⟩
 ·
  have e1 := tl_ne h
  have Hd : Hid ((decide (o2 = s2) && mb) = false) := by show _ = _; rw [decide_eq_false h]; rfl
  clear h
  go_wp2_with fail
  go_ret
  exact ⟨by rw [Hd.out] <;> rfl, hb0⟩
end Go.Proofs.YtldgphhiajhfhaaGreatDoor

/-! The form of a programme, by the program. -/
/-! The form of a programme, by the program. -/
namespace Go.Proofs.YtldgphhiajhfhaaGreatDoor
open Go.RowKit
set_option linter.unusedVariables false
set_option linter.unusedSimpArgs false

/-- A set of strings as a map. -/
def setOf (l : List ByteArray) : List (ByteArray × Value) := l.foldl (fun m x => mput m x (.bool true)) []
theorem setOf_snoc (l : List ByteArray) (x : ByteArray) : setOf (l ++ [x]) = mput (setOf l) x (.bool true) := by
 unfold setOf
 rw [List.foldl_append]; rfl
theorem set_get (x : ByteArray) : ∀ (l : List ByteArray) (m : List (ByteArray × Value)), mget (l.foldl (fun m x => mput m x (.bool true)) m) x = if inB l x = true then some (.bool true) else mget m x
 | [], m => by simp [inB]
 | y :: r, m => by
  rw [List.foldl_cons, set_get x r, mget_mput]
  have e : inB (y :: r) x = (decide (y = x) || inB r x) := by unfold inB; rw [List.any_cons]
  rw [e]
  by_cases h : y = x
  ·
   rw [if_pos h, decide_eq_true h]
   cases inB r x <;> rfl
  ·
   rw [if_neg h, decide_eq_false h]
   cases inB r x <;> rfl
theorem setOf_get (l : List ByteArray) (x : ByteArray) : mget (setOf l) x = if inB l x = true then some (.bool true) else none := set_get x l []
theorem lookSet {w : World} {b : Nat} {l : List ByteArray} (h : MBox w b (setOf l)) (x : ByteArray) : (Instr.lookup 145 (.map (some b)) (.string x) false).run Tryz.prog w = .ok (.bool (inB l x)) w := by
 rw [MBox.look h Tryz.underlying145 Tryz.underlying9 _ Tryz.zeroValue4 x false]
 unfold looked
 rw [if_neg (by decide), setOf_get]
 cases inB l x <;> rfl
def roomAtV (g : Grd) (x : ByteArray) : Value := (mget (idxL (g.rooms.map (·.1))) x).getD (.int .i64 0)
theorem lookRv {g : Grd} {b : Nat} {w : World} (h : MBox w b (idxL (g.rooms.map (·.1)))) (x : ByteArray) : (Instr.lookup 140 (.map (some b)) (.string x) true).run Tryz.prog w = .ok (.tuple #[roomAtV g x, .bool (roomOf g x).isSome]) w := by
 have h1 := MBox.look h Tryz.underlying140 Tryz.underlying9 _ Tryz.zeroValue3 x true
 rw [h1]
 unfold looked roomOf
 rw [if_pos rfl, idxL_has, find_any]
 rfl
/-- A talk's place by its key. -/
theorem lookTi {g : Grd} {b : Nat} {w : World} (h : MBox w b (idxL (g.talks.map (·.paper)))) (hn : (g.talks.map (·.paper)).Nodup) {x : ByteArray} (hx : (talkOf g x).isSome = true) : ∃ i, ∃ hi : i < g.talks.length, g.talks[i] = talkOr g x ∧ (Instr.lookup 140 (.map (some b)) (.string x) true).run Tryz.prog w = .ok (.tuple #[.int .i64 (i : Nat), .bool true]) w := by
 obtain ⟨v, hv⟩ : ∃ v, mget (idxL (g.talks.map (·.paper))) x = some v := by
  apply Option.isSome_iff_exists.1
  unfold talkOf at hx
  rw [find_any] at hx
  rw [idxL_has]; exact hx
 obtain ⟨i, hi, rfl, hki⟩ := idxL_some hv
 have hi' : i < g.talks.length := by simpa using hi
 refine ⟨i, hi', ?_, ?_⟩
 ·
  have h := idx_find hn hi' (by simpa using hki)
  unfold talkOr talkOf
  rw [h]; rfl
 ·
  rw [MBox.look h Tryz.underlying140 Tryz.underlying9 _ Tryz.zeroValue3 x true]
  unfold looked
  rw [if_pos rfl, hv]; rfl
theorem slt_field2 (a : ByteArray) (b c : Int) (w : World) : (Instr.field 56 (.agg #[.string a, .int .i64 b, .int .i64 c]) 2).run Tryz.prog w = .ok (.int .i64 c) w := by kernel_rfl
set_option maxRecDepth 100000 in
set_option maxHeartbeats 16000000 in
theorem formP_any (g : Grd) (fb br bs bt bb : Nat) (p : List Ses) (pa : Option Addr) (pc : Nat) (w : World) (hF : FieldAt g fb br bs bt bb w) (hg : GRd w g) (hz : GSm g) (hn : GNd g) (hp : PRg w pa p) (hpl : p.length ≤ 1000000) (hpo : ∀ s ∈ p, SesOk s) (hpc : p.length ≤ pc) :
  Calls Tryz.prog 88 #[.pointer (some ⟨fb, 0, none⟩), .slice pa p.length pc] w (Gives (.int .i64 (firstErr (sesE g p) p.length)) w) := by
 have HSL := Lib.hid (fun key W (h : Below w.heap.size w W) hk => slotP_any g fb br bs bt bb key W (hF.below h) (hg.below h) hz hn.slots hk)
 have HG := Lib.hid (fun W (h : Below w.heap.size w W) => hg.below h)
 have HF := Lib.hid (fun W (h : Below w.heap.size w W) => hF.below h)
 have HP := Lib.hid (fun W (h : Below w.heap.size w W) => hp.below h)
 have HZM := Lib.hid hz
 have HPO := Lib.hid hpo
 have HNT := Lib.hid hn.talks
 obtain ⟨R, hR⟩ : ∃ R, R = firstErr (sesE g p) p.length := ⟨_, rfl⟩
 rw [← hR]
 have HR := Lib.hid hR
 clear hz hg hp hpo hF hn hR
 go_enter Tryz.func88, Tryz.ntmps88
 have hmm := @run_makeMap Tryz.prog
 go_upto_region 2 with (fail)
 have hM0 := MBox.new w
 have hb0 : Below w.heap.size w (w.alloc (.map #[] 0)) := (Below.refl _ _).alloc (Nat.le_refl _) _
 clear hmm
 generalize w.alloc (.map #[] 0) = w1 at *
 go_wp2_with fail
 go_loopg [20] p.length (fun gk iv wr => ∃ k : Nat, iv = .int .i64 k ∧ k ≤ p.length ∧ Hid (gk = p.length - k) ∧ Hid (∀ j, j < k → sesE g p j = 0) ∧ MBox wr w.heap.size (setOf (seenTo p k)) ∧ Below w.heap.size w wr)
 case atStart => exact ⟨0, rfl, by omega, rfl, (fun j hj => by omega), hM0, hb0⟩
 case round =>
  clear hM0 hb0
  obtain ⟨k, rfl, hk, hgk, hf, hM, hb⟩ := hrel
  by_cases hlt : k < p.length
  ·
   have hpr := HP.out _ hb
   obtain ⟨b, off, ha, c0, c1, c2⟩ := hpr.list.sesC hlt
   have Hfe : Hid (∀ e, sesE g p k = e → e ≠ 0 → R = e) := fun e he he0 => HR.out.trans (firstErr_is hlt hf.out he he0)
   have HE := Lib.hid (sesE_at (g := g) hlt)
   have hplt : k - 1 < p.length := by omega
   obtain ⟨b', off', ha', d0, d1, d2⟩ := hpr.list.sesC hplt
   rw [ha] at ha'
   cases ha'
   have hxm : p[k] ∈ p := List.getElem_mem hlt
   have Hsu := Lib.hid (seenTo_succ hlt)
   have HRD := Lib.hid (fun W (h : Below w.heap.size w W) => (HP.out W h).papers _ hxm)
   have hok := HPO.out _ hxm
   clear hxm
   generalize p[k] = x at *
   generalize p[k - 1] = y at *
   generalize seenTo p k = seen at *
   obtain ⟨q, hq⟩ : ∃ q, q = k - 1 := ⟨_, rfl⟩
   rw [← hq] at d0 d1 d2 hplt
   have hq1 : (0 : Int) ≤ (q : Int) := by omega
   have hq2 : (q : Int) < (p.length : Int) := by omega
   have Hq := Lib.hid hq
   have Ha := Lib.hid ha
   clear hq hpr
   rw [ha]
   clear ha
   obtain ⟨s1, s2, s3, s4, s5⟩ := x
   obtain ⟨y1, y2, y3, y4, y5⟩ := y
   simp only at c0 c1 c2 d0 d1 d2 HE hok HRD Hsu
   obtain ⟨hs1, hs2, hs3, hs4⟩ := hok
   go_upto_region 5 with (fail)
   have hM1 := hM.alloc (.cells #[.string s1, .string s2, .slice s4 s3.length s5] 67)
   have hE1 := Box.new wr 67 #[.string s1, .string s2, .slice s4 s3.length s5]
   have hb1 := hb.alloc hb.size (.cells #[.string s1, .string s2, .slice s4 s3.length s5] 67)
   have hnew := (Below.refl wr.heap.size wr).alloc (Nat.le_refl _) (.cells #[.string s1, .string s2, .slice s4 s3.length s5] 67)
   have hD0 := cell_later hnew d0
   have hD1 := cell_later hnew d1
   have hD2 := cell_later hnew d2
   have hnn := hM.lt
   clear hM hb c0 c1 c2 d0 d1 d2 hnew
   generalize wr.alloc (.cells #[.string s1, .string s2, .slice s4 s3.length s5] 67) = w2 at *
   generalize wr.heap.size = n2 at *
   have he0 := hE1.cell 0
   have he1 := hE1.cell 1
   have hf5 := (HF.out _ hb1).box.cell 5
   have hf6 := (HF.out _ hb1).box.cell 6
   simp at he0 he1 hf5 hf6
   have hms := (HF.out _ hb1).s
   have hmr := (HF.out _ hb1).r
   refine wp_region_held_drew (S := (fun wx => wx.cell? ⟨fb, 6, none⟩ = some (.map (some bs)) ∧ wx.cell? ⟨n2, 0, none⟩ = some (.string s1) ∧ MBox wx bs (idxL (g.slots.map (·.1))))) (by kernel_rfl) ?hS (fun hHeld => ?_)
   case hS => exact ⟨hf6, he0, hms.drew⟩
   refine rt 0 (some 26) ?_
   refine rt 1 (some 27) ?_
   refine rt 2 (some 28) ?_
   refine rt 3 (some 29) ?_
   refine rt 4 (some 30) ?_
   refine rt 5 (some 31) ?_
   refine rtake (i := 6) (d := (some 32)) (v := ?_) rfl (by kernel_rfl) (by kernel_rfl) (by kernel_rfl) (by kernel_rfl) (fun _ _ _ h => h) (by kernel_rfl) (by assumption) ?_ ?_
   rotate_left 1
   ·
    (intro wI hSI; have hlk := lookSv hSI.2.2 s1; go_simp; (try with_reducible rfl))
   simp only [Act.put, lsetA, lsetZ, lsetS]
   refine rt 7 (some 25) ?_
   refine rt 8 (some 33) ?_
   refine rt 9 (some 34) ?_
   refine rt 10 (some 8) ?_
   refine rt 11 (some 9) ?_
   refine wpAnyH_done (by kernel_rfl) ?_ _
   clear hHeld
   go_upto_region 6 with (fail)
   refine wp_region_held_drew (S := (fun wx => wx.cell? ⟨fb, 5, none⟩ = some (.map (some br)) ∧ wx.cell? ⟨n2, 1, none⟩ = some (.string s2) ∧ MBox wx br (idxL (g.rooms.map (·.1))))) (by kernel_rfl) ?hS (fun hHeld => ?_)
   case hS => exact ⟨hf5, he1, hmr.drew⟩
   refine rt 0 (some 36) ?_
   refine rt 1 (some 37) ?_
   refine rt 2 (some 38) ?_
   refine rt 3 (some 39) ?_
   refine rt 4 (some 40) ?_
   refine rt 5 (some 41) ?_
   refine rtake (i := 6) (d := (some 42)) (v := ?_) rfl (by kernel_rfl) (by kernel_rfl) (by kernel_rfl) (by kernel_rfl) (fun _ _ _ h => h) (by kernel_rfl) (by assumption) ?_ ?_
   rotate_left 1
   ·
    (intro wI hSI; have hlk := lookRv hSI.2.2 s2; go_simp; (try with_reducible rfl))
   simp only [Act.put, lsetA, lsetZ, lsetS]
   refine rt 7 (some 35) ?_
   refine rt 8 (some 43) ?_
   refine rt 9 (some 44) ?_
   refine rt 10 (some 10) ?_
   refine rt 11 (some 11) ?_
   refine wpAnyH_done (by kernel_rfl) ?_ _
   clear hHeld he0 he1 hf5 hf6 hms hmr
   have hM2 := hM1.drew.drew
   have hE2 := hE1.drew.drew
   have hb2 := hb1.drew.drew
   have hG0 : w2.drew.drew.cell? ⟨b, off + q * 3, none⟩ = some (.string y1) := hD0
   have hG1 : w2.drew.drew.cell? ⟨b, off + q * 3 + 1, none⟩ = some (.string y2) := hD1
   have hG2 : w2.drew.drew.cell? ⟨b, off + q * 3 + 2, none⟩ = some (.slice y4 y3.length y5) := hD2
   clear hM1 hE1 hb1 hD0 hD1 hD2
   generalize w2.drew.drew = w4 at *
   generalize slotAtV g s1 = sv at *
   generalize roomAtV g s2 = rv at *
   generalize hiss : (slotOf g s1).isSome = iss at *
   generalize (roomOf g s2).isSome = isr at *
   cases iss
   ·
    have He := Lib.hid (Hfe.out 8 (by rw [HE.out]; rfl) (by decide))
    clear Hfe HE HR hf
    go_wp2_with fail
    go_ret
    exact ⟨by rw [He.out] <;> rfl, hb2⟩
   ·
    cases isr
    ·
     have He := Lib.hid (Hfe.out 8 (by rw [HE.out]; rfl) (by decide))
     clear Hfe HE HR hf
     go_wp2_with fail
     go_ret
     exact ⟨by rw [He.out] <;> rfl, hb2⟩
    ·
     have HE2 : Hid (sesE g p k = if (decide (0 < k) && decide (0 ≤ sesOrd ⟨y1, y2, y3, y4, y5⟩ ⟨s1, s2, s3, s4, s5⟩)) = true then 7 else if s3.length = 0 then 3 else if firstErr (papE g seen s3) s3.length ≠ 0 then firstErr (papE g seen s3) s3.length else if (slotOr g s1).2.2 < longN g s3 then 12 else 0) := HE.out
     have HSO := Lib.hid (fun W => compareSes_any ⟨y1, y2, y3, y4, y5⟩ ⟨s1, s2, s3, s4, s5⟩ W)
     have HSX := Lib.hid (fun W (h : Below w.heap.size w W) => HSL.out s1 W h hiss)
     clear HE
     generalize sesOrd ⟨y1, y2, y3, y4, y5⟩ ⟨s1, s2, s3, s4, s5⟩ = so at *
     unfold Ses.agg at HSO
     simp only at HSO
     generalize slotOr g s1 = sx at *
     obtain ⟨q1, q2, q3⟩ := sx
     unfold sltV at HSX
     simp only at HSX HE2
     clear hiss
     go_upto_region 9 with (fail)
     go_cut [52] (fun v wx => v = .bool (decide (0 < k) && decide (0 ≤ so)) ∧ Below w4.heap.size w4 wx)
     case first =>
      by_cases h0 : k = 0
      ·
       have hd : decide ((0 : Int) < (k : Int)) = false := decide_eq_false (by omega)
       have hdn : decide (0 < k) = false := decide_eq_false (by omega)
       have Hd : Hid ((decide (0 < k) && decide (0 ≤ so)) = false) := by show _ = _; rw [hdn]; rfl
       clear h0
       go_quiet (fail)
       go_wp2_with fail
       go_meet
       exact ⟨by rw [Hd.out] <;> rfl, by (repeat' (first | exact Below.refl _ _ | assumption | refine Below.setCell ?_ ?_ _ | refine below_drewN ?_ _ | refine Below.drew ?_ | refine Below.alloc ?_ ?_ _ | (with_reducible refine Below.trans ?_ (Below.mono hb ?_)) | (with_reducible refine Below.trans ?_ (Below.mono hb0 ?_)) | (with_reducible refine Below.trans ?_ (Below.mono hb1 ?_)) | (with_reducible refine Below.trans ?_ (Below.mono hb2 ?_)) | (with_reducible refine Below.trans ?_ (Below.mono hb3 ?_)) | (with_reducible refine Below.trans ?_ (Below.mono hb4 ?_)) | (with_reducible refine Below.trans ?_ (Below.mono hb5 ?_)) | (with_reducible refine Below.trans ?_ (Below.mono hb6 ?_)) | (with_reducible refine Below.trans ?_ (Below.mono hb7 ?_)) | (with_reducible refine Below.trans ?_ (Below.mono hb8 ?_)) | (with_reducible refine Below.trans ?_ (Below.mono hb9 ?_)) | (with_reducible refine Below.trans ?_ (Below.mono hb10 ?_)) | (with_reducible refine Below.trans ?_ (Below.mono hb11 ?_)) | (with_reducible refine Below.trans ?_ (Below.mono hb12 ?_)) | (with_reducible refine Below.trans ?_ (Below.mono hb13 ?_)) | (with_reducible refine Below.trans ?_ (Below.mono hb14 ?_)) | (with_reducible refine Below.trans ?_ (Below.mono hb15 ?_)) | omega | (simp; done) | (simp; omega)))⟩
      ·
       have hd : decide ((0 : Int) < (k : Int)) = true := decide_eq_true (by omega)
       have hk1 : 0 < k := by omega
       have hk2 : (0 : Int) < (k : Int) := by omega
       have Hd : Hid ((decide (0 < k) && decide (0 ≤ so)) = decide (0 ≤ so)) := by show _ = _; rw [decide_eq_true hk1]; rfl
       have hw2 : IntKind.i64.wrap ((k : Int) - 1) = (q : Int) := by rw [IntWalk.i64_in _ (by omega)]; have := Hq.out; omega
       have hw3 : IntKind.i64.wrap (q : Int) = (q : Int) := IntWalk.i64_in _ (by omega)
       have hp3 : (k : Int) - 1 = (q : Int) := by have := Hq.out; omega
       have hE_0 := hE2.cell 0
       have hE_1 := hE2.cell 1
       have hE_2 := hE2.cell 2
       simp at hE_0 hE_1 hE_2
       clear h0
       refine wp_region_held_drew (S := (fun wx => wx.cell? ⟨n2, 0, none⟩ = some (.string s1) ∧ wx.cell? ⟨n2, 1, none⟩ = some (.string s2) ∧ wx.cell? ⟨n2, 2, none⟩ = some (.slice s4 s3.length s5) ∧ wx.cell? ⟨b, off + q * 3, none⟩ = some (.string y1) ∧ wx.cell? ⟨b, off + q * 3 + 1, none⟩ = some (.string y2) ∧ wx.cell? ⟨b, off + q * 3 + 2, none⟩ = some (.slice y4 y3.length y5) ∧ Below w4.heap.size w4 wx)) (by kernel_rfl) ?hS (fun hHeld => ?_)
       case hS => exact ⟨hE_0, hE_1, hE_2, hG0, hG1, hG2, (Below.refl _ _).drew⟩
       refine rt 0 (some 53) ?_
       refine rt 1 (some 54) ?_
       refine rt 2 (some 55) ?_
       refine rt 3 (some 56) ?_
       refine rt 4 (some 57) ?_
       refine rt 5 (some 58) ?_
       refine rt 6 (some 59) ?_
       refine rt 7 (some 60) ?_
       refine rt 8 (some 61) ?_
       refine rcall (i := 9) (d := (some 62)) (by kernel_rfl) rfl (by kernel_rfl) (fun K hK => ?_)
       go_simp
       go_at_call 133; refine (HSO.out _).mono ?_; rintro e w3 ⟨rfl, hb3, -⟩
       refine hK.out _ _ ?hS (fun hHeld => ?_)
       case hS => exact ⟨cell_later hb3 hHeld.1, cell_later hb3 hHeld.2.1, cell_later hb3 hHeld.2.2.1, cell_later hb3 hHeld.2.2.2.1, cell_later hb3 hHeld.2.2.2.2.1, cell_later hb3 hHeld.2.2.2.2.2.1, below_next hHeld.2.2.2.2.2.2 hb3⟩
       clear hK K
       simp only [Act.put, lsetA, lsetZ, lsetS]
       refine rt 10 (some 63) ?_
       refine rt 11 (some 64) ?_
       refine rt 12 (some 52) ?_
       refine wpAnyH_done (by kernel_rfl) ?_ _
       (try go_wp2_with fail)
       go_meet
       exact ⟨by rw [Hd.out] <;> rfl, hHeld.2.2.2.2.2.2⟩
     case rest =>
      obtain ⟨hv, hb7⟩ := hcut
      rw [hv]
      have hM4 := hM2.below hb7
      have hE4 := hE2.below hb7
      have hb5 := below_next hb2 hb7
      clear hM2 hE2 hb2 hb7 hG0 hG1 hG2 HSO hv
      cases hbb : (decide (0 < k) && decide (0 ≤ so))
      ·
       rw [hbb] at HE2
       have HE3 : Hid (sesE g p k = if s3.length = 0 then 3 else if firstErr (papE g seen s3) s3.length ≠ 0 then firstErr (papE g seen s3) s3.length else if q3 < longN g s3 then 12 else 0) := HE2.out
       clear hbb HE2
       by_cases h3 : s3.length = 0
       ·
        have hd : ((s3.length : Int) == 0) = true := by rw [beq_iff_eq]; omega
        have He := Lib.hid (Hfe.out 3 (by rw [HE3.out, if_pos h3]) (by decide))
        clear Hfe HE3 HR hf h3
        have hE4_l := hE4.lt; have hE4_0 := hE4.cell 0; have hE4_1 := hE4.cell 1; have hE4_2 := hE4.cell 2; simp at hE4_0 hE4_1 hE4_2
        go_wp2_with fail
        go_ret
        exact ⟨by rw [He.out] <;> rfl, hb5⟩
       ·
        have hd : ((s3.length : Int) == 0) = false := by rw [beq_eq_false_iff_ne]; omega
        rw [if_neg h3] at HE3
        have hE4_l := hE4.lt; have hE4_0 := hE4.cell 0; have hE4_1 := hE4.cell 1; have hE4_2 := hE4.cell 2; simp at hE4_0 hE4_1 hE4_2
        go_wp2_with fail
        clear hE4_l hE4_0 hE4_1 hE4_2
        clear hd h3
        go_loopg [12, 73] s3.length (fun gj lv jv wq => ∃ j : Nat, jv = .int .i64 j ∧ lv = .int .i64 (longN g (s3.take j)) ∧ j ≤ s3.length ∧ Hid (gj = s3.length - j) ∧ Hid (∀ i, i < j → papE g seen s3 i = 0) ∧ MBox wq w.heap.size (setOf (seen ++ s3.take j)) ∧ Box wq n2 67 #[.string s1, .string s2, .slice s4 s3.length s5] ∧ Below w.heap.size w wq)
        case atStart => exact ⟨0, rfl, rfl, by omega, rfl, (fun i hi => by omega), (by rw [List.take_zero, List.append_nil]; exact hM4), hE4, hb5⟩
        case round =>
         clear hM4 hE4 hb5
         obtain ⟨j, rfl, rfl, hj, hgj, hfi, hMq, hEq, hbq⟩ := hrel
         by_cases hjl : j < s3.length
         ·
          obtain ⟨tb, toff, ha4, t0⟩ := (HRD.out _ hbq).str hjl
          have HPE := Lib.hid (papE_at (g := g) (seen := seen) hjl)
          have Hln := Lib.hid (longN_succ g hjl)
          have hlb := longN_bd HZM.out s3 j hj
          have Htk : Hid (seen ++ s3.take (j + 1) = (seen ++ s3.take j) ++ [s3[j]]) := by show _ = _; rw [List.take_succ_eq_append_getElem hjl, List.append_assoc]
          have HfI : Hid (∀ e, papE g seen s3 j = e → e ≠ 0 → R = e) := fun e he he0 => Hfe.out e (by rw [HE3.out, firstErr_is hjl hfi.out he he0, if_pos he0]) he0
          have htok := talkOr_ok HZM.out s3[j]
          have Ha4 := Lib.hid ha4
          rw [ha4]
          clear ha4
          generalize s3[j] = x at *
          generalize hln : longN g (s3.take j) = ln at *
          have hlt' := (HF.out _ hbq).t
          have hf7 := (HF.out _ hbq).box.cell 7
          have hf2 := (HF.out _ hbq).box.cell 2
          simp at hf7 hf2
          cases hist : (talkOf g x).isSome
          ·
           obtain ⟨lv, hlk⟩ := lookT hlt' x
           rw [hist] at hlk
           have He := Lib.hid (HfI.out 8 (by rw [HPE.out, hist]; rfl) (by decide))
           clear HfI HPE Hfe HE3 HR hf hfi
           go_wp2_with fail
           go_ret
           exact ⟨by rw [He.out] <;> rfl, hbq⟩
          ·
           obtain ⟨i, hi, hti, hlk⟩ := lookTi hlt' HNT.out hist
           obtain ⟨ub, uoff, hau, u0, u1, u2, u3⟩ := (HG.out _ hbq).talks.tlkC hi
           have hlk2 := lookSet hMq x
           have HPE2 : Hid (papE g seen s3 j = if inB (seen ++ s3.take j) x = true then 6 else 0) := by show _ = _; rw [HPE.out, hist]; rfl
           have HU : Hid (∀ W, Below w.heap.size w W → W.cell? ⟨ub, uoff + i * 4 + 3, none⟩ = some (.int .i64 (talkOr g x).long)) := fun W hW => by
            obtain ⟨b9, o9, h9, -, -, -, v3⟩ := (HG.out _ hW).talks.tlkC hi
            rw [hau] at h9
            cases h9
            rw [hti] at v3
            exact v3
           generalize talkOr g x = t at *
           obtain ⟨t1, t2, t3, t4, t5, t6, t7, t8⟩ := t
           obtain ⟨-, -, -, -, -, hto1, hto2⟩ := htok
           simp only at Hln hto1 hto2 HU
           clear HPE hist u0 u1 u2 u3 hlt' hf2 hti
           cases hib : inB (seen ++ s3.take j) x
           ·
            have Hz : Hid (papE g seen s3 j = 0) := by show _ = _; rw [HPE2.out, hib]; rfl
            rw [hib] at hlk2
            have hw : IntKind.i64.wrap (ln + t4) = ln + t4 := IntWalk.i64_in _ (by omega)
            have hi1 : (0 : Int) ≤ (i : Int) := by omega
            have hi2 : (i : Int) < (g.talks.length : Int) := by omega
            have hfl := (HF.out _ hbq).box.lt
            clear HfI HPE2 Hfe HE3 hib
            go_upto_region 23 with (at_mapUpdate; refine wpList_mapUpdate_box rfl _ _ _ 145 rfl 9 4 Tryz.underlying145 Tryz.underlying9 w.heap.size _ rfl hMq x rfl (.bool true) rfl ?_; intro w5 hM5 hg5 hs5)
            have hE5 := hEq.grown hg5 (fun e => by have := Option.some.inj e; omega)
            have hb5 := hbq.grown hg5 hbq.size (fun j hj => by have := Option.some.inj hj; omega)
            rw [← setOf_snoc, ← Htk.out] at hM5
            have hf2 := (HF.out _ hb5).box.cell 2
            simp at hf2
            rw [hau] at hf2
            have hu3 := HU.out _ hb5
            clear hMq hEq hbq hg5 hs5 hfl
            go_wp2_with fail
            rw [← Ha4.out]
            go_roundg (s3.length - (j + 1))
            case measure => have := hgj.out; omega
            case rel => exact ⟨j + 1, by go_num, (by rw [Hln.out] <;> rfl), by omega, rfl, zeros_succ hfi.out Hz.out, hM5, hE5, hb5⟩
           ·
            have He := Lib.hid (HfI.out 6 (by rw [HPE2.out, hib]; rfl) (by decide))
            rw [hib] at hlk2
            clear HfI HPE2 Hfe HE3 HR hf hfi
            go_wp2_with fail
            go_ret
            exact ⟨by rw [He.out] <;> rfl, hbq⟩
         ·
          obtain rfl : j = s3.length := by omega
          rw [List.take_length] at hMq
          have hlb := longN_bd HZM.out s3 s3.length (Nat.le_refl _)
          rw [List.take_length] at hlb ⊢
          have HE4 : Hid (sesE g p k = if q3 < longN g s3 then 12 else 0) := by
           show _ = _
           rw [HE3.out, firstErr_zero hfi.out]; rfl
          clear HE3 hfi
          generalize longN g s3 = ln at *
          have hEq_l := hEq.lt; have hEq_0 := hEq.cell 0; have hEq_1 := hEq.cell 1; have hEq_2 := hEq.cell 2; simp at hEq_0 hEq_1 hEq_2
          go_wp2_with fail
          clear hEq_l hEq_0 hEq_1 hEq_2
          refine (HSX.out _ hbq).mono ?_
          rintro e w7 ⟨rfl, hb7⟩
          have hfd := slt_field2 q1 q2 q3 w7
          have hM7 := hMq.below hb7
          have hb8 := below_next hbq hb7
          clear hMq hEq hbq hb7
          by_cases hl : q3 < ln
          ·
           have hd : decide (q3 < ln) = true := decide_eq_true hl
           have He := Lib.hid (Hfe.out 12 (by rw [HE4.out, if_pos hl]) (by decide))
           clear Hfe HE4 HR hf hl
           go_wp2_with fail
           go_ret
           exact ⟨by rw [He.out] <;> rfl, hb8⟩
          ·
           have hd : decide (q3 < ln) = false := decide_eq_false hl
           have Hz : Hid (sesE g p k = 0) := by show _ = _; rw [HE4.out, if_neg hl]
           clear Hfe HE4 hl
           go_wp2_with fail
           rw [← Ha.out]
           go_roundg (p.length - (k + 1))
           case measure => have := hgk.out; omega
           case rel => exact ⟨k + 1, by go_num, by omega, rfl, zeros_succ hf.out Hz.out, (by rw [Hsu.out]; exact hM7), hb8⟩
      ·
       have He := Lib.hid (Hfe.out 7 (by rw [HE2.out, hbb]; rfl) (by decide))
       clear Hfe HE2 HR hf hbb
       go_wp2_with fail
       go_ret
       exact ⟨by rw [He.out] <;> rfl, hb5⟩
  ·
   obtain rfl : k = p.length := by omega
   have He : Hid (R = 0) := by show _ = _; rw [HR.out, firstErr_zero hf.out]
   clear HR hf
   go_wp2_with fail
   go_ret
   exact ⟨by rw [He.out] <;> rfl, hb⟩
end Go.Proofs.YtldgphhiajhfhaaGreatDoor

/-! The speakers of a session as a map, by the program. -/
namespace Go.Proofs.YtldgphhiajhfhaaGreatDoor
open Go.RowKit
set_option linter.unusedVariables false
set_option linter.unusedSimpArgs false

/-- A fresh map that holds a set. -/
def SetRes (lo : Nat) (l : List ByteArray) (w : World) (e : Ending) (w' : World) : Prop := ∃ b, e = .returned (.map (some b)) ∧ lo ≤ b ∧ MBox w' b (setOf l) ∧ Below w.heap.size w w'
theorem tlk_field1 (a d e f : Value) (w : World) : (Instr.field 60 (.agg #[a, d, e, f]) 1).run Tryz.prog w = .ok d w := by kernel_rfl
set_option maxRecDepth 100000 in
set_option maxHeartbeats 8000000 in
theorem speakersP_any (g : Grd) (fb br bs bt bb : Nat) (s : Ses) (w : World) (hF : FieldAt g fb br bs bt bb w) (hg : GRd w g) (hz : GSm g) (hn : GNd g) (hs : SA w s.a1 s.papers) (hl : s.papers.length ≤ 1000) (hok : ∀ x ∈ s.papers, (talkOf g x).isSome = true) :
  Calls Tryz.prog 89 #[.pointer (some ⟨fb, 0, none⟩), s.agg] w (SetRes w.heap.size (speakersOf g s) w) := by
 have HT := Lib.hid (fun key W (h : Below w.heap.size w W) hk => talkP_any g fb br bs bt bb key W (hF.below h) (hg.below h) hz hn.talks hk)
 have HG := Lib.hid (fun W (h : Below w.heap.size w W) => hg.below h)
 have HS := Lib.hid (fun W (h : Below w.heap.size w W) => hs.below h)
 have HO := Lib.hid (fun x => talkOr_ok hz x)
 have HK := Lib.hid hok
 have HR : Hid (speakersOf g s = (s.papers.take s.papers.length).flatMap (talkSp g)) := by show _ = _; rw [List.take_length]; rfl
 clear hz hg hF hn hs hok
 generalize speakersOf g s = R at *
 obtain ⟨x1, x2, ps, x4, x5⟩ := s
 simp only at HR HS HK hl
 unfold Ses.agg
 have hX := Box.new w 67 #[.string x1, .string x2, .slice x4 ps.length x5]
 have hb0 : Below w.heap.size w (w.alloc (.cells #[.string x1, .string x2, .slice x4 ps.length x5] 67)) := (Below.refl _ _).alloc (Nat.le_refl _) _
 have hz0 : (w.alloc (.cells #[.string x1, .string x2, .slice x4 ps.length x5] 67)).heap.size = w.heap.size + 1 := by simp
 go_enter Tryz.func89, Tryz.ntmps89
 have hmm := @run_makeMap Tryz.prog
 go_upto_region 2 with (fail)
 have hM0 := MBox.newAt (w.alloc (.cells #[.string x1, .string x2, .slice x4 ps.length x5] 67)) (w.heap.size + 1) hz0.symm
 have hX1 := hX.alloc (.map #[] 0)
 have hb1 := hb0.alloc hb0.size (.map #[] 0)
 clear hmm hX hb0 hz0
 generalize (w.alloc (.cells #[.string x1, .string x2, .slice x4 ps.length x5] 67)).alloc (.map #[] 0) = w1 at *
 have hX1_l := hX1.lt; have hX1_0 := hX1.cell 0; have hX1_1 := hX1.cell 1; have hX1_2 := hX1.cell 2; simp at hX1_0 hX1_1 hX1_2
 go_wp2_with fail
 clear hX1_l hX1_0 hX1_1 hX1_2
 clear hX1
 go_loopg [14] ps.length (fun gk iv wr => ∃ k : Nat, iv = .int .i64 k ∧ k ≤ ps.length ∧ Hid (gk = ps.length - k) ∧ MBox wr (w.heap.size + 1) (setOf ((ps.take k).flatMap (talkSp g))) ∧ Below w.heap.size w wr)
 case atStart => exact ⟨0, rfl, by omega, rfl, hM0, hb1⟩
 case round =>
  clear hM0 hb1
  obtain ⟨k, rfl, hk, hgk, hM, hb⟩ := hrel
  by_cases hlt : k < ps.length
  ·
   obtain ⟨b, off, ha, c0⟩ := (HS.out _ hb).str hlt
   have Hsu := Lib.hid (speakers_succ g ps hlt)
   generalize (ps.take k).flatMap (talkSp g) = acc at *
   have hok := HO.out ps[k]
   have hks := HK.out _ (List.getElem_mem hlt)
   have Ha := Lib.hid ha
   rw [ha]
   clear ha
   generalize ps[k] = x at *
   go_wp2_with fail
   refine (HT.out x _ hb hks).mono ?_
   rintro e w1 ⟨rfl, hb1⟩
   have HRd := Lib.hid (fun W (h : Below w.heap.size w W) => (talkOr_rd (HG.out W h) x).1)
   generalize talkOr g x = t at *
   obtain ⟨t1, t2, t3, t4, t5, t6, t7, t8⟩ := t
   unfold Tlk.agg
   obtain ⟨-, hok2, -⟩ := hok
   simp only at HRd hok2 Hsu
   have hbN := below_next hb hb1
   have hMN := hM.below hb1
   have hfd := tlk_field1 (.string t1) (.slice t5 t2.length t6) (.slice t7 t3.length t8) (.int .i64 t4) w1
   clear hb hb1 hM hks
   go_wp2_with fail
   clear hfd
   go_loopg [23] t2.length (fun gj jv wq => ∃ j : Nat, jv = .int .i64 j ∧ j ≤ t2.length ∧ Hid (gj = t2.length - j) ∧ MBox wq (w.heap.size + 1) (setOf (acc ++ t2.take j)) ∧ Below w.heap.size w wq)
   case atStart => exact ⟨0, rfl, by omega, rfl, (by rw [List.take_zero, List.append_nil]; exact hMN), hbN⟩
   case round =>
    clear hMN hbN c0
    obtain ⟨j, rfl, hj, hgj, hMq, hbq⟩ := hrel
    by_cases hjl : j < t2.length
    ·
     obtain ⟨tb, toff, ha4, u0⟩ := (HRd.out _ hbq).str hjl
     have Htk : Hid (acc ++ t2.take (j + 1) = (acc ++ t2.take j) ++ [t2[j]]) := by show _ = _; rw [List.take_succ_eq_append_getElem hjl, List.append_assoc]
     have Ha4 := Lib.hid ha4
     rw [ha4]
     clear ha4
     generalize t2[j] = y at *
     go_upto_region 9 with (at_mapUpdate; refine wpList_mapUpdate_box rfl _ _ _ 145 rfl 9 4 Tryz.underlying145 Tryz.underlying9 (w.heap.size + 1) _ rfl hMq y rfl (.bool true) rfl ?_; intro w5 hM5 hg5 hs5)
     have hb5 := hbq.grown hg5 hbq.size (fun j hj => by have := Option.some.inj hj; omega)
     rw [← setOf_snoc, ← Htk.out] at hM5
     clear hMq hbq hg5 hs5 u0
     go_wp2_with fail
     rw [← Ha4.out]
     go_roundg (t2.length - (j + 1))
     case measure => have := hgj.out; omega
     case rel => exact ⟨j + 1, by go_num, by omega, rfl, hM5, hb5⟩
    ·
     obtain rfl : j = t2.length := by omega
     rw [List.take_length] at hMq
     go_wp2_with fail
     rw [← Ha.out]
     go_roundg (ps.length - (k + 1))
     case measure => have := hgk.out; omega
     case rel => exact ⟨k + 1, by go_num, by omega, rfl, (by rw [Hsu.out]; exact hMq), hbq⟩
  ·
   obtain rfl : k = ps.length := by omega
   rw [← HR.out] at hM
   go_wp2_with fail
   go_ret
   exact ⟨_, rfl, by omega, hM, hb⟩
end Go.Proofs.YtldgphhiajhfhaaGreatDoor
