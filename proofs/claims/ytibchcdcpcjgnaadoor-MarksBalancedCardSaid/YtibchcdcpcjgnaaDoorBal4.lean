/- Balanced marks: Balanced; slices.Equal of levels. -/
import Derived.Test.YtibchcdcpcjgnaaDoorBal2
import Derived.Test.YtibchcdcpcjgnaaDoorOutside
import Derived.Test.YtibchcdcpcjgnaaDoorReg
namespace Go.Proofs.YtibchcdcpcjgnaaDoor
open Go.RowKit
set_option linter.unusedVariables false
set_option linter.unusedSimpArgs false

/-- What Balanced gives. -/
def GivesBal (l : List Mark) (R : Int) (w : World) (e : Ending) (w' : World) : Prop :=
  Below w.heap.size w w' ∧ ∃ v1 v2 er, e = .returned (.tuple #[v1, v2, .int .i64 er]) ∧
    ((marksFault l ≠ 0 ∧ er = marksFault l) ∨ (marksFault l = 0 ∧ (R < 1 ∨ 100 < R) ∧ er = 1) ∨
     (marksFault l = 0 ∧ 1 ≤ R ∧ R ≤ 100 ∧ er = 0 ∧ Own w.heap.size 39 w' v1 ((keysOf (fun x => x.1) l).map (fun k => ((k, (bal l R.toNat).1 k) : Skill))) ∧ Own w.heap.size 39 w' v2 ((keysOf (fun x => x.2.1) l).map (fun k => ((k, (bal l R.toNat).2 k) : Skill)))))

set_option maxRecDepth 100000 in
set_option maxHeartbeats 4000000 in
theorem balancedP_any (l : List Mark) (a : Option Addr) (cap : Nat) (R : Int) (w : World) (hs : SA w a l) (hl : l.length ≤ 100000) (hks : ∀ x ∈ l, x.1.size ≤ 1000 ∧ x.2.1.size ≤ 1000) :
    Calls Tryd.prog 6 #[.slice a l.length cap, .int .i64 R] w (GivesBal l R w) := by
  go_enter Tryd.func6, Tryd.ntmps6
  go_wp2_with fail
  refine (checked_any l a cap w hs (by omega) hks).mono ?_
  rintro e w1 ⟨hb1, h1⟩
  rcases h1 with ⟨h0, rfl⟩ | ⟨h0, sb, rfl, hsh, hsb⟩
  · have h0' : (marksFault l != 0) = true := by simpa using h0
    have H0 := Lib.hid h0
    clear h0
    go_wp2_with fail
    go_ret3
    exact ⟨hb1, _, _, _, rfl, .inl ⟨H0.out, rfl⟩⟩
  · have H0 := Lib.hid h0
    have hok := fault_scores h0
    clear h0
    by_cases hR : R < 1 ∨ 100 < R
    · go_wp2_with fail
      refine (outside_yes R 1 100 _ hR).mono ?_
      rintro e w2 ⟨rfl, rfl⟩
      go_wp2_with fail
      go_ret3
      exact ⟨hb1, _, _, _, rfl, .inr (.inl ⟨H0.out, hR, rfl⟩)⟩
    · obtain ⟨n, rfl⟩ : ∃ n : Nat, R = n := ⟨R.toNat, by omega⟩
      have hn1 : 1 ≤ n := by omega
      have hn2 : n ≤ 100 := by omega
      go_wp2_with fail
      refine (outside_no n 1 100 _ (by omega) (by omega)).mono ?_
      rintro e w2 ⟨rfl, rfl⟩
      clear hR
      obtain ⟨b1, b2, base, a', cap', es1, es2, hst, hsa'⟩ := hsh
      go_wp2_with fail
      refine (balanced_any sb b1 b2 base a' cap' l es1 es2 n _ hst hok hl hn2).mono ?_
      rintro e w3 ⟨rfl, hM1, hM2, hb3⟩
      have hst3 := hst.below hb3
      have hbb := below_next hb1 hb3
      have hS := hst3.box
      have HK1 := Lib.hid (fun W (h : Below w3.heap.size w3 W) => keys_any b1 base (fun x => x.1) l es1 W (hst3.one.below h) (by omega) (fun x hx => (hks x hx).1))
      have HK2 := Lib.hid (fun W (h : Below w3.heap.size w3 W) => keys_any b2 base (fun x => x.2.1) l es2 W (hst3.two.below h) (by omega) (fun x hx => (hks x hx).2))
      have hk1 := keysOf_length (fun x => x.1) l
      have hk2 := keysOf_length (fun x => x.2.1) l
      generalize hW1 : (bal l n).1 = W1 at *
      generalize hW2 : (bal l n).2 = W2 at *
      generalize hks1 : keysOf (fun x => x.1) l = ks1 at *
      generalize hks2 : keysOf (fun x => x.2.1) l = ks2 at *
      have HW1 := Lib.hid hW1
      have HW2 := Lib.hid hW2
      have Hks1 := Lib.hid hks1
      have Hks2 := Lib.hid hks2
      clear hW1 hW2 hks1 hks2 hst hsa' hb1 hb3 hst3
      generalize w1.heap.size = m1 at *
      have hS_l := hS.lt; have hS_0 := hS.cell 0; have hS_1 := hS.cell 1; have hS_2 := hS.cell 2; simp at hS_0 hS_1 hS_2
      go_wp2_with fail
      refine wp_region_held_drew (S := (fun wx => wx.cell? ⟨sb, 1, none⟩ = some (.map (some b1)) ∧ wx.cell? ⟨sb, 2, none⟩ = some (.map (some b2)) ∧ Below w3.heap.size w3 wx)) (by kernel_rfl) ?hS (fun hHeld => ?_)
      case hS => exact ⟨hS_1, hS_2, (Below.refl _ _).drew⟩
      refine rtake (i := 0) (d := (some 26)) (v := ?_) rfl (by kernel_rfl) (by kernel_rfl) (by kernel_rfl) (by kernel_rfl) (fun _ _ _ h => h) (by kernel_rfl) (by assumption) ?_ ?_
      rotate_left 1
      · (intro wI hSI; (try dsimp only at hSI); go_simp; (try with_reducible rfl))
      simp only [Act.put, List.setIfInBounds_toArray, List.set_cons_zero, List.set_cons_succ]
      refine rtake (i := 1) (d := (some 27)) (v := ?_) rfl (by kernel_rfl) (by kernel_rfl) (by kernel_rfl) (by kernel_rfl) (fun _ _ _ h => h) (by kernel_rfl) (by assumption) ?_ ?_
      rotate_left 1
      · (intro wI hSI; (try dsimp only at hSI); go_simp; (try with_reducible rfl))
      simp only [Act.put, List.setIfInBounds_toArray, List.set_cons_zero, List.set_cons_succ]
      refine rtake (i := 2) (d := (some 28)) (v := ?_) rfl (by kernel_rfl) (by kernel_rfl) (by kernel_rfl) (by kernel_rfl) (fun _ _ _ h => h) (by kernel_rfl) (by assumption) ?_ ?_
      rotate_left 1
      · (intro wI hSI; (try dsimp only at hSI); go_simp; (try with_reducible rfl))
      simp only [Act.put, List.setIfInBounds_toArray, List.set_cons_zero, List.set_cons_succ]
      refine rtake (i := 3) (d := (some 29)) (v := ?_) rfl (by kernel_rfl) (by kernel_rfl) (by kernel_rfl) (by kernel_rfl) (fun _ _ _ h => h) (by kernel_rfl) (by assumption) ?_ ?_
      rotate_left 1
      · (intro wI hSI; (try dsimp only at hSI); go_simp; (try with_reducible rfl))
      simp only [Act.put, List.setIfInBounds_toArray, List.set_cons_zero, List.set_cons_succ]
      refine rtake (i := 5) (d := (some 31)) (v := ?_) rfl (by kernel_rfl) (by kernel_rfl) (by kernel_rfl) (by kernel_rfl) (fun _ _ _ h => h) (by kernel_rfl) (by assumption) ?_ ?_
      rotate_left 1
      · (intro wI hSI; (try dsimp only at hSI); go_simp; (try with_reducible rfl))
      simp only [Act.put, List.setIfInBounds_toArray, List.set_cons_zero, List.set_cons_succ]
      refine rtake (i := 7) (d := (some 33)) (v := ?_) rfl (by kernel_rfl) (by kernel_rfl) (by kernel_rfl) (by kernel_rfl) (fun _ _ _ h => h) (by kernel_rfl) (by assumption) ?_ ?_
      rotate_left 1
      · (intro wI hSI; (try dsimp only at hSI); go_simp; (try with_reducible rfl))
      simp only [Act.put, List.setIfInBounds_toArray, List.set_cons_zero, List.set_cons_succ]
      refine rtake (i := 8) (d := (some 34)) (v := ?_) rfl (by kernel_rfl) (by kernel_rfl) (by kernel_rfl) (by kernel_rfl) (fun _ _ _ h => h) (by kernel_rfl) (by assumption) ?_ ?_
      rotate_left 1
      · (intro wI hSI; (try dsimp only at hSI); go_simp; (try with_reducible rfl))
      simp only [Act.put, List.setIfInBounds_toArray, List.set_cons_zero, List.set_cons_succ]
      refine rtake (i := 9) (d := (some 35)) (v := ?_) rfl (by kernel_rfl) (by kernel_rfl) (by kernel_rfl) (by kernel_rfl) (fun _ _ _ h => h) (by kernel_rfl) (by assumption) ?_ ?_
      rotate_left 1
      · (intro wI hSI; (try dsimp only at hSI); go_simp; (try with_reducible rfl))
      simp only [Act.put, List.setIfInBounds_toArray, List.set_cons_zero, List.set_cons_succ]
      refine rtake (i := 10) (d := (some 36)) (v := ?_) rfl (by kernel_rfl) (by kernel_rfl) (by kernel_rfl) (by kernel_rfl) (fun _ _ _ h => h) (by kernel_rfl) (by assumption) ?_ ?_
      rotate_left 1
      · (intro wI hSI; (try dsimp only at hSI); go_simp; (try with_reducible rfl))
      simp only [Act.put, List.setIfInBounds_toArray, List.set_cons_zero, List.set_cons_succ]
      refine rtake (i := 12) (d := (some 38)) (v := ?_) rfl (by kernel_rfl) (by kernel_rfl) (by kernel_rfl) (by kernel_rfl) (fun _ _ _ h => h) (by kernel_rfl) (by assumption) ?_ ?_
      rotate_left 1
      · (intro wI hSI; (try dsimp only at hSI); go_simp; (try with_reducible rfl))
      simp only [Act.put, List.setIfInBounds_toArray, List.set_cons_zero, List.set_cons_succ]
      refine rcall (i := 4) (d := (some 30)) (by kernel_rfl) rfl (by kernel_rfl) (fun K hK => ?_)
      go_simp
      go_at_call 17; refine (HK1.out _ hHeld.2.2).mono ?_; rintro e w4 ⟨v4, rfl, hown4, hb4⟩; obtain ⟨aK1, capK1, rfl, hsaK1, _, _⟩ := hown4.sa
      refine hK.out _ _ ?hS (fun hHeld => ?_)
      case hS => exact ⟨cell_later hb4 hHeld.1, cell_later hb4 hHeld.2.1, below_next hHeld.2.2 hb4⟩
      clear hK K
      simp only [Act.put, List.setIfInBounds_toArray, List.set_cons_zero, List.set_cons_succ]
      have hz4 := hHeld.2.2.size
      clear hb4 hown4
      refine rcall (i := 6) (d := (some 32)) (by kernel_rfl) rfl (by kernel_rfl) (fun K hK => ?_)
      go_simp
      go_at_call 16; refine (levels_any ks1 aK1 capK1 m1 W1 _ hsaK1 (by omega) (hM1.below hHeld.2.2)).mono ?_; rintro e w5 ⟨v5, rfl, hown5, hb5⟩
      refine hK.out _ _ ?hS (fun hHeld => ?_)
      case hS => exact ⟨cell_later hb5 hHeld.1, cell_later hb5 hHeld.2.1, below_next hHeld.2.2 hb5⟩
      clear hK K
      simp only [Act.put, List.setIfInBounds_toArray, List.set_cons_zero, List.set_cons_succ]
      have hz5 := hHeld.2.2.size
      clear hb5 hsaK1
      refine rcall (i := 11) (d := (some 37)) (by kernel_rfl) rfl (by kernel_rfl) (fun K hK => ?_)
      go_simp
      go_at_call 17; refine (HK2.out _ hHeld.2.2).mono ?_; rintro e w6 ⟨v6, rfl, hown6, hb6⟩; obtain ⟨aK2, capK2, rfl, hsaK2, _, _⟩ := hown6.sa
      refine hK.out _ _ ?hS (fun hHeld => ?_)
      case hS => exact ⟨cell_later hb6 hHeld.1, cell_later hb6 hHeld.2.1, below_next hHeld.2.2 hb6⟩
      clear hK K
      simp only [Act.put, List.setIfInBounds_toArray, List.set_cons_zero, List.set_cons_succ]
      have hown5b := hown5.below hb6
      have hz6 := hHeld.2.2.size
      have hzb := hbb.size
      clear hb6 hown6 hown5
      refine rcall (i := 13) (d := (some 39)) (by kernel_rfl) rfl (by kernel_rfl) (fun K hK => ?_)
      go_simp
      go_at_call 16; refine (levels_any ks2 aK2 capK2 (m1 + 1) W2 _ hsaK2 (by omega) (hM2.below hHeld.2.2)).mono ?_; rintro e w7 ⟨v7, rfl, hown7, hb7⟩
      refine hK.out _ _ ?hS (fun hHeld => ?_)
      case hS => exact ⟨cell_later hb7 hHeld.1, cell_later hb7 hHeld.2.1, below_next hHeld.2.2 hb7⟩
      clear hK K
      simp only [Act.put, List.setIfInBounds_toArray, List.set_cons_zero, List.set_cons_succ]
      refine rtake (i := 14) (d := (some 4)) (v := ?_) rfl (by kernel_rfl) (by kernel_rfl) (by kernel_rfl) (by kernel_rfl) (fun _ _ _ h => h) (by kernel_rfl) (by assumption) ?_ ?_
      rotate_left 1
      · (intro wI hSI; (try dsimp only at hSI); go_simp; (try with_reducible rfl))
      simp only [Act.put, List.setIfInBounds_toArray, List.set_cons_zero, List.set_cons_succ]
      refine rtake (i := 15) (d := (some 5)) (v := ?_) rfl (by kernel_rfl) (by kernel_rfl) (by kernel_rfl) (by kernel_rfl) (fun _ _ _ h => h) (by kernel_rfl) (by assumption) ?_ ?_
      rotate_left 1
      · (intro wI hSI; (try dsimp only at hSI); go_simp; (try with_reducible rfl))
      simp only [Act.put, List.setIfInBounds_toArray, List.set_cons_zero, List.set_cons_succ]
      refine rtake (i := 16) (d := (some 6)) (v := ?_) rfl (by kernel_rfl) (by kernel_rfl) (by kernel_rfl) (by kernel_rfl) (fun _ _ _ h => h) (by kernel_rfl) (by assumption) ?_ ?_
      rotate_left 1
      · (intro wI hSI; (try dsimp only at hSI); go_simp; (try with_reducible rfl))
      simp only [Act.put, List.setIfInBounds_toArray, List.set_cons_zero, List.set_cons_succ]
      refine wpAnyH_done (by kernel_rfl) ?_ _
      have hown5c := hown5b.below hb7
      have hbz := below_next hbb hHeld.2.2
      go_wp2_with fail
      go_ret3
      refine ⟨hbz, v5, v7, 0, rfl, .inr (.inr ⟨H0.out, by omega, by omega, rfl, ?_, ?_⟩)⟩
      · rw [Int.toNat_natCast, HW1.out, Hks1.out]; exact hown5c.mono (by omega)
      · rw [Int.toNat_natCast, HW2.out, Hks2.out]; exact hown7.mono (by omega)
end Go.Proofs.YtibchcdcpcjgnaaDoor
