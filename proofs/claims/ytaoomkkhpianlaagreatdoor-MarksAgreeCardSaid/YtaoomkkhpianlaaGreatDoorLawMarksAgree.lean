/- For every list of raw numbers, MarksAgree returns true. The walk. -/
import Derived.Test.YtaoomkkhpianlaaGreatDoorMakeMark2
import Derived.Test.YtaoomkkhpianlaaGreatDoorKap4
import Derived.Test.YtaoomkkhpianlaaGreatDoorAgree5
namespace Go.Proofs.YtaoomkkhpianlaaGreatDoor.marksAgree
open Go.RowKit
set_option linter.unusedVariables false
set_option linter.unusedSimpArgs false

set_option maxRecDepth 100000 in
set_option maxHeartbeats 4000000 in
theorem walk (a0 : Option Addr) (len0 cap0 : Nat) (z0 : List Int) (w : World) (w0 : IsRow .i64 w a0 len0 cap0 z0) :
    Calls Tryz.prog 3 #[.slice a0 len0 cap0] w fun e w' => e = .returned (.bool true) ∧ Below w.heap.size w w' := by
  have hs := strm_new w0
  go_enter Tryz.func3, Tryz.ntmps3
  go_wp2_with fail
  refine (anyMarks_any w.heap.size 0 _ hs (by omega)).mono ?_
  rintro e w1 ⟨l, v, rfl, hown, hlen, hsm, h1, s1⟩
  have hz1 := h1.size
  simp at hz1
  obtain ⟨a, cap, rfl, hsa, hbl, _⟩ := hown.sa
  have hst1 : Stp w.heap.size w w1 := ((Stp.refl _ w).alloc _).trans h1
  have HnS : Hid (∀ x : Addr, a = some x → x.block ≠ w.heap.size) := fun x hx => by have := hbl x hx; simp at this; omega
  have Hsm := Lib.hid hsm
  clear w0 hs hown hbl h1 hsm
  go_wp2_with fail
  refine (MarkPerson_any w.heap.size (0 + 2 + 1000) _ s1 (by omega)).mono ?_
  rintro e w2 ⟨pa, hpa, rfl, h2, s2⟩
  have hz2 := h2.size
  have hsa2 := hsa.stp h2 HnS.out
  have hst2 := hst1.trans h2
  clear hsa hst1 h2 s1
  go_wp2_with fail
  refine (MarkPerson_any w.heap.size (0 + 2 + 1000 + 1) _ s2 (by omega)).mono ?_
  rintro e w3 ⟨pb, hpb, rfl, h3, s3⟩
  have hz3 := h3.size
  have hsa3 := hsa2.stp h3 HnS.out
  have hst3 := hst2.trans h3
  have hbw3 : Below w.heap.size w w3 := by have := hst3.below; rw [Nat.min_self] at this; exact this
  clear hsa2 hst2 h3 s2 s3 hst3
  have Hks : Hid (∀ x ∈ l, x.1.size ≤ 1000 ∧ x.2.1.size ≤ 1000) := fun x hx => ⟨(Hsm.out x hx).1, (Hsm.out x hx).2.1⟩
  have HA := Lib.hid (fun W (h : SA W a l) => agreement_any l a cap W h (by omega) Hks.out)
  have HK := Lib.hid (fun W (h : SA W a l) => kappa_any l a cap pa pb W h (by omega) Hks.out)
  have HF := Lib.hid (fun W (h : SA W a l) => marksFault_any l a cap W h (by omega) Hks.out)
  have HAR : Hid (marksFault l = 0 → ∀ W, SA W a l → Calls Tryz.prog 16 #[.slice a l.length cap] W (Gives (.agg #[.int .i64 (if marksFault l = 0 then agN l (keysOf (fun x => x.1) l) else 0), .int .i64 (if marksFault l = 0 then agD l (keysOf (fun x => x.1) l) else 0)]) W)) := fun h W hW => by
    rw [if_pos h, if_pos h]; exact agreementOf_any l a cap W hW (by omega) h
  have HKR : Hid (marksFault l = 0 → ∀ W, SA W a l → Calls Tryz.prog 15 #[.slice a l.length cap, .string pa, .string pb] W (Gives (.tuple #[.agg #[.int .i64 (if marksFault l = 0 then kapRN l pa pb else 0), .int .i64 (if marksFault l = 0 then kapRD l pa pb else 0)], .int .i64 (if marksFault l = 0 then kapRE l pa pb else marksFault l)]) W)) := fun h W hW => by
    rw [if_pos h, if_pos h, if_pos h]; exact kappaOf_any l a cap pa pb W hW (by omega) h
  have HKE : Hid (marksFault l ≠ 0 → (if marksFault l = 0 then kapRE l pa pb else marksFault l) = marksFault l) := fun h => by rw [if_neg h]
  generalize (if marksFault l = 0 then kapRE l pa pb else marksFault l) = ke at *
  generalize (if marksFault l = 0 then kapRN l pa pb else 0) = kn at *
  generalize (if marksFault l = 0 then kapRD l pa pb else 0) = kd at *
  generalize (if marksFault l = 0 then agN l (keysOf (fun x => x.1) l) else 0) = an at *
  generalize (if marksFault l = 0 then agD l (keysOf (fun x => x.1) l) else 0) = ad at *
  generalize marksFault l = pf at *
  go_wp2_with fail
  refine (HA.out _ hsa3).mono ?_
  rintro e w4 ⟨rfl, hb4⟩
  have hz4 := hb4.size
  have hsa4 := (hsa3.below hb4).alloc (.cells #[.int .i64 an, .int .i64 ad] 30)
  have hX4 := Box.new w4 30 #[.int .i64 an, .int .i64 ad]
  have hbw4 := (below_next hbw3 hb4).alloc (by have := hbw3.size; omega) (.cells #[.int .i64 an, .int .i64 ad] 30)
  clear hsa3 hbw3 hb4
  go_wp2_with fail
  refine (HK.out _ hsa4).mono ?_
  rintro e w5 ⟨rfl, hb5⟩
  have hz5 := hb5.size
  simp at hz5
  have hX5 := (hX4.below hb5).alloc (.cells #[.int .i64 kn, .int .i64 kd] 30)
  have hY5 := Box.new w5 30 #[.int .i64 kn, .int .i64 kd]
  have hsa5 := (hsa4.below hb5).alloc (.cells #[.int .i64 kn, .int .i64 kd] 30)
  have hbw5 := (below_next hbw4 hb5).alloc (by have := (below_next hbw4 hb5).size; exact this) (.cells #[.int .i64 kn, .int .i64 kd] 30)
  clear hX4 hsa4 hbw4 hb5
  go_wp2_with fail
  refine (HF.out _ hsa5).mono ?_
  rintro e w6 ⟨rfl, hb6⟩
  have hsa6 := hsa5.below hb6
  have hX6 := hX5.below hb6
  have hY6 := hY5.below hb6
  have hbw6 := below_next hbw5 hb6
  have hz6 := hb6.size
  simp at hz6
  clear hX5 hY5 hsa5 hbw5 hb6 HA HK HF
  by_cases h0 : pf = 0
  · subst h0
    have HKO := Lib.hid (HKR.out rfl)
    have HAO := Lib.hid (HAR.out rfl)
    clear HKR HAR HKE
    go_wp2_with fail
    generalize hn4 : w4.heap.size = n4 at *
    generalize hn5 : w5.heap.size = n5 at *
    refine (HKO.out _ hsa6).mono ?_
    rintro e w7 ⟨rfl, hb7⟩
    have hsa7 := (hsa6.below hb7).alloc (.cells #[.int .i64 kn, .int .i64 kd] 30)
    have hX7 := (hX6.below hb7).alloc (.cells #[.int .i64 kn, .int .i64 kd] 30)
    have hY7 := (hY6.below hb7).alloc (.cells #[.int .i64 kn, .int .i64 kd] 30)
    have hZ7 := Box.new w7 30 #[.int .i64 kn, .int .i64 kd]
    have hbw7 := (below_next hbw6 hb7).alloc (by have := (below_next hbw6 hb7).size; exact this) (.cells #[.int .i64 kn, .int .i64 kd] 30)
    clear hsa6 hX6 hY6 hbw6 hb7 hn4 hn5
    go_upto_region 9 with (fail)
    generalize w7.alloc (.cells #[.int .i64 kn, .int .i64 kd] 30) = W7 at *
    generalize w7.heap.size = n7 at *
    have hX7_l := hX7.lt; have hX7_0 := hX7.cell 0; have hX7_1 := hX7.cell 1; simp at hX7_0 hX7_1
    have hY7_l := hY7.lt; have hY7_0 := hY7.cell 0; have hY7_1 := hY7.cell 1; simp at hY7_0 hY7_1
    have hZ7_l := hZ7.lt; have hZ7_0 := hZ7.cell 0; have hZ7_1 := hZ7.cell 1; simp at hZ7_0 hZ7_1
    have hq1 : (an == an) = true := by simp
    have hq2 : (ad == ad) = true := by simp
    have hq3 : (kn == kn) = true := by simp
    have hq4 : (kd == kd) = true := by simp
    have hq5 : (ke == ke) = true := by simp
    refine wp_region_held_drew (S := (fun wx => wx.cell? ⟨n4, 0, none⟩ = some (.int .i64 an) ∧ wx.cell? ⟨n4, 1, none⟩ = some (.int .i64 ad) ∧ wx.cell? ⟨n5, 0, none⟩ = some (.int .i64 kn) ∧ wx.cell? ⟨n5, 1, none⟩ = some (.int .i64 kd) ∧ wx.cell? ⟨n7, 0, none⟩ = some (.int .i64 kn) ∧ wx.cell? ⟨n7, 1, none⟩ = some (.int .i64 kd) ∧ Below W7.heap.size W7 wx)) (by kernel_rfl) ?hS (fun hHeld => ?_)
    case hS => exact ⟨hX7_0, hX7_1, hY7_0, hY7_1, hZ7_0, hZ7_1, (Below.refl _ _).drew⟩
    refine rcall (i := 0) (d := (some 57)) (by kernel_rfl) rfl (by kernel_rfl) (fun K hK => ?_)
    go_simp
    go_at_call 14; refine (scores_any _).mono ?_; rintro e wa ⟨rfl, hba⟩
    refine hK.out _ _ ?hS (fun hHeld => ?_)
    case hS => exact ⟨cell_later hba hHeld.1, cell_later hba hHeld.2.1, cell_later hba hHeld.2.2.1, cell_later hba hHeld.2.2.2.1, cell_later hba hHeld.2.2.2.2.1, cell_later hba hHeld.2.2.2.2.2.1, below_next hHeld.2.2.2.2.2.2 hba⟩
    clear hK K
    simp only [Act.put, List.setIfInBounds_toArray, List.set_cons_zero, List.set_cons_succ]
    refine rtake (i := 1) (d := (some 58)) (v := ?_) rfl (by kernel_rfl) (by kernel_rfl) (by kernel_rfl) (by kernel_rfl) (fun _ _ _ h => h) (by kernel_rfl) (by assumption) ?_ ?_
    rotate_left 1
    · (intro wI hSI; (try dsimp only at hSI); go_simp; (try with_reducible rfl))
    simp only [Act.put, List.setIfInBounds_toArray, List.set_cons_zero, List.set_cons_succ]
    refine rtake (i := 2) (d := (some 59)) (v := ?_) rfl (by kernel_rfl) (by kernel_rfl) (by kernel_rfl) (by kernel_rfl) (fun _ _ _ h => h) (by kernel_rfl) (by assumption) ?_ ?_
    rotate_left 1
    · (intro wI hSI; (try dsimp only at hSI); go_simp; (try with_reducible rfl))
    simp only [Act.put, List.setIfInBounds_toArray, List.set_cons_zero, List.set_cons_succ]
    refine rtake (i := 3) (d := (some 60)) (v := ?_) rfl (by kernel_rfl) (by kernel_rfl) (by kernel_rfl) (by kernel_rfl) (fun _ _ _ h => h) (by kernel_rfl) (by assumption) ?_ ?_
    rotate_left 1
    · (intro wI hSI; (try dsimp only at hSI); go_simp; (try with_reducible rfl))
    simp only [Act.put, List.setIfInBounds_toArray, List.set_cons_zero, List.set_cons_succ]
    refine rtake (i := 4) (d := (some 61)) (v := ?_) rfl (by kernel_rfl) (by kernel_rfl) (by kernel_rfl) (by kernel_rfl) (fun _ _ _ h => h) (by kernel_rfl) (by assumption) ?_ ?_
    rotate_left 1
    · (intro wI hSI; (try dsimp only at hSI); go_simp; (try with_reducible rfl))
    simp only [Act.put, List.setIfInBounds_toArray, List.set_cons_zero, List.set_cons_succ]
    refine rtake (i := 5) (d := (some 62)) (v := ?_) rfl (by kernel_rfl) (by kernel_rfl) (by kernel_rfl) (by kernel_rfl) (fun _ _ _ h => h) (by kernel_rfl) (by assumption) ?_ ?_
    rotate_left 1
    · (intro wI hSI; (try dsimp only at hSI); go_simp; (try with_reducible rfl))
    simp only [Act.put, List.setIfInBounds_toArray, List.set_cons_zero, List.set_cons_succ]
    refine rtake (i := 6) (d := (some 63)) (v := ?_) rfl (by kernel_rfl) (by kernel_rfl) (by kernel_rfl) (by kernel_rfl) (fun _ _ _ h => h) (by kernel_rfl) (by assumption) ?_ ?_
    rotate_left 1
    · (intro wI hSI; (try dsimp only at hSI); go_simp; (try with_reducible rfl))
    simp only [Act.put, List.setIfInBounds_toArray, List.set_cons_zero, List.set_cons_succ]
    refine rtake (i := 7) (d := (some 64)) (v := ?_) rfl (by kernel_rfl) (by kernel_rfl) (by kernel_rfl) (by kernel_rfl) (fun _ _ _ h => h) (by kernel_rfl) (by assumption) ?_ ?_
    rotate_left 1
    · (intro wI hSI; (try dsimp only at hSI); go_simp; (try with_reducible rfl))
    simp only [Act.put, List.setIfInBounds_toArray, List.set_cons_zero, List.set_cons_succ]
    refine rcall (i := 8) (d := (some 65)) (by kernel_rfl) rfl (by kernel_rfl) (fun K hK => ?_)
    go_simp
    go_at_call 16; refine (HAO.out _ (hsa7.below hHeld.2.2.2.2.2.2)).mono ?_; rintro e wb ⟨rfl, hbb⟩
    refine hK.out _ _ ?hS (fun hHeld => ?_)
    case hS => exact ⟨cell_later hbb hHeld.1, cell_later hbb hHeld.2.1, cell_later hbb hHeld.2.2.1, cell_later hbb hHeld.2.2.2.1, cell_later hbb hHeld.2.2.2.2.1, cell_later hbb hHeld.2.2.2.2.2.1, below_next hHeld.2.2.2.2.2.2 hbb⟩
    clear hK K
    simp only [Act.put, List.setIfInBounds_toArray, List.set_cons_zero, List.set_cons_succ]
    refine rtake (i := 9) (d := (some 66)) (v := ?_) rfl (by kernel_rfl) (by kernel_rfl) (by kernel_rfl) (by kernel_rfl) (fun _ _ _ h => h) (by kernel_rfl) (by assumption) ?_ ?_
    rotate_left 1
    · (intro wI hSI; (try dsimp only at hSI); go_simp; (try with_reducible rfl))
    simp only [Act.put, List.setIfInBounds_toArray, List.set_cons_zero, List.set_cons_succ]
    refine rtake (i := 10) (d := (some 67)) (v := ?_) rfl (by kernel_rfl) (by kernel_rfl) (by kernel_rfl) (by kernel_rfl) (fun _ _ _ h => h) (by kernel_rfl) (by assumption) ?_ ?_
    rotate_left 1
    · (intro wI hSI; (try dsimp only at hSI); go_simp; (try with_reducible rfl))
    simp only [Act.put, List.setIfInBounds_toArray, List.set_cons_zero, List.set_cons_succ]
    refine rtake (i := 11) (d := (some 68)) (v := ?_) rfl (by kernel_rfl) (by kernel_rfl) (by kernel_rfl) (by kernel_rfl) (fun _ _ _ h => h) (by kernel_rfl) (by assumption) ?_ ?_
    rotate_left 1
    · (intro wI hSI; (try dsimp only at hSI); go_simp; (try with_reducible rfl))
    simp only [Act.put, List.setIfInBounds_toArray, List.set_cons_zero, List.set_cons_succ]
    refine rtake (i := 12) (d := (some 69)) (v := ?_) rfl (by kernel_rfl) (by kernel_rfl) (by kernel_rfl) (by kernel_rfl) (fun _ _ _ h => h) (by kernel_rfl) (by assumption) ?_ ?_
    rotate_left 1
    · (intro wI hSI; (try dsimp only at hSI); go_simp; (try with_reducible rfl))
    simp only [Act.put, List.setIfInBounds_toArray, List.set_cons_zero, List.set_cons_succ]
    refine rtake (i := 13) (d := (some 70)) (v := ?_) rfl (by kernel_rfl) (by kernel_rfl) (by kernel_rfl) (by kernel_rfl) (fun _ _ _ h => h) (by kernel_rfl) (by assumption) ?_ ?_
    rotate_left 1
    · (intro wI hSI; (try dsimp only at hSI); go_simp; (try with_reducible rfl))
    simp only [Act.put, List.setIfInBounds_toArray, List.set_cons_zero, List.set_cons_succ]
    refine rtake (i := 14) (d := (some 71)) (v := ?_) rfl (by kernel_rfl) (by kernel_rfl) (by kernel_rfl) (by kernel_rfl) (fun _ _ _ h => h) (by kernel_rfl) (by assumption) ?_ ?_
    rotate_left 1
    · (intro wI hSI; (try dsimp only at hSI); go_simp; (try with_reducible rfl))
    simp only [Act.put, List.setIfInBounds_toArray, List.set_cons_zero, List.set_cons_succ]
    refine rtake (i := 15) (d := (some 72)) (v := ?_) rfl (by kernel_rfl) (by kernel_rfl) (by kernel_rfl) (by kernel_rfl) (fun _ _ _ h => h) (by kernel_rfl) (by assumption) ?_ ?_
    rotate_left 1
    · (intro wI hSI; (try dsimp only at hSI); go_simp; (try with_reducible rfl))
    simp only [Act.put, List.setIfInBounds_toArray, List.set_cons_zero, List.set_cons_succ]
    refine rtake (i := 16) (d := (some 73)) (v := ?_) rfl (by kernel_rfl) (by kernel_rfl) (by kernel_rfl) (by kernel_rfl) (fun _ _ _ h => h) (by kernel_rfl) (by assumption) ?_ ?_
    rotate_left 1
    · (intro wI hSI; (try dsimp only at hSI); go_simp; (try with_reducible rfl))
    simp only [Act.put, List.setIfInBounds_toArray, List.set_cons_zero, List.set_cons_succ]
    refine rtake (i := 17) (d := (some 74)) (v := ?_) rfl (by kernel_rfl) (by kernel_rfl) (by kernel_rfl) (by kernel_rfl) (fun _ _ _ h => h) (by kernel_rfl) (by assumption) ?_ ?_
    rotate_left 1
    · (intro wI hSI; (try dsimp only at hSI); go_simp; (try with_reducible rfl))
    simp only [Act.put, List.setIfInBounds_toArray, List.set_cons_zero, List.set_cons_succ]
    refine rtake (i := 18) (d := (some 75)) (v := ?_) rfl (by kernel_rfl) (by kernel_rfl) (by kernel_rfl) (by kernel_rfl) (fun _ _ _ h => h) (by kernel_rfl) (by assumption) ?_ ?_
    rotate_left 1
    · (intro wI hSI; (try dsimp only at hSI); go_simp; (try with_reducible rfl))
    simp only [Act.put, List.setIfInBounds_toArray, List.set_cons_zero, List.set_cons_succ]
    refine rtake (i := 19) (d := (some 76)) (v := ?_) rfl (by kernel_rfl) (by kernel_rfl) (by kernel_rfl) (by kernel_rfl) (fun _ _ _ h => h) (by kernel_rfl) (by assumption) ?_ ?_
    rotate_left 1
    · (intro wI hSI; (try dsimp only at hSI); go_simp; (try with_reducible rfl))
    simp only [Act.put, List.setIfInBounds_toArray, List.set_cons_zero, List.set_cons_succ]
    refine rtake (i := 20) (d := (some 77)) (v := ?_) rfl (by kernel_rfl) (by kernel_rfl) (by kernel_rfl) (by kernel_rfl) (fun _ _ _ h => h) (by kernel_rfl) (by assumption) ?_ ?_
    rotate_left 1
    · (intro wI hSI; (try dsimp only at hSI); go_simp; (try with_reducible rfl))
    simp only [Act.put, List.setIfInBounds_toArray, List.set_cons_zero, List.set_cons_succ]
    refine rtake (i := 21) (d := (some 2)) (v := ?_) rfl (by kernel_rfl) (by kernel_rfl) (by kernel_rfl) (by kernel_rfl) (fun _ _ _ h => h) (by kernel_rfl) (by assumption) ?_ ?_
    rotate_left 1
    · (intro wI hSI; (try dsimp only at hSI); go_simp; (try with_reducible rfl))
    simp only [Act.put, List.setIfInBounds_toArray, List.set_cons_zero, List.set_cons_succ]
    refine wpAnyH_done (by kernel_rfl) ?_ _
    have hfin := below_next hbw7 hHeld.2.2.2.2.2.2
    go_wp2_with fail
    go_ret
    exact ⟨rfl, hfin⟩
  · have HE := HKE.out h0
    subst HE
    have h0a : (ke != 0) = true := by simpa using h0
    have h0c : (ke == ke) = true := by simp
    clear h0
    go_wp2_with fail
    refine (scores_any _).mono ?_
    rintro e w11 ⟨rfl, hb11⟩
    go_wp2_with fail
    go_ret
    exact ⟨rfl, below_next hbw6 hb11⟩
end Go.Proofs.YtaoomkkhpianlaaGreatDoor.marksAgree
