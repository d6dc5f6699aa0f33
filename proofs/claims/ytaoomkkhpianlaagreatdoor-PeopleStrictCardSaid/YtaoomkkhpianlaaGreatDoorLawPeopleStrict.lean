/- For every list of raw numbers, PeopleStrict returns true. The walk. -/
import Derived.Test.YtaoomkkhpianlaaGreatDoorMakeMark2
import Derived.Test.YtaoomkkhpianlaaGreatDoorStrict4
import Derived.Test.YtaoomkkhpianlaaGreatDoorRank2
import Derived.Test.YtaoomkkhpianlaaGreatDoorShift
namespace Go.Proofs.YtaoomkkhpianlaaGreatDoor.peopleStrict
open Go.RowKit
set_option linter.unusedVariables false
set_option linter.unusedSimpArgs false


set_option maxRecDepth 100000 in
set_option maxHeartbeats 4000000 in
theorem walk (a0 : Option Addr) (len0 cap0 : Nat) (z0 : List Int) (w : World) (w0 : IsRow .i64 w a0 len0 cap0 z0) :
    Calls Tryz.prog 4 #[.slice a0 len0 cap0] w fun e w' => e = .returned (.bool true) ∧ Below w.heap.size w w' := by
  have hs := strm_new w0
  go_enter Tryz.func4, Tryz.ntmps4
  go_wp2_with fail
  refine (anyMarks_any w.heap.size 0 _ hs (by omega)).mono ?_
  rintro e w1 ⟨l, v, rfl, hown, hlen, hsm, h1, s1⟩
  have hz1 := h1.size
  simp at hz1
  obtain ⟨a, cap, rfl, hsa, hform, _⟩ := hown.form
  have hst1 : Stp w.heap.size w w1 := ((Stp.refl _ w).alloc _).trans h1
  have HnS : Hid (∀ x : Addr, a = some x → x.block ≠ w.heap.size) := fun x hx => by
    rcases hform with h | ⟨b, h, hb1, _⟩
    · rw [h] at hx; cases hx
    · rw [h] at hx; cases hx; simp at hb1; simp; omega
  have Hform : Hid (a = none ∨ ∃ b off, a = some ⟨b, off, none⟩) := by
    rcases hform with h | ⟨b, h, _⟩
    · exact .inl h
    · exact .inr ⟨b, 0, h⟩
  have Hsm := Lib.hid hsm
  clear w0 hs hown hform h1 hsm
  go_wp2_with fail
  refine (MarkPerson_any w.heap.size (0 + 2 + 1000) _ s1 (by omega)).mono ?_
  rintro e w2 ⟨who, hpa, rfl, h2, s2⟩
  have hz2 := h2.size
  have hsa2 := hsa.stp h2 HnS.out
  have hst2 := hst1.trans h2
  clear hsa hst1 h2 s1
  go_wp2_with fail
  refine (MarkPaper_any w.heap.size (0 + 2 + 1000 + 1) _ s2 (by omega)).mono ?_
  rintro e w3 ⟨p, hpb, rfl, h3, s3⟩
  have hz3 := h3.size
  have hsa3 := hsa2.stp h3 HnS.out
  have hst3 := hst2.trans h3
  clear hsa2 hst2 h3 s2
  go_wp2_with fail
  refine (pick_box w.heap.size (0 + 2 + 1000 + 1 + 1) _ 3 6 [1, 2, 3, 10, 0, 11] _ (s3.alloc _) (by omega) (Box.new _ _ _) (by omega) (by decide) (by decide)).mono ?_
  rintro e w4 ⟨least, hR, rfl, h4, s4⟩
  have hz4 := h4.size
  simp at hz4
  have hsa4 := (hsa3.alloc _).stp h4 HnS.out
  have hst4 := (hst3.alloc _).trans h4
  clear hsa3 hst3 h4 s3 hR
  go_wp2_with fail
  refine (pick_box w.heap.size (0 + 2 + 1000 + 1 + 1 + 1) _ 3 7 [0, 1, -1, 3, -9, 4611686018427387904, -4611686018427387904] _ (s4.alloc _) (by omega) (Box.new _ _ _) (by omega) (by decide) (by decide)).mono ?_
  rintro e w5 ⟨d, hd, rfl, h5, s5⟩
  have hdb := pick_in hd (-5000000000000000000) 5000000000000000000 (by decide)
  have hz5 := h5.size
  simp at hz5
  have hsa5 := (hsa4.alloc _).stp h5 HnS.out
  have hst5 := (hst4.alloc _).trans h5
  have hbw5 : Below w.heap.size w w5 := by have := hst5.below; rw [Nat.min_self] at this; exact this
  clear hsa4 hst4 h5 s4 s5 hst5 hd
  have Hks : Hid (∀ x ∈ l, x.1.size ≤ 1000 ∧ x.2.1.size ≤ 1000) := fun x hx => ⟨(Hsm.out x hx).1, (Hsm.out x hx).2.1⟩
  have HA := Lib.hid (fun W (h : SA W a l) => strictP_any l a cap W h (by omega) Hks.out)
  have HB := Lib.hid (fun W (h : SA W a l) => outliers_any l a cap least W h (by omega) Hks.out)
  have HK := Lib.hid (fun W (h : SA W a l) => rank_any l a cap who p W h (by omega) Hks.out)
  have HT := Lib.hid (fun W (h : SA W a l) => shift_any l a cap who d W h Hform.out (by omega) Hks.out)
  have HF := Lib.hid (fun W (h : SA W a l) => marksFault_any l a cap W h (by omega) Hks.out)
  have HAO : Hid (marksFault l = 0 → ∀ W, SA W a l → Calls Tryz.prog 24 #[.slice a l.length cap] W (GivesOwn 48 (strictL l (keysOf (fun x => x.2.1) l)) W)) := fun h W hW => strictOf_any l a cap W hW (by omega) h
  have HBO : Hid (marksFault l = 0 → 1 ≤ least ∧ least ≤ 10 → ∀ W, SA W a l → Calls Tryz.prog 26 #[.slice a l.length cap, .int .i64 least] W (GivesOwn 54 (l.filter (outP l least)) W)) := fun h h2 W hW => outliersOf_any l a cap least W hW (by omega) h h2
  have HKO0 : Hid (marksFault l = 0 → ∀ W, SA W a l → Calls Tryz.prog 27 #[.slice a l.length cap, .string who, .string p] W (Gives (.tuple #[.agg #[.int .i64 (if marksFault l = 0 then rankN l who p else 0), .int .i64 (if marksFault l = 0 then rankD l who p else 0)], .int .i64 (if marksFault l = 0 then rankE l who p else marksFault l)]) W)) := fun h W hW => by
    rw [if_pos h, if_pos h, if_pos h]; exact rankOf_any l a cap who p W hW (by omega) h
  have HSO0 := Lib.hid (fun h W (hW : SA W a l) => shiftOf_any l a cap who d W hW Hform.out (by omega) h hdb.1 hdb.2)
  have HKE : Hid (marksFault l ≠ 0 → (if marksFault l = 0 then rankE l who p else marksFault l) = marksFault l) := fun h => by rw [if_neg h]
  have HTE : Hid (marksFault l ≠ 0 → (if marksFault l ≠ 0 then marksFault l else shiftE l who d) = marksFault l) := fun h => by rw [if_pos h]
  have HTE2 : Hid (marksFault l = 0 → (if marksFault l ≠ 0 then marksFault l else shiftE l who d) = shiftE l who d) := fun h => by rw [if_neg (by simpa using h)]
  have HOE : Hid (marksFault l ≠ 0 → outE l least = marksFault l) := fun h => by unfold outE; rw [if_pos h]
  have HOE2 : Hid (marksFault l = 0 → outE l least = if least < 1 ∨ 10 < least then 1 else 0) := fun h => by unfold outE; rw [if_neg (by simpa using h)]
  have hkl := keysOf_length (fun x => x.2.1) l
  have hvl := strictL_len l (keysOf (fun x => x.2.1) l)
  have hol := List.length_filter_le (outP l least) l
  generalize strictL l (keysOf (fun x => x.2.1) l) = vs at *
  generalize l.filter (outP l least) = os at *
  generalize (if marksFault l = 0 then rankE l who p else marksFault l) = ke at *
  generalize (if marksFault l = 0 then rankN l who p else 0) = kn at *
  generalize (if marksFault l = 0 then rankD l who p else 0) = kd at *
  generalize (if marksFault l ≠ 0 then marksFault l else shiftE l who d) = te at *
  generalize shiftE l who d = she at *
  generalize outE l least = oe at *
  generalize marksFault l = pf at *
  go_wp2_with fail
  refine (HA.out _ hsa5).mono ?_
  rintro e w6 ⟨hb6, va, vn, vc, rfl, hvn, hv⟩
  have hsa6 := hsa5.below hb6
  have hbw6 := below_next hbw5 hb6
  have Hv6 := Lib.hid hv
  clear hsa5 hbw5 hb6 hv
  go_wp2_with fail
  refine (HB.out _ hsa6).mono ?_
  rintro e w7 ⟨hb7, oa, on, oc, rfl, hon, ho⟩
  have hsa7 := hsa6.below hb7
  have hbw7 := below_next hbw6 hb7
  have Hv7 : Hid (pf = 0 → vn = vs.length ∧ SA w7 va vs) := fun h => ⟨(Hv6.out h).1, (Hv6.out h).2.below hb7⟩
  have Ho7 := Lib.hid ho
  clear hsa6 hbw6 hb7 ho Hv6
  go_wp2_with fail
  refine (HK.out _ hsa7).mono ?_
  rintro e w8 ⟨rfl, hb8⟩
  have hz8 := hb8.size
  have hsa8 := (hsa7.below hb8).alloc (.cells #[.int .i64 kn, .int .i64 kd] 30)
  have hX8 := Box.new w8 30 #[.int .i64 kn, .int .i64 kd]
  have hbw8 := (below_next hbw7 hb8).alloc (by have := (below_next hbw7 hb8).size; exact this) (.cells #[.int .i64 kn, .int .i64 kd] 30)
  have hb78 := hb8.alloc hb8.size (.cells #[.int .i64 kn, .int .i64 kd] 30)
  clear hsa7 hbw7 hb8
  go_upto_region 6 with (fail)
  generalize w8.alloc (.cells #[.int .i64 kn, .int .i64 kd] 30) = W8 at *
  generalize w8.heap.size = n8 at *
  go_wp2_with fail
  refine (HT.out _ hsa8).mono ?_
  rintro e w9 ⟨hb9, ta, tn, tc, rfl, ht⟩
  have hsa9 := hsa8.below hb9
  have hX9 := hX8.below hb9
  have hbw9 := below_next hbw8 hb9
  have hb79 := below_next hb78 hb9
  have Ht9 := Lib.hid ht
  clear hsa8 hX8 hbw8 hb78 hb9 ht
  go_wp2_with fail
  refine (HF.out _ hsa9).mono ?_
  rintro e wA ⟨rfl, hbA⟩
  have hsaA := hsa9.below hbA
  have hXA := hX9.below hbA
  have hbwA := below_next hbw9 hbA
  have hb7A := below_next hb79 hbA
  clear hsa9 hX9 hbw9 hb79 HA HB HK HT HF
  by_cases h0 : pf = 0
  · subst h0
    have HKO := Lib.hid (HKO0.out rfl)
    have HSO := Lib.hid (HSO0.out rfl)
    have HAO2 := Lib.hid (HAO.out rfl)
    have HBO2 := Lib.hid (HBO.out rfl)
    have hte := HTE2.out rfl
    subst hte
    have Hoe := Lib.hid (HOE2.out rfl)
    obtain ⟨rfl, hva⟩ := Hv7.out rfl
    have htA : Hid ((te = 0 ∧ tn = l.length ∧ SA wA ta (shiftL who d l)) ∨ (te ≠ 0 ∧ tn = 0)) := by
      rcases Ht9.out with ⟨h1, h2, h3⟩ | h
      · exact .inl ⟨h1, h2, h3.below hbA⟩
      · exact .inr h
    have hva1 := hva.below hb7A
    clear HKO0 HSO0 HAO HBO HTE HTE2 HKE HOE HOE2 Ht9 hbA Hv7 hva
    go_wp2_with fail
    refine (HAO2.out _ hsaA).mono ?_
    rintro e wB ⟨v11, rfl, hown11, hb11⟩
    obtain ⟨va1, vc1, rfl, hva2, _, _⟩ := hown11.sa
    have hva3 := hva1.below hb11
    clear hown11 hva1
    go_wp2_with fail
    refine (equalValued_any vs va va1 vc vc1 _ hva3 hva2 (by omega)).mono ?_
    rintro e wC ⟨rfl, n12, rfl⟩
    have hsaC := (hsaA.below hb11).drewN n12
    have hXC := (hXA.below hb11).drewN n12
    have hbwC := below_drewN (below_next hbwA hb11) n12
    have hbAC := below_drewN hb11 n12
    have hb7C := below_drewN (below_next hb7A hb11) n12
    clear hva2 hva3 hsaA hXA hbwA hb11 hb7A HAO2
    by_cases hle : least < 1 ∨ 10 < least
    · rw [if_pos hle] at Hoe
      obtain rfl := Hoe.out
      have htB : Hid ((te = 0 ∧ tn = l.length ∧ SA (wB.drewN n12) ta (shiftL who d l)) ∨ (te ≠ 0 ∧ tn = 0)) := by
        rcases htA.out with ⟨h1, h2, h3⟩ | h
        · exact .inl ⟨h1, h2, h3.below hbAC⟩
        · exact .inr h
      have hsaB := hsaC
      have hXB := hXC
      have hbwB := hbwC
      clear htA hbAC hb7C Ho7 HBO2 hsaC hXC hbwC
      generalize wB.drewN n12 = wD at *
      rcases hle with hle | hle
      · have hd1 : decide (least < 1) = true := decide_eq_true hle
        clear hle
        go_wp2_with fail
        refine (HKO.out _ hsaB).mono ?_
        rintro e w10 ⟨rfl, hb10⟩
        have hsa10 := (hsaB.below hb10).alloc (.cells #[.int .i64 kn, .int .i64 kd] 30)
        have hX10 := (hXB.below hb10).alloc (.cells #[.int .i64 kn, .int .i64 kd] 30)
        have hZ10 := Box.new w10 30 #[.int .i64 kn, .int .i64 kd]
        have hbw10 := (below_next hbwB hb10).alloc (by have := (below_next hbwB hb10).size; exact this) (.cells #[.int .i64 kn, .int .i64 kd] 30)
        have hbB10 := hb10.alloc hb10.size (.cells #[.int .i64 kn, .int .i64 kd] 30)
        clear hsaB hXB hbwB hb10
        go_upto_region 18 with (fail)
        generalize w10.alloc (.cells #[.int .i64 kn, .int .i64 kd] 30) = W10 at *
        generalize w10.heap.size = n10 at *
        go_wp2_with fail
        refine (HSO.out _ hsa10).mono ?_
        rintro e w11 ⟨hb11, ya, yn, yc, rfl, hy⟩
        have hX11 := hX10.below hb11
        have hZ11 := hZ10.below hb11
        have hbw11 := below_next hbw10 hb11
        have hbB11 := below_next hbB10 hb11
        clear hsa10 hX10 hZ10 hbw10 hbB10
        have hq3 : (kn == kn) = true := by simp
        have hq4 : (kd == kd) = true := by simp
        have hq5 : (ke == ke) = true := by simp
        have hq6 : (te == te) = true := by simp
        go_wp2_with fail
        refine (scores_any _).mono ?_
        rintro e w12 ⟨rfl, hb12⟩
        have hX12 := hX11.below hb12
        have hZ12 := hZ11.below hb12
        have hbw12 := below_next hbw11 hb12
        have hbB12 := below_next hbB11 hb12
        have hb1112 := hb12
        clear hX11 hZ11 hbw11 hbB11
        have hX12_l := hX12.lt; have hX12_0 := hX12.cell 0; have hX12_1 := hX12.cell 1; simp at hX12_0 hX12_1
        have hZ12_l := hZ12.lt; have hZ12_0 := hZ12.cell 0; have hZ12_1 := hZ12.cell 1; simp at hZ12_0 hZ12_1
        have HEQ : Hid (∃ L : List Mark, tn = L.length ∧ yn = L.length ∧ SA w12 ta L ∧ SA w12 ya L ∧ L.length ≤ 400) := by
          rcases htB.out with ⟨h1, h2, h3⟩ | ⟨h1, h2⟩
          · rcases hy with ⟨k1, k2, k3⟩ | ⟨k1, k2⟩
            · exact ⟨shiftL who d l, by rw [h2]; unfold shiftL; rw [List.length_map], by rw [k2]; unfold shiftL; rw [List.length_map], h3.below hbB12, k3.below hb1112, by unfold shiftL; rw [List.length_map]; exact hlen⟩
            · exact absurd h1 k1
          · rcases hy with ⟨k1, k2, k3⟩ | ⟨k1, k2⟩
            · exact absurd k1 h1
            · exact ⟨[], h2, k2, SA.nil _ _, SA.nil _ _, by simp⟩
        clear htB hy hbB12 hb1112 hb12
        obtain ⟨L, rfl, rfl, ht1, ht2, ht3⟩ := HEQ.out
        go_wp2_with fail
        refine (equalMark_any L ta ya tc yc _ ht1 ht2 (by omega)).mono ?_
        rintro e w13 ⟨rfl, n13, rfl⟩
        go_wp2_with fail
        go_ret
        exact ⟨rfl, below_drewN hbw12 _⟩
      · have hd1 : decide (least < 1) = false := decide_eq_false (by omega)
        have hd2 : decide (10 < least) = true := decide_eq_true hle
        clear hle
        go_wp2_with fail
        refine (HKO.out _ hsaB).mono ?_
        rintro e w10 ⟨rfl, hb10⟩
        have hsa10 := (hsaB.below hb10).alloc (.cells #[.int .i64 kn, .int .i64 kd] 30)
        have hX10 := (hXB.below hb10).alloc (.cells #[.int .i64 kn, .int .i64 kd] 30)
        have hZ10 := Box.new w10 30 #[.int .i64 kn, .int .i64 kd]
        have hbw10 := (below_next hbwB hb10).alloc (by have := (below_next hbwB hb10).size; exact this) (.cells #[.int .i64 kn, .int .i64 kd] 30)
        have hbB10 := hb10.alloc hb10.size (.cells #[.int .i64 kn, .int .i64 kd] 30)
        clear hsaB hXB hbwB hb10
        go_upto_region 18 with (fail)
        generalize w10.alloc (.cells #[.int .i64 kn, .int .i64 kd] 30) = W10 at *
        generalize w10.heap.size = n10 at *
        go_wp2_with fail
        refine (HSO.out _ hsa10).mono ?_
        rintro e w11 ⟨hb11, ya, yn, yc, rfl, hy⟩
        have hX11 := hX10.below hb11
        have hZ11 := hZ10.below hb11
        have hbw11 := below_next hbw10 hb11
        have hbB11 := below_next hbB10 hb11
        clear hsa10 hX10 hZ10 hbw10 hbB10
        have hq3 : (kn == kn) = true := by simp
        have hq4 : (kd == kd) = true := by simp
        have hq5 : (ke == ke) = true := by simp
        have hq6 : (te == te) = true := by simp
        go_wp2_with fail
        refine (scores_any _).mono ?_
        rintro e w12 ⟨rfl, hb12⟩
        have hX12 := hX11.below hb12
        have hZ12 := hZ11.below hb12
        have hbw12 := below_next hbw11 hb12
        have hbB12 := below_next hbB11 hb12
        have hb1112 := hb12
        clear hX11 hZ11 hbw11 hbB11
        have hX12_l := hX12.lt; have hX12_0 := hX12.cell 0; have hX12_1 := hX12.cell 1; simp at hX12_0 hX12_1
        have hZ12_l := hZ12.lt; have hZ12_0 := hZ12.cell 0; have hZ12_1 := hZ12.cell 1; simp at hZ12_0 hZ12_1
        have HEQ : Hid (∃ L : List Mark, tn = L.length ∧ yn = L.length ∧ SA w12 ta L ∧ SA w12 ya L ∧ L.length ≤ 400) := by
          rcases htB.out with ⟨h1, h2, h3⟩ | ⟨h1, h2⟩
          · rcases hy with ⟨k1, k2, k3⟩ | ⟨k1, k2⟩
            · exact ⟨shiftL who d l, by rw [h2]; unfold shiftL; rw [List.length_map], by rw [k2]; unfold shiftL; rw [List.length_map], h3.below hbB12, k3.below hb1112, by unfold shiftL; rw [List.length_map]; exact hlen⟩
            · exact absurd h1 k1
          · rcases hy with ⟨k1, k2, k3⟩ | ⟨k1, k2⟩
            · exact absurd k1 h1
            · exact ⟨[], h2, k2, SA.nil _ _, SA.nil _ _, by simp⟩
        clear htB hy hbB12 hb1112 hb12
        obtain ⟨L, rfl, rfl, ht1, ht2, ht3⟩ := HEQ.out
        go_wp2_with fail
        refine (equalMark_any L ta ya tc yc _ ht1 ht2 (by omega)).mono ?_
        rintro e w13 ⟨rfl, n13, rfl⟩
        go_wp2_with fail
        go_ret
        exact ⟨rfl, below_drewN hbw12 _⟩
    · rw [if_neg hle] at Hoe
      obtain rfl := Hoe.out
      have hd1 : decide (least < 1) = false := decide_eq_false (by omega)
      have hd2 : decide (10 < least) = false := decide_eq_false (by omega)
      have HBO3 := Lib.hid (HBO2.out (by omega))
      obtain ⟨rfl, hoa⟩ := Ho7.out rfl
      have hoaC := hoa.below hb7C
      clear hle Ho7 hoa hb7C HBO2
      go_wp2_with fail
      refine (HBO3.out _ hsaC).mono ?_
      rintro e wE ⟨v14, rfl, hown14, hb14⟩
      obtain ⟨oa1, oc1, rfl, hoa1, _, _⟩ := hown14.sa
      have hoaE := hoaC.below hb14
      clear hown14 hoaC
      go_wp2_with fail
      refine (equalMark_any os oa oa1 oc oc1 _ hoaE hoa1 (by omega)).mono ?_
      rintro e wF ⟨rfl, n15, rfl⟩
      have hsaB := (hsaC.below hb14).drewN n15
      have hXB := (hXC.below hb14).drewN n15
      have hbwB := below_drewN (below_next hbwC hb14) n15
      have htB : Hid ((te = 0 ∧ tn = l.length ∧ SA (wE.drewN n15) ta (shiftL who d l)) ∨ (te ≠ 0 ∧ tn = 0)) := by
        rcases htA.out with ⟨h1, h2, h3⟩ | h
        · exact .inl ⟨h1, h2, h3.below (below_drewN (below_next hbAC hb14) n15)⟩
        · exact .inr h
      clear htA hbAC hoaE hoa1 hsaC hXC hbwC hb14
      generalize wE.drewN n15 = wD at *
      go_wp2_with fail
      refine (HKO.out _ hsaB).mono ?_
      rintro e w10 ⟨rfl, hb10⟩
      have hsa10 := (hsaB.below hb10).alloc (.cells #[.int .i64 kn, .int .i64 kd] 30)
      have hX10 := (hXB.below hb10).alloc (.cells #[.int .i64 kn, .int .i64 kd] 30)
      have hZ10 := Box.new w10 30 #[.int .i64 kn, .int .i64 kd]
      have hbw10 := (below_next hbwB hb10).alloc (by have := (below_next hbwB hb10).size; exact this) (.cells #[.int .i64 kn, .int .i64 kd] 30)
      have hbB10 := hb10.alloc hb10.size (.cells #[.int .i64 kn, .int .i64 kd] 30)
      clear hsaB hXB hbwB hb10
      go_upto_region 18 with (fail)
      generalize w10.alloc (.cells #[.int .i64 kn, .int .i64 kd] 30) = W10 at *
      generalize w10.heap.size = n10 at *
      go_wp2_with fail
      refine (HSO.out _ hsa10).mono ?_
      rintro e w11 ⟨hb11, ya, yn, yc, rfl, hy⟩
      have hX11 := hX10.below hb11
      have hZ11 := hZ10.below hb11
      have hbw11 := below_next hbw10 hb11
      have hbB11 := below_next hbB10 hb11
      clear hsa10 hX10 hZ10 hbw10 hbB10
      have hq3 : (kn == kn) = true := by simp
      have hq4 : (kd == kd) = true := by simp
      have hq5 : (ke == ke) = true := by simp
      have hq6 : (te == te) = true := by simp
      go_wp2_with fail
      refine (scores_any _).mono ?_
      rintro e w12 ⟨rfl, hb12⟩
      have hX12 := hX11.below hb12
      have hZ12 := hZ11.below hb12
      have hbw12 := below_next hbw11 hb12
      have hbB12 := below_next hbB11 hb12
      have hb1112 := hb12
      clear hX11 hZ11 hbw11 hbB11
      have hX12_l := hX12.lt; have hX12_0 := hX12.cell 0; have hX12_1 := hX12.cell 1; simp at hX12_0 hX12_1
      have hZ12_l := hZ12.lt; have hZ12_0 := hZ12.cell 0; have hZ12_1 := hZ12.cell 1; simp at hZ12_0 hZ12_1
      have HEQ : Hid (∃ L : List Mark, tn = L.length ∧ yn = L.length ∧ SA w12 ta L ∧ SA w12 ya L ∧ L.length ≤ 400) := by
        rcases htB.out with ⟨h1, h2, h3⟩ | ⟨h1, h2⟩
        · rcases hy with ⟨k1, k2, k3⟩ | ⟨k1, k2⟩
          · exact ⟨shiftL who d l, by rw [h2]; unfold shiftL; rw [List.length_map], by rw [k2]; unfold shiftL; rw [List.length_map], h3.below hbB12, k3.below hb1112, by unfold shiftL; rw [List.length_map]; exact hlen⟩
          · exact absurd h1 k1
        · rcases hy with ⟨k1, k2, k3⟩ | ⟨k1, k2⟩
          · exact absurd k1 h1
          · exact ⟨[], h2, k2, SA.nil _ _, SA.nil _ _, by simp⟩
      clear htB hy hbB12 hb1112 hb12
      obtain ⟨L, rfl, rfl, ht1, ht2, ht3⟩ := HEQ.out
      go_wp2_with fail
      refine (equalMark_any L ta ya tc yc _ ht1 ht2 (by omega)).mono ?_
      rintro e w13 ⟨rfl, n13, rfl⟩
      go_wp2_with fail
      go_ret
      exact ⟨rfl, below_drewN hbw12 _⟩
  · have h1 := HKE.out h0
    subst h1
    have h2 := HTE.out h0
    subst h2
    have h3 := HOE.out h0
    subst h3
    have h0a : (oe != 0) = true := by simpa using h0
    have h0c : (oe == oe) = true := by simp
    clear h0
    go_wp2_with fail
    refine (scores_any _).mono ?_
    rintro e w11 ⟨rfl, hb11⟩
    go_wp2_with fail
    go_ret
    exact ⟨rfl, below_next hbwA hb11⟩
end Go.Proofs.YtaoomkkhpianlaaGreatDoor.peopleStrict
