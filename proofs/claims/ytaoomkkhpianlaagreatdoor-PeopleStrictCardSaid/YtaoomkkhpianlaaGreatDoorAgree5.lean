/- Agreement of the reference, walked. -/
import Derived.Test.YtaoomkkhpianlaaGreatDoorAgree4
import Derived.Test.YtaoomkkhpianlaaGreatDoorPart
namespace Go.Proofs.YtaoomkkhpianlaaGreatDoor
open Go.RowKit Go.Sort
set_option linter.unusedVariables false
set_option linter.unusedSimpArgs false

set_option maxHeartbeats 1000000 in
theorem squares_any (s : List Int) (av : Option Addr) (capv : Nat) (w : World) (hsa : SA w av s) (hl : s.length ≤ 1000) (hoki : okI s) :
    Calls Tryz.prog 77 #[.slice av s.length capv] w (fun e w' => e = .returned (.int .i64 (dif2 s s)) ∧ w = w') := by
  go_enter Tryz.func77, Tryz.ntmps77
  go_wp2_with fail
  go_loopg [3, 10] s.length (fun gk v i wr => ∃ k : Nat, i = .int .i64 k ∧ k ≤ s.length ∧ Hid (gk = s.length - k) ∧ v = .int .i64 (dif2 (s.take k) s) ∧ wr = w)
  case atStart => exact ⟨0, rfl, by omega, rfl, rfl, rfl⟩
  case round =>
    obtain ⟨k, rfl, hk, hgk, rfl, rfl⟩ := hrel
    by_cases hlt : k < s.length
    · obtain ⟨b, off, ha, c0⟩ := hsa.int hlt
      have htake := List.take_succ_eq_append_getElem hlt
      have hb2 := dif2_bd hoki (by omega) (okI_take hoki k)
      rw [List.length_take] at hb2
      have hx := hoki s[k] (List.getElem_mem hlt)
      have Hsn := Lib.hid (show dif2 (s.take (k + 1)) s = dif2 (s.take k) s + dif1 s[k] s by rw [htake, dif2_snoc])
      have Ha := Lib.hid ha
      rw [ha]
      generalize s[k] = x at *
      clear htake ha
      generalize dif2 (s.take k) s = d0 at *
      obtain ⟨wv, rfl⟩ : ∃ wv : World, wv = wr := ⟨_, rfl⟩
      go_wp2_with fail
      go_loopg [3, 16] s.length (fun gk v i wr => ∃ j : Nat, i = .int .i64 j ∧ j ≤ s.length ∧ Hid (gk = s.length - j) ∧ v = .int .i64 (d0 + dif1 x (s.take j)) ∧ wr = wv)
      case atStart => exact ⟨0, rfl, by omega, rfl, by simp [dif1], rfl⟩
      obtain ⟨j, rfl, hj, hgj, rfl, rfl⟩ := hrel
      by_cases hjl : j < s.length
      · obtain ⟨b', off', ha', e0⟩ := hsa.int hjl
        rw [Ha.out] at ha'
        cases ha'
        have htake := List.take_succ_eq_append_getElem hjl
        have hb3 := dif1_bd hx (okI_take hoki j)
        rw [List.length_take] at hb3
        have hy := hoki s[j] (List.getElem_mem hjl)
        have hq := sqd_bd hx hy
        have Hsj := Lib.hid (show dif1 x (s.take (j + 1)) = dif1 x (s.take j) + (x - s[j]) * (x - s[j]) by rw [htake, dif1_snoc])
        generalize s[j] = y at *
        clear htake
        generalize dif1 x (s.take j) = d1 at *
        go_wp2_with fail
        go_roundg (s.length - (j + 1))
        case measure => have := hgj.out; omega
        case rel => exact ⟨j + 1, by go_num, by omega, rfl, by rw [Hsj.out]; congr 1; omega, rfl⟩
      · obtain rfl : j = s.length := by omega
        rw [List.take_length]
        go_wp2_with fail
        rw [← Ha.out]
        go_roundg (s.length - (k + 1))
        case measure => have := hgk.out; omega
        case rel => exact ⟨k + 1, by go_num, by omega, rfl, by rw [Hsn.out], rfl⟩
    · obtain rfl : k = s.length := by omega
      rw [List.take_length]
      go_wp2_with fail
      go_ret
      exact ⟨rfl, rfl⟩
set_option maxRecDepth 100000 in
set_option maxHeartbeats 1000000 in
theorem agreementOf_any (l : List Mark) (a : Option Addr) (cap : Nat) (w : World) (hs : SA w a l) (hl : l.length ≤ 400) (h0 : marksFault l = 0) :
    Calls Tryz.prog 16 #[.slice a l.length cap] w (Gives (.agg #[.int .i64 (agN l (keysOf (fun x => x.1) l)), .int .i64 (agD l (keysOf (fun x => x.1) l))]) w) := by
  generalize hq : agN l (keysOf (fun x => x.1) l) = qn at *
  generalize hr : agD l (keysOf (fun x => x.1) l) = qd at *
  have HQ := Lib.hid hq
  have HR := Lib.hid hr
  have H0 := Lib.hid h0
  have hok := fault_scores h0
  clear hq hr h0
  have HS := Lib.hid (fun p W (h : SA W a l) => scoresOf_any l a cap p W h (by omega))
  go_enter Tryz.func16, Tryz.ntmps16
  go_wp2_with fail
  refine (MarkedPapers_any l a cap _ ((hs.alloc _).alloc _) (by omega)).mono ?_
  rintro e wk ⟨vk, rfl, hownk, hbk⟩
  obtain ⟨aK, capK, rfl, hsaK, hbK, _⟩ := hownk.sa
  have hR := (((Box.new w 30 #[.int .i64 0, .int .i64 0]).alloc (.cells #[.int .i64 0, .int .i64 1] 30))).below hbk
  have hF := (Box.newAt (w.alloc (.cells #[.int .i64 0, .int .i64 0] 30)) (w.heap.size + 1) 30 #[.int .i64 0, .int .i64 1] (by simp)).below hbk
  have hzk := hbk.size
  simp at hzk
  have hbwk : Below w.heap.size w wk := below_next (((Below.refl _ _).alloc (Nat.le_refl _) _).alloc (by simp) _) hbk
  have HbK : Hid (∀ x : Addr, aK = some x → w.heap.size + 1 < x.block ∧ x.block < wk.heap.size) := fun x hx => by have := hbK x hx; simp at this; omega
  have hkl := keysOf_length (fun x => x.1) l
  have hkn : (keysOf (fun x => x.1) l).Nodup := (keysS_rise _).nodup
  have Hkn := Lib.hid hkn
  clear hownk hbK hbk hkn
  generalize keysOf (fun x => x.1) l = ks at *
  go_wp2_with fail
  go_loopg [3, 14] ks.length (fun gk v i wr => ∃ k : Nat, i = .int .i64 k ∧ k ≤ ks.length ∧ Hid (gk = ks.length - k) ∧ Own wk.heap.size 3 wr v (allS l (ks.take k)) ∧ Box wr (w.heap.size + 1) 30 #[.int .i64 (within l (ks.take k)).1, .int .i64 (within l (ks.take k)).2] ∧ Box wr w.heap.size 30 #[.int .i64 0, .int .i64 0] ∧ SA wr aK ks ∧ Below w.heap.size w wr ∧ wk.heap.size ≤ wr.heap.size)
  case atStart => exact ⟨0, rfl, by omega, rfl, Own.nil _ _ _, hF, hR, hsaK, hbwk, Nat.le_refl _⟩
  clear hF hsaK hbwk hR
  obtain ⟨k, rfl, hk, hgk, hown, hF, hR, hsaK, hbw, hzr⟩ := hrel
  by_cases hlt : k < ks.length
  · obtain ⟨kb, koff, haK, ck⟩ := hsaK.str hlt
    have htake := List.take_succ_eq_append_getElem hlt
    have Hws := Lib.hid (within_snoc l (ks.take k) ks[k])
    have Hbs := Lib.hid (allS_snoc l (ks.take k) ks[k])
    rw [← htake] at Hws Hbs
    have hwb := within_bd H0.out (ks.take k) (by rw [List.length_take]; omega)
    have hbl := bigs_le (l := l) (ks.take k) (Hkn.out.sublist (List.take_sublist _ _))
    rw [← (allS_is l (ks.take k)).1] at hbl
    have HaK := Lib.hid haK
    rw [haK]
    clear haK htake
    generalize ks[k] = p at *
    have hoks := okI_sort (okI_scL (okScores_sel (f := fun x => x.1) (p := p) hok))
    have hmsl : (sel (fun x => x.1) p l).length ≤ 12 := paper_few H0.out p
    have HPP := Lib.hid (paper_part H0.out p)
    have hab := apartI_bd (okScores_sel (f := fun x => x.1) (p := p) hok) 1200 (by omega)
    have hls : (sortI (scL (sel (fun x => x.1) p l))).length = (sel (fun x => x.1) p l).length := by rw [sortI_length]; unfold scL; rw [List.length_map]
    have hdif : dif2 (sortI (scL (sel (fun x => x.1) p l))) (sortI (scL (sel (fun x => x.1) p l))) = apartI (sel (fun x => x.1) p l) := dif2_sort _
    have HSp := Lib.hid (HS.out p)
    unfold wStep at Hws
    unfold ofP at Hws Hbs HPP
    rw [← hls, ← hdif] at Hws HPP hab
    rw [← hls] at Hbs hmsl
    clear hls hdif
    generalize sortI (scL (sel (fun x => x.1) p l)) = s at *
    generalize hN0 : (within l (ks.take k)).1 = N0 at *
    generalize hD0 : (within l (ks.take k)).2 = D0 at *
    have HN0 := Lib.hid hN0
    have HD0 := Lib.hid hD0
    clear hN0 hD0
    generalize allS l (ks.take k) = bg at *
    go_wp2_with fail
    refine (HSp.out _ (hs.below hbw)).mono ?_
    rintro e ws ⟨vs, rfl, hows, hbs⟩
    obtain ⟨av, capv, rfl, hsav, hblv, _⟩ := hows.sa
    have hzs := hbs.size
    have hown1 := hown.below hbs
    have hF1 := hF.below hbs
    have hR1 := hR.below hbs
    have hsaK1 := hsaK.below hbs
    have hbw1 := below_next hbw hbs
    have hvv : ∀ x : Addr, av = some x → some x.block ≠ u3.ownBlock := fun x hx e => by have := (hown.lt _ e.symm).2; have := (hblv x hx).1; omega
    have hvF : some (w.heap.size + 1) ≠ u3.ownBlock := fun e => by have := (hown.lt _ e.symm).1; omega
    have hvR : some w.heap.size ≠ u3.ownBlock := fun e => by have := (hown.lt _ e.symm).1; omega
    have hvK : ∀ x : Addr, aK = some x → some x.block ≠ u3.ownBlock := fun x hx e => by have := (hown.lt _ e.symm).1; have := (HbK.out x hx).2; omega
    have hvb : ∀ j, u3.ownBlock = some j → w.heap.size ≤ j := fun j hj => by have := (hown.lt _ hj).1; omega
    have Hvv := Lib.hid hvv
    have HvF := Lib.hid hvF
    have HvR := Lib.hid hvR
    have HvK := Lib.hid hvK
    have Hvb := Lib.hid hvb
    clear hvv hvF hvR hvK hvb hown hF hR hsaK hbw hbs hows hblv HSp
    by_cases hbig : 1 < s.length
    · rw [if_pos hbig] at Hws Hbs
      have hpp := HPP.out hbig
      have hbig' : ¬ (s.length : Int) < 2 := by omega
      have hne : s ≠ [] := by intro e; rw [e] at hbig; simp at hbig
      go_wp2_with (at_builtin; refine wpList_append_all (α := Int) rfl _ _ 22 rfl 3 8 (.int .i64 0) Tryz.underlying22 Tryz.infoInt rfl u3 bg rfl hown1 s av capv rfl hsav hne (by omega) (by omega) (by omega) ?_; intro ga capg W2 hown2 hgrow)
      rw [List.length_append] at hown2
      have hF2 := hF1.grown hgrow HvF.out
      have hR2 := hR1.grown hgrow HvR.out
      have hsav2 := hsav.grownT hgrow Hvv.out
      have hsaK2 := hsaK1.grownT hgrow HvK.out
      have hbw2 : Below w.heap.size w W2 := hbw1.grown hgrow hbw1.size Hvb.out
      have hz2 := hgrow.size
      clear hown1 hF1 hR1 hsav hsaK1 hbw1 hgrow Hvv HvF HvR HvK Hvb hne
      have HA := Lib.hid (fun W (h : SA W av s) => squares_any s av capv W h (by omega) hoks)
      have HL := Lib.hid (fun W => part_any (dif2 s s) ((s.length : Int) - 1) W (by omega) (by omega) (by omega))
      unfold low at HL
      generalize dif2 s s = ap at *
      generalize lowN ap ((s.length : Int) - 1) = q1 at *
      generalize lowD ap ((s.length : Int) - 1) = q2 at *
      have hm1 := mul_in (x := N0) (y := q2) (X := 160000000000) (Y := 12) (by omega) (by omega) (by omega) (by omega)
      have hm2 := mul_in (x := q1) (y := D0) (X := 14400) (Y := 27720) (by omega) (by omega) (by omega) (by omega)
      have hm3 := mul_in (x := D0) (y := q2) (X := 27720) (Y := 12) (by omega) (by omega) (by omega) (by omega)
      have hm4 := mul_pos D0 q2 (by omega) (by omega)
      have HP := Lib.hid (fun W => plusR_any N0 D0 q1 q2 W (by omega) (by omega) (by omega) (by omega))
      unfold low at HP
      generalize lowN (N0 * q2 + q1 * D0) (D0 * q2) = r1 at *
      generalize lowD (N0 * q2 + q1 * D0) (D0 * q2) = r2 at *
      clear hm1 hm2 hm3 hm4 hab HPP hpp
      have hwn : IntKind.i64.wrap ((s.length : Int) - 1) = (s.length : Int) - 1 := IntWalk.i64_in _ (by omega)
      have hF2_l := hF2.lt; have hF2_0 := hF2.cell 0; have hF2_1 := hF2.cell 1; simp at hF2_0 hF2_1
      go_wp2_with fail
      refine wp_regionF (S := (fun wx => wx.cell? ⟨w.heap.size + 1, 0, none⟩ = some (.int .i64 N0) ∧ wx.cell? ⟨w.heap.size + 1, 1, none⟩ = some (.int .i64 D0) ∧ Below W2.heap.size W2 wx)) 8 (by kernel_rfl) ?hS (fun hHeld => ?_)
      case hS => exact ⟨hF2_0, hF2_1, (Below.refl _ _).drew⟩
      refine rtakeF (i := 0) (d := (some 27)) (v := ?_) (n := 40) rfl (by kernel_rfl) (by kernel_rfl) (by kernel_rfl) (by kernel_rfl) (by kernel_rfl) (by kernel_rfl) (fun _ _ _ h => h) (by kernel_rfl) (by assumption) ?_ ?_
      rotate_left 1
      · (intro wI hSI; (try dsimp only at hSI); go_simp; (try with_reducible rfl))
      simp only [Act.put, List.setIfInBounds_toArray, List.set_cons_zero, List.set_cons_succ]
      refine rtakeF (i := 1) (d := (some 28)) (v := ?_) (n := 40) rfl (by kernel_rfl) (by kernel_rfl) (by kernel_rfl) (by kernel_rfl) (by kernel_rfl) (by kernel_rfl) (fun _ _ _ h => h) (by kernel_rfl) (by assumption) ?_ ?_
      rotate_left 1
      · (intro wI hSI; (try dsimp only at hSI); go_simp; (try with_reducible rfl))
      simp only [Act.put, List.setIfInBounds_toArray, List.set_cons_zero, List.set_cons_succ]
      refine rtakeF (i := 3) (d := (some 30)) (v := ?_) (n := 40) rfl (by kernel_rfl) (by kernel_rfl) (by kernel_rfl) (by kernel_rfl) (by kernel_rfl) (by kernel_rfl) (fun _ _ _ h => h) (by kernel_rfl) (by assumption) ?_ ?_
      rotate_left 1
      · (intro wI hSI; (try dsimp only at hSI); go_simp; (try with_reducible rfl))
      simp only [Act.put, List.setIfInBounds_toArray, List.set_cons_zero, List.set_cons_succ]
      refine rtakeF (i := 4) (d := (some 31)) (v := ?_) (n := 40) rfl (by kernel_rfl) (by kernel_rfl) (by kernel_rfl) (by kernel_rfl) (by kernel_rfl) (by kernel_rfl) (fun _ _ _ h => h) (by kernel_rfl) (by assumption) ?_ ?_
      rotate_left 1
      · (intro wI hSI; (try dsimp only at hSI); go_simp; (try with_reducible rfl))
      simp only [Act.put, List.setIfInBounds_toArray, List.set_cons_zero, List.set_cons_succ]
      refine rtakeF (i := 5) (d := (some 32)) (v := ?_) (n := 40) rfl (by kernel_rfl) (by kernel_rfl) (by kernel_rfl) (by kernel_rfl) (by kernel_rfl) (by kernel_rfl) (fun _ _ _ h => h) (by kernel_rfl) (by assumption) ?_ ?_
      rotate_left 1
      · (intro wI hSI; (try dsimp only at hSI); go_simp; (try with_reducible rfl))
      simp only [Act.put, List.setIfInBounds_toArray, List.set_cons_zero, List.set_cons_succ]
      refine rcallF (i := 2) (d := (some 29)) (by kernel_rfl) rfl (by kernel_rfl) (fun K hK => ?_)
      go_simp
      go_at_call 77; refine (HA.out _ (hsav2.below hHeld.2.2)).mono ?_; rintro e wa ⟨rfl, rfl⟩
      refine hK.out _ _ (.inr ?hS) (fun hHeld0 => ?_)
      case hS => exact hHeld
      clear hK K
      have hHeld := hHeld0.resolve_left (by decide)
      simp only [Act.put, List.setIfInBounds_toArray, List.set_cons_zero, List.set_cons_succ]
      refine rcallF (i := 6) (d := (some 33)) (by kernel_rfl) rfl (by kernel_rfl) (fun K hK => ?_)
      go_simp
      go_at_call 74; refine (HL.out _).mono ?_; rintro e wb ⟨rfl, hbb⟩
      refine hK.out _ _ (.inr ?hS) (fun hHeld0 => ?_)
      case hS => exact ⟨cell_later hbb hHeld.1, cell_later hbb hHeld.2.1, below_next hHeld.2.2 hbb⟩
      clear hK K
      have hHeld := hHeld0.resolve_left (by decide)
      simp only [Act.put, List.setIfInBounds_toArray, List.set_cons_zero, List.set_cons_succ]
      refine rcallF (i := 7) (d := (some 34)) (by kernel_rfl) rfl (by kernel_rfl) (fun K hK => ?_)
      go_simp
      go_at_call 76; refine (HP.out _).mono ?_; rintro e wc ⟨rfl, hbc⟩
      refine hK.out _ _ (.inr ?hS) (fun hHeld0 => ?_)
      case hS => exact ⟨cell_later hbc hHeld.1, cell_later hbc hHeld.2.1, below_next hHeld.2.2 hbc⟩
      clear hK K
      have hHeld := hHeld0.resolve_left (by decide)
      simp only [Act.put, List.setIfInBounds_toArray, List.set_cons_zero, List.set_cons_succ]
      have hFc := hF2.below hHeld.2.2
      have hFc_f0 := hFc.frozen 0; have hFc_f1 := hFc.frozen 1
      refine rcallF (i := 8) (d := none) (by kernel_rfl) rfl (by kernel_rfl) (fun K hK => ?_)
      go_simp
      refine hK.out undef _ (.inl rfl) (fun _ => ?_)
      clear hK K
      simp only [Act.put, List.setIfInBounds_toArray, List.set_cons_zero, List.set_cons_succ]
      refine wpAnyF_done (by kernel_rfl) ?_ _
      have hb14 := hbw2.trans (hHeld.2.2.mono hbw2.size)
      have hbw3 := (hb14.setCell (p := ⟨w.heap.size + 1, 0, none⟩) (by simp) (.int .i64 r1)).setCell (p := ⟨w.heap.size + 1, 1, none⟩) (by simp) (.int .i64 r2)
      have hF3 : Box ((wc.setCell ⟨w.heap.size + 1, 0, none⟩ (.int .i64 r1)).setCell ⟨w.heap.size + 1, 1, none⟩ (.int .i64 r2)) (w.heap.size + 1) 30 #[.int .i64 r1, .int .i64 r2] := (hFc.set 0 (.int .i64 r1)).set 1 (.int .i64 r2)
      have hR3 := ((hR2.below hHeld.2.2).setOther (p := ⟨w.heap.size + 1, 0, none⟩) (by simp) (.int .i64 r1)).setOther (p := ⟨w.heap.size + 1, 1, none⟩) (by simp) (.int .i64 r2)
      have hown3 := ((hown2.below hHeld.2.2).setOther (p := ⟨w.heap.size + 1, 0, none⟩) (fun b hb => by have := (hown2.lt b hb).1; simp; omega) (.int .i64 r1)).setOther (p := ⟨w.heap.size + 1, 1, none⟩) (fun b hb => by have := (hown2.lt b hb).1; simp; omega) (.int .i64 r2)
      have hsaK3 := ((hsaK2.below hHeld.2.2).putOther (p := ⟨w.heap.size + 1, 0, none⟩) (fun x hx => by have := (HbK.out x hx).1; simp; omega) (.int .i64 r1)).putOther (p := ⟨w.heap.size + 1, 1, none⟩) (fun x hx => by have := (HbK.out x hx).1; simp; omega) (.int .i64 r2)
      have hsz1 : wk.heap.size ≤ ((wc.setCell ⟨w.heap.size + 1, 0, none⟩ (.int .i64 r1)).setCell ⟨w.heap.size + 1, 1, none⟩ (.int .i64 r2)).heap.size := by have := hHeld.2.2.size; simp [World.setCell]; omega
      generalize ((wc.setCell ⟨w.heap.size + 1, 0, none⟩ (.int .i64 r1)).setCell ⟨w.heap.size + 1, 1, none⟩ (.int .i64 r2)) = W1 at *
      clear hHeld hHeld0 hown2 hsaK2 hFc hF2 hb14 hR2 hbb hbc HA HL HP hwn
      go_wp2_with fail
      rw [← HaK.out]
      go_roundg (ks.length - (k + 1))
      case measure => have := hgk.out; omega
      case rel => exact ⟨k + 1, by go_num, by omega, rfl, by rw [Hbs.out]; exact hown3, by rw [Hws.out]; exact hF3, hR3, hsaK3, hbw3, hsz1⟩
    · rw [if_neg hbig] at Hws Hbs
      rw [List.append_nil] at Hbs
      have hbig' : (s.length : Int) < 2 := by omega
      go_wp2_with fail
      rw [← HaK.out]
      go_roundg (ks.length - (k + 1))
      case measure => have := hgk.out; omega
      case rel => exact ⟨k + 1, by go_num, by omega, rfl, by rw [Hbs.out]; exact hown1, by rw [Hws.out, HN0.out, HD0.out]; exact hF1, hR1, hsaK1, hbw1, by omega⟩
  · obtain rfl : k = ks.length := by omega
    rw [List.take_length] at hown hF
    have hwb := within_bd H0.out ks (by omega)
    have hbl := bigs_le (l := l) ks Hkn.out
    have hoka := allS_ok hok ks
    have hdif := allS_dif l ks
    have hab := apartI_bd (bigs_ok hok ks) 40000 (by omega)
    unfold agN at HQ
    unfold agD at HR
    rw [← (allS_is l ks).1] at HQ HR hbl hab
    rw [← hdif] at HQ HR hab
    obtain ⟨av, capv, rfl, hsav, _, _⟩ := hown.sa
    clear hdif
    generalize allS l ks = bg at *
    generalize (within l ks).1 = N0 at *
    generalize (within l ks).2 = D0 at *
    have HA := Lib.hid (fun W (h : SA W av bg) => squares_any bg av capv W h (by omega) hoka)
    generalize dif2 bg bg = ap at *
    clear hown hlt hsaK hoka HS
    go_wp2_with fail
    refine (HA.out _ hsav).mono ?_
    rintro e wa ⟨rfl, rfl⟩
    clear hsav HA
    by_cases hap : ap = 0
    · subst hap
      rw [if_pos rfl] at HQ HR
      obtain rfl := HQ.out
      obtain rfl := HR.out
      have hR_l := hR.lt; have hR_0 := hR.cell 0; have hR_1 := hR.cell 1; simp at hR_0 hR_1
      have hR_f0 := hR.frozen 0; have hR_f1 := hR.frozen 1
      go_wp2_with fail
      refine bodyPost_ret (v := .agg #[.int .i64 1, .int .i64 1]) (by simp only [results, Tryz.results16]; go_simp) rfl ⟨rfl, ?_⟩
      (repeat' (first | exact Below.refl _ _ | assumption | refine Below.setCell ?_ ?_ _ | refine below_drewN ?_ _ | refine Below.drew ?_ | refine Below.alloc ?_ ?_ _ | (with_reducible refine Below.trans ?_ (Below.mono hb ?_)) | (with_reducible refine Below.trans ?_ (Below.mono hb0 ?_)) | (with_reducible refine Below.trans ?_ (Below.mono hb1 ?_)) | (with_reducible refine Below.trans ?_ (Below.mono hb2 ?_)) | (with_reducible refine Below.trans ?_ (Below.mono hb3 ?_)) | (with_reducible refine Below.trans ?_ (Below.mono hb4 ?_)) | (with_reducible refine Below.trans ?_ (Below.mono hb5 ?_)) | (with_reducible refine Below.trans ?_ (Below.mono hb6 ?_)) | (with_reducible refine Below.trans ?_ (Below.mono hb7 ?_)) | (with_reducible refine Below.trans ?_ (Below.mono hb8 ?_)) | (with_reducible refine Below.trans ?_ (Below.mono hb9 ?_)) | (with_reducible refine Below.trans ?_ (Below.mono hb10 ?_)) | (with_reducible refine Below.trans ?_ (Below.mono hb11 ?_)) | (with_reducible refine Below.trans ?_ (Below.mono hb12 ?_)) | (with_reducible refine Below.trans ?_ (Below.mono hb13 ?_)) | (with_reducible refine Below.trans ?_ (Below.mono hb14 ?_)) | (with_reducible refine Below.trans ?_ (Below.mono hb15 ?_)) | omega | (simp; done) | (simp; omega)))
    · rw [if_neg hap] at HQ HR
      have hap' : (ap == 0) = false := by simpa using hap
      have hlen1 : 1 ≤ bg.length := by omega
      have hm2 := mul_in (x := N0) (y := (bg.length : Int) - 1) (X := 160000000000) (Y := 400) (by omega) (by omega) (by omega) (by omega)
      have hw1 : IntKind.i64.wrap ((bg.length : Int) - 1) = (bg.length : Int) - 1 := IntWalk.i64_in _ (by omega)
      have hw2 : IntKind.i64.wrap (N0 * ((bg.length : Int) - 1)) = N0 * ((bg.length : Int) - 1) := IntWalk.i64_in _ (by omega)
      have HL1 := Lib.hid (fun W => part_any (N0 * ((bg.length : Int) - 1)) D0 W (by omega) (by omega) (by omega))
      have hb1 := low_abs (N0 * ((bg.length : Int) - 1)) D0 (by omega)
      have hb2 := lowD_bd (N0 * ((bg.length : Int) - 1)) D0 (by omega)
      have hb3 := low_abs (lowN (N0 * ((bg.length : Int) - 1)) D0) ap (by omega)
      have hb4 := lowD_bd (lowN (N0 * ((bg.length : Int) - 1)) D0) ap (by omega)
      have HG := Lib.hid (ag_law N0 D0 bg.length ap _ _ _ _ (by omega) (by omega) rfl rfl rfl rfl)
      have HL2 := Lib.hid (fun W => part_any (lowN (N0 * ((bg.length : Int) - 1)) D0) ap W (by omega) (by omega) (by omega))
      unfold low at HL1 HL2
      generalize lowN (lowN (N0 * ((bg.length : Int) - 1)) D0) ap = f1 at *
      generalize lowD (lowN (N0 * ((bg.length : Int) - 1)) D0) ap = f2 at *
      generalize lowN (N0 * ((bg.length : Int) - 1)) D0 = g1 at *
      generalize lowD (N0 * ((bg.length : Int) - 1)) D0 = g2 at *
      have hm5 := mul_in (x := f2) (y := g2) (X := 16000000) (Y := 27720) (by omega) (by omega) (by omega) (by omega)
      have hm6 := mul_pos f2 g2 (by omega) (by omega)
      have HL3 := Lib.hid (fun W => part_any (f2 * g2 - f1) (f2 * g2) W (by omega) (by omega) hm6)
      unfold low at HL3
      rw [HG.out.1, HG.out.2, HQ.out, HR.out] at HL3
      have hw3 : IntKind.i64.wrap (f2 * g2) = f2 * g2 := IntWalk.i64_in _ (by omega)
      have hw4 : IntKind.i64.wrap (f2 * g2 - f1) = f2 * g2 - f1 := IntWalk.i64_in _ (by omega)
      clear hap hm2 hm5 hm6 hb1 hb2 hb3 hb4 hwb hab HG
      have hF_l := hF.lt; have hF_0 := hF.cell 0; have hF_1 := hF.cell 1; simp at hF_0 hF_1
      go_wp2_with fail
      refine (HL1.out _).mono ?_
      rintro e wa ⟨rfl, hba⟩
      have hRa := hR.below hba
      have hbwa := below_next hbw hba
      have hFa := hF.below hba
      clear hF_l hF_0 hF_1
      have hFa_l := hFa.lt; have hFa_0 := hFa.cell 0; have hFa_1 := hFa.cell 1; simp at hFa_0 hFa_1
      have hFa_f0 := hFa.frozen 0; have hFa_f1 := hFa.frozen 1
      clear hF hR hba
      have hFb : Box ((wa.setCell ⟨w.heap.size + 1, 0, none⟩ (.int .i64 g1)).setCell ⟨w.heap.size + 1, 1, none⟩ (.int .i64 g2)) (w.heap.size + 1) 30 #[.int .i64 g1, .int .i64 g2] := (hFa.set 0 (.int .i64 g1)).set 1 (.int .i64 g2)
      have hRb := (hRa.setOther (p := ⟨w.heap.size + 1, 0, none⟩) (by simp) (.int .i64 g1)).setOther (p := ⟨w.heap.size + 1, 1, none⟩) (by simp) (.int .i64 g2)
      have hbwb := (hbwa.setCell (p := ⟨w.heap.size + 1, 0, none⟩) (by simp) (.int .i64 g1)).setCell (p := ⟨w.heap.size + 1, 1, none⟩) (by simp) (.int .i64 g2)
      go_upto_region 15 with (fail)
      generalize ((wa.setCell ⟨w.heap.size + 1, 0, none⟩ (.int .i64 g1)).setCell ⟨w.heap.size + 1, 1, none⟩ (.int .i64 g2)) = W1 at *
      clear hFa_l hFa_0 hFa_1
      clear hFa_f0 hFa_f1 hFa hRa hbwa
      have hFb_l := hFb.lt; have hFb_0 := hFb.cell 0; have hFb_1 := hFb.cell 1; simp at hFb_0 hFb_1
      go_wp2_with fail
      refine (HL2.out _).mono ?_
      rintro e wb ⟨rfl, hbb⟩
      have hRc := (hRb.below hbb).alloc (.cells #[.int .i64 f1, .int .i64 f2] 30)
      have hbwc := (below_next hbwb hbb).alloc (by have := (below_next hbwb hbb).size; exact this) (.cells #[.int .i64 f1, .int .i64 f2] 30)
      have hFc := (hFb.below hbb).alloc (.cells #[.int .i64 f1, .int .i64 f2] 30)
      have hFf := Box.new wb 30 #[.int .i64 f1, .int .i64 f2]
      clear hFb_l hFb_0 hFb_1
      go_upto_region 16 with (fail)
      generalize wb.alloc (.cells #[.int .i64 f1, .int .i64 f2] 30) = W3 at *
      generalize wb.heap.size = fb at *
      have hFc_l := hFc.lt; have hFc_0 := hFc.cell 0; have hFc_1 := hFc.cell 1; simp at hFc_0 hFc_1
      have hFf_l := hFf.lt; have hFf_0 := hFf.cell 0; have hFf_1 := hFf.cell 1; simp at hFf_0 hFf_1
      go_wp2_with fail
      refine (HL3.out _).mono ?_
      rintro e wd ⟨rfl, hbd⟩
      have hRd := hRc.below hbd
      have hbwd := below_next hbwc hbd
      have hRd_l := hRd.lt; have hRd_0 := hRd.cell 0; have hRd_1 := hRd.cell 1; simp at hRd_0 hRd_1
      have hRd_f0 := hRd.frozen 0; have hRd_f1 := hRd.frozen 1
      go_wp2_with fail
      refine bodyPost_ret (v := .agg #[.int .i64 qn, .int .i64 qd]) (by simp only [results, Tryz.results16]; go_simp) rfl ⟨rfl, ?_⟩
      (repeat' (first | exact Below.refl _ _ | assumption | refine Below.setCell ?_ ?_ _ | refine below_drewN ?_ _ | refine Below.drew ?_ | refine Below.alloc ?_ ?_ _ | (with_reducible refine Below.trans ?_ (Below.mono hb ?_)) | (with_reducible refine Below.trans ?_ (Below.mono hb0 ?_)) | (with_reducible refine Below.trans ?_ (Below.mono hb1 ?_)) | (with_reducible refine Below.trans ?_ (Below.mono hb2 ?_)) | (with_reducible refine Below.trans ?_ (Below.mono hb3 ?_)) | (with_reducible refine Below.trans ?_ (Below.mono hb4 ?_)) | (with_reducible refine Below.trans ?_ (Below.mono hb5 ?_)) | (with_reducible refine Below.trans ?_ (Below.mono hb6 ?_)) | (with_reducible refine Below.trans ?_ (Below.mono hb7 ?_)) | (with_reducible refine Below.trans ?_ (Below.mono hb8 ?_)) | (with_reducible refine Below.trans ?_ (Below.mono hb9 ?_)) | (with_reducible refine Below.trans ?_ (Below.mono hb10 ?_)) | (with_reducible refine Below.trans ?_ (Below.mono hb11 ?_)) | (with_reducible refine Below.trans ?_ (Below.mono hb12 ?_)) | (with_reducible refine Below.trans ?_ (Below.mono hb13 ?_)) | (with_reducible refine Below.trans ?_ (Below.mono hb14 ?_)) | (with_reducible refine Below.trans ?_ (Below.mono hb15 ?_)) | omega | (simp; done) | (simp; omega)))
end Go.Proofs.YtaoomkkhpianlaaGreatDoor
