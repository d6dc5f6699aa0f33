/- How strict people are: othersMean, StrictOf of the reference. -/
import Derived.Test.YtaoomkkhpianlaaGreatDoorStrict2
import Derived.Test.YtaoomkkhpianlaaGreatDoorAgree5
namespace Go.Proofs.YtaoomkkhpianlaaGreatDoor
open Go.RowKit Go.Sort
set_option linter.unusedVariables false
set_option linter.unusedSimpArgs false

/-- The mean of the other scores of a mark's paper. -/
def othT (l : List Mark) (m : Mark) : Int := sum1 (ofP l m.1) - m.2.2
def othN (l : List Mark) (m : Mark) : Int := lowN (othT l m) (((ofP l m.1).length : Int) - 1)
def othD (l : List Mark) (m : Mark) : Int := lowD (othT l m) (((ofP l m.1).length : Int) - 1)
def othV (l : List Mark) (m : Mark) : Value := if 1 < (ofP l m.1).length then .tuple #[.agg #[.int .i64 (othN l m), .int .i64 (othD l m)], .bool true] else .tuple #[.agg #[.int .i64 0, .int .i64 0], .bool false]
theorem oth_bd {l : List Mark} (h : marksFault l = 0) {m : Mark} (hm : m ∈ l) (h1 : 1 < (ofP l m.1).length) :
    0 ≤ othN l m ∧ othN l m ≤ 200 ∧ 1 ≤ othD l m ∧ othD l m ≤ 12 := by
  have h12 := paper_few h m.1
  have hok := fault_scores h
  have hms : m ∈ ofP l m.1 := ofP_mem.2 ⟨hm, rfl⟩
  have ho : 0 ≤ sum1 (ofP l m.1) - m.2.2 ∧ sum1 (ofP l m.1) - m.2.2 ≤ 10 * (((ofP l m.1).length : Int) - 1) := others_bd (okScores_sel (f := fun x => x.1) (p := m.1) hok) hms
  have hn : 1 ≤ (((ofP l m.1).length : Int) - 1) := by omega
  have hd := lowD_bd (othT l m) _ hn
  have hnb := lowN_bd (othT l m) _ (by unfold othT; omega) hn
  have e : othT l m = sum1 (ofP l m.1) - m.2.2 := rfl
  unfold othN othD
  exact ⟨hnb.1, by omega, hd.1, by omega⟩
theorem oth_bey (l : List Mark) (m : Mark) (h1 : 1 < (ofP l m.1).length) : lowN (m.2.2 * othD l m - othN l m) (othD l m) = beyN l m ∧ lowD (m.2.2 * othD l m - othN l m) (othD l m) = beyD l m :=
  bey_ref m.2.2 (sum1 (ofP l m.1)) (((ofP l m.1).length : Int) - 1) (by omega)
set_option maxHeartbeats 1000000 in
theorem othersMean_any (l : List Mark) (a : Option Addr) (cap : Nat) (w : World) (hs : SA w a l) (hl : l.length ≤ 400) (h0 : marksFault l = 0) (x1 x2 : ByteArray) (x3 : Int) (hm : ((x1, x2, x3) : Mark) ∈ l) :
    Calls Tryz.prog 83 #[.slice a l.length cap, .agg #[.string x1, .string x2, .int .i64 x3]] w (Gives (othV l (x1, x2, x3)) w) := by
  have HS := Lib.hid (fun W (h : SA W a l) => scoresOf_any l a cap x1 W h (by omega))
  have hok := fault_scores h0
  have h12 := paper_few h0 x1
  have hoks := okI_sort (okI_scL (okScores_sel (f := fun x => x.1) (p := x1) hok))
  have hsum : (sortI (scL (ofP l x1))).sum = sum1 (ofP l x1) := by rw [perm_sum (sortI_perm _)]; rfl
  have hls : (sortI (scL (ofP l x1))).length = (ofP l x1).length := by rw [sortI_length]; unfold scL; rw [List.length_map]
  have hx := hok _ hm
  have HV := Lib.hid (show othV l (x1, x2, x3) = if 1 < (ofP l x1).length then .tuple #[.agg #[.int .i64 (lowN (sum1 (ofP l x1) - x3) (((ofP l x1).length : Int) - 1)), .int .i64 (lowD (sum1 (ofP l x1) - x3) (((ofP l x1).length : Int) - 1))], .bool true] else .tuple #[.agg #[.int .i64 0, .int .i64 0], .bool false] from rfl)
  rw [← hsum, ← hls] at HV
  rw [← hls] at h12
  simp only at hx
  generalize othV l (x1, x2, x3) = bv at *
  unfold ofP at *
  clear hsum hls h0 hok hm
  generalize sortI (scL (sel (fun x => x.1) x1 l)) = s at *
  have hT := (Box.new w 54 #[.string x1, .string x2, .int .i64 x3]).alloc (.cells #[.int .i64 0, .int .i64 0] 30)
  have hR := Box.newAt (w.alloc (.cells #[.string x1, .string x2, .int .i64 x3] 54)) (w.heap.size + 1) 30 #[.int .i64 0, .int .i64 0] (by simp)
  have hb0 : Below w.heap.size w ((w.alloc (.cells #[.string x1, .string x2, .int .i64 x3] 54)).alloc (.cells #[.int .i64 0, .int .i64 0] 30)) := by (repeat' (first | exact Below.refl _ _ | assumption | refine Below.setCell ?_ ?_ _ | refine below_drewN ?_ _ | refine Below.drew ?_ | refine Below.alloc ?_ ?_ _ | (with_reducible refine Below.trans ?_ (Below.mono hb ?_)) | (with_reducible refine Below.trans ?_ (Below.mono hb0 ?_)) | (with_reducible refine Below.trans ?_ (Below.mono hb1 ?_)) | (with_reducible refine Below.trans ?_ (Below.mono hb2 ?_)) | (with_reducible refine Below.trans ?_ (Below.mono hb3 ?_)) | (with_reducible refine Below.trans ?_ (Below.mono hb4 ?_)) | (with_reducible refine Below.trans ?_ (Below.mono hb5 ?_)) | (with_reducible refine Below.trans ?_ (Below.mono hb6 ?_)) | (with_reducible refine Below.trans ?_ (Below.mono hb7 ?_)) | (with_reducible refine Below.trans ?_ (Below.mono hb8 ?_)) | (with_reducible refine Below.trans ?_ (Below.mono hb9 ?_)) | (with_reducible refine Below.trans ?_ (Below.mono hb10 ?_)) | (with_reducible refine Below.trans ?_ (Below.mono hb11 ?_)) | (with_reducible refine Below.trans ?_ (Below.mono hb12 ?_)) | (with_reducible refine Below.trans ?_ (Below.mono hb13 ?_)) | (with_reducible refine Below.trans ?_ (Below.mono hb14 ?_)) | (with_reducible refine Below.trans ?_ (Below.mono hb15 ?_)) | omega | (simp; done) | (simp; omega)))
  go_enter Tryz.func83, Tryz.ntmps83
  go_wp2_with fail
  refine (HS.out _ (hs.below hb0)).mono ?_
  rintro e ws ⟨vs, rfl, hows, hbs⟩
  obtain ⟨av, capv, rfl, hsav, _, _⟩ := hows.sa
  have hT1 := hT.below hbs
  have hR1 := hR.below hbs
  have hb1 := below_next hb0 hbs
  have hz1 := hR1.lt
  clear hT hR hb0 hows hbs HS
  by_cases hbig : 1 < s.length
  · rw [if_pos hbig] at HV
    have hbig' : ¬ (s.length : Int) < 2 := by omega
    have hsb := sum_bd hoks
    have hw1 : IntKind.i64.wrap ((s.length : Int) - 1) = (s.length : Int) - 1 := IntWalk.i64_in _ (by omega)
    have hw2 : IntKind.i64.wrap (s.sum - x3) = s.sum - x3 := IntWalk.i64_in _ (by omega)
    have HT := Lib.hid (fun W (h : SA W av s) => total_any s av capv W h (by omega) hoks)
    have HL := Lib.hid (fun W => part_any (s.sum - x3) ((s.length : Int) - 1) W (by omega) (by omega) (by omega))
    unfold low at HL
    generalize s.sum = s1 at *
    generalize lowN (s1 - x3) ((s.length : Int) - 1) = q1 at *
    generalize lowD (s1 - x3) ((s.length : Int) - 1) = q2 at *
    have hT1_l := hT1.lt; have hT1_0 := hT1.cell 0; have hT1_1 := hT1.cell 1; have hT1_2 := hT1.cell 2; simp at hT1_0 hT1_1 hT1_2
    go_wp2_with fail
    refine wp_region_held_drew (S := (fun wx => wx.cell? ⟨w.heap.size, 2, none⟩ = some (.int .i64 x3))) (by kernel_rfl) ?hS (fun hHeld => ?_)
    case hS => exact hT1_2
    refine rtake (i := 0) (d := (some 16)) (v := ?_) rfl (by kernel_rfl) (by kernel_rfl) (by kernel_rfl) (by kernel_rfl) (fun _ _ _ h => h) (by kernel_rfl) (by assumption) ?_ ?_
    rotate_left 1
    · (intro wI hSI; (try dsimp only at hSI); go_simp; (try with_reducible rfl))
    simp only [Act.put, List.setIfInBounds_toArray, List.set_cons_zero, List.set_cons_succ]
    refine rtake (i := 2) (d := (some 18)) (v := ?_) rfl (by kernel_rfl) (by kernel_rfl) (by kernel_rfl) (by kernel_rfl) (fun _ _ _ h => h) (by kernel_rfl) (by assumption) ?_ ?_
    rotate_left 1
    · (intro wI hSI; (try dsimp only at hSI); go_simp; (try with_reducible rfl))
    simp only [Act.put, List.setIfInBounds_toArray, List.set_cons_zero, List.set_cons_succ]
    refine rtake (i := 3) (d := (some 19)) (v := ?_) rfl (by kernel_rfl) (by kernel_rfl) (by kernel_rfl) (by kernel_rfl) (fun _ _ _ h => h) (by kernel_rfl) (by assumption) ?_ ?_
    rotate_left 1
    · (intro wI hSI; (try dsimp only at hSI); go_simp; (try with_reducible rfl))
    simp only [Act.put, List.setIfInBounds_toArray, List.set_cons_zero, List.set_cons_succ]
    refine rtake (i := 5) (d := (some 21)) (v := ?_) rfl (by kernel_rfl) (by kernel_rfl) (by kernel_rfl) (by kernel_rfl) (fun _ _ _ h => h) (by kernel_rfl) (by assumption) ?_ ?_
    rotate_left 1
    · (intro wI hSI; (try dsimp only at hSI); go_simp; (try with_reducible rfl))
    simp only [Act.put, List.setIfInBounds_toArray, List.set_cons_zero, List.set_cons_succ]
    refine rtake (i := 6) (d := (some 22)) (v := ?_) rfl (by kernel_rfl) (by kernel_rfl) (by kernel_rfl) (by kernel_rfl) (fun _ _ _ h => h) (by kernel_rfl) (by assumption) ?_ ?_
    rotate_left 1
    · (intro wI hSI; (try dsimp only at hSI); go_simp; (try with_reducible rfl))
    simp only [Act.put, List.setIfInBounds_toArray, List.set_cons_zero, List.set_cons_succ]
    refine rtake (i := 7) (d := (some 23)) (v := ?_) rfl (by kernel_rfl) (by kernel_rfl) (by kernel_rfl) (by kernel_rfl) (fun _ _ _ h => h) (by kernel_rfl) (by assumption) ?_ ?_
    rotate_left 1
    · (intro wI hSI; (try dsimp only at hSI); go_simp; (try with_reducible rfl))
    simp only [Act.put, List.setIfInBounds_toArray, List.set_cons_zero, List.set_cons_succ]
    refine rcall (i := 1) (d := (some 17)) (by kernel_rfl) rfl (by kernel_rfl) (fun K hK => ?_)
    go_simp
    go_at_call 137; refine (HT.out _ hsav.drew).mono ?_; rintro e wa ⟨rfl, rfl⟩
    refine hK.out _ _ ?hS (fun hHeld => ?_)
    case hS => exact hHeld
    clear hK K
    simp only [Act.put, List.setIfInBounds_toArray, List.set_cons_zero, List.set_cons_succ]
    refine rtake (i := 4) (d := (some 20)) (v := ?_) rfl (by kernel_rfl) (by kernel_rfl) (by kernel_rfl) (by kernel_rfl) (fun _ _ _ h => h) (by kernel_rfl) (by assumption) ?_ ?_
    rotate_left 1
    · (intro wI hSI; (try dsimp only at hSI); go_simp; (try with_reducible rfl))
    simp only [Act.put, List.setIfInBounds_toArray, List.set_cons_zero, List.set_cons_succ]
    refine rcall (i := 8) (d := (some 24)) (by kernel_rfl) rfl (by kernel_rfl) (fun K hK => ?_)
    go_simp
    go_at_call 74; refine (HL.out _).mono ?_; rintro e wb ⟨rfl, hbb⟩
    refine hK.out _ _ ?hS (fun hHeld => ?_)
    case hS => exact cell_later hbb hHeld
    clear hK K
    simp only [Act.put, List.setIfInBounds_toArray, List.set_cons_zero, List.set_cons_succ]
    have hRb := hR1.drew.below hbb
    have hTb := hT1.drew.below hbb
    have hbwb := below_next hb1.drew hbb
    have hRb_f0 := hRb.frozen 0; have hRb_f1 := hRb.frozen 1
    have hRb_l := hRb.lt; have hRb_0 := hRb.cell 0; have hRb_1 := hRb.cell 1; simp at hRb_0 hRb_1
    have hR2 : Box ((wb.setCell ⟨w.heap.size + 1, 0, none⟩ (.int .i64 q1)).setCell ⟨w.heap.size + 1, 1, none⟩ (.int .i64 q2)) (w.heap.size + 1) 30 #[.int .i64 q1, .int .i64 q2] := (hRb.set 0 (.int .i64 q1)).set 1 (.int .i64 q2)
    have hT2 := ((hTb.setOther (p := ⟨w.heap.size + 1, 0, none⟩) (by simp) (.int .i64 q1)).setOther (p := ⟨w.heap.size + 1, 1, none⟩) (by simp) (.int .i64 q2)).cell 2
    have hbw2 := (hbwb.setCell (p := ⟨w.heap.size + 1, 0, none⟩) (by simp) (.int .i64 q1)).setCell (p := ⟨w.heap.size + 1, 1, none⟩) (by simp) (.int .i64 q2)
    refine rcall (i := 9) (d := none) (by kernel_rfl) rfl (by kernel_rfl) (fun K hK => ?_)
    go_simp
    refine hK.out undef _ ?hS (fun hHeld => ?_)
    case hS => exact hT2
    clear hK K
    simp only [Act.put, List.setIfInBounds_toArray, List.set_cons_zero, List.set_cons_succ]
    refine rtake (i := 10) (d := (some 5)) (v := ?_) rfl (by kernel_rfl) (by kernel_rfl) (by kernel_rfl) (by kernel_rfl) (fun _ _ _ h => h) (by kernel_rfl) (by assumption) ?_ ?_
    rotate_left 1
    · (intro wI hSI; (try dsimp only at hSI); go_simp; (try with_reducible rfl))
    simp only [Act.put, List.setIfInBounds_toArray, List.set_cons_zero, List.set_cons_succ]
    refine wpAnyH_done (by kernel_rfl) ?_ _
    clear hRb_l hRb_0 hRb_1
    clear hT2 hbwb hTb hHeld hbb
    generalize ((wb.setCell ⟨w.heap.size + 1, 0, none⟩ (.int .i64 q1)).setCell ⟨w.heap.size + 1, 1, none⟩ (.int .i64 q2)) = W2 at *
    have hR2_l := hR2.lt; have hR2_0 := hR2.cell 0; have hR2_1 := hR2.cell 1; simp at hR2_0 hR2_1
    have hR2_f0 := hR2.frozen 0; have hR2_f1 := hR2.frozen 1
    go_wp2_with fail
    refine bodyPost_ret (v := .tuple #[.agg #[.int .i64 q1, .int .i64 q2], .bool true]) (by simp only [results, Tryz.results83]; go_simp) rfl ⟨by rw [HV.out], ?_⟩
    (repeat' (first | exact Below.refl _ _ | assumption | refine Below.setCell ?_ ?_ _ | refine below_drewN ?_ _ | refine Below.drew ?_ | refine Below.alloc ?_ ?_ _ | (with_reducible refine Below.trans ?_ (Below.mono hb ?_)) | (with_reducible refine Below.trans ?_ (Below.mono hb0 ?_)) | (with_reducible refine Below.trans ?_ (Below.mono hb1 ?_)) | (with_reducible refine Below.trans ?_ (Below.mono hb2 ?_)) | (with_reducible refine Below.trans ?_ (Below.mono hb3 ?_)) | (with_reducible refine Below.trans ?_ (Below.mono hb4 ?_)) | (with_reducible refine Below.trans ?_ (Below.mono hb5 ?_)) | (with_reducible refine Below.trans ?_ (Below.mono hb6 ?_)) | (with_reducible refine Below.trans ?_ (Below.mono hb7 ?_)) | (with_reducible refine Below.trans ?_ (Below.mono hb8 ?_)) | (with_reducible refine Below.trans ?_ (Below.mono hb9 ?_)) | (with_reducible refine Below.trans ?_ (Below.mono hb10 ?_)) | (with_reducible refine Below.trans ?_ (Below.mono hb11 ?_)) | (with_reducible refine Below.trans ?_ (Below.mono hb12 ?_)) | (with_reducible refine Below.trans ?_ (Below.mono hb13 ?_)) | (with_reducible refine Below.trans ?_ (Below.mono hb14 ?_)) | (with_reducible refine Below.trans ?_ (Below.mono hb15 ?_)) | omega | (simp; done) | (simp; omega)))
  · rw [if_neg hbig] at HV
    have hbig' : (s.length : Int) < 2 := by omega
    have hR1_l := hR1.lt; have hR1_0 := hR1.cell 0; have hR1_1 := hR1.cell 1; simp at hR1_0 hR1_1
    have hR1_f0 := hR1.frozen 0; have hR1_f1 := hR1.frozen 1
    go_wp2_with fail
    refine bodyPost_ret (v := .tuple #[.agg #[.int .i64 0, .int .i64 0], .bool false]) (by simp only [results, Tryz.results83]; go_simp) rfl ⟨by rw [HV.out], ?_⟩
    (repeat' (first | exact Below.refl _ _ | assumption | refine Below.setCell ?_ ?_ _ | refine below_drewN ?_ _ | refine Below.drew ?_ | refine Below.alloc ?_ ?_ _ | (with_reducible refine Below.trans ?_ (Below.mono hb ?_)) | (with_reducible refine Below.trans ?_ (Below.mono hb0 ?_)) | (with_reducible refine Below.trans ?_ (Below.mono hb1 ?_)) | (with_reducible refine Below.trans ?_ (Below.mono hb2 ?_)) | (with_reducible refine Below.trans ?_ (Below.mono hb3 ?_)) | (with_reducible refine Below.trans ?_ (Below.mono hb4 ?_)) | (with_reducible refine Below.trans ?_ (Below.mono hb5 ?_)) | (with_reducible refine Below.trans ?_ (Below.mono hb6 ?_)) | (with_reducible refine Below.trans ?_ (Below.mono hb7 ?_)) | (with_reducible refine Below.trans ?_ (Below.mono hb8 ?_)) | (with_reducible refine Below.trans ?_ (Below.mono hb9 ?_)) | (with_reducible refine Below.trans ?_ (Below.mono hb10 ?_)) | (with_reducible refine Below.trans ?_ (Below.mono hb11 ?_)) | (with_reducible refine Below.trans ?_ (Below.mono hb12 ?_)) | (with_reducible refine Below.trans ?_ (Below.mono hb13 ?_)) | (with_reducible refine Below.trans ?_ (Below.mono hb14 ?_)) | (with_reducible refine Below.trans ?_ (Below.mono hb15 ?_)) | omega | (simp; done) | (simp; omega)))

set_option maxRecDepth 100000 in
set_option maxHeartbeats 2000000 in
theorem strictOf_any (l : List Mark) (a : Option Addr) (cap : Nat) (w : World) (hs : SA w a l) (hl : l.length ≤ 400) (h0 : marksFault l = 0) :
    Calls Tryz.prog 24 #[.slice a l.length cap] w (GivesOwn 48 (strictL l (keysOf (fun x => x.2.1) l)) w) := by
  generalize hq : strictL l (keysOf (fun x => x.2.1) l) = out at *
  have HO := Lib.hid hq
  have H0 := Lib.hid h0
  clear hq h0
  go_enter Tryz.func24, Tryz.ntmps24
  go_wp2_with fail
  refine (Markers_any l a cap _ hs (by omega)).mono ?_
  rintro e wk ⟨vk, rfl, hownk, hbk⟩
  obtain ⟨aK, capK, rfl, hsaK, hbK, _⟩ := hownk.sa
  have hzk := hbk.size
  have HbK : Hid (∀ x : Addr, aK = some x → x.block < wk.heap.size) := fun x hx => (hbK x hx).2
  have hkl := keysOf_length (fun x => x.2.1) l
  clear hownk hbK
  generalize keysOf (fun x => x.2.1) l = ks at *
  go_wp2_with fail
  go_loopg [3, 15] ks.length (fun gk v i wr => ∃ k : Nat, i = .int .i64 k ∧ k ≤ ks.length ∧ Hid (gk = ks.length - k) ∧ Own wk.heap.size 48 wr v (strictL l (ks.take k)) ∧ SA wr aK ks ∧ Below w.heap.size w wr ∧ wk.heap.size ≤ wr.heap.size)
  case atStart => exact ⟨0, rfl, by omega, rfl, Own.nil _ _ _, hsaK, hbk, Nat.le_refl _⟩
  clear hsaK hbk
  obtain ⟨k, rfl, hk, hgk, hown, hsaK, hbr, hzr⟩ := hrel
  by_cases hlt : k < ks.length
  · obtain ⟨kb, koff, haK, ck⟩ := hsaK.str hlt
    have htake := List.take_succ_eq_append_getElem hlt
    have Hsl := Lib.hid (strictL_snoc l (ks.take k) ks[k])
    rw [← htake] at Hsl
    have hsll := strictL_len l (ks.take k)
    rw [List.length_take] at hsll
    have HaK := Lib.hid haK
    rw [haK]
    clear haK htake
    generalize ks[k] = p at *
    generalize strictL l (ks.take k) = vs at *
    unfold strict1 at Hsl
    obtain ⟨wz, rfl⟩ : ∃ wz : World, wz = wr := ⟨_, rfl⟩
    have hF := Box.new wz 30 #[.int .i64 0, .int .i64 1]
    have hbz0 : Below wz.heap.size wz (wz.alloc (.cells #[.int .i64 0, .int .i64 1] 30)) := (Below.refl _ _).alloc (Nat.le_refl _) _
    go_wp2_with fail
    go_loopg [7, 22] l.length (fun gk nv i wx => ∃ j : Nat, i = .int .i64 j ∧ j ≤ l.length ∧ Hid (gk = l.length - j) ∧ nv = .int .i64 (strictS l (sel (fun x => x.2.1) p (l.take j))).2 ∧ Box wx wz.heap.size 30 #[.int .i64 (strictS l (sel (fun x => x.2.1) p (l.take j))).1.1, .int .i64 (strictS l (sel (fun x => x.2.1) p (l.take j))).1.2] ∧ Below wz.heap.size wz wx)
    case atStart => exact ⟨0, rfl, by omega, rfl, rfl, hF, hbz0⟩
    clear hF hbz0
    obtain ⟨j, rfl, hj, hgj, rfl, hF, hbx⟩ := hrel
    have hzx := hF.lt
    by_cases hjl : j < l.length
    · obtain ⟨mb, moff, ha', c0, c1, c2⟩ := (hs.below (hbr.trans (hbx.mono hbr.size))).mark hjl
      have htake := List.take_succ_eq_append_getElem hjl
      have Hsn := Lib.hid (sel_snoc (fun x => x.2.1) p (l.take j) l[j])
      rw [← htake] at Hsn
      have hmem : ∀ x ∈ sel (fun x => x.2.1) p (l.take j), x ∈ l := fun x hx => List.mem_of_mem_take (List.mem_filter.1 hx).1
      have hsb := strict_bd H0.out (sel (fun x => x.2.1) p (l.take j)) hmem (by have := sel_len (fun x => x.2.1) p (l.take j); rw [List.length_take] at this; omega)
      have hxl := List.getElem_mem hjl
      have HA := Lib.hid ha'
      rw [ha']
      clear hmem
      generalize hx : l[j] = x at *
      obtain ⟨x1, x2, x3⟩ := x
      simp only at c0 c1 c2 Hsn
      have Hss := Lib.hid (strictS_snoc l (sel (fun x => x.2.1) p (l.take j)) (x1, x2, x3))
      clear hx htake ha'
      have hsx := fault_scores H0.out _ hxl
      have HOV := Lib.hid (fun W (h : SA W (some ⟨mb, moff, none⟩) l) => othersMean_any l (some ⟨mb, moff, none⟩) cap W h hl H0.out x1 x2 x3 hxl)
      have HOD := Lib.hid (fun h => oth_bd H0.out hxl h)
      have HOB := Lib.hid (fun h => oth_bey l (x1, x2, x3) h)
      have HBD := Lib.hid (fun h => bey_bd H0.out hxl h)
      have hbt : Below wz.heap.size wz (wr.alloc (.cells #[.string x1, .string x2, .int .i64 x3] 54)) := hbx.alloc hbx.size _
      have hsat : SA (wr.alloc (.cells #[.string x1, .string x2, .int .i64 x3] 54)) (some ⟨mb, moff, none⟩) l := by rw [← HA.out]; exact hs.below (hbr.trans (hbt.mono hbr.size))
      have hFt := hF.alloc (.cells #[.string x1, .string x2, .int .i64 x3] 54)
      have hTt := Box.new wr 54 #[.string x1, .string x2, .int .i64 x3]
      unfold sStep at Hss
      unfold othV at HOV
      simp only at Hss HBD HOV HOD HOB hsx
      generalize hN0 : (strictS l (sel (fun x => x.2.1) p (l.take j))).1.1 = N0 at *
      generalize hD0 : (strictS l (sel (fun x => x.2.1) p (l.take j))).1.2 = D0 at *
      generalize hC0 : (strictS l (sel (fun x => x.2.1) p (l.take j))).2 = C0 at *
      have HN0 := Lib.hid hN0
      have HD0 := Lib.hid hD0
      have HC0 := Lib.hid hC0
      clear hN0 hD0 hC0 hxl
      by_cases hbig : 1 < (ofP l x1).length
      · rw [if_pos hbig] at Hss HOV
        have hod := HOD.out hbig
        have hob := HOB.out hbig
        have hbd := HBD.out hbig
        generalize othN l (x1, x2, x3) = o1 at *
        generalize othD l (x1, x2, x3) = o2 at *
        have hm0 := mul_in (x := x3) (y := o2) (X := 10) (Y := 12) (by omega) (by omega) (by omega) (by omega)
        have HQ := Lib.hid (fun W => part_any (x3 * o2 - o1) o2 W (by omega) (by omega) (by omega))
        unfold low at HQ
        rw [hob.1, hob.2] at HQ
        generalize beyN l (x1, x2, x3) = q1 at *
        generalize beyD l (x1, x2, x3) = q2 at *
        by_cases hp : x2 = p
        · have hp' := tl_eq hp
          rw [if_pos hp] at Hsn
          clear hp
          have hm1 := mul_inZ (x := N0) (y := q2) (X := 110880000) (Y := 12) (by omega) (by omega) (by omega) (by omega)
          have hm2 := mul_inZ (x := q1) (y := D0) (X := 120) (Y := 27720) (by omega) (by omega) (by omega) (by omega)
          have hm3 := mul_in (x := D0) (y := q2) (X := 27720) (Y := 12) (by omega) (by omega) (by omega) (by omega)
          have hm4 := mul_pos D0 q2 (by omega) (by omega)
          have HP := Lib.hid (fun W => plusR_any N0 D0 q1 q2 W (by omega) (by omega) (by omega) (by omega))
          unfold low at HP
          generalize lowN (N0 * q2 + q1 * D0) (D0 * q2) = r1 at *
          generalize lowD (N0 * q2 + q1 * D0) (D0 * q2) = r2 at *
          have hw1 : IntKind.i64.wrap (x3 * o2) = x3 * o2 := IntWalk.i64_in _ (by omega)
          have hw2 : IntKind.i64.wrap (x3 * o2 - o1) = x3 * o2 - o1 := IntWalk.i64_in _ (by omega)
          clear hm1 hm2 hm3 hm4 hbd HBD hbig HOD HOB hob hod hm0
          go_wp2_with fail
          refine (HOV.out _ hsat).mono ?_
          rintro e wa ⟨rfl, hba⟩
          have hFa := (hFt.below hba).alloc (.cells #[.int .i64 o1, .int .i64 o2] 30)
          have hTa := (hTt.below hba).alloc (.cells #[.int .i64 o1, .int .i64 o2] 30)
          have hG := Box.new wa 30 #[.int .i64 o1, .int .i64 o2]
          have hbza : Below wz.heap.size wz (wa.alloc (.cells #[.int .i64 o1, .int .i64 o2] 30)) := (hbt.trans (hba.mono hbt.size)).alloc (by have := (hbt.trans (hba.mono hbt.size)).size; exact this) _
          go_upto_region 10 with (fail)
          generalize wa.alloc (.cells #[.int .i64 o1, .int .i64 o2] 30) = W1 at *
          generalize wa.heap.size = g1 at *
          generalize wr.heap.size = tb at *
          clear hFt hbt hba HOV hF hbx c0 c1 c2 hTt hsat
          have hFa_l := hFa.lt; have hFa_0 := hFa.cell 0; have hFa_1 := hFa.cell 1; simp at hFa_0 hFa_1
          have hG_l := hG.lt; have hG_0 := hG.cell 0; have hG_1 := hG.cell 1; simp at hG_0 hG_1
          have hTa_l := hTa.lt; have hTa_0 := hTa.cell 0; have hTa_1 := hTa.cell 1; have hTa_2 := hTa.cell 2; simp at hTa_0 hTa_1 hTa_2
          go_wp2_with fail
          refine wp_regionF (S := (fun wx => wx.cell? ⟨wz.heap.size, 0, none⟩ = some (.int .i64 N0) ∧ wx.cell? ⟨wz.heap.size, 1, none⟩ = some (.int .i64 D0) ∧ wx.cell? ⟨tb, 2, none⟩ = some (.int .i64 x3) ∧ wx.cell? ⟨g1, 0, none⟩ = some (.int .i64 o1) ∧ wx.cell? ⟨g1, 1, none⟩ = some (.int .i64 o2) ∧ Below W1.heap.size W1 wx)) 13 (by kernel_rfl) ?hS (fun hHeld => ?_)
          case hS => exact ⟨hFa_0, hFa_1, hTa_2, hG_0, hG_1, (Below.refl _ _).drew⟩
          refine rtakeF (i := 0) (d := (some 42)) (v := ?_) (n := 40) rfl (by kernel_rfl) (by kernel_rfl) (by kernel_rfl) (by kernel_rfl) (by kernel_rfl) (by kernel_rfl) (fun _ _ _ h => h) (by kernel_rfl) (by assumption) ?_ ?_
          rotate_left 1
          · (intro wI hSI; (try dsimp only at hSI); go_simp; (try with_reducible rfl))
          simp only [Act.put, List.setIfInBounds_toArray, List.set_cons_zero, List.set_cons_succ]
          refine rtakeF (i := 1) (d := (some 43)) (v := ?_) (n := 40) rfl (by kernel_rfl) (by kernel_rfl) (by kernel_rfl) (by kernel_rfl) (by kernel_rfl) (by kernel_rfl) (fun _ _ _ h => h) (by kernel_rfl) (by assumption) ?_ ?_
          rotate_left 1
          · (intro wI hSI; (try dsimp only at hSI); go_simp; (try with_reducible rfl))
          simp only [Act.put, List.setIfInBounds_toArray, List.set_cons_zero, List.set_cons_succ]
          refine rtakeF (i := 2) (d := (some 44)) (v := ?_) (n := 40) rfl (by kernel_rfl) (by kernel_rfl) (by kernel_rfl) (by kernel_rfl) (by kernel_rfl) (by kernel_rfl) (fun _ _ _ h => h) (by kernel_rfl) (by assumption) ?_ ?_
          rotate_left 1
          · (intro wI hSI; (try dsimp only at hSI); go_simp; (try with_reducible rfl))
          simp only [Act.put, List.setIfInBounds_toArray, List.set_cons_zero, List.set_cons_succ]
          refine rtakeF (i := 3) (d := (some 45)) (v := ?_) (n := 40) rfl (by kernel_rfl) (by kernel_rfl) (by kernel_rfl) (by kernel_rfl) (by kernel_rfl) (by kernel_rfl) (fun _ _ _ h => h) (by kernel_rfl) (by assumption) ?_ ?_
          rotate_left 1
          · (intro wI hSI; (try dsimp only at hSI); go_simp; (try with_reducible rfl))
          simp only [Act.put, List.setIfInBounds_toArray, List.set_cons_zero, List.set_cons_succ]
          refine rtakeF (i := 4) (d := (some 46)) (v := ?_) (n := 40) rfl (by kernel_rfl) (by kernel_rfl) (by kernel_rfl) (by kernel_rfl) (by kernel_rfl) (by kernel_rfl) (fun _ _ _ h => h) (by kernel_rfl) (by assumption) ?_ ?_
          rotate_left 1
          · (intro wI hSI; (try dsimp only at hSI); go_simp; (try with_reducible rfl))
          simp only [Act.put, List.setIfInBounds_toArray, List.set_cons_zero, List.set_cons_succ]
          refine rtakeF (i := 5) (d := (some 47)) (v := ?_) (n := 40) rfl (by kernel_rfl) (by kernel_rfl) (by kernel_rfl) (by kernel_rfl) (by kernel_rfl) (by kernel_rfl) (fun _ _ _ h => h) (by kernel_rfl) (by assumption) ?_ ?_
          rotate_left 1
          · (intro wI hSI; (try dsimp only at hSI); go_simp; (try with_reducible rfl))
          simp only [Act.put, List.setIfInBounds_toArray, List.set_cons_zero, List.set_cons_succ]
          refine rtakeF (i := 6) (d := (some 48)) (v := ?_) (n := 40) rfl (by kernel_rfl) (by kernel_rfl) (by kernel_rfl) (by kernel_rfl) (by kernel_rfl) (by kernel_rfl) (fun _ _ _ h => h) (by kernel_rfl) (by assumption) ?_ ?_
          rotate_left 1
          · (intro wI hSI; (try dsimp only at hSI); go_simp; (try with_reducible rfl))
          simp only [Act.put, List.setIfInBounds_toArray, List.set_cons_zero, List.set_cons_succ]
          refine rtakeF (i := 7) (d := (some 49)) (v := ?_) (n := 40) rfl (by kernel_rfl) (by kernel_rfl) (by kernel_rfl) (by kernel_rfl) (by kernel_rfl) (by kernel_rfl) (fun _ _ _ h => h) (by kernel_rfl) (by assumption) ?_ ?_
          rotate_left 1
          · (intro wI hSI; (try dsimp only at hSI); go_simp; (try with_reducible rfl))
          simp only [Act.put, List.setIfInBounds_toArray, List.set_cons_zero, List.set_cons_succ]
          refine rtakeF (i := 8) (d := (some 50)) (v := ?_) (n := 40) rfl (by kernel_rfl) (by kernel_rfl) (by kernel_rfl) (by kernel_rfl) (by kernel_rfl) (by kernel_rfl) (fun _ _ _ h => h) (by kernel_rfl) (by assumption) ?_ ?_
          rotate_left 1
          · (intro wI hSI; (try dsimp only at hSI); go_simp; (try with_reducible rfl))
          simp only [Act.put, List.setIfInBounds_toArray, List.set_cons_zero, List.set_cons_succ]
          refine rtakeF (i := 9) (d := (some 51)) (v := ?_) (n := 40) rfl (by kernel_rfl) (by kernel_rfl) (by kernel_rfl) (by kernel_rfl) (by kernel_rfl) (by kernel_rfl) (fun _ _ _ h => h) (by kernel_rfl) (by assumption) ?_ ?_
          rotate_left 1
          · (intro wI hSI; (try dsimp only at hSI); go_simp; (try with_reducible rfl))
          simp only [Act.put, List.setIfInBounds_toArray, List.set_cons_zero, List.set_cons_succ]
          refine rtakeF (i := 10) (d := (some 52)) (v := ?_) (n := 40) rfl (by kernel_rfl) (by kernel_rfl) (by kernel_rfl) (by kernel_rfl) (by kernel_rfl) (by kernel_rfl) (fun _ _ _ h => h) (by kernel_rfl) (by assumption) ?_ ?_
          rotate_left 1
          · (intro wI hSI; (try dsimp only at hSI); go_simp; (try with_reducible rfl))
          simp only [Act.put, List.setIfInBounds_toArray, List.set_cons_zero, List.set_cons_succ]
          refine rcallF (i := 11) (d := (some 53)) (by kernel_rfl) rfl (by kernel_rfl) (fun K hK => ?_)
          go_simp
          go_at_call 74; refine (HQ.out _).mono ?_; rintro e wb ⟨rfl, hbb⟩
          refine hK.out _ _ (.inr ?hS) (fun hHeld0 => ?_)
          case hS => exact ⟨cell_later hbb hHeld.1, cell_later hbb hHeld.2.1, cell_later hbb hHeld.2.2.1, cell_later hbb hHeld.2.2.2.1, cell_later hbb hHeld.2.2.2.2.1, below_next hHeld.2.2.2.2.2 hbb⟩
          clear hK K
          have hHeld := hHeld0.resolve_left (by decide)
          simp only [Act.put, List.setIfInBounds_toArray, List.set_cons_zero, List.set_cons_succ]
          refine rcallF (i := 12) (d := (some 54)) (by kernel_rfl) rfl (by kernel_rfl) (fun K hK => ?_)
          go_simp
          go_at_call 76; refine (HP.out _).mono ?_; rintro e wc ⟨rfl, hbc⟩
          refine hK.out _ _ (.inr ?hS) (fun hHeld0 => ?_)
          case hS => exact ⟨cell_later hbc hHeld.1, cell_later hbc hHeld.2.1, cell_later hbc hHeld.2.2.1, cell_later hbc hHeld.2.2.2.1, cell_later hbc hHeld.2.2.2.2.1, below_next hHeld.2.2.2.2.2 hbc⟩
          clear hK K
          have hHeld := hHeld0.resolve_left (by decide)
          simp only [Act.put, List.setIfInBounds_toArray, List.set_cons_zero, List.set_cons_succ]
          have hFc := hFa.below hHeld.2.2.2.2.2
          have hFc_f0 := hFc.frozen 0; have hFc_f1 := hFc.frozen 1
          refine rcallF (i := 13) (d := none) (by kernel_rfl) rfl (by kernel_rfl) (fun K hK => ?_)
          go_simp
          refine hK.out undef _ (.inl rfl) (fun _ => ?_)
          clear hK K
          simp only [Act.put, List.setIfInBounds_toArray, List.set_cons_zero, List.set_cons_succ]
          refine wpAnyF_done (by kernel_rfl) ?_ _
          have hF2 : Box ((wc.setCell ⟨wz.heap.size, 0, none⟩ (.int .i64 r1)).setCell ⟨wz.heap.size, 1, none⟩ (.int .i64 r2)) wz.heap.size 30 #[.int .i64 r1, .int .i64 r2] := (hFc.set 0 (.int .i64 r1)).set 1 (.int .i64 r2)
          have hb14 := hbza.trans (hHeld.2.2.2.2.2.mono hbza.size)
          have hbz2 := (hb14.setCell (p := ⟨wz.heap.size, 0, none⟩) (Nat.le_refl _) (.int .i64 r1)).setCell (p := ⟨wz.heap.size, 1, none⟩) (Nat.le_refl _) (.int .i64 r2)
          generalize ((wc.setCell ⟨wz.heap.size, 0, none⟩ (.int .i64 r1)).setCell ⟨wz.heap.size, 1, none⟩ (.int .i64 r2)) = W2 at *
          clear hHeld hHeld0 hFc hb14 HP HQ
          clear hFa_l hFa_0 hFa_1
          clear hG_l hG_0 hG_1
          clear hTa_l hTa_0 hTa_1 hTa_2
          go_wp2_with fail
          rw [← HA.out]
          go_roundg (l.length - (j + 1))
          case measure => have := hgj.out; omega
          case rel => exact ⟨j + 1, by go_num, by omega, rfl, by rw [Hsn.out, Hss.out], by rw [Hsn.out, Hss.out]; exact hF2, hbz2⟩
        · have hp' := tl_ne hp
          rw [if_neg hp] at Hsn
          clear hp
          go_wp2_with fail
          refine (HOV.out _ hsat).mono ?_
          rintro e wa ⟨rfl, hba⟩
          have hFa := (hFt.below hba).alloc (.cells #[.int .i64 o1, .int .i64 o2] 30)
          have hTa := (hTt.below hba).alloc (.cells #[.int .i64 o1, .int .i64 o2] 30)
          have hbza : Below wz.heap.size wz (wa.alloc (.cells #[.int .i64 o1, .int .i64 o2] 30)) := (hbt.trans (hba.mono hbt.size)).alloc (by have := (hbt.trans (hba.mono hbt.size)).size; exact this) _
          go_upto_region 10 with (fail)
          generalize wa.alloc (.cells #[.int .i64 o1, .int .i64 o2] 30) = W1 at *
          generalize wr.heap.size = tb at *
          clear hFt hbt hba HOV hF hbx c0 c1 c2 hTt hsat
          have hTa_l := hTa.lt; have hTa_0 := hTa.cell 0; have hTa_1 := hTa.cell 1; have hTa_2 := hTa.cell 2; simp at hTa_0 hTa_1 hTa_2
          go_wp2_with fail
          rw [← HA.out]
          go_roundg (l.length - (j + 1))
          case measure => have := hgj.out; omega
          case rel => exact ⟨j + 1, by go_num, by omega, rfl, by rw [Hsn.out, HC0.out], by rw [Hsn.out, HN0.out, HD0.out]; exact hFa, hbza⟩
      · rw [if_neg hbig] at Hss HOV
        clear HBD hbig HOD HOB
        by_cases hp : x2 = p
        · have hp' := tl_eq hp
          rw [if_pos hp] at Hsn
          have Hsn2 : Hid (strictS l (sel (fun x => x.2.1) p (l.take (j + 1))) = strictS l (sel (fun x => x.2.1) p (l.take j))) := by show _ = _; rw [Hsn.out, Hss.out]
          clear hp Hsn
          have Hsn : Hid (strictS l (sel (fun x => x.2.1) p (l.take (j + 1))) = strictS l (sel (fun x => x.2.1) p (l.take j))) := Hsn2
          go_wp2_with fail
          refine (HOV.out _ hsat).mono ?_
          rintro e wa ⟨rfl, hba⟩
          have hFa := (hFt.below hba).alloc (.cells #[.int .i64 0, .int .i64 0] 30)
          have hTa := (hTt.below hba).alloc (.cells #[.int .i64 0, .int .i64 0] 30)
          have hbza : Below wz.heap.size wz (wa.alloc (.cells #[.int .i64 0, .int .i64 0] 30)) := (hbt.trans (hba.mono hbt.size)).alloc (by have := (hbt.trans (hba.mono hbt.size)).size; exact this) _
          go_upto_region 10 with (fail)
          generalize wa.alloc (.cells #[.int .i64 0, .int .i64 0] 30) = W1 at *
          generalize wr.heap.size = tb at *
          clear hFt hbt hba HOV hF hbx c0 c1 c2 hTt hsat
          have hTa_l := hTa.lt; have hTa_0 := hTa.cell 0; have hTa_1 := hTa.cell 1; have hTa_2 := hTa.cell 2; simp at hTa_0 hTa_1 hTa_2
          go_wp2_with fail
          rw [← HA.out]
          go_roundg (l.length - (j + 1))
          case measure => have := hgj.out; omega
          case rel => exact ⟨j + 1, by go_num, by omega, rfl, by rw [Hsn.out, HC0.out], by rw [Hsn.out, HN0.out, HD0.out]; exact hFa, hbza⟩
        · have hp' := tl_ne hp
          rw [if_neg hp] at Hsn
          clear hp
          go_wp2_with fail
          refine (HOV.out _ hsat).mono ?_
          rintro e wa ⟨rfl, hba⟩
          have hFa := (hFt.below hba).alloc (.cells #[.int .i64 0, .int .i64 0] 30)
          have hTa := (hTt.below hba).alloc (.cells #[.int .i64 0, .int .i64 0] 30)
          have hbza : Below wz.heap.size wz (wa.alloc (.cells #[.int .i64 0, .int .i64 0] 30)) := (hbt.trans (hba.mono hbt.size)).alloc (by have := (hbt.trans (hba.mono hbt.size)).size; exact this) _
          go_upto_region 10 with (fail)
          generalize wa.alloc (.cells #[.int .i64 0, .int .i64 0] 30) = W1 at *
          generalize wr.heap.size = tb at *
          clear hFt hbt hba HOV hF hbx c0 c1 c2 hTt hsat
          have hTa_l := hTa.lt; have hTa_0 := hTa.cell 0; have hTa_1 := hTa.cell 1; have hTa_2 := hTa.cell 2; simp at hTa_0 hTa_1 hTa_2
          go_wp2_with fail
          rw [← HA.out]
          go_roundg (l.length - (j + 1))
          case measure => have := hgj.out; omega
          case rel => exact ⟨j + 1, by go_num, by omega, rfl, by rw [Hsn.out, HC0.out], by rw [Hsn.out, HN0.out, HD0.out]; exact hFa, hbza⟩
    · obtain rfl : j = l.length := by omega
      rw [List.take_length] at hF ⊢
      have hsb := strict_bd H0.out (sel (fun x => x.2.1) p l) (fun x hx => (List.mem_filter.1 hx).1) (by have := sel_len (fun x => x.2.1) p l; omega)
      generalize (strictS l (sel (fun x => x.2.1) p l)).1.1 = N0 at *
      generalize (strictS l (sel (fun x => x.2.1) p l)).1.2 = D0 at *
      generalize (strictS l (sel (fun x => x.2.1) p l)).2 = C0 at *
      have hown2 := hown.below hbx
      have hsaK2 := hsaK.below hbx
      have hbr2 := hbr.trans (hbx.mono hbr.size)
      clear hjl hgj hown hsaK hbr hbx
      by_cases hpos : 0 < C0
      · rw [if_pos hpos] at Hsl
        have hm3 := mul_in (x := D0) (y := C0) (X := 27720) (Y := 400) (by omega) (by omega) (by omega) (by omega)
        have hm4 := mul_pos D0 C0 (by omega) (by omega)
        have HL := Lib.hid (fun W => part_any N0 (D0 * C0) W (by omega) (by omega) hm4)
        have hw1 : IntKind.i64.wrap (D0 * C0) = D0 * C0 := IntWalk.i64_in _ (by omega)
        unfold low at HL
        generalize lowN N0 (D0 * C0) = q1 at *
        generalize lowD N0 (D0 * C0) = q2 at *
        clear hm3 hm4
        have hF_l := hF.lt; have hF_0 := hF.cell 0; have hF_1 := hF.cell 1; simp at hF_0 hF_1
        go_wp2_with fail
        refine (HL.out _).mono ?_
        rintro e wl ⟨rfl, hbl⟩
        have hown3 := (hown2.below hbl).alloc (.cells #[.string p, .int .i64 q1, .int .i64 q2] 48)
        have hbo := Box.new wl 48 #[.string p, .int .i64 q1, .int .i64 q2]
        have hsaK3 := (hsaK2.below hbl).alloc (.cells #[.string p, .int .i64 q1, .int .i64 q2] 48)
        have hbr3 : Below w.heap.size w (wl.alloc (.cells #[.string p, .int .i64 q1, .int .i64 q2] 48)) := (hbr2.trans (hbl.mono hbr2.size)).alloc (by have := (hbr2.trans (hbl.mono hbr2.size)).size; exact this) _
        have hzl := hbl.size
        clear hF_l hF_0 hF_1
        clear hw1
        go_wp2_with (at_builtin; refine wpList_append_lie (α := Valued) rfl _ _ 40 rfl 48 32 (.agg #[.string ⟨#[]⟩, .int .i64 0, .int .i64 0]) Tryz.underlying40 Tryz.infoValued rfl u3 vs rfl hown3 (p, q1, q2) wl.heap.size rfl hbo (by omega) (by omega) (by simp; omega) ?_; intro gg cap1 W4 hown4 hgrow hat)
        have hbr4 : Below w.heap.size w W4 := hbr3.grown hgrow hbr3.size (fun j hj => by have := (hown3.lt j hj).1; omega)
        have hsaK4 := hsaK3.grownT hgrow (fun x hx e => by have := (hown3.lt _ e.symm).1; have := HbK.out x hx; omega)
        have hz4 := hgrow.size
        simp at hz4
        go_wp2_with fail
        rw [← HaK.out]
        go_roundg (ks.length - (k + 1))
        case measure => have := hgk.out; omega
        case rel => exact ⟨k + 1, by go_num, by omega, rfl, by rw [Hsl.out]; exact hown4, hsaK4, hbr4, by omega⟩
      · rw [if_neg hpos] at Hsl
        rw [List.append_nil] at Hsl
        go_wp2_with fail
        rw [← HaK.out]
        go_roundg (ks.length - (k + 1))
        case measure => have := hgk.out; omega
        case rel => exact ⟨k + 1, by go_num, by omega, rfl, by rw [Hsl.out]; exact hown2, hsaK2, hbr2, by omega⟩
  · obtain rfl : k = ks.length := by omega
    rw [List.take_length] at hown
    rw [HO.out] at hown
    clear hlt
    go_wp2_with fail
    go_ret
    exact ⟨_, rfl, hown.mono hzk, hbr⟩
end Go.Proofs.YtaoomkkhpianlaaGreatDoor
