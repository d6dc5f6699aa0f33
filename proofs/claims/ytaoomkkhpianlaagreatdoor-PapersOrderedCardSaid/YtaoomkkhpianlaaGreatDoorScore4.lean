/- Scores of the reference: scoresOf, total, MeanOf, MedianOf, SpreadOfScores. -/
import Derived.Test.YtaoomkkhpianlaaGreatDoorScore3
import Derived.Test.YtaoomkkhpianlaaGreatDoorPart
namespace Go.Proofs.YtaoomkkhpianlaaGreatDoor
open Go.RowKit Go.Sort
set_option linter.unusedVariables false
set_option linter.unusedSimpArgs false


set_option maxRecDepth 100000 in
set_option maxHeartbeats 2000000 in
theorem scoresOf_any (l : List Mark) (a : Option Addr) (cap : Nat) (p : ByteArray) (w : World) (hs : SA w a l) (hl : l.length ≤ 1000) :
    Calls Tryz.prog 75 #[.slice a l.length cap, .string p] w (GivesOwn 3 (sortI (scL (sel (fun x => x.1) p l))) w) := by
  go_enter Tryz.func75, Tryz.ntmps75
  go_wp2_with fail
  go_loopg [5, 10] l.length (fun gk v i wr => ∃ k : Nat, i = .int .i64 k ∧ k ≤ l.length ∧ Hid (gk = l.length - k) ∧ Own w.heap.size 3 wr v (scL (sel (fun x => x.1) p (l.take k))) ∧ Below w.heap.size w wr)
  case atStart => exact ⟨0, rfl, by omega, rfl, Own.nil _ _ _, Below.refl _ _⟩
  case round =>
    obtain ⟨k, rfl, hk, hgk, hown, hb⟩ := hrel
    have hz := hb.size
    by_cases hlt : k < l.length
    · obtain ⟨b, off, ha, c0, c1, c2⟩ := (hs.below hb).mark hlt
      have htake := List.take_succ_eq_append_getElem hlt
      have hlen : (scL (sel (fun x => x.1) p (l.take k))).length ≤ 1000 := by
        unfold scL; rw [List.length_map]
        have := sel_len (fun x => x.1) p (l.take k); rw [List.length_take] at this; omega
      have Hsn := Lib.hid (sel_snoc (fun x => x.1) p (l.take k) l[k])
      rw [← htake] at Hsn
      rw [ha]
      generalize hx : l[k] = x at *
      obtain ⟨x1, x2, x3⟩ := x
      simp only at c0 c1 c2 Hsn
      clear hx htake
      by_cases hxp : x1 = p
      · have hxp' := tl_eq hxp
        rw [if_pos hxp] at Hsn
        have Htake := Lib.hid (show scL (sel (fun x => x.1) p (l.take (k + 1))) = scL (sel (fun x => x.1) p (l.take k)) ++ [x3] by rw [Hsn.out]; unfold scL; rw [List.map_append]; rfl)
        clear hxp Hsn
        generalize scL (sel (fun x => x.1) p (l.take k)) = ls at *
        have hown1 := (hown.alloc (.cells #[.string x1, .string x2, .int .i64 x3] 54)).alloc (.cells #[.int .i64 x3] 3)
        have hbo := Box.newAt (wr.alloc (.cells #[.string x1, .string x2, .int .i64 x3] 54)) (wr.heap.size + 1) 3 #[.int .i64 x3] (by simp)
        go_wp2_with (at_builtin; refine wpList_append_lie (α := Int) rfl _ _ 22 rfl 3 8 (.int .i64 0) Tryz.underlying22 Tryz.infoInt rfl _ ls rfl hown1 x3 (wr.heap.size + 1) rfl hbo (by omega) (by omega) (by simp; omega) ?_; intro gg cap1 w1 hown2 hgrow hat)
        have hb1 : Below w.heap.size w w1 := Below.grown (w := (wr.alloc (.cells #[.string x1, .string x2, .int .i64 x3] 54)).alloc (.cells #[.int .i64 x3] 3)) (by (repeat' (first | exact Below.refl _ _ | assumption | refine Below.setCell ?_ ?_ _ | refine below_drewN ?_ _ | refine Below.drew ?_ | refine Below.alloc ?_ ?_ _ | (with_reducible refine Below.trans ?_ (Below.mono hb ?_)) | (with_reducible refine Below.trans ?_ (Below.mono hb0 ?_)) | (with_reducible refine Below.trans ?_ (Below.mono hb1 ?_)) | (with_reducible refine Below.trans ?_ (Below.mono hb2 ?_)) | (with_reducible refine Below.trans ?_ (Below.mono hb3 ?_)) | (with_reducible refine Below.trans ?_ (Below.mono hb4 ?_)) | (with_reducible refine Below.trans ?_ (Below.mono hb5 ?_)) | (with_reducible refine Below.trans ?_ (Below.mono hb6 ?_)) | (with_reducible refine Below.trans ?_ (Below.mono hb7 ?_)) | (with_reducible refine Below.trans ?_ (Below.mono hb8 ?_)) | (with_reducible refine Below.trans ?_ (Below.mono hb9 ?_)) | (with_reducible refine Below.trans ?_ (Below.mono hb10 ?_)) | (with_reducible refine Below.trans ?_ (Below.mono hb11 ?_)) | (with_reducible refine Below.trans ?_ (Below.mono hb12 ?_)) | (with_reducible refine Below.trans ?_ (Below.mono hb13 ?_)) | (with_reducible refine Below.trans ?_ (Below.mono hb14 ?_)) | (with_reducible refine Below.trans ?_ (Below.mono hb15 ?_)) | omega | (simp; done) | (simp; omega)))) hgrow (by simp; omega) (fun j hj => (hown1.lt j hj).1)
        go_wp2_with fail
        rw [← ha]
        go_roundg (l.length - (k + 1))
        case measure => have := hgk.out; omega
        case rel => exact ⟨k + 1, by go_num, by omega, rfl, by rw [Htake.out]; exact hown2, hb1⟩
      · have hxp' := tl_ne hxp
        rw [if_neg hxp] at Hsn
        clear hxp
        go_wp2_with fail
        rw [← ha]
        go_roundg (l.length - (k + 1))
        case measure => have := hgk.out; omega
        case rel => exact ⟨k + 1, by go_num, by omega, rfl, by rw [Hsn.out]; exact hown.alloc _, by (repeat' (first | exact Below.refl _ _ | assumption | refine Below.setCell ?_ ?_ _ | refine below_drewN ?_ _ | refine Below.drew ?_ | refine Below.alloc ?_ ?_ _ | (with_reducible refine Below.trans ?_ (Below.mono hb ?_)) | (with_reducible refine Below.trans ?_ (Below.mono hb0 ?_)) | (with_reducible refine Below.trans ?_ (Below.mono hb1 ?_)) | (with_reducible refine Below.trans ?_ (Below.mono hb2 ?_)) | (with_reducible refine Below.trans ?_ (Below.mono hb3 ?_)) | (with_reducible refine Below.trans ?_ (Below.mono hb4 ?_)) | (with_reducible refine Below.trans ?_ (Below.mono hb5 ?_)) | (with_reducible refine Below.trans ?_ (Below.mono hb6 ?_)) | (with_reducible refine Below.trans ?_ (Below.mono hb7 ?_)) | (with_reducible refine Below.trans ?_ (Below.mono hb8 ?_)) | (with_reducible refine Below.trans ?_ (Below.mono hb9 ?_)) | (with_reducible refine Below.trans ?_ (Below.mono hb10 ?_)) | (with_reducible refine Below.trans ?_ (Below.mono hb11 ?_)) | (with_reducible refine Below.trans ?_ (Below.mono hb12 ?_)) | (with_reducible refine Below.trans ?_ (Below.mono hb13 ?_)) | (with_reducible refine Below.trans ?_ (Below.mono hb14 ?_)) | (with_reducible refine Below.trans ?_ (Below.mono hb15 ?_)) | omega | (simp; done) | (simp; omega)))⟩
    · obtain rfl : k = l.length := by omega
      rw [List.take_length] at hown
      have hscl : (scL (sel (fun x => x.1) p l)).length ≤ 1000 := by
        unfold scL; rw [List.length_map]
        have := sel_len (fun x => x.1) p l; omega
      clear hlt
      go_wp2_with fail
      refine (sortI_any _ _ _ _ hown (by omega)).mono ?_
      rintro e w2 ⟨rfl, hown2, hg2⟩
      have hb2 := below_grown hb hg2 (Nat.le_refl _) (fun j hj => (hown.lt j hj).1)
      go_wp2_with fail
      go_ret
      exact ⟨_, rfl, hown2, hb2⟩
set_option maxHeartbeats 1000000 in
theorem total_any (l : List Int) (a : Option Addr) (cap : Nat) (w : World) (hs : SA w a l) (hl : l.length ≤ 1000) (hok : okI l) :
    Calls Tryz.prog 137 #[.slice a l.length cap] w (fun e w' => e = .returned (.int .i64 l.sum) ∧ w = w') := by
  go_enter Tryz.func137, Tryz.ntmps137
  go_wp2_with fail
  go_loopg [3, 8] l.length (fun gk v i wr => ∃ k : Nat, i = .int .i64 k ∧ k ≤ l.length ∧ Hid (gk = l.length - k) ∧ v = .int .i64 (l.take k).sum ∧ wr = w)
  case atStart => exact ⟨0, rfl, by omega, rfl, rfl, rfl⟩
  case round =>
    obtain ⟨k, rfl, hk, hgk, rfl, rfl⟩ := hrel
    by_cases hlt : k < l.length
    · obtain ⟨b, off, ha, c0⟩ := hs.int hlt
      have htake := List.take_succ_eq_append_getElem hlt
      have hbd := sum_bd (okI_take hok k)
      rw [List.length_take] at hbd
      have hx := hok l[k] (List.getElem_mem hlt)
      have Hsn := Lib.hid (show (l.take (k + 1)).sum = (l.take k).sum + l[k] by rw [htake, List.sum_append, List.sum_cons, List.sum_nil, Int.add_zero])
      rw [ha]
      generalize l[k] = x at *
      clear htake
      generalize (l.take k).sum = sm at *
      go_wp2_with fail
      rw [← ha]
      go_roundg (l.length - (k + 1))
      case measure => have := hgk.out; omega
      case rel => exact ⟨k + 1, by go_num, by omega, rfl, by rw [Hsn.out], rfl⟩
    · obtain rfl : k = l.length := by omega
      rw [List.take_length]
      go_wp2_with fail
      go_ret
      exact ⟨rfl, rfl⟩
set_option maxHeartbeats 1000000 in
theorem meanOf_any (l : List Mark) (a : Option Addr) (cap : Nat) (p : ByteArray) (w : World) (hs : SA w a l) (hl : l.length ≤ 1000) (hok : okScores l) (hne : sel (fun x => x.1) p l ≠ []) :
    Calls Tryz.prog 102 #[.slice a l.length cap, .string p] w (Gives (low (sum1 (sel (fun x => x.1) p l)) (sel (fun x => x.1) p l).length) w) := by
  have hoks := okI_sort (okI_scL (okScores_sel (f := fun x => x.1) (p := p) hok))
  have hsl := sel_len (fun x => x.1) p l
  have hlp := List.length_pos_iff.2 hne
  have HS := Lib.hid (fun W (h : SA W a l) => scoresOf_any l a cap p W h hl)
  have hsum : (sortI (scL (sel (fun x => x.1) p l))).sum = sum1 (sel (fun x => x.1) p l) := by rw [perm_sum (sortI_perm _)]; rfl
  have hlen : (sortI (scL (sel (fun x => x.1) p l))).length = (sel (fun x => x.1) p l).length := by rw [sortI_length]; unfold scL; rw [List.length_map]
  rw [← hsum, ← hlen]
  rw [← hlen] at hsl hlp
  clear hsum hlen hne
  generalize sortI (scL (sel (fun x => x.1) p l)) = s at *
  have hbd := sum_bd hoks
  go_enter Tryz.func102, Tryz.ntmps102
  go_wp2_with fail
  refine (HS.out _ (hs.alloc _)).mono ?_
  rintro e w1 ⟨v, rfl, hown, hb1⟩
  obtain ⟨av, capv, rfl, hsa, _, _⟩ := hown.sa
  have hz1 := hb1.size
  simp at hz1
  have hbo := (Box.new w 30 #[.int .i64 0, .int .i64 0]).below hb1
  go_wp2_with fail
  refine (total_any s av capv _ hsa (by omega) hoks).mono ?_
  rintro e w2 ⟨rfl, rfl⟩
  have HL := Lib.hid (fun W => part_any s.sum s.length W (by omega) (by omega) (by omega))
  unfold low at *
  generalize s.sum = sm at *
  go_wp2_with fail
  refine (HL.out _).mono ?_
  rintro e w3 ⟨rfl, hb3⟩
  have hbo2 := hbo.below hb3
  have hz3 := hb3.size
  have hbo2_l := hbo2.lt; have hbo2_0 := hbo2.cell 0; have hbo2_1 := hbo2.cell 1; simp at hbo2_0 hbo2_1
  have hbo2_f0 := hbo2.frozen 0; have hbo2_f1 := hbo2.frozen 1
  go_wp2_with fail
  refine bodyPost_ret (v := .agg #[.int .i64 (lowN sm s.length), .int .i64 (lowD sm s.length)]) (by simp only [results, Tryz.results102]; go_simp) rfl ⟨rfl, ?_⟩
  (repeat' (first | exact Below.refl _ _ | assumption | refine Below.setCell ?_ ?_ _ | refine below_drewN ?_ _ | refine Below.drew ?_ | refine Below.alloc ?_ ?_ _ | (with_reducible refine Below.trans ?_ (Below.mono hb ?_)) | (with_reducible refine Below.trans ?_ (Below.mono hb0 ?_)) | (with_reducible refine Below.trans ?_ (Below.mono hb1 ?_)) | (with_reducible refine Below.trans ?_ (Below.mono hb2 ?_)) | (with_reducible refine Below.trans ?_ (Below.mono hb3 ?_)) | (with_reducible refine Below.trans ?_ (Below.mono hb4 ?_)) | (with_reducible refine Below.trans ?_ (Below.mono hb5 ?_)) | (with_reducible refine Below.trans ?_ (Below.mono hb6 ?_)) | (with_reducible refine Below.trans ?_ (Below.mono hb7 ?_)) | (with_reducible refine Below.trans ?_ (Below.mono hb8 ?_)) | (with_reducible refine Below.trans ?_ (Below.mono hb9 ?_)) | (with_reducible refine Below.trans ?_ (Below.mono hb10 ?_)) | (with_reducible refine Below.trans ?_ (Below.mono hb11 ?_)) | (with_reducible refine Below.trans ?_ (Below.mono hb12 ?_)) | (with_reducible refine Below.trans ?_ (Below.mono hb13 ?_)) | (with_reducible refine Below.trans ?_ (Below.mono hb14 ?_)) | (with_reducible refine Below.trans ?_ (Below.mono hb15 ?_)) | omega | (simp; done) | (simp; omega)))
set_option maxHeartbeats 1000000 in
theorem medianOf_any (l : List Mark) (a : Option Addr) (cap : Nat) (p : ByteArray) (w : World) (hs : SA w a l) (hl : l.length ≤ 1000) (hok : okScores l) (hne : sel (fun x => x.1) p l ≠ []) :
    Calls Tryz.prog 103 #[.slice a l.length cap, .string p] w (Gives (.int .i64 (medI (sortI (scL (sel (fun x => x.1) p l))))) w) := by
  have hoki := okI_sort (okI_scL (okScores_sel (f := fun x => x.1) (p := p) hok))
  have hsl := sel_len (fun x => x.1) p l
  have hpos := List.length_pos_iff.2 hne
  have HS := Lib.hid (fun W (h : SA W a l) => scoresOf_any l a cap p W h hl)
  have hlen : (sortI (scL (sel (fun x => x.1) p l))).length = (sel (fun x => x.1) p l).length := by rw [sortI_length]; unfold scL; rw [List.length_map]
  rw [← hlen] at hsl hpos
  clear hlen hne
  generalize sortI (scL (sel (fun x => x.1) p l)) = s at *
  go_enter Tryz.func103, Tryz.ntmps103
  go_wp2_with fail
  refine (HS.out _ hs).mono ?_
  rintro e w1 ⟨v, rfl, hown, hb1⟩
  obtain ⟨av, capv, rfl, hsa, _, _⟩ := hown.sa
  have hn1 : 1 ≤ s.length := hpos
  have hh1 := half1 s.length hn1
  have hh2 := half2 s.length
  have hi1 : (s.length - 1) / 2 < s.length := by omega
  have hi2 : s.length / 2 < s.length := by omega
  obtain ⟨sb, soff, hsb, e1⟩ := hsa.int hi1
  obtain ⟨sb', soff', hsb', e2⟩ := hsa.int hi2
  have Hmed := Lib.hid (show medI s = s[(s.length - 1) / 2] + s[s.length / 2] by unfold medI; rw [List.getD_eq_getElem?_getD, List.getD_eq_getElem?_getD, List.getElem?_eq_getElem hi1, List.getElem?_eq_getElem hi2]; rfl)
  have hz1 := hoki s[(s.length - 1) / 2] (List.getElem_mem _)
  have hz2 := hoki s[s.length / 2] (List.getElem_mem _)
  rw [hsb] at hsb'
  cases hsb'
  subst hsb
  generalize s[(s.length - 1) / 2] = m1 at *
  generalize s[s.length / 2] = m2 at *
  have hw1 : IntKind.i64.wrap ((s.length : Int) - 1) = (s.length : Int) - 1 := IntWalk.i64_in _ (by omega)
  generalize (s.length - 1) / 2 = i1 at *
  generalize s.length / 2 = i2 at *
  have hw2 : IntKind.i64.wrap (i1 : Int) = (i1 : Int) := IntWalk.i64_in _ (by omega)
  have hw3 : IntKind.i64.wrap (i2 : Int) = (i2 : Int) := IntWalk.i64_in _ (by omega)
  have hw4 : IntKind.i64.wrap (m1 + m2) = m1 + m2 := IntWalk.i64_in _ (by omega)
  have hj1 : (0 : Int) ≤ (i1 : Int) := by omega
  have hj2 : (i1 : Int) < (s.length : Int) := by omega
  have hj3 : (0 : Int) ≤ (i2 : Int) := by omega
  have hj4 : (i2 : Int) < (s.length : Int) := by omega
  clear hsa hoki hi1 hi2
  go_wp2_with fail
  go_quiet (fail)
  go_wp2_with fail
  go_ret
  exact ⟨ret_int Hmed.out.symm, below_drewN hb1 _⟩
end Go.Proofs.YtaoomkkhpianlaaGreatDoor
