/- Scores: median, Median, Spread, PapersOf, PeopleOf of the program. -/
import Derived.Test.YtibchcdcpcjgnaaGreatDoorScore2
import Derived.Test.YtibchcdcpcjgnaaGreatDoorMakeMark
import Derived.Test.YtibchcdcpcjgnaaGreatDoorReg
namespace Go.Proofs.YtibchcdcpcjgnaaGreatDoor
open Go.RowKit Go.Sort
set_option linter.unusedVariables false
set_option linter.unusedSimpArgs false

theorem half1 (n : Nat) (h : 1 ≤ n) : ((n : Int) - 1).tdiv 2 = (((n - 1) / 2 : Nat) : Int) := by
  rw [Int.tdiv_eq_ediv_of_nonneg (by omega)]; omega
theorem half2 (n : Nat) : (n : Int).tdiv 2 = ((n / 2 : Nat) : Int) := by
  rw [Int.tdiv_eq_ediv_of_nonneg (by omega)]; omega


set_option maxRecDepth 100000 in
set_option maxHeartbeats 2000000 in
theorem median_any (l : List Mark) (a : Option Addr) (cap : Nat) (w : World) (hs : SA w a l) (hl : l.length ≤ 1000) (hpos0 : 1 ≤ l.length) (hok : okScores l) :
    Calls Tryz.prog 83 #[.slice a l.length cap] w (Gives (.int .i64 (medI (sortI (scL l)))) w) := by
  go_enter Tryz.func83, Tryz.ntmps83
  go_wp2_with fail
  go_loopg [3, 8] l.length (fun gk v i wr => ∃ k : Nat, i = .int .i64 k ∧ k ≤ l.length ∧ Hid (gk = l.length - k) ∧ Own w.heap.size 3 wr v (scL (l.take k)) ∧ Below w.heap.size w wr)
  case atStart => exact ⟨0, rfl, by omega, rfl, Own.nil _ _ _, Below.refl _ _⟩
  case round =>
    obtain ⟨k, rfl, hk, hgk, hown, hb⟩ := hrel
    have hz := hb.size
    by_cases hlt : k < l.length
    · obtain ⟨b, off, ha, c0, c1, c2⟩ := (hs.below hb).mark hlt
      have htake := List.take_succ_eq_append_getElem hlt
      have hlen : (scL (l.take k)).length ≤ 1000 := by unfold scL; rw [List.length_map, List.length_take]; omega
      rw [ha]
      generalize hx : l[k] = x at *
      obtain ⟨x1, x2, x3⟩ := x
      simp only at c0 c1 c2
      have Htake := Lib.hid (show scL (l.take (k + 1)) = scL (l.take k) ++ [x3] by rw [htake]; unfold scL; rw [List.map_append]; rfl)
      clear hx htake
      generalize scL (l.take k) = ls at *
      have hown1 := (hown.alloc (.cells #[.string x1, .string x2, .int .i64 x3] 67)).alloc (.cells #[.int .i64 x3] 3)
      have hbo := Box.newAt (wr.alloc (.cells #[.string x1, .string x2, .int .i64 x3] 67)) (wr.heap.size + 1) 3 #[.int .i64 x3] (by simp)
      go_wp2_with (at_builtin; refine wpList_append_lie (α := Int) rfl _ _ 22 rfl 3 8 (.int .i64 0) Tryz.underlying22 Tryz.infoInt rfl _ ls rfl hown1 x3 (wr.heap.size + 1) rfl hbo (by omega) (by omega) (by simp; omega) ?_; intro gg cap1 w1 hown2 hgrow hat)
      have hb1 : Below w.heap.size w w1 := Below.grown (w := (wr.alloc (.cells #[.string x1, .string x2, .int .i64 x3] 67)).alloc (.cells #[.int .i64 x3] 3)) (by (repeat' (first | exact Below.refl _ _ | assumption | refine Below.setCell ?_ ?_ _ | refine below_drewN ?_ _ | refine Below.drew ?_ | refine Below.alloc ?_ ?_ _ | (with_reducible refine Below.trans ?_ (Below.mono hb ?_)) | (with_reducible refine Below.trans ?_ (Below.mono hb0 ?_)) | (with_reducible refine Below.trans ?_ (Below.mono hb1 ?_)) | (with_reducible refine Below.trans ?_ (Below.mono hb2 ?_)) | (with_reducible refine Below.trans ?_ (Below.mono hb3 ?_)) | (with_reducible refine Below.trans ?_ (Below.mono hb4 ?_)) | (with_reducible refine Below.trans ?_ (Below.mono hb5 ?_)) | (with_reducible refine Below.trans ?_ (Below.mono hb6 ?_)) | (with_reducible refine Below.trans ?_ (Below.mono hb7 ?_)) | (with_reducible refine Below.trans ?_ (Below.mono hb8 ?_)) | (with_reducible refine Below.trans ?_ (Below.mono hb9 ?_)) | (with_reducible refine Below.trans ?_ (Below.mono hb10 ?_)) | (with_reducible refine Below.trans ?_ (Below.mono hb11 ?_)) | (with_reducible refine Below.trans ?_ (Below.mono hb12 ?_)) | (with_reducible refine Below.trans ?_ (Below.mono hb13 ?_)) | (with_reducible refine Below.trans ?_ (Below.mono hb14 ?_)) | (with_reducible refine Below.trans ?_ (Below.mono hb15 ?_)) | omega | (simp; done) | (simp; omega)))) hgrow (by simp; omega) (fun j hj => (hown1.lt j hj).1)
      go_wp2_with fail
      rw [← ha]
      go_roundg (l.length - (k + 1))
      case measure => have := hgk.out; omega
      case rel => exact ⟨k + 1, by go_num, by omega, rfl, by rw [Htake.out]; exact hown2, hb1⟩
    · obtain rfl : k = l.length := by omega
      rw [List.take_length] at hown
      have hoki := okI_sort (okI_scL hok)
      have hsl : (sortI (scL l)).length = l.length := by rw [sortI_length]; unfold scL; rw [List.length_map]
      have hscl : (scL l).length ≤ 1000 := by unfold scL; rw [List.length_map]; omega
      have hpos : 1 ≤ (sortI (scL l)).length := by omega
      have hs1000 : (sortI (scL l)).length ≤ 1000 := by omega
      clear hlt hsl hok
      go_wp2_with fail
      refine (sortI_any _ _ _ _ hown (by omega)).mono ?_
      rintro e w2 ⟨rfl, hown2, hg2⟩
      have hb2 := below_grown hb hg2 (Nat.le_refl _) (fun j hj => (hown.lt j hj).1)
      clear hown hg2
      generalize sortI (scL l) = s at *
      obtain ⟨a2, caps, rfl, hsa, _, _⟩ := hown2.sa
      have hn1 : 1 ≤ s.length := hpos
      have hh1 := half1 s.length hn1
      have hh2 := half2 s.length
      have hi1 : (s.length - 1) / 2 < s.length := by omega
      have hi2 : s.length / 2 < s.length := by omega
      obtain ⟨sb, soff, hsb, e1⟩ := hsa.int hi1
      obtain ⟨sb', soff', hsb', e2⟩ := hsa.int hi2
      have Hmed := Lib.hid (show medI s = s[(s.length - 1) / 2] + s[s.length / 2] by unfold medI; rw [List.getD_eq_getElem?_getD, List.getD_eq_getElem?_getD, List.getElem?_eq_getElem hi1, List.getElem?_eq_getElem hi2]; rfl)
      have hz1 := hoki s[(s.length - 1) / 2] (List.getElem_mem _)
      have hz2 := hoki s[s.length / 2] (List.getElem_mem _)
      rw [hsb] at hsb'
      cases hsb'
      subst hsb
      generalize s[(s.length - 1) / 2] = m1 at *
      generalize s[s.length / 2] = m2 at *
      have hw1 : IntKind.i64.wrap ((s.length : Int) - 1) = (s.length : Int) - 1 := IntWalk.i64_in _ (by omega)
      generalize (s.length - 1) / 2 = i1 at *
      generalize s.length / 2 = i2 at *
      have hw2 : IntKind.i64.wrap (i1 : Int) = (i1 : Int) := IntWalk.i64_in _ (by omega)
      have hw3 : IntKind.i64.wrap (i2 : Int) = (i2 : Int) := IntWalk.i64_in _ (by omega)
      have hw4 : IntKind.i64.wrap (m1 + m2) = m1 + m2 := IntWalk.i64_in _ (by omega)
      have hj1 : (0 : Int) ≤ (i1 : Int) := by omega
      have hj2 : (i1 : Int) < (s.length : Int) := by omega
      have hj3 : (0 : Int) ≤ (i2 : Int) := by omega
      have hj4 : (i2 : Int) < (s.length : Int) := by omega
      clear hsa hoki hi1 hi2
      go_wp2_with fail
      go_quiet (fail)
      go_wp2_with fail
      go_ret
      exact ⟨ret_int Hmed.out.symm, below_drewN hb2 _⟩
set_option maxHeartbeats 1000000 in
theorem medianP_any (l : List Mark) (a : Option Addr) (cap : Nat) (p : ByteArray) (w : World) (hs : SA w a l) (hl : l.length ≤ 1000) (hks : ∀ x ∈ l, x.1.size ≤ 1000 ∧ x.2.1.size ≤ 1000) :
    Calls Tryz.prog 19 #[.slice a l.length cap, .string p] w (Gives (.tuple #[.int .i64 (if ofE l p = 0 then medI (sortI (scL (sel (fun x => x.1) p l))) else 0), .int .i64 (ofE l p)]) w) := by
  generalize hq : (if ofE l p = 0 then medI (sortI (scL (sel (fun x => x.1) p l))) else 0) = q at *
  have HQ := Lib.hid hq
  clear hq
  go_enter Tryz.func19, Tryz.ntmps19
  go_wp2_with fail
  refine (ofPaper_any l a cap p _ hs (by omega) hks).mono ?_
  rintro e w1 ⟨hb1, av, len, capv, rfl, hof⟩
  by_cases h0 : ofE l p = 0
  · obtain ⟨rfl, hsa, hne⟩ := hof h0
    have hok := okScores_sel (f := fun x => x.1) (p := p) (fault_scores (ofE_fault h0))
    have hsl : (sel (fun x => x.1) p l).length ≤ 1000 := Nat.le_trans (List.length_filter_le _ _) hl
    have hlp := List.length_pos_iff.2 hne
    rw [if_pos h0] at HQ
    have H0 := Lib.hid h0
    rw [h0]
    generalize sel (fun x => x.1) p l = ms at *
    clear h0 hof hne
    go_wp2_with fail
    refine (median_any ms av capv w1 hsa hsl hlp hok).mono ?_
    rintro e w2 ⟨rfl, hb2⟩
    go_wp2_with fail
    go_ret2
    exact ⟨by rw [H0.out, ← HQ.out] <;> rfl, below_next hb1 hb2⟩
  · have h0' : (ofE l p != 0) = true := by simpa using h0
    rw [if_neg h0] at HQ
    clear h0 hof
    go_wp2_with fail
    go_ret2
    exact ⟨by rw [← HQ.out] <;> rfl, hb1⟩
/-- The spread that Spread gives. -/
def sprN (ms : List Mark) : Int := lowN ((ms.length : Int) * sum2 ms - sum1 ms * sum1 ms) (ms.length * ms.length)
def sprD (ms : List Mark) : Int := lowD ((ms.length : Int) * sum2 ms - sum1 ms * sum1 ms) (ms.length * ms.length)
set_option maxHeartbeats 1000000 in
theorem spreadP_any (l : List Mark) (a : Option Addr) (cap : Nat) (p : ByteArray) (w : World) (hs : SA w a l) (hl : l.length ≤ 1000) (hks : ∀ x ∈ l, x.1.size ≤ 1000 ∧ x.2.1.size ≤ 1000) :
    Calls Tryz.prog 20 #[.slice a l.length cap, .string p] w (Gives (.tuple #[.agg #[.int .i64 (if ofE l p = 0 then sprN (sel (fun x => x.1) p l) else 0), .int .i64 (if ofE l p = 0 then sprD (sel (fun x => x.1) p l) else 0)], .int .i64 (ofE l p)]) w) := by
  generalize hq : (if ofE l p = 0 then sprN (sel (fun x => x.1) p l) else 0) = qn at *
  generalize hr : (if ofE l p = 0 then sprD (sel (fun x => x.1) p l) else 0) = qd at *
  have HQ := Lib.hid hq
  have HR := Lib.hid hr
  clear hq hr
  go_enter Tryz.func20, Tryz.ntmps20
  go_wp2_with fail
  refine (ofPaper_any l a cap p _ (hs.alloc _) (by omega) hks).mono ?_
  rintro e w1 ⟨hb1, av, len, capv, rfl, hof⟩
  have hz1 := hb1.size
  simp at hz1
  have hbo := (Box.new w 37 #[.int .i64 0, .int .i64 0]).below hb1
  by_cases h0 : ofE l p = 0
  · obtain ⟨rfl, hsa, hne⟩ := hof h0
    have hok := okScores_sel (f := fun x => x.1) (p := p) (fault_scores (ofE_fault h0))
    have hsl : (sel (fun x => x.1) p l).length ≤ 1000 := Nat.le_trans (List.length_filter_le _ _) hl
    have hlp := List.length_pos_iff.2 hne
    rw [if_pos h0] at HQ HR
    have H0 := Lib.hid h0
    rw [h0]
    generalize sel (fun x => x.1) p l = ms at *
    clear h0 hof hne
    go_wp2_with fail
    refine (sums_any ms av capv w1 hsa (by omega) hok).mono ?_
    rintro e w2 ⟨rfl, hb2⟩
    have hbd := sums_bd hok
    have hm1 := mul_in (x := (ms.length : Int)) (y := sum2 ms) (X := 1000) (Y := 100000) (by omega) (by omega) (by omega) (by omega)
    have hm2 := mul_in (x := sum1 ms) (y := sum1 ms) (X := 10000) (Y := 10000) (by omega) (by omega) (by omega) (by omega)
    have hm3 := mul_in (x := (ms.length : Int)) (y := (ms.length : Int)) (X := 1000) (Y := 1000) (by omega) (by omega) (by omega) (by omega)
    have hm4 : 1 ≤ (ms.length : Int) * (ms.length : Int) := by have := Int.mul_pos (show (0 : Int) < ms.length by omega) (show (0 : Int) < ms.length by omega); omega
    unfold sprN at HQ
    unfold sprD at HR
    have HL := Lib.hid (fun W => lowest_any ((ms.length : Int) * sum2 ms - sum1 ms * sum1 ms) ((ms.length : Int) * ms.length) W (by omega) (by omega) hm4)
    unfold low at HL
    generalize sum1 ms = s1 at *
    generalize sum2 ms = s2 at *
    have hbo1 := hbo.below hb2
    have hz2 := hb2.size
    clear hbo hok
    go_wp2_with fail
    refine (HL.out _).mono ?_
    rintro e w3 ⟨rfl, hb3⟩
    have hbo2 := hbo1.below hb3
    have hz3 := hb3.size
    generalize lowN ((ms.length : Int) * s2 - s1 * s1) ((ms.length : Int) * ms.length) = q1 at *
    generalize lowD ((ms.length : Int) * s2 - s1 * s1) ((ms.length : Int) * ms.length) = q2 at *
    have hbo2_l := hbo2.lt; have hbo2_0 := hbo2.cell 0; have hbo2_1 := hbo2.cell 1; simp at hbo2_0 hbo2_1
    have hbo2_f0 := hbo2.frozen 0; have hbo2_f1 := hbo2.frozen 1
    clear HL hm1 hm2 hm3 hm4
    go_wp2_with fail
    refine bodyPost_ret (v := .tuple #[.agg #[.int .i64 q1, .int .i64 q2], .int .i64 0]) (by simp only [results, Tryz.results20]; go_simp) rfl ⟨by rw [H0.out, ← HQ.out, ← HR.out], ?_⟩
    (repeat' (first | exact Below.refl _ _ | assumption | refine Below.setCell ?_ ?_ _ | refine below_drewN ?_ _ | refine Below.drew ?_ | refine Below.alloc ?_ ?_ _ | (with_reducible refine Below.trans ?_ (Below.mono hb ?_)) | (with_reducible refine Below.trans ?_ (Below.mono hb0 ?_)) | (with_reducible refine Below.trans ?_ (Below.mono hb1 ?_)) | (with_reducible refine Below.trans ?_ (Below.mono hb2 ?_)) | (with_reducible refine Below.trans ?_ (Below.mono hb3 ?_)) | (with_reducible refine Below.trans ?_ (Below.mono hb4 ?_)) | (with_reducible refine Below.trans ?_ (Below.mono hb5 ?_)) | (with_reducible refine Below.trans ?_ (Below.mono hb6 ?_)) | (with_reducible refine Below.trans ?_ (Below.mono hb7 ?_)) | (with_reducible refine Below.trans ?_ (Below.mono hb8 ?_)) | (with_reducible refine Below.trans ?_ (Below.mono hb9 ?_)) | (with_reducible refine Below.trans ?_ (Below.mono hb10 ?_)) | (with_reducible refine Below.trans ?_ (Below.mono hb11 ?_)) | (with_reducible refine Below.trans ?_ (Below.mono hb12 ?_)) | (with_reducible refine Below.trans ?_ (Below.mono hb13 ?_)) | (with_reducible refine Below.trans ?_ (Below.mono hb14 ?_)) | (with_reducible refine Below.trans ?_ (Below.mono hb15 ?_)) | omega | (simp; done) | (simp; omega)))
  · have h0' : (ofE l p != 0) = true := by simpa using h0
    rw [if_neg h0] at HQ HR
    obtain rfl := HQ.out
    obtain rfl := HR.out
    clear h0 hof
    have hbo_l := hbo.lt; have hbo_0 := hbo.cell 0; have hbo_1 := hbo.cell 1; simp at hbo_0 hbo_1
    have hbo_f0 := hbo.frozen 0; have hbo_f1 := hbo.frozen 1
    go_wp2_with fail
    refine bodyPost_ret (v := .tuple #[.agg #[.int .i64 0, .int .i64 0], .int .i64 (ofE l p)]) (by simp only [results, Tryz.results20]; go_simp) rfl ⟨rfl, ?_⟩
    (repeat' (first | exact Below.refl _ _ | assumption | refine Below.setCell ?_ ?_ _ | refine below_drewN ?_ _ | refine Below.drew ?_ | refine Below.alloc ?_ ?_ _ | (with_reducible refine Below.trans ?_ (Below.mono hb ?_)) | (with_reducible refine Below.trans ?_ (Below.mono hb0 ?_)) | (with_reducible refine Below.trans ?_ (Below.mono hb1 ?_)) | (with_reducible refine Below.trans ?_ (Below.mono hb2 ?_)) | (with_reducible refine Below.trans ?_ (Below.mono hb3 ?_)) | (with_reducible refine Below.trans ?_ (Below.mono hb4 ?_)) | (with_reducible refine Below.trans ?_ (Below.mono hb5 ?_)) | (with_reducible refine Below.trans ?_ (Below.mono hb6 ?_)) | (with_reducible refine Below.trans ?_ (Below.mono hb7 ?_)) | (with_reducible refine Below.trans ?_ (Below.mono hb8 ?_)) | (with_reducible refine Below.trans ?_ (Below.mono hb9 ?_)) | (with_reducible refine Below.trans ?_ (Below.mono hb10 ?_)) | (with_reducible refine Below.trans ?_ (Below.mono hb11 ?_)) | (with_reducible refine Below.trans ?_ (Below.mono hb12 ?_)) | (with_reducible refine Below.trans ?_ (Below.mono hb13 ?_)) | (with_reducible refine Below.trans ?_ (Below.mono hb14 ?_)) | (with_reducible refine Below.trans ?_ (Below.mono hb15 ?_)) | omega | (simp; done) | (simp; omega)))
set_option maxHeartbeats 1000000 in
theorem papersOf_any (l : List Mark) (a : Option Addr) (cap : Nat) (w : World) (hs : SA w a l) (hl : l.length ≤ 1000) (hks : ∀ x ∈ l, x.1.size ≤ 1000 ∧ x.2.1.size ≤ 1000) :
    Calls Tryz.prog 16 #[.slice a l.length cap] w (GivesList (keysOf (fun x => x.1) l) (marksFault l) w) := by
  have hkl := keysOf_length (fun x => x.1) l
  go_enter Tryz.func16, Tryz.ntmps16
  go_wp2_with fail
  refine (checked_any l a cap w hs (by omega) hks).mono ?_
  rintro e w1 ⟨hb1, h1⟩
  rcases h1 with ⟨h0, rfl⟩ | ⟨h0, sb, rfl, hsh, hsb⟩
  · have h0' : (marksFault l != 0) = true := by simpa using h0
    have H0 := Lib.hid h0
    clear h0
    go_wp2_with fail
    go_ret2
    exact ⟨hb1, none, 0, 0, rfl, by omega, fun h => absurd h H0.out⟩
  · obtain ⟨b1, b2, base, a', cap', es1, es2, hst, hsa'⟩ := hsh
    have hS := hst.box
    have H0 := Lib.hid h0
    clear h0
    have hS_l := hS.lt; have hS_0 := hS.cell 0; have hS_1 := hS.cell 1; have hS_2 := hS.cell 2; simp at hS_0 hS_1 hS_2
    go_wp2_with fail
    refine (keys_any _ base (fun x => x.1) l _ _ hst.one (by omega) (fun x hx => by have := hks x hx; first | exact this.1 | exact this.2)).mono ?_
    rintro e w2 ⟨v, rfl, hown, hb2⟩
    obtain ⟨av, capv, rfl, hsa, _, _⟩ := hown.sa
    go_wp2_with fail
    go_ret2
    exact ⟨below_next hb1 hb2, av, _, capv, by rw [H0.out] <;> rfl, by omega, fun _ => ⟨rfl, hsa⟩⟩
set_option maxHeartbeats 1000000 in
theorem peopleOf_any (l : List Mark) (a : Option Addr) (cap : Nat) (w : World) (hs : SA w a l) (hl : l.length ≤ 1000) (hks : ∀ x ∈ l, x.1.size ≤ 1000 ∧ x.2.1.size ≤ 1000) :
    Calls Tryz.prog 17 #[.slice a l.length cap] w (GivesList (keysOf (fun x => x.2.1) l) (marksFault l) w) := by
  have hkl := keysOf_length (fun x => x.2.1) l
  go_enter Tryz.func17, Tryz.ntmps17
  go_wp2_with fail
  refine (checked_any l a cap w hs (by omega) hks).mono ?_
  rintro e w1 ⟨hb1, h1⟩
  rcases h1 with ⟨h0, rfl⟩ | ⟨h0, sb, rfl, hsh, hsb⟩
  · have h0' : (marksFault l != 0) = true := by simpa using h0
    have H0 := Lib.hid h0
    clear h0
    go_wp2_with fail
    go_ret2
    exact ⟨hb1, none, 0, 0, rfl, by omega, fun h => absurd h H0.out⟩
  · obtain ⟨b1, b2, base, a', cap', es1, es2, hst, hsa'⟩ := hsh
    have hS := hst.box
    have H0 := Lib.hid h0
    clear h0
    have hS_l := hS.lt; have hS_0 := hS.cell 0; have hS_1 := hS.cell 1; have hS_2 := hS.cell 2; simp at hS_0 hS_1 hS_2
    go_wp2_with fail
    refine (keys_any _ base (fun x => x.2.1) l _ _ hst.two (by omega) (fun x hx => by have := hks x hx; first | exact this.1 | exact this.2)).mono ?_
    rintro e w2 ⟨v, rfl, hown, hb2⟩
    obtain ⟨av, capv, rfl, hsa, _, _⟩ := hown.sa
    go_wp2_with fail
    go_ret2
    exact ⟨below_next hb1 hb2, av, _, capv, by rw [H0.out] <;> rfl, by omega, fun _ => ⟨rfl, hsa⟩⟩
end Go.Proofs.YtibchcdcpcjgnaaGreatDoor
