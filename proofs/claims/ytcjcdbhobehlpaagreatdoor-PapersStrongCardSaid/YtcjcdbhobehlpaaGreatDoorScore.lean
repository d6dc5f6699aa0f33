/- Marks of a paper: sums, mean, ofPaper, Mean; the law's own test. -/
import Derived.Test.YtcjcdbhobehlpaaGreatDoorMark5
import Derived.Test.YtcjcdbhobehlpaaGreatDoorLow
import Derived.Sort.OwnSortedInts
import Derived.Test.YtcjcdbhobehlpaaGreatDoorMakeMark
import Derived.Test.YtcjcdbhobehlpaaGreatDoorReg
import Derived.Test.YtcjcdbhobehlpaaGreatDoorPart
/-! Marks of a paper: sums, mean, ofPaper, Mean; the law's own test. -/
namespace Go.Proofs.YtcjcdbhobehlpaaGreatDoor
open Go.RowKit
set_option linter.unusedVariables false
set_option linter.unusedSimpArgs false

/-- The sum of scores, of their squares. -/
def sum1 (l : List Mark) : Int := (l.map (fun m => m.2.2)).sum
def sum2 (l : List Mark) : Int := (l.map (fun m => m.2.2 * m.2.2)).sum
theorem sum1_snoc (l : List Mark) (x : Mark) : sum1 (l ++ [x]) = sum1 l + x.2.2 := by unfold sum1; simp
theorem sum2_snoc (l : List Mark) (x : Mark) : sum2 (l ++ [x]) = sum2 l + x.2.2 * x.2.2 := by unfold sum2; simp
def okScores (l : List Mark) : Prop := ∀ x ∈ l, 0 ≤ x.2.2 ∧ x.2.2 ≤ 10
theorem okScores_sel {f : Mark → ByteArray} {p : ByteArray} {l : List Mark} (h : okScores l) : okScores (sel f p l) := fun x hx => h x (List.mem_filter.1 hx).1
theorem okScores_take {l : List Mark} (h : okScores l) (n : Nat) : okScores (l.take n) := fun x hx => h x (List.mem_of_mem_take hx)
theorem sq_bd {x : Int} (h1 : 0 ≤ x) (h2 : x ≤ 10) : 0 ≤ x * x ∧ x * x ≤ 100 := ⟨Int.mul_nonneg h1 h1, Int.mul_le_mul h2 h2 h1 (by omega)⟩
theorem sums_bd : ∀ {l : List Mark}, okScores l → 0 ≤ sum1 l ∧ sum1 l ≤ 10 * l.length ∧ 0 ≤ sum2 l ∧ sum2 l ≤ 100 * l.length
 | [], _ => by simp [sum1, sum2]
 | x :: r, h => by
  have ih := sums_bd (l := r) (fun y hy => h y (by simp [hy]))
  have hx := h x (by simp)
  have hq := sq_bd hx.1 hx.2
  have e1 : sum1 (x :: r) = x.2.2 + sum1 r := by unfold sum1; rw [List.map_cons, List.sum_cons]
  have e2 : sum2 (x :: r) = x.2.2 * x.2.2 + sum2 r := by unfold sum2; rw [List.map_cons, List.sum_cons]
  rw [e1, e2, List.length_cons]
  omega
theorem fault_scores {l : List Mark} (h : marksFault l = 0) : okScores l := by
 intro x hx
 obtain ⟨i, hi, rfl⟩ := List.mem_iff_getElem.1 hx
 unfold marksFault at h
 split at h
 ·
  cases h
 ·
  have h1 := firstErr_all h i hi
  unfold markE at h1
  rw [List.getElem?_eq_getElem hi] at h1
  simp only at h1
  split at h1
  ·
   cases h1
  ·
   split at h1
   ·
    cases h1
   ·
    split at h1
    ·
     cases h1
    ·
     rename_i h2
     simp only [Bool.or_eq_true, decide_eq_true_eq, not_or, Int.not_lt] at h2
     exact h2

set_option maxHeartbeats 1000000 in
theorem sums_any (l : List Mark) (a : Option Addr) (cap : Nat) (w : World) (hs : SA w a l) (hl : l.length ≤ 100000) (hok : okScores l) :
  Calls Tryz.prog 64 #[.slice a l.length cap] w (Gives (.tuple #[.int .i64 (sum1 l), .int .i64 (sum2 l)]) w) := by
 go_enter Tryz.func64, Tryz.ntmps64
 go_wp2_with fail
 go_loopg [2, 3, 8] l.length (fun gk s1 s2 i wr => ∃ k : Nat, i = .int .i64 k ∧ k ≤ l.length ∧ Hid (gk = l.length - k) ∧ s1 = .int .i64 (sum1 (l.take k)) ∧ s2 = .int .i64 (sum2 (l.take k)) ∧ Below w.heap.size w wr)
 case atStart => exact ⟨0, rfl, by omega, rfl, rfl, rfl, Below.refl _ _⟩
 case round =>
  obtain ⟨k, rfl, hk, hgk, rfl, rfl, hb⟩ := hrel
  have hz := hb.size
  by_cases hlt : k < l.length
  ·
   obtain ⟨b, off, ha, c0, c1, c2⟩ := (hs.below hb).mark hlt
   have htake := List.take_succ_eq_append_getElem hlt
   have hbd := sums_bd (okScores_take hok k)
   rw [List.length_take] at hbd
   have hx1 := hok l[k] (List.getElem_mem hlt)
   have hq := sq_bd hx1.1 hx1.2
   have H1 := Lib.hid (sum1_snoc (l.take k) l[k])
   have H2 := Lib.hid (sum2_snoc (l.take k) l[k])
   rw [← htake] at H1 H2
   rw [ha]
   generalize l[k] = x at *
   obtain ⟨x1, x2, x3⟩ := x
   simp only at c0 c1 c2 hx1 hq H1 H2
   clear htake
   generalize sum1 (l.take k) = s1 at *
   generalize sum2 (l.take k) = s2 at *
   have hT := Box.new wr 51 #[.string x1, .string x2, .int .i64 x3]
   have hw1 : IntKind.i64.wrap (s1 + x3) = s1 + x3 := IntWalk.i64_in _ (by omega)
   have hw2 : IntKind.i64.wrap (x3 * x3) = x3 * x3 := IntWalk.i64_in _ (by omega)
   have hw3 : IntKind.i64.wrap (s2 + x3 * x3) = s2 + x3 * x3 := IntWalk.i64_in _ (by omega)
   go_wp2_with fail
   go_quiet (fail)
   clear hw1 hw2 hw3
   go_wp2_with fail
   rw [← ha]
   go_roundg (l.length - (k + 1))
   case measure => have := hgk.out; omega
   case rel => exact ⟨k + 1, by go_num, by omega, rfl, by rw [H1.out], by rw [H2.out], by (repeat' (first | exact Below.refl _ _ | assumption | refine Below.setCell ?_ ?_ _ | refine below_drewN ?_ _ | refine Below.drew ?_ | refine Below.alloc ?_ ?_ _ | (with_reducible refine Below.trans ?_ (Below.mono hb ?_)) | (with_reducible refine Below.trans ?_ (Below.mono hb0 ?_)) | (with_reducible refine Below.trans ?_ (Below.mono hb1 ?_)) | (with_reducible refine Below.trans ?_ (Below.mono hb2 ?_)) | (with_reducible refine Below.trans ?_ (Below.mono hb3 ?_)) | (with_reducible refine Below.trans ?_ (Below.mono hb4 ?_)) | (with_reducible refine Below.trans ?_ (Below.mono hb5 ?_)) | (with_reducible refine Below.trans ?_ (Below.mono hb6 ?_)) | (with_reducible refine Below.trans ?_ (Below.mono hb7 ?_)) | (with_reducible refine Below.trans ?_ (Below.mono hb8 ?_)) | (with_reducible refine Below.trans ?_ (Below.mono hb9 ?_)) | (with_reducible refine Below.trans ?_ (Below.mono hb10 ?_)) | (with_reducible refine Below.trans ?_ (Below.mono hb11 ?_)) | (with_reducible refine Below.trans ?_ (Below.mono hb12 ?_)) | (with_reducible refine Below.trans ?_ (Below.mono hb13 ?_)) | (with_reducible refine Below.trans ?_ (Below.mono hb14 ?_)) | (with_reducible refine Below.trans ?_ (Below.mono hb15 ?_)) | omega | (simp; done) | (simp; omega)))⟩
  ·
   obtain rfl : k = l.length := by omega
   rw [List.take_length]
   go_wp2_with fail
   go_ret2
   exact ⟨rfl, hb⟩
set_option maxHeartbeats 400000 in
theorem mean_any (l : List Mark) (a : Option Addr) (cap : Nat) (w : World) (hs : SA w a l) (hl : l.length ≤ 100000) (hp : 1 ≤ l.length) (hok : okScores l) :
  Calls Tryz.prog 49 #[.slice a l.length cap] w (Gives (low (sum1 l) l.length) w) := by
 have hbd := sums_bd hok
 go_enter Tryz.func49, Tryz.ntmps49
 go_wp2_with fail
 refine (sums_any l a cap _ (hs.alloc _) hl hok).mono ?_
 rintro e w1 ⟨rfl, hb1⟩
 have hz1 := hb1.size
 simp at hz1
 generalize sum1 l = s1 at *
 have hbo := (Box.new w 75 #[.int .i64 0, .int .i64 0]).below hb1
 go_wp2_with fail
 refine (lowest_any s1 l.length _ (by omega) (by omega) (by omega)).mono ?_
 rintro e w2 ⟨rfl, hb2⟩
 have hbo2 := hbo.below hb2
 have hbo2_l := hbo2.lt; have hbo2_0 := hbo2.cell 0; have hbo2_1 := hbo2.cell 1; simp at hbo2_0 hbo2_1
 have hbo2_f0 := hbo2.frozen 0; have hbo2_f1 := hbo2.frozen 1
 unfold low
 go_wp2_with fail
 refine bodyPost_ret (v := .agg #[.int .i64 (lowN s1 l.length), .int .i64 (lowD s1 l.length)]) (by simp only [results, Tryz.results49]; go_simp) rfl ⟨rfl, ?_⟩
 (repeat' (first | exact Below.refl _ _ | assumption | refine Below.setCell ?_ ?_ _ | refine below_drewN ?_ _ | refine Below.drew ?_ | refine Below.alloc ?_ ?_ _ | (with_reducible refine Below.trans ?_ (Below.mono hb ?_)) | (with_reducible refine Below.trans ?_ (Below.mono hb0 ?_)) | (with_reducible refine Below.trans ?_ (Below.mono hb1 ?_)) | (with_reducible refine Below.trans ?_ (Below.mono hb2 ?_)) | (with_reducible refine Below.trans ?_ (Below.mono hb3 ?_)) | (with_reducible refine Below.trans ?_ (Below.mono hb4 ?_)) | (with_reducible refine Below.trans ?_ (Below.mono hb5 ?_)) | (with_reducible refine Below.trans ?_ (Below.mono hb6 ?_)) | (with_reducible refine Below.trans ?_ (Below.mono hb7 ?_)) | (with_reducible refine Below.trans ?_ (Below.mono hb8 ?_)) | (with_reducible refine Below.trans ?_ (Below.mono hb9 ?_)) | (with_reducible refine Below.trans ?_ (Below.mono hb10 ?_)) | (with_reducible refine Below.trans ?_ (Below.mono hb11 ?_)) | (with_reducible refine Below.trans ?_ (Below.mono hb12 ?_)) | (with_reducible refine Below.trans ?_ (Below.mono hb13 ?_)) | (with_reducible refine Below.trans ?_ (Below.mono hb14 ?_)) | (with_reducible refine Below.trans ?_ (Below.mono hb15 ?_)) | omega | (simp; done) | (simp; omega)))
/-- The error of a look for a paper's marks. -/
def ofE (l : List Mark) (p : ByteArray) : Int := if marksFault l ≠ 0 then marksFault l else if sel (fun x => x.1) p l = [] then 8 else 0
def GivesOf (l : List Mark) (p : ByteArray) (w : World) (e : Ending) (w' : World) : Prop :=
 Below w.heap.size w w' ∧ ∃ a len cap, e = .returned (.tuple #[.slice a len cap, .int .i64 (ofE l p)]) ∧ (ofE l p = 0 → len = (sel (fun x => x.1) p l).length ∧ SA w' a (sel (fun x => x.1) p l) ∧ sel (fun x => x.1) p l ≠ [])
set_option maxHeartbeats 1000000 in
theorem ofPaper_any (l : List Mark) (a : Option Addr) (cap : Nat) (p : ByteArray) (w : World) (hs : SA w a l) (hl : l.length ≤ 100000) (hks : ∀ x ∈ l, x.1.size ≤ 1000 ∧ x.2.1.size ≤ 1000) :
  Calls Tryz.prog 48 #[.slice a l.length cap, .string p] w (GivesOf l p w) := by
 go_enter Tryz.func48, Tryz.ntmps48
 go_wp2_with fail
 refine (checked_any l a cap w hs (by omega) hks).mono ?_
 rintro e w1 ⟨hb1, h1⟩
 rcases h1 with ⟨h0, rfl⟩ | ⟨h0, sb, rfl, hsh, hsb⟩
 ·
  have h0' : (marksFault l != 0) = true := by simpa using h0
  have HE := Lib.hid (show ofE l p = marksFault l by unfold ofE; rw [if_pos h0])
  have H0 := Lib.hid h0
  clear h0
  go_wp2_with fail
  go_ret2
  exact ⟨hb1, none, 0, 0, by rw [HE.out]; rfl, fun h => absurd (HE.out.symm.trans h) H0.out⟩
 ·
  obtain ⟨b1, b2, base, a', cap', es1, es2, hst, hsa'⟩ := hsh
  have hS := hst.box
  have hlk := hst.one.look p
  have hval := hst.one.vals p
  obtain ⟨av, capv, hv, hsav, _, _⟩ := hval.sa
  rw [hv] at hlk
  have HE := Lib.hid (show ofE l p = if sel (fun x => x.1) p l = [] then 8 else 0 by unfold ofE; rw [if_neg (by simpa using h0)])
  clear hval hst hv h0
  generalize hms : sel (fun x => x.1) p l = ms at *
  have Hms := Lib.hid hms
  clear hms
  have hS_l := hS.lt; have hS_0 := hS.cell 0; have hS_1 := hS.cell 1; have hS_2 := hS.cell 2; simp at hS_0 hS_1 hS_2
  by_cases hm : ms = []
  ·
   subst hm
   rw [if_pos rfl] at HE
   go_wp2_with fail
   go_ret2
   exact ⟨hb1, none, 0, 0, by rw [HE.out]; rfl, fun h => by rw [HE.out] at h; cases h⟩
  ·
   rw [if_neg hm] at HE
   have hlp := List.length_pos_iff.2 hm
   have hne : ((ms.length : Int) == 0) = false := by simp; omega
   have Hm := Lib.hid hm
   clear hm
   go_wp2_with fail
   go_ret2
   exact ⟨hb1, av, ms.length, capv, by rw [HE.out]; rfl, fun _ => by rw [Hms.out]; exact ⟨rfl, hsav, Hm.out⟩⟩
/-- The mean that Mean gives. -/
def meanN (l : List Mark) (p : ByteArray) : Int := if ofE l p = 0 then lowN (sum1 (sel (fun x => x.1) p l)) (sel (fun x => x.1) p l).length else 0
def meanD (l : List Mark) (p : ByteArray) : Int := if ofE l p = 0 then lowD (sum1 (sel (fun x => x.1) p l)) (sel (fun x => x.1) p l).length else 0
set_option maxHeartbeats 1000000 in
theorem meanP_any (l : List Mark) (a : Option Addr) (cap : Nat) (p : ByteArray) (w : World) (hs : SA w a l) (hl : l.length ≤ 100000) (hks : ∀ x ∈ l, x.1.size ≤ 1000 ∧ x.2.1.size ≤ 1000) :
  Calls Tryz.prog 32 #[.slice a l.length cap, .string p] w (Gives (.tuple #[.agg #[.int .i64 (meanN l p), .int .i64 (meanD l p)], .int .i64 (ofE l p)]) w) := by
 go_enter Tryz.func32, Tryz.ntmps32
 go_wp2_with fail
 refine (ofPaper_any l a cap p _ (hs.alloc _) hl hks).mono ?_
 rintro e w1 ⟨hb1, av, len, capv, rfl, hof⟩
 have hz1 := hb1.size
 simp at hz1
 have hbo := (Box.new w 75 #[.int .i64 0, .int .i64 0]).below hb1
 by_cases h0 : ofE l p = 0
 ·
  obtain ⟨rfl, hsa, hne⟩ := hof h0
  have HN := Lib.hid (show meanN l p = _ by unfold meanN; rw [if_pos h0])
  have HD := Lib.hid (show meanD l p = _ by unfold meanD; rw [if_pos h0])
  have hfl : marksFault l = 0 := by
   unfold ofE at h0
   by_cases hf : marksFault l = 0
   ·
    exact hf
   ·
    rw [if_pos hf] at h0; exact absurd h0 hf
  have hok := okScores_sel (f := fun x => x.1) (p := p) (fault_scores hfl)
  have hsl : (sel (fun x => x.1) p l).length ≤ 100000 := Nat.le_trans (List.length_filter_le _ _) hl
  have hlp := List.length_pos_iff.2 hne
  have H0 := Lib.hid h0
  rw [h0]
  generalize meanN l p = mn at *
  generalize meanD l p = md at *
  generalize sel (fun x => x.1) p l = ms at *
  clear h0 hof hne hfl
  go_wp2_with fail
  refine (mean_any ms av capv w1 hsa hsl hlp hok).mono ?_
  rintro e w2 ⟨rfl, hb2⟩
  have hbo2 := hbo.below hb2
  have hz2 := hb2.size
  have hbo2_l := hbo2.lt; have hbo2_0 := hbo2.cell 0; have hbo2_1 := hbo2.cell 1; simp at hbo2_0 hbo2_1
  have hbo2_f0 := hbo2.frozen 0; have hbo2_f1 := hbo2.frozen 1
  unfold low
  rw [← HN.out, ← HD.out]
  go_wp2_with fail
  refine bodyPost_ret (v := .tuple #[.agg #[.int .i64 mn, .int .i64 md], .int .i64 0]) (by simp only [results, Tryz.results32]; go_simp) rfl ⟨by first | rfl | rw [H0.out], ?_⟩
  (repeat' (first | exact Below.refl _ _ | assumption | refine Below.setCell ?_ ?_ _ | refine below_drewN ?_ _ | refine Below.drew ?_ | refine Below.alloc ?_ ?_ _ | (with_reducible refine Below.trans ?_ (Below.mono hb ?_)) | (with_reducible refine Below.trans ?_ (Below.mono hb0 ?_)) | (with_reducible refine Below.trans ?_ (Below.mono hb1 ?_)) | (with_reducible refine Below.trans ?_ (Below.mono hb2 ?_)) | (with_reducible refine Below.trans ?_ (Below.mono hb3 ?_)) | (with_reducible refine Below.trans ?_ (Below.mono hb4 ?_)) | (with_reducible refine Below.trans ?_ (Below.mono hb5 ?_)) | (with_reducible refine Below.trans ?_ (Below.mono hb6 ?_)) | (with_reducible refine Below.trans ?_ (Below.mono hb7 ?_)) | (with_reducible refine Below.trans ?_ (Below.mono hb8 ?_)) | (with_reducible refine Below.trans ?_ (Below.mono hb9 ?_)) | (with_reducible refine Below.trans ?_ (Below.mono hb10 ?_)) | (with_reducible refine Below.trans ?_ (Below.mono hb11 ?_)) | (with_reducible refine Below.trans ?_ (Below.mono hb12 ?_)) | (with_reducible refine Below.trans ?_ (Below.mono hb13 ?_)) | (with_reducible refine Below.trans ?_ (Below.mono hb14 ?_)) | (with_reducible refine Below.trans ?_ (Below.mono hb15 ?_)) | omega | (simp; done) | (simp; omega)))
 ·
  have h0' : (ofE l p != 0) = true := by simpa using h0
  have HN := Lib.hid (show meanN l p = 0 by unfold meanN; rw [if_neg h0])
  have HD := Lib.hid (show meanD l p = 0 by unfold meanD; rw [if_neg h0])
  generalize meanN l p = mn at *
  generalize meanD l p = md at *
  obtain rfl := HN.out
  obtain rfl := HD.out
  clear h0 hof
  have hbo_l := hbo.lt; have hbo_0 := hbo.cell 0; have hbo_1 := hbo.cell 1; simp at hbo_0 hbo_1
  have hbo_f0 := hbo.frozen 0; have hbo_f1 := hbo.frozen 1
  go_wp2_with fail
  refine bodyPost_ret (v := .tuple #[.agg #[.int .i64 0, .int .i64 0], .int .i64 (ofE l p)]) (by simp only [results, Tryz.results32]; go_simp) rfl ⟨by first | rfl | rw [H0.out], ?_⟩
  (repeat' (first | exact Below.refl _ _ | assumption | refine Below.setCell ?_ ?_ _ | refine below_drewN ?_ _ | refine Below.drew ?_ | refine Below.alloc ?_ ?_ _ | (with_reducible refine Below.trans ?_ (Below.mono hb ?_)) | (with_reducible refine Below.trans ?_ (Below.mono hb0 ?_)) | (with_reducible refine Below.trans ?_ (Below.mono hb1 ?_)) | (with_reducible refine Below.trans ?_ (Below.mono hb2 ?_)) | (with_reducible refine Below.trans ?_ (Below.mono hb3 ?_)) | (with_reducible refine Below.trans ?_ (Below.mono hb4 ?_)) | (with_reducible refine Below.trans ?_ (Below.mono hb5 ?_)) | (with_reducible refine Below.trans ?_ (Below.mono hb6 ?_)) | (with_reducible refine Below.trans ?_ (Below.mono hb7 ?_)) | (with_reducible refine Below.trans ?_ (Below.mono hb8 ?_)) | (with_reducible refine Below.trans ?_ (Below.mono hb9 ?_)) | (with_reducible refine Below.trans ?_ (Below.mono hb10 ?_)) | (with_reducible refine Below.trans ?_ (Below.mono hb11 ?_)) | (with_reducible refine Below.trans ?_ (Below.mono hb12 ?_)) | (with_reducible refine Below.trans ?_ (Below.mono hb13 ?_)) | (with_reducible refine Below.trans ?_ (Below.mono hb14 ?_)) | (with_reducible refine Below.trans ?_ (Below.mono hb15 ?_)) | omega | (simp; done) | (simp; omega)))
set_option maxHeartbeats 1000000 in
theorem scores_any (w : World) : Calls Tryz.prog 11 #[] w (Gives (.bool true) w) := by
 have e1 : ofE [(⟨#[112]⟩, ⟨#[97]⟩, 7)] ⟨#[112]⟩ = 0 := by decide +kernel
 have e2 : meanN [(⟨#[112]⟩, ⟨#[97]⟩, 7)] ⟨#[112]⟩ = 7 := by decide +kernel
 have e3 : meanD [(⟨#[112]⟩, ⟨#[97]⟩, 7)] ⟨#[112]⟩ = 1 := by decide +kernel
 have hc := fun W (h : SA W (some ⟨w.heap.size, 0, none⟩) [((⟨#[112]⟩, ⟨#[97]⟩, 7) : Mark)]) => meanP_any [(⟨#[112]⟩, ⟨#[97]⟩, 7)] (some ⟨w.heap.size, 0, none⟩) 1 ⟨#[112]⟩ W h (by decide) (by simp; decide)
 rw [e1, e2, e3] at hc
 have HC := Lib.hid hc
 clear hc e1 e2 e3
 have hbo := Box.new w 51 #[.string ⟨#[112]⟩, .string ⟨#[97]⟩, .int .i64 7]
 go_enter Tryz.func11, Tryz.ntmps11
 go_wp2_with fail
 refine (HC.out _ (hbo.sa [((⟨#[112]⟩, ⟨#[97]⟩, 7) : Mark)] rfl)).mono ?_
 rintro e w1 ⟨rfl, hb1⟩
 have hz1 := hb1.size
 simp at hz1
 clear hbo HC
 go_wp2_with fail
 go_ret
 refine ⟨rfl, ?_⟩
 (repeat' (first | exact Below.refl _ _ | assumption | refine Below.setCell ?_ ?_ _ | refine below_drewN ?_ _ | refine Below.drew ?_ | refine Below.alloc ?_ ?_ _ | (with_reducible refine Below.trans ?_ (Below.mono hb ?_)) | (with_reducible refine Below.trans ?_ (Below.mono hb0 ?_)) | (with_reducible refine Below.trans ?_ (Below.mono hb1 ?_)) | (with_reducible refine Below.trans ?_ (Below.mono hb2 ?_)) | (with_reducible refine Below.trans ?_ (Below.mono hb3 ?_)) | (with_reducible refine Below.trans ?_ (Below.mono hb4 ?_)) | (with_reducible refine Below.trans ?_ (Below.mono hb5 ?_)) | (with_reducible refine Below.trans ?_ (Below.mono hb6 ?_)) | (with_reducible refine Below.trans ?_ (Below.mono hb7 ?_)) | (with_reducible refine Below.trans ?_ (Below.mono hb8 ?_)) | (with_reducible refine Below.trans ?_ (Below.mono hb9 ?_)) | (with_reducible refine Below.trans ?_ (Below.mono hb10 ?_)) | (with_reducible refine Below.trans ?_ (Below.mono hb11 ?_)) | (with_reducible refine Below.trans ?_ (Below.mono hb12 ?_)) | (with_reducible refine Below.trans ?_ (Below.mono hb13 ?_)) | (with_reducible refine Below.trans ?_ (Below.mono hb14 ?_)) | (with_reducible refine Below.trans ?_ (Below.mono hb15 ?_)) | omega | (simp; done) | (simp; omega)))
end Go.Proofs.YtcjcdbhobehlpaaGreatDoor

/-! Scores: sorted, summed, spread: the plain laws; slices.Sort of ints. -/
namespace Go.Proofs.YtcjcdbhobehlpaaGreatDoor
open Go.RowKit Go.Sort
set_option linter.unusedVariables false
set_option linter.unusedSimpArgs false

theorem ints_flatS (l : List Int) : l.map (Value.int .i64) = l.flatMap Cel.cells := by
 induction l with
 | nil => rfl
 | cons x r ih => rw [List.map_cons, List.flatMap_cons, ih]; rfl
/-- Numbers in their order. -/
def sortI (l : List Int) : List Int := l.mergeSort (fun x y => decide (x ≤ y))
theorem sortI_length (l : List Int) : (sortI l).length = l.length := by simp [sortI]
theorem sortI_perm (l : List Int) : (sortI l).Perm l := List.mergeSort_perm _ _
theorem sortI_mem (l : List Int) (p : Int) : p ∈ sortI l ↔ p ∈ l := (sortI_perm l).mem_iff
theorem perm_sum {a b : List Int} (h : a.Perm b) : a.sum = b.sum := by
 induction h with
 | nil => rfl
 | cons x _ ih => simp [ih]
 | swap x y l => simp; omega
 | trans _ _ h1 h2 => exact h1.trans h2
/-- The scores of marks. -/
def scL (ms : List Mark) : List Int := ms.map (fun m => m.2.2)
/-- Squares. -/
def sqI (l : List Int) : Int := (l.map (fun a => a * a)).sum
theorem sum1_scL (ms : List Mark) : sum1 ms = (scL ms).sum := rfl
theorem sum2_scL (ms : List Mark) : sum2 ms = sqI (scL ms) := by unfold sum2 sqI scL; rw [List.map_map]; rfl
theorem sqI_perm {a b : List Int} (h : a.Perm b) : sqI a = sqI b := perm_sum (h.map _)
/-- The squares of the differences of one number to all. -/
def dif1 (a : Int) (t : List Int) : Int := (t.map (fun b => (a - b) * (a - b))).sum
theorem dif1_eq (a : Int) : ∀ t : List Int, dif1 a t = t.length * (a * a) - 2 * a * t.sum + sqI t
 | [] => by simp [dif1, sqI]
 | b :: r => by
  have ih := dif1_eq a r
  have e1 : dif1 a (b :: r) = (a - b) * (a - b) + dif1 a r := by unfold dif1; rw [List.map_cons, List.sum_cons]
  have e2 : sqI (b :: r) = b * b + sqI r := by unfold sqI; rw [List.map_cons, List.sum_cons]
  rw [e1, e2, ih, List.length_cons, List.sum_cons]
  generalize sqI r = q
  generalize r.sum = s
  have : ((r.length + 1 : Nat) : Int) = (r.length : Int) + 1 := by omega
  rw [this]
  generalize (r.length : Int) = n
  grind
/-- The squares of the differences of numbers to all. -/
def dif2 (u t : List Int) : Int := (u.map (fun a => dif1 a t)).sum
theorem dif2_snoc (u t : List Int) (a : Int) : dif2 (u ++ [a]) t = dif2 u t + dif1 a t := by unfold dif2; simp
theorem dif1_snoc (a : Int) (t : List Int) (b : Int) : dif1 a (t ++ [b]) = dif1 a t + (a - b) * (a - b) := by unfold dif1; simp
theorem dif2_eq (t : List Int) : ∀ u : List Int, dif2 u t = t.length * sqI u - 2 * t.sum * u.sum + u.length * sqI t
 | [] => by simp [dif2, sqI]
 | a :: r => by
  have ih := dif2_eq t r
  have e1 : dif2 (a :: r) t = dif1 a t + dif2 r t := by unfold dif2; rw [List.map_cons, List.sum_cons]
  have e2 : sqI (a :: r) = a * a + sqI r := by unfold sqI; rw [List.map_cons, List.sum_cons]
  rw [e1, e2, ih, dif1_eq, List.length_cons, List.sum_cons]
  generalize sqI r = q
  generalize sqI t = qt
  generalize r.sum = s
  generalize t.sum = st
  have : ((r.length + 1 : Nat) : Int) = (r.length : Int) + 1 := by omega
  rw [this]
  generalize (r.length : Int) = n
  generalize (t.length : Int) = m
  grind
theorem dif2_self (t : List Int) : dif2 t t = 2 * (t.length * sqI t - t.sum * t.sum) := by
 rw [dif2_eq]
 generalize sqI t = q
 generalize t.sum = s
 generalize (t.length : Int) = n
 grind
theorem dif2_sort (ms : List Mark) : dif2 (sortI (scL ms)) (sortI (scL ms)) = 2 * ((ms.length : Int) * sum2 ms - sum1 ms * sum1 ms) := by
 rw [dif2_self, sortI_length, sqI_perm (sortI_perm _), perm_sum (sortI_perm _), ← sum2_scL, ← sum1_scL]
 unfold scL
 rw [List.length_map]
theorem low_double (x y : Int) : lowN (2 * x) (2 * y) = lowN x y ∧ lowD (2 * x) (2 * y) = lowD x y := by
 unfold lowN lowD
 have hg : (Int.gcd (2 * x) (2 * y) : Int) = 2 * (Int.gcd x y : Int) := by
  rw [Int.gcd_mul_left]; simp
 rw [hg]
 exact ⟨Int.mul_ediv_mul_of_pos _ _ (by omega), Int.mul_ediv_mul_of_pos _ _ (by omega)⟩
theorem ofE_fault {l : List Mark} {p : ByteArray} (h0 : ofE l p = 0) : marksFault l = 0 := by
 unfold ofE at h0
 by_cases hf : marksFault l = 0
 ·
  exact hf
 ·
  rw [if_pos hf] at h0; exact absurd h0 hf
def okI (l : List Int) : Prop := ∀ x ∈ l, 0 ≤ x ∧ x ≤ 10
theorem okI_scL {ms : List Mark} (h : okScores ms) : okI (scL ms) := fun x hx => by
 obtain ⟨m, hm, rfl⟩ := List.mem_map.1 hx; exact h m hm
theorem okI_sort {l : List Int} (h : okI l) : okI (sortI l) := fun x hx => h x ((sortI_mem l x).1 hx)
theorem okI_take {l : List Int} (h : okI l) (n : Nat) : okI (l.take n) := fun x hx => h x (List.mem_of_mem_take hx)
theorem sum_bd : ∀ {l : List Int}, okI l → 0 ≤ l.sum ∧ l.sum ≤ 10 * l.length
 | [], _ => by simp
 | x :: r, h => by
  have ih := sum_bd (l := r) (fun y hy => h y (by simp [hy]))
  have hx := h x (by simp)
  rw [List.sum_cons, List.length_cons]
  omega
theorem sqd_bd {a b : Int} (ha : 0 ≤ a ∧ a ≤ 10) (hb : 0 ≤ b ∧ b ≤ 10) : 0 ≤ (a - b) * (a - b) ∧ (a - b) * (a - b) ≤ 100 := by
 rcases Int.le_total b a with h | h
 ·
  exact sq_bd (x := a - b) (by omega) (by omega)
 ·
  have e : (a - b) * (a - b) = (b - a) * (b - a) := by grind
  rw [e]
  exact sq_bd (x := b - a) (by omega) (by omega)
theorem dif1_bd {a : Int} (ha : 0 ≤ a ∧ a ≤ 10) : ∀ {t : List Int}, okI t → 0 ≤ dif1 a t ∧ dif1 a t ≤ 100 * t.length
 | [], _ => by simp [dif1]
 | b :: r, h => by
  have ih := dif1_bd ha (t := r) (fun y hy => h y (by simp [hy]))
  have hb := sqd_bd ha (h b (by simp))
  have e1 : dif1 a (b :: r) = (a - b) * (a - b) + dif1 a r := by unfold dif1; rw [List.map_cons, List.sum_cons]
  rw [e1, List.length_cons]
  omega
theorem dif2_bd {t : List Int} (ht : okI t) (hl : t.length ≤ 1000) : ∀ {u : List Int}, okI u → 0 ≤ dif2 u t ∧ dif2 u t ≤ 100000 * u.length
 | [], _ => by simp [dif2]
 | a :: r, h => by
  have ih := dif2_bd ht hl (u := r) (fun y hy => h y (by simp [hy]))
  have hb := dif1_bd (h a (by simp)) ht
  have e1 : dif2 (a :: r) t = dif1 a t + dif2 r t := by unfold dif2; rw [List.map_cons, List.sum_cons]
  rw [e1, List.length_cons]
  omega
/-- Twice the median. -/
def medI (s : List Int) : Int := s.getD ((s.length - 1) / 2) 0 + s.getD (s.length / 2) 0
theorem mul_in {x y X Y : Int} (h1 : 0 ≤ x) (h2 : x ≤ X) (h3 : 0 ≤ y) (h4 : y ≤ Y) : 0 ≤ x * y ∧ x * y ≤ X * Y := ⟨Int.mul_nonneg h1 h3, Int.mul_le_mul h2 h4 h3 (by omega)⟩

end Go.Proofs.YtcjcdbhobehlpaaGreatDoor

/-! Scores: median, Median, Spread, PapersOf, PeopleOf of the program. -/
namespace Go.Proofs.YtcjcdbhobehlpaaGreatDoor
open Go.RowKit Go.Sort
set_option linter.unusedVariables false
set_option linter.unusedSimpArgs false

theorem half1 (n : Nat) (h : 1 ≤ n) : ((n : Int) - 1).tdiv 2 = (((n - 1) / 2 : Nat) : Int) := by
 rw [Int.tdiv_eq_ediv_of_nonneg (by omega)]; omega
theorem half2 (n : Nat) : (n : Int).tdiv 2 = ((n / 2 : Nat) : Int) := by
 rw [Int.tdiv_eq_ediv_of_nonneg (by omega)]; omega


/-- The spread that Spread gives. -/
def sprN (ms : List Mark) : Int := lowN ((ms.length : Int) * sum2 ms - sum1 ms * sum1 ms) (ms.length * ms.length)
def sprD (ms : List Mark) : Int := lowD ((ms.length : Int) * sum2 ms - sum1 ms * sum1 ms) (ms.length * ms.length)
end Go.Proofs.YtcjcdbhobehlpaaGreatDoor

/-! Scores of the reference: scoresOf, total, MeanOf, MedianOf, SpreadOfScores. -/
namespace Go.Proofs.YtcjcdbhobehlpaaGreatDoor
open Go.RowKit Go.Sort
set_option linter.unusedVariables false
set_option linter.unusedSimpArgs false


end Go.Proofs.YtcjcdbhobehlpaaGreatDoor
