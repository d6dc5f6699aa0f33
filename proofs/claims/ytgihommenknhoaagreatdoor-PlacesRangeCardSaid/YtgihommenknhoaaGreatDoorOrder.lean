/- What papers are ordered by: the plain laws. -/
import Derived.Test.YtgihommenknhoaaGreatDoorTab
import Derived.Test.YtgihommenknhoaaGreatDoorStable
/-! What papers are ordered by: the plain laws. -/
namespace Go.Proofs.YtgihommenknhoaaGreatDoor
open Go.RowKit Go.Sort
set_option linter.unusedVariables false
set_option linter.unusedSimpArgs false

/-- Two fractions, one behind the other. -/
abbrev V4 := Int × Int × Int × Int
/-- How many wins more than losses a paper has, in papers. -/
def balW (l : List Mark) (p : ByteArray) (qs : List ByteArray) : Int := (qs.map (fun q => cmpI (winsN l p q) (winsN l q p))).sum
theorem balW_snoc (l : List Mark) (p : ByteArray) (qs : List ByteArray) (q : ByteArray) : balW l p (qs ++ [q]) = balW l p qs + cmpI (winsN l p q) (winsN l q p) := by unfold balW; simp
theorem balW_bd (l : List Mark) (p : ByteArray) : ∀ qs : List ByteArray, -(qs.length : Int) ≤ balW l p qs ∧ balW l p qs ≤ qs.length
  | [] => by simp [balW]
  | q :: r => by
    have ih := balW_bd l p r
    have hb := cmpI_bd (winsN l p q) (winsN l q p)
    have e : balW l p (q :: r) = cmpI (winsN l p q) (winsN l q p) + balW l p r := by unfold balW; rw [List.map_cons, List.sum_cons]
    rw [e, List.length_cons]
    omega
theorem rowOf_get (l : List Mark) (ks : List ByteArray) {i k : Nat} (hi : i < ks.length) (hk : k < ks.length) : (rowOf l ks i).getD k 0 = winsN l ks[i] ks[k] := by
  unfold rowOf
  rw [List.getD_eq_getElem?_getD, List.getElem?_map, List.getElem?_eq_getElem hk, List.getD_eq_getElem?_getD, List.getElem?_eq_getElem hi]
  rfl
theorem balS_is (l : List Mark) (ks : List ByteArray) {i : Nat} (hi : i < ks.length) : ∀ k, k ≤ ks.length → balS (rowOf l ks) i k = balW l ks[i] (ks.take k)
  | 0, _ => by simp [balS, balW]
  | k + 1, hk => by
    have hkl : k < ks.length := by omega
    rw [balS, balS_is l ks hi k (by omega), rowOf_get l ks hi hkl, rowOf_get l ks hkl hi, List.take_succ_eq_append_getElem hkl, balW_snoc]
/-- What a paper is ordered by. -/
def valF (l : List Mark) (how : Int) (p : ByteArray) : V4 :=
  if how = 1 then (lowN (sum1 (ofP l p)) (ofP l p).length, lowD (sum1 (ofP l p)) (ofP l p).length, 0, 1)
  else if how = 2 then (medI (sortI (scL (ofP l p))), 1, lowN (sum1 (ofP l p)) (ofP l p).length, lowD (sum1 (ofP l p)) (ofP l p).length)
  else if how = 3 then (lowN (ptsN l p (ofP l p)) (max (ptsM l p (ofP l p)) 1), lowD (ptsN l p (ofP l p)) (max (ptsM l p (ofP l p)) 1), 0, 1)
  else if how = 4 then (balW l p (keysOf (fun x => x.1) l), 1, 0, 1)
  else ((bal l 20).1 p, 1, 0, 1)
def valV (v : V4) : Value := .agg #[.int .i64 v.1, .int .i64 v.2.1, .int .i64 v.2.2.1, .int .i64 v.2.2.2]
def vE (f : ByteArray → V4) (ks : List ByteArray) : List (ByteArray × Value) := ks.foldl (fun es p => mput es p (valV (f p))) []
theorem vE_snoc (f : ByteArray → V4) (ks : List ByteArray) (p : ByteArray) : vE f (ks ++ [p]) = mput (vE f ks) p (valV (f p)) := by unfold vE; rw [List.foldl_append]; rfl
open Classical in
theorem vE_getG (f : ByteArray → V4) (p : ByteArray) : ∀ (ks : List ByteArray) (es : List (ByteArray × Value)), mget (ks.foldl (fun es p => mput es p (valV (f p))) es) p = if p ∈ ks then some (valV (f p)) else mget es p
  | [], es => by simp
  | k :: r, es => by
    rw [List.foldl_cons, vE_getG f p r, mget_mput]
    by_cases h : p ∈ r
    · simp [h]
    · by_cases hk : k = p
      · subst hk; simp [h]
      · simp [h, hk, Ne.symm hk]
theorem vE_get (f : ByteArray → V4) {ks : List ByteArray} {p : ByteArray} (h : p ∈ ks) : mget (vE f ks) p = some (valV (f p)) := by unfold vE; rw [vE_getG, if_pos h]
theorem medI_bd {s : List Int} (h : okI s) : 0 ≤ medI s ∧ medI s ≤ 20 := by
  have h1 : ∀ k, 0 ≤ s.getD k 0 ∧ s.getD k 0 ≤ 10 := fun k => by
    rw [List.getD_eq_getElem?_getD]
    rcases Nat.lt_or_ge k s.length with hk | hk
    · rw [List.getElem?_eq_getElem hk]; exact h _ (List.getElem_mem hk)
    · rw [List.getElem?_eq_none hk]; simp
  unfold medI
  have := h1 ((s.length - 1) / 2)
  have := h1 (s.length / 2)
  omega
theorem valF_bd {l : List Mark} (h : marksFault l = 0) (hl : l.length ≤ 400) (how : Int) {p : ByteArray} (hp : ofP l p ≠ []) :
    ((valF l how p).1.natAbs ≤ 1000000000 ∧ 1 ≤ (valF l how p).2.1 ∧ (valF l how p).2.1 ≤ 1000000) ∧ ((valF l how p).2.2.1.natAbs ≤ 1000000000 ∧ 1 ≤ (valF l how p).2.2.2 ∧ (valF l how p).2.2.2 ≤ 1000000) := by
  have hok := okScores_sel (f := fun x => x.1) (p := p) (fault_scores h)
  have h12 := paper_few h p
  have hpos := List.length_pos_iff.2 hp
  have hsb := sums_bd hok
  have hs1 : 0 ≤ sum1 (ofP l p) ∧ sum1 (ofP l p) ≤ 10 * (ofP l p).length := ⟨hsb.1, hsb.2.1⟩
  have hd := lowD_bd (sum1 (ofP l p)) (ofP l p).length (by omega)
  have hn := lowN_bd (sum1 (ofP l p)) (ofP l p).length (by omega) (by omega)
  have hm : 0 ≤ medI (sortI (scL (ofP l p))) ∧ medI (sortI (scL (ofP l p))) ≤ 20 := medI_bd (okI_sort (okI_scL hok))
  have hpt := pts_bd l hl p (ofP l p)
  have hd3 := lowD_bd (ptsN l p (ofP l p)) (max (ptsM l p (ofP l p)) 1) (by omega)
  have hn3 := lowN_bd (ptsN l p (ofP l p)) (max (ptsM l p (ofP l p)) 1) (by omega) (by omega)
  have hbw := balW_bd l p (keysOf (fun x => x.1) l)
  have hkl := keysOf_length (fun x => x.1) l
  have hbal := ((bal_bd l (fault_scores h) 20).1 p)
  unfold valF
  split
  · exact ⟨⟨by simp only; omega, by simp only; omega, by simp only; omega⟩, by simp⟩
  · split
    · exact ⟨⟨by simp only; omega, by simp, by simp⟩, by simp only; omega, by simp only; omega, by simp only; omega⟩
    · split
      · exact ⟨⟨by simp only; omega, by simp only; omega, by simp only; omega⟩, by simp⟩
      · split
        · exact ⟨⟨by simp only; omega, by simp, by simp⟩, by simp⟩
        · exact ⟨⟨by simp only; omega, by simp, by simp⟩, by simp⟩
/-- The comparison of two papers, the better one first. -/
def cmpV (f : ByteArray → V4) (x y : ByteArray) : Int :=
  if cmpI ((f y).1 * (f x).2.1) ((f x).1 * (f y).2.1) ≠ 0 then cmpI ((f y).1 * (f x).2.1) ((f x).1 * (f y).2.1) else cmpI ((f y).2.2.1 * (f x).2.2.2) ((f x).2.2.1 * (f y).2.2.2)
/-- All papers, the best first. -/
def orderL (l : List Mark) (how : Int) : List ByteArray := isort (cmpV (valF l how)) (keysOf (fun x => x.1) l)
end Go.Proofs.YtgihommenknhoaaGreatDoor

/-! What papers are ordered by: whole, compareFractions, cmp.Or, values. -/
namespace Go.Proofs.YtgihommenknhoaaGreatDoor
open Go.RowKit Go.Sort
set_option linter.unusedVariables false
set_option linter.unusedSimpArgs false

theorem whole_any (n : Int) (w : World) : Calls Tryz.prog 162 #[.int .i64 n] w (Gives (.agg #[.int .i64 n, .int .i64 1]) w) := by
  go_enter Tryz.func162, Tryz.ntmps162
  go_wp2_with fail
  refine bodyPost_ret (v := .agg #[.int .i64 n, .int .i64 1]) (by simp only [results, Tryz.results162]; go_simp) rfl ⟨rfl, ?_⟩
  (repeat' (first | exact Below.refl _ _ | assumption | refine Below.setCell ?_ ?_ _ | refine below_drewN ?_ _ | refine Below.drew ?_ | refine Below.alloc ?_ ?_ _ | (with_reducible refine Below.trans ?_ (Below.mono hb ?_)) | (with_reducible refine Below.trans ?_ (Below.mono hb0 ?_)) | (with_reducible refine Below.trans ?_ (Below.mono hb1 ?_)) | (with_reducible refine Below.trans ?_ (Below.mono hb2 ?_)) | (with_reducible refine Below.trans ?_ (Below.mono hb3 ?_)) | (with_reducible refine Below.trans ?_ (Below.mono hb4 ?_)) | (with_reducible refine Below.trans ?_ (Below.mono hb5 ?_)) | (with_reducible refine Below.trans ?_ (Below.mono hb6 ?_)) | (with_reducible refine Below.trans ?_ (Below.mono hb7 ?_)) | (with_reducible refine Below.trans ?_ (Below.mono hb8 ?_)) | (with_reducible refine Below.trans ?_ (Below.mono hb9 ?_)) | (with_reducible refine Below.trans ?_ (Below.mono hb10 ?_)) | (with_reducible refine Below.trans ?_ (Below.mono hb11 ?_)) | (with_reducible refine Below.trans ?_ (Below.mono hb12 ?_)) | (with_reducible refine Below.trans ?_ (Below.mono hb13 ?_)) | (with_reducible refine Below.trans ?_ (Below.mono hb14 ?_)) | (with_reducible refine Below.trans ?_ (Below.mono hb15 ?_)) | omega | (simp; done) | (simp; omega)))
theorem cmpFrac_any (a b c d : Int) (w : World) (h1 : -4000000000000000000 ≤ a * d ∧ a * d ≤ 4000000000000000000) (h2 : -4000000000000000000 ≤ c * b ∧ c * b ≤ 4000000000000000000) :
    Calls Tryz.prog 70 #[.agg #[.int .i64 a, .int .i64 b], .agg #[.int .i64 c, .int .i64 d]] w (Gives (.int .i64 (cmpI (a * d) (c * b))) w) := by
  have HC := Lib.hid (fun W => Tryz.cmp_Compare_int (a * d) (c * b) W)
  rw [show Lib.compareInt (a * d) (c * b) = cmpI (a * d) (c * b) from rfl] at HC
  have hw1 : IntKind.i64.wrap (a * d) = a * d := IntWalk.i64_in _ (by omega)
  have hw2 : IntKind.i64.wrap (c * b) = c * b := IntWalk.i64_in _ (by omega)
  generalize cmpI (a * d) (c * b) = z at *
  go_enter Tryz.func70, Tryz.ntmps70
  go_wp2_with fail
  refine (HC.out _).mono ?_
  rintro e w' ⟨rfl, rfl⟩
  go_wp2_with fail
  go_ret
  refine ⟨rfl, ?_⟩
  (repeat' (first | exact Below.refl _ _ | assumption | refine Below.setCell ?_ ?_ _ | refine below_drewN ?_ _ | refine Below.drew ?_ | refine Below.alloc ?_ ?_ _ | (with_reducible refine Below.trans ?_ (Below.mono hb ?_)) | (with_reducible refine Below.trans ?_ (Below.mono hb0 ?_)) | (with_reducible refine Below.trans ?_ (Below.mono hb1 ?_)) | (with_reducible refine Below.trans ?_ (Below.mono hb2 ?_)) | (with_reducible refine Below.trans ?_ (Below.mono hb3 ?_)) | (with_reducible refine Below.trans ?_ (Below.mono hb4 ?_)) | (with_reducible refine Below.trans ?_ (Below.mono hb5 ?_)) | (with_reducible refine Below.trans ?_ (Below.mono hb6 ?_)) | (with_reducible refine Below.trans ?_ (Below.mono hb7 ?_)) | (with_reducible refine Below.trans ?_ (Below.mono hb8 ?_)) | (with_reducible refine Below.trans ?_ (Below.mono hb9 ?_)) | (with_reducible refine Below.trans ?_ (Below.mono hb10 ?_)) | (with_reducible refine Below.trans ?_ (Below.mono hb11 ?_)) | (with_reducible refine Below.trans ?_ (Below.mono hb12 ?_)) | (with_reducible refine Below.trans ?_ (Below.mono hb13 ?_)) | (with_reducible refine Below.trans ?_ (Below.mono hb14 ?_)) | (with_reducible refine Below.trans ?_ (Below.mono hb15 ?_)) | omega | (simp; done) | (simp; omega)))
/-- The first of two or three numbers that is not 0. -/
theorem or_any (l : List Int) (a : Option Addr) (cap : Nat) (w : World) (hs : SA w a l) (hl : l.length ≤ 1000) :
    Calls Tryz.prog 122 #[.slice a l.length cap] w (fun e w' => e = .returned (.int .i64 (firstOf l)) ∧ w' = w) := by
  go_enter Tryz.func122, Tryz.ntmps122
  go_wp2_with fail
  go_loopg [8] l.length (fun gk i wr => ∃ k : Nat, i = .int .i64 k ∧ k ≤ l.length ∧ Hid (gk = l.length - k) ∧ Hid (firstOf l = firstOf (l.drop k)) ∧ wr = w)
  case atStart => exact ⟨0, rfl, by omega, rfl, rfl, rfl⟩
  case round =>
    obtain ⟨k, rfl, hk, hgk, hf, rfl⟩ := hrel
    by_cases hlt : k < l.length
    · obtain ⟨b, off, ha, c0⟩ := hs.int hlt
      have hdr := List.drop_eq_getElem_cons hlt
      rw [hdr] at hf
      rw [ha]
      generalize l[k] = x at *
      clear hdr
      by_cases hx : x = 0
      · subst hx
        have Hf := Lib.hid (show firstOf l = firstOf (l.drop (k + 1)) by rw [hf.out]; rfl)
        clear hf
        go_wp2_with fail
        rw [← ha]
        go_roundg (l.length - (k + 1))
        case measure => have := hgk.out; omega
        case rel => exact ⟨k + 1, by go_num, by omega, rfl, Hf.out, rfl⟩
      · have hx' : (x != 0) = true := by simpa using hx
        have Hf := Lib.hid (show firstOf l = x by rw [hf.out]; unfold firstOf; rw [if_pos hx])
        clear hf
        go_wp2_with fail
        go_ret
        exact ⟨by rw [Hf.out] <;> rfl, rfl⟩
    · obtain rfl : k = l.length := by omega
      have Hf := Lib.hid (show firstOf l = 0 by rw [hf.out, List.drop_length]; rfl)
      clear hlt hf
      go_wp2_with fail
      go_ret
      exact ⟨by rw [Hf.out] <;> rfl, rfl⟩
end Go.Proofs.YtgihommenknhoaaGreatDoor

/-! What papers are ordered by: values of the program. -/
namespace Go.Proofs.YtgihommenknhoaaGreatDoor
open Go.RowKit Go.Sort
set_option linter.unusedVariables false
set_option linter.unusedSimpArgs false

theorem MBox.ne_box {w : World} {b b' : Nat} {es : List (ByteArray × Value)} {T : TypeId} {vs : Array Value} (h : MBox w b es) (k : Box w b' T vs) : b' ≠ b := by
  rintro rfl
  obtain ⟨e1, c1, h1, _⟩ := h
  unfold Box at k
  rw [h1] at k
  cases k
theorem SA.kpm {α : Type} [Cel α] {w w' : World} {a : Option Addr} {l : List α} {b : Nat} {es : List (ByteArray × Value)} (h : SA w a l) (hm : MBox w b es) (hk : Kp (· = b) w w') : SA w' a l := by
  rcases h with h | ⟨b', off, rfl, h⟩
  · exact .inl h
  · by_cases hl : l = []
    · exact .inl hl
    · refine .inr ⟨b', off, rfl, h.same (hk.block b' (h.lt hl) ?_)⟩
      rintro rfl
      obtain ⟨e1, c1, h1, _⟩ := hm
      cases l with
      | nil => exact hl rfl
      | cons x r =>
        have h0 := h 0 0 x rfl Cel.pos
        have hx := Cel.len x
        have hp := Cel.pos (α := α)
        rw [List.getElem?_eq_getElem (by omega)] at h0
        simp [World.cell?, h1] at h0
theorem TabAt.kpm {w w' : World} {tb : Nat} {ks : List ByteArray} {f : Nat → List Int} {b : Nat} {es : List (ByteArray × Value)} (h : TabAt w tb ks f) (hm : MBox w b es) (hk : Kp (· = b) w w') : TabAt w' tb ks f := by
  obtain ⟨aK, capK, aW, capW, hdrs, h1, h2, h3, h4, h5⟩ := h
  exact ⟨aK, capK, aW, capW, hdrs, h1.kp hk (hm.ne_box h1), h2.kpm hm hk, h3.kpm hm hk, h4, fun i hi => ⟨(h5 i hi).1, (h5 i hi).2.kpm hm hk⟩⟩
set_option maxRecDepth 100000 in
set_option maxHeartbeats 4000000 in
theorem values_any (sb b1 b2 base : Nat) (a : Option Addr) (cap : Nat) (l : List Mark) (es1 es2 : List (ByteArray × Value)) (how : Int) (w : World) (hst : ShSt sb b1 b2 base a l.length cap l l es1 es2 w) (h0 : marksFault l = 0) (hl : l.length ≤ 400) (hks : ∀ x ∈ l, x.1.size ≤ 1000 ∧ x.2.1.size ≤ 1000) (hh1 : 1 ≤ how) (hh2 : how ≤ 5) (ks : List ByteArray) (hkk : keysOf (fun x => x.1) l = ks) (f : ByteArray → V4) (hff : valF l how = f) :
    Calls Tryz.prog 118 #[.pointer (some ⟨sb, 0, none⟩), .int .i64 how] w (fun e w' => e = .returned (.map (some w.heap.size)) ∧ MBox w' w.heap.size (vE f ks) ∧ Below w.heap.size w w') := by
  have hmm := @run_makeMap Tryz.prog
  have H0 := Lib.hid h0
  have Hmem : Hid (∀ p ∈ ks, sel (fun x => x.1) p l ≠ []) := fun p hp h => by
    rw [← hkk, keysOf_mem] at hp
    exact sel_nil.1 h hp
  have HF : Hid (∀ p, f p = valF l how p) := fun p => by rw [← hff]
  have hst1 := hst.below (w' := w.alloc (.map #[] 0)) (by (repeat' (first | exact Below.refl _ _ | assumption | refine Below.setCell ?_ ?_ _ | refine below_drewN ?_ _ | refine Below.drew ?_ | refine Below.alloc ?_ ?_ _ | (with_reducible refine Below.trans ?_ (Below.mono hb ?_)) | (with_reducible refine Below.trans ?_ (Below.mono hb0 ?_)) | (with_reducible refine Below.trans ?_ (Below.mono hb1 ?_)) | (with_reducible refine Below.trans ?_ (Below.mono hb2 ?_)) | (with_reducible refine Below.trans ?_ (Below.mono hb3 ?_)) | (with_reducible refine Below.trans ?_ (Below.mono hb4 ?_)) | (with_reducible refine Below.trans ?_ (Below.mono hb5 ?_)) | (with_reducible refine Below.trans ?_ (Below.mono hb6 ?_)) | (with_reducible refine Below.trans ?_ (Below.mono hb7 ?_)) | (with_reducible refine Below.trans ?_ (Below.mono hb8 ?_)) | (with_reducible refine Below.trans ?_ (Below.mono hb9 ?_)) | (with_reducible refine Below.trans ?_ (Below.mono hb10 ?_)) | (with_reducible refine Below.trans ?_ (Below.mono hb11 ?_)) | (with_reducible refine Below.trans ?_ (Below.mono hb12 ?_)) | (with_reducible refine Below.trans ?_ (Below.mono hb13 ?_)) | (with_reducible refine Below.trans ?_ (Below.mono hb14 ?_)) | (with_reducible refine Below.trans ?_ (Below.mono hb15 ?_)) | omega | (simp; done) | (simp; omega))))
  have hM1 := MBox.new w
  have hb1 : Below w.heap.size w (w.alloc (.map #[] 0)) := by (repeat' (first | exact Below.refl _ _ | assumption | refine Below.setCell ?_ ?_ _ | refine below_drewN ?_ _ | refine Below.drew ?_ | refine Below.alloc ?_ ?_ _ | (with_reducible refine Below.trans ?_ (Below.mono hb ?_)) | (with_reducible refine Below.trans ?_ (Below.mono hb0 ?_)) | (with_reducible refine Below.trans ?_ (Below.mono hb1 ?_)) | (with_reducible refine Below.trans ?_ (Below.mono hb2 ?_)) | (with_reducible refine Below.trans ?_ (Below.mono hb3 ?_)) | (with_reducible refine Below.trans ?_ (Below.mono hb4 ?_)) | (with_reducible refine Below.trans ?_ (Below.mono hb5 ?_)) | (with_reducible refine Below.trans ?_ (Below.mono hb6 ?_)) | (with_reducible refine Below.trans ?_ (Below.mono hb7 ?_)) | (with_reducible refine Below.trans ?_ (Below.mono hb8 ?_)) | (with_reducible refine Below.trans ?_ (Below.mono hb9 ?_)) | (with_reducible refine Below.trans ?_ (Below.mono hb10 ?_)) | (with_reducible refine Below.trans ?_ (Below.mono hb11 ?_)) | (with_reducible refine Below.trans ?_ (Below.mono hb12 ?_)) | (with_reducible refine Below.trans ?_ (Below.mono hb13 ?_)) | (with_reducible refine Below.trans ?_ (Below.mono hb14 ?_)) | (with_reducible refine Below.trans ?_ (Below.mono hb15 ?_)) | omega | (simp; done) | (simp; omega)))
  have hS1 := hst1.box
  clear h0 hff
  have hS1_l := hS1.lt; have hS1_0 := hS1.cell 0; have hS1_1 := hS1.cell 1; have hS1_2 := hS1.cell 2; simp at hS1_0 hS1_1 hS1_2
  go_enter Tryz.func118, Tryz.ntmps118
  go_wp2_with fail
  refine (keys_any b1 base (fun x => x.1) l es1 _ hst1.one (by omega) (fun x hx => (hks x hx).1)).mono ?_
  rintro e wk ⟨vk, rfl, hownk, hbk0⟩
  clear hS1_l hS1_0 hS1_1 hS1_2
  rw [hkk] at hownk
  obtain ⟨aK, capK, rfl, hsaK, hbK, _⟩ := hownk.sa
  have hkl := keysOf_length (fun x => x.1) l
  rw [hkk] at hkl
  have Hkk := Lib.hid hkk
  have hzk0 := hbk0.size
  simp at hzk0
  have hMk := hM1.below hbk0
  have hbk := below_next hb1 hbk0
  have HbK : Hid (∀ x : Addr, aK = some x → w.heap.size < x.block ∧ x.block < wk.heap.size) := fun x hx => by have := hbK x hx; simp at this; omega
  have hzs : wk.heap.size ≤ wk.heap.size := Nat.le_refl _
  clear hownk hbK hS1 hst1 hM1 hb1 hbk0 hkk hmm
  have hcase : how = 1 ∨ how = 2 ∨ how = 3 ∨ how = 4 ∨ how = 5 := by omega
  rcases hcase with rfl | rfl | rfl | rfl | rfl
  · go_wp2_with fail
    go_loopg [53] ks.length (fun gk i wr => ∃ k : Nat, i = .int .i64 k ∧ k ≤ ks.length ∧ Hid (gk = ks.length - k) ∧ MBox wr w.heap.size (vE f (ks.take k)) ∧ SA wr aK ks ∧ Below w.heap.size w wr ∧ wk.heap.size ≤ wr.heap.size)
    case atStart => exact ⟨0, rfl, by omega, rfl, hMk, hsaK, hbk, hzs⟩
    clear hMk hsaK hbk hzs
    obtain ⟨k, rfl, hk, hgk, hM, hsaK, hb, hz⟩ := hrel
    have hzr := hb.size
    by_cases hlt : k < ks.length
    · obtain ⟨kb, koff, haK, ck⟩ := hsaK.str hlt
      have htake := List.take_succ_eq_append_getElem hlt
      have Hsn := Lib.hid (vE_snoc f (ks.take k) ks[k])
      rw [← htake] at Hsn
      have hpm := Hmem.out ks[k] (List.getElem_mem hlt)
      have HaK := Lib.hid haK
      rw [haK]
      clear haK htake
      generalize vE f (ks.take k) = es at *
      have Hf := Lib.hid (HF.out ks[k])
      generalize hpk : ks[k] = p at *
      generalize hfp : f p = v4 at *
      clear hfp
      have hstr := hst.below hb
      have hS := hstr.box
      have hlk := hstr.one.look p
      have hval := hst.one.vals p
      obtain ⟨av, capv, hv, hsavw, _, _⟩ := hval.sa
      have hsav := hsavw.below hb
      rw [hv] at hlk
      have hok := okScores_sel (f := fun x => x.1) (p := p) (fault_scores H0.out)
      have h12 : (sel (fun x => x.1) p l).length ≤ 12 := paper_few H0.out p
      have hposm := List.length_pos_iff.2 hpm
      have HLK : Hid (∀ W, Below w.heap.size w W → (Instr.lookup 93 (.map (some b1)) (.string p) false).run Tryz.prog W = .ok (.slice av (sel (fun x => x.1) p l).length capv) W) := fun W hW => by rw [(hst.below hW).one.look p, hv]
      clear hval hv
      have Hv4 := Lib.hid (show v4 = (lowN (sum1 (sel (fun x => x.1) p l)) (sel (fun x => x.1) p l).length, lowD (sum1 (sel (fun x => x.1) p l)) (sel (fun x => x.1) p l).length, 0, 1) from Hf.out)
      clear Hf
      generalize sel (fun x => x.1) p l = ms at *
      have HME := Lib.hid (mean_any ms av capv wr hsav (by omega) hposm hok)
      unfold low at HME
      generalize lowN (sum1 ms) ms.length = q1 at *
      generalize lowD (sum1 ms) ms.length = q2 at *
      clear hok hsav hstr
      have hS_l := hS.lt; have hS_0 := hS.cell 0; have hS_1 := hS.cell 1; have hS_2 := hS.cell 2; simp at hS_0 hS_1 hS_2
      go_wp2_with fail
      refine HME.out.mono ?_
      rintro e wa ⟨rfl, hba⟩
      clear hS_l hS_0 hS_1 hS_2
      clear hlk hS
      go_wp2_with fail
      refine (zeroC_any _).mono ?_
      rintro e wb ⟨rfl, hbb⟩
      have hbab := below_next hba hbb
      have hMx := hM.below hbab
      have hbx := hb.trans (hbab.mono hb.size)
      have hsaKx := hsaK.below hbab
      have hzx := hbab.size
      clear hM hb hsaK hba hbb hbab
      go_wp2_with (at_mapUpdate; refine wpList_mapUpdate_box rfl _ _ _ _ rfl _ _ Tryz.underlying158 Tryz.underlying9 w.heap.size _ rfl hMx p rfl (valV (q1, q2, 0, 1)) rfl ?_; intro W5 hM5 hg5 hs5)
      have hb5 : Below w.heap.size w W5 := hbx.grown hg5 hbx.size (by rintro j hj; cases hj; omega)
      have hsa5 : SA W5 aK ks := hsaKx.grownS hg5 (fun x hx e => by have := HbK.out x hx; have e' := Option.some.inj e; omega)
      clear hMx hbx hsaKx hg5
      go_wp2_with fail
      rw [← HaK.out]
      go_roundg (ks.length - (k + 1))
      case measure => have := hgk.out; omega
      case rel => exact ⟨k + 1, by go_num, by omega, rfl, by rw [Hsn.out, Hv4.out]; exact hM5, hsa5, hb5, by omega⟩
    · obtain rfl : k = ks.length := by omega
      rw [List.take_length] at hM
      clear hlt
      go_wp2_with fail
      go_ret
      exact ⟨rfl, hM, hb⟩
  · go_wp2_with fail
    go_loopg [73] ks.length (fun gk i wr => ∃ k : Nat, i = .int .i64 k ∧ k ≤ ks.length ∧ Hid (gk = ks.length - k) ∧ MBox wr w.heap.size (vE f (ks.take k)) ∧ SA wr aK ks ∧ Below w.heap.size w wr ∧ wk.heap.size ≤ wr.heap.size)
    case atStart => exact ⟨0, rfl, by omega, rfl, hMk, hsaK, hbk, hzs⟩
    clear hMk hsaK hbk hzs
    obtain ⟨k, rfl, hk, hgk, hM, hsaK, hb, hz⟩ := hrel
    have hzr := hb.size
    by_cases hlt : k < ks.length
    · obtain ⟨kb, koff, haK, ck⟩ := hsaK.str hlt
      have htake := List.take_succ_eq_append_getElem hlt
      have Hsn := Lib.hid (vE_snoc f (ks.take k) ks[k])
      rw [← htake] at Hsn
      have hpm := Hmem.out ks[k] (List.getElem_mem hlt)
      have HaK := Lib.hid haK
      rw [haK]
      clear haK htake
      generalize vE f (ks.take k) = es at *
      have Hf := Lib.hid (HF.out ks[k])
      generalize hpk : ks[k] = p at *
      generalize hfp : f p = v4 at *
      clear hfp
      have hstr := hst.below hb
      have hS := hstr.box
      have hlk := hstr.one.look p
      have hval := hst.one.vals p
      obtain ⟨av, capv, hv, hsavw, _, _⟩ := hval.sa
      have hsav := hsavw.below hb
      rw [hv] at hlk
      have hok := okScores_sel (f := fun x => x.1) (p := p) (fault_scores H0.out)
      have h12 : (sel (fun x => x.1) p l).length ≤ 12 := paper_few H0.out p
      have hposm := List.length_pos_iff.2 hpm
      have HLK : Hid (∀ W, Below w.heap.size w W → (Instr.lookup 93 (.map (some b1)) (.string p) false).run Tryz.prog W = .ok (.slice av (sel (fun x => x.1) p l).length capv) W) := fun W hW => by rw [(hst.below hW).one.look p, hv]
      clear hval hv
      have Hv4 := Lib.hid (show v4 = (medI (sortI (scL (sel (fun x => x.1) p l))), 1, lowN (sum1 (sel (fun x => x.1) p l)) (sel (fun x => x.1) p l).length, lowD (sum1 (sel (fun x => x.1) p l)) (sel (fun x => x.1) p l).length) from Hf.out)
      clear Hf
      generalize sel (fun x => x.1) p l = ms at *
      have HME := Lib.hid (fun W (h : SA W av ms) => mean_any ms av capv W h (by omega) hposm hok)
      have HMD := Lib.hid (fun W (h : SA W av ms) => median_any ms av capv W h (by omega) hposm hok)
      unfold low at HME
      generalize lowN (sum1 ms) ms.length = q1 at *
      generalize lowD (sum1 ms) ms.length = q2 at *
      generalize medI (sortI (scL ms)) = md at *
      clear hok hsav hstr
      have hS_l := hS.lt; have hS_0 := hS.cell 0; have hS_1 := hS.cell 1; have hS_2 := hS.cell 2; simp at hS_0 hS_1 hS_2
      have hlk0 := HLK.out _ hb.drew
      go_wp2_with fail
      refine wp_region_held_drew (S := (fun wx => wx.cell? ⟨sb, 1, none⟩ = some (.map (some b1)) ∧ (Instr.lookup 93 (.map (some b1)) (.string p) false).run Tryz.prog wx = .ok (.slice av ms.length capv) wx ∧ Below w.heap.size w wx)) (by kernel_rfl) ?hS (fun hHeld => ?_)
      case hS => exact ⟨hS_1, hlk0, hb.drew⟩
      refine rtake (i := 0) (d := (some 77)) (v := ?_) rfl (by kernel_rfl) (by kernel_rfl) (by kernel_rfl) (by kernel_rfl) (fun _ _ _ h => h) (by kernel_rfl) (by assumption) ?_ ?_
      rotate_left 1
      · (intro wI hSI; (try dsimp only at hSI); go_simp; (try with_reducible rfl))
      simp only [Act.put, List.setIfInBounds_toArray, List.set_cons_zero, List.set_cons_succ]
      refine rtake (i := 1) (d := (some 78)) (v := ?_) rfl (by kernel_rfl) (by kernel_rfl) (by kernel_rfl) (by kernel_rfl) (fun _ _ _ h => h) (by kernel_rfl) (by assumption) ?_ ?_
      rotate_left 1
      · (intro wI hSI; (try dsimp only at hSI); go_simp; (try with_reducible rfl))
      simp only [Act.put, List.setIfInBounds_toArray, List.set_cons_zero, List.set_cons_succ]
      refine rtake (i := 2) (d := (some 79)) (v := ?_) rfl (by kernel_rfl) (by kernel_rfl) (by kernel_rfl) (by kernel_rfl) (fun _ _ _ h => h) (by kernel_rfl) (by assumption) ?_ ?_
      rotate_left 1
      · (intro wI hSI; (try dsimp only at hSI); go_simp; (try with_reducible rfl))
      simp only [Act.put, List.setIfInBounds_toArray, List.set_cons_zero, List.set_cons_succ]
      refine rtake (i := 3) (d := (some 80)) (v := ?_) rfl (by kernel_rfl) (by kernel_rfl) (by kernel_rfl) (by kernel_rfl) (fun _ _ _ h => h) (by kernel_rfl) (by assumption) ?_ ?_
      rotate_left 1
      · (intro wI hSI; (try dsimp only at hSI); go_simp; (try with_reducible rfl))
      simp only [Act.put, List.setIfInBounds_toArray, List.set_cons_zero, List.set_cons_succ]
      refine rtake (i := 4) (d := (some 81)) (v := ?_) rfl (by kernel_rfl) (by kernel_rfl) (by kernel_rfl) (by kernel_rfl) (fun _ _ _ h => h) (by kernel_rfl) (by assumption) ?_ ?_
      rotate_left 1
      · (intro wI hSI; (try dsimp only at hSI); go_simp; (try with_reducible rfl))
      simp only [Act.put, List.setIfInBounds_toArray, List.set_cons_zero, List.set_cons_succ]
      refine rtake (i := 5) (d := (some 82)) (v := ?_) rfl (by kernel_rfl) (by kernel_rfl) (by kernel_rfl) (by kernel_rfl) (fun _ _ _ h => h) (by kernel_rfl) (by assumption) ?_ ?_
      rotate_left 1
      · (intro wI hSI; (try dsimp only at hSI); go_simp; (try with_reducible rfl))
      simp only [Act.put, List.setIfInBounds_toArray, List.set_cons_zero, List.set_cons_succ]
      refine rtake (i := 6) (d := (some 83)) (v := ?_) rfl (by kernel_rfl) (by kernel_rfl) (by kernel_rfl) (by kernel_rfl) (fun _ _ _ h => h) (by kernel_rfl) (by assumption) ?_ ?_
      rotate_left 1
      · (intro wI hSI; (try dsimp only at hSI); go_simp; (try with_reducible rfl))
      simp only [Act.put, List.setIfInBounds_toArray, List.set_cons_zero, List.set_cons_succ]
      refine rtake (i := 7) (d := (some 84)) (v := ?_) rfl (by kernel_rfl) (by kernel_rfl) (by kernel_rfl) (by kernel_rfl) (fun _ _ _ h => h) (by kernel_rfl) (by assumption) ?_ ?_
      rotate_left 1
      · (intro wI hSI; (try dsimp only at hSI); go_simp; (try with_reducible rfl))
      simp only [Act.put, List.setIfInBounds_toArray, List.set_cons_zero, List.set_cons_succ]
      refine rtake (i := 10) (d := (some 87)) (v := ?_) rfl (by kernel_rfl) (by kernel_rfl) (by kernel_rfl) (by kernel_rfl) (fun _ _ _ h => h) (by kernel_rfl) (by assumption) ?_ ?_
      rotate_left 1
      · (intro wI hSI; (try dsimp only at hSI); go_simp; (try with_reducible rfl))
      simp only [Act.put, List.setIfInBounds_toArray, List.set_cons_zero, List.set_cons_succ]
      refine rtake (i := 11) (d := (some 88)) (v := ?_) rfl (by kernel_rfl) (by kernel_rfl) (by kernel_rfl) (by kernel_rfl) (fun _ _ _ h => h) (by kernel_rfl) (by assumption) ?_ ?_
      rotate_left 1
      · (intro wI hSI; (try dsimp only at hSI); go_simp; (try with_reducible rfl))
      simp only [Act.put, List.setIfInBounds_toArray, List.set_cons_zero, List.set_cons_succ]
      refine rtake (i := 12) (d := (some 89)) (v := ?_) rfl (by kernel_rfl) (by kernel_rfl) (by kernel_rfl) (by kernel_rfl) (fun _ _ _ h => h) (by kernel_rfl) (by assumption) ?_ ?_
      rotate_left 1
      · (intro wI hSI; (try dsimp only at hSI); go_simp; (try with_reducible rfl))
      simp only [Act.put, List.setIfInBounds_toArray, List.set_cons_zero, List.set_cons_succ]
      refine rtake (i := 13) (d := (some 90)) (v := ?_) rfl (by kernel_rfl) (by kernel_rfl) (by kernel_rfl) (by kernel_rfl) (fun _ _ _ h => h) (by kernel_rfl) (by assumption) ?_ ?_
      rotate_left 1
      · (intro wI hSI; (try dsimp only at hSI); go_simp; (try with_reducible rfl))
      simp only [Act.put, List.setIfInBounds_toArray, List.set_cons_zero, List.set_cons_succ]
      refine rtake (i := 14) (d := (some 91)) (v := ?_) rfl (by kernel_rfl) (by kernel_rfl) (by kernel_rfl) (by kernel_rfl) (fun _ _ _ h => h) (by kernel_rfl) (by assumption) ?_ ?_
      rotate_left 1
      · (intro wI hSI; (try dsimp only at hSI); go_simp; (try with_reducible rfl))
      simp only [Act.put, List.setIfInBounds_toArray, List.set_cons_zero, List.set_cons_succ]
      refine rtake (i := 15) (d := (some 92)) (v := ?_) rfl (by kernel_rfl) (by kernel_rfl) (by kernel_rfl) (by kernel_rfl) (fun _ _ _ h => h) (by kernel_rfl) (by assumption) ?_ ?_
      rotate_left 1
      · (intro wI hSI; (try dsimp only at hSI); go_simp; (try with_reducible rfl))
      simp only [Act.put, List.setIfInBounds_toArray, List.set_cons_zero, List.set_cons_succ]
      refine rcall (i := 8) (d := (some 85)) (by kernel_rfl) rfl (by kernel_rfl) (fun K hK => ?_)
      go_simp
      go_at_call 163; refine (HMD.out _ (hsavw.below hHeld.2.2)).mono ?_; rintro e wa ⟨rfl, hba⟩
      refine hK.out _ _ ?hS (fun hHeld => ?_)
      case hS => exact ⟨cell_later hba hHeld.1, HLK.out _ (below_next hHeld.2.2 hba), below_next hHeld.2.2 hba⟩
      clear hK K
      simp only [Act.put, List.setIfInBounds_toArray, List.set_cons_zero, List.set_cons_succ]
      refine rcall (i := 9) (d := (some 86)) (by kernel_rfl) rfl (by kernel_rfl) (fun K hK => ?_)
      go_simp
      go_at_call 162; refine (whole_any md _).mono ?_; rintro e wb ⟨rfl, hbb⟩
      refine hK.out _ _ ?hS (fun hHeld => ?_)
      case hS => exact ⟨cell_later hbb hHeld.1, HLK.out _ (below_next hHeld.2.2 hbb), below_next hHeld.2.2 hbb⟩
      clear hK K
      simp only [Act.put, List.setIfInBounds_toArray, List.set_cons_zero, List.set_cons_succ]
      refine rcall (i := 16) (d := (some 93)) (by kernel_rfl) rfl (by kernel_rfl) (fun K hK => ?_)
      go_simp
      go_at_call 139; refine (HME.out _ (hsavw.below hHeld.2.2)).mono ?_; rintro e wc ⟨rfl, hbc⟩
      refine hK.out _ _ ?hS (fun hHeld => ?_)
      case hS => exact ⟨cell_later hbc hHeld.1, HLK.out _ (below_next hHeld.2.2 hbc), below_next hHeld.2.2 hbc⟩
      clear hK K
      simp only [Act.put, List.setIfInBounds_toArray, List.set_cons_zero, List.set_cons_succ]
      refine rtake (i := 17) (d := (some 94)) (v := ?_) rfl (by kernel_rfl) (by kernel_rfl) (by kernel_rfl) (by kernel_rfl) (fun _ _ _ h => h) (by kernel_rfl) (by assumption) ?_ ?_
      rotate_left 1
      · (intro wI hSI; (try dsimp only at hSI); go_simp; (try with_reducible rfl))
      simp only [Act.put, List.setIfInBounds_toArray, List.set_cons_zero, List.set_cons_succ]
      have hbab := below_next (below_next hba hbb) hbc
      have hMx := hM.drew.below hbab
      have hbx := hHeld.2.2
      have hsaKx := hsaK.drew.below hbab
      have hzx := hbab.size
      have hzx2 : wr.heap.size ≤ wc.heap.size := hzx
      refine rcall (i := 18) (d := none) (by kernel_rfl) rfl (by kernel_rfl) (fun K hK => ?_)
      refine step_mapUpdate_box rfl _ _ _ _ rfl _ _ Tryz.underlying158 Tryz.underlying9 w.heap.size _ rfl hMx p rfl (valV (md, 1, q1, q2)) rfl ?_; intro W5 hM5 hg5 hs5; have hb5 : Below w.heap.size w W5 := hbx.grown hg5 hbx.size (by rintro j hj; cases hj; omega); have hSb : sb < w.heap.size := hst.box.lt; have hSc : W5.cell? ⟨sb, 1, none⟩ = some (.map (some b1)) := by rw [hb5.cell (p := ⟨sb, 1, none⟩) hSb]; exact hst.box.cell 1
      refine hK.out undef _ ?hS (fun hHeld => ?_)
      case hS => exact ⟨hSc, HLK.out _ hb5, hb5⟩
      clear hK K
      simp only [Act.put, List.setIfInBounds_toArray, List.set_cons_zero, List.set_cons_succ]
      refine wpAnyH_done (by kernel_rfl) ?_ _
      have hsa5 : SA W5 aK ks := hsaKx.grownS hg5 (fun x hx e => by have := HbK.out x hx; have e' := Option.some.inj e; omega)
      clear hS_l hS_0 hS_1 hS_2
      clear hlk hlk0 hS hMx hbx hsaKx hg5 hHeld hSc hM hsaK hb hba hbb hbc hbab
      go_wp2_with fail
      rw [← HaK.out]
      go_roundg (ks.length - (k + 1))
      case measure => have := hgk.out; omega
      case rel => exact ⟨k + 1, by go_num, by omega, rfl, by rw [Hsn.out, Hv4.out]; exact hM5, hsa5, hb5, by omega⟩
    · obtain rfl : k = ks.length := by omega
      rw [List.take_length] at hM
      clear hlt
      go_wp2_with fail
      go_ret
      exact ⟨rfl, hM, hb⟩
  · go_wp2_with fail
    go_loopg [100] ks.length (fun gk i wr => ∃ k : Nat, i = .int .i64 k ∧ k ≤ ks.length ∧ Hid (gk = ks.length - k) ∧ MBox wr w.heap.size (vE f (ks.take k)) ∧ SA wr aK ks ∧ Below w.heap.size w wr ∧ wk.heap.size ≤ wr.heap.size)
    case atStart => exact ⟨0, rfl, by omega, rfl, hMk, hsaK, hbk, hzs⟩
    clear hMk hsaK hbk hzs
    obtain ⟨k, rfl, hk, hgk, hM, hsaK, hb, hz⟩ := hrel
    have hzr := hb.size
    by_cases hlt : k < ks.length
    · obtain ⟨kb, koff, haK, ck⟩ := hsaK.str hlt
      have htake := List.take_succ_eq_append_getElem hlt
      have Hsn := Lib.hid (vE_snoc f (ks.take k) ks[k])
      rw [← htake] at Hsn
      have hpm := Hmem.out ks[k] (List.getElem_mem hlt)
      have HaK := Lib.hid haK
      rw [haK]
      clear haK htake
      generalize vE f (ks.take k) = es at *
      have Hf := Lib.hid (HF.out ks[k])
      generalize hpk : ks[k] = p at *
      generalize hfp : f p = v4 at *
      clear hfp
      have hstr := hst.below hb
      have hS := hstr.box
      have hlk := hstr.one.look p
      have hval := hst.one.vals p
      obtain ⟨av, capv, hv, hsavw, _, _⟩ := hval.sa
      have hsav := hsavw.below hb
      rw [hv] at hlk
      have hok := okScores_sel (f := fun x => x.1) (p := p) (fault_scores H0.out)
      have h12 : (sel (fun x => x.1) p l).length ≤ 12 := paper_few H0.out p
      have hposm := List.length_pos_iff.2 hpm
      have HLK : Hid (∀ W, Below w.heap.size w W → (Instr.lookup 93 (.map (some b1)) (.string p) false).run Tryz.prog W = .ok (.slice av (sel (fun x => x.1) p l).length capv) W) := fun W hW => by rw [(hst.below hW).one.look p, hv]
      clear hval hv
      have Hv4 := Lib.hid (show v4 = (lowN (ptsN l p (ofP l p)) (max (ptsM l p (ofP l p)) 1), lowD (ptsN l p (ofP l p)) (max (ptsM l p (ofP l p)) 1), 0, 1) from Hf.out)
      have HP := Lib.hid (points_any sb b1 b2 base a cap l es1 es2 wr hstr H0.out hl p)
      have hpb := pts_bd l hl p (ofP l p)
      have h12' : (ofP l p).length ≤ 12 := h12
      have HL := Lib.hid (fun W => lowest_any (ptsN l p (ofP l p)) (max (ptsM l p (ofP l p)) 1) W (by omega) (by omega) (by omega))
      unfold low at HL
      generalize lowN (ptsN l p (ofP l p)) (max (ptsM l p (ofP l p)) 1) = q1 at *
      generalize lowD (ptsN l p (ofP l p)) (max (ptsM l p (ofP l p)) 1) = q2 at *
      generalize ptsN l p (ofP l p) = pn at *
      generalize ptsM l p (ofP l p) = pm at *
      clear Hf hok hsav hstr hsavw hlk hS hpb h12'
      go_wp2_with fail
      refine HP.out.mono ?_
      rintro e wa ⟨rfl, hba⟩
      go_wp2_with fail
      refine (HL.out _).mono ?_
      rintro e wb ⟨rfl, hbb⟩
      go_wp2_with fail
      refine (zeroC_any _).mono ?_
      rintro e wc ⟨rfl, hbc⟩
      have hbab := below_next (below_next hba hbb) hbc
      have hMx := hM.below hbab
      have hbx := hb.trans (hbab.mono hb.size)
      have hsaKx := hsaK.below hbab
      have hzx := hbab.size
      clear hM hb hsaK hba hbb hbab hbc HP HL
      go_wp2_with (at_mapUpdate; refine wpList_mapUpdate_box rfl _ _ _ _ rfl _ _ Tryz.underlying158 Tryz.underlying9 w.heap.size _ rfl hMx p rfl (valV (q1, q2, 0, 1)) rfl ?_; intro W5 hM5 hg5 hs5)
      have hb5 : Below w.heap.size w W5 := hbx.grown hg5 hbx.size (by rintro j hj; cases hj; omega)
      have hsa5 : SA W5 aK ks := hsaKx.grownS hg5 (fun x hx e => by have := HbK.out x hx; have e' := Option.some.inj e; omega)
      clear hMx hbx hsaKx hg5
      go_wp2_with fail
      rw [← HaK.out]
      go_roundg (ks.length - (k + 1))
      case measure => have := hgk.out; omega
      case rel => exact ⟨k + 1, by go_num, by omega, rfl, by rw [Hsn.out, Hv4.out]; exact hM5, hsa5, hb5, by omega⟩
    · obtain rfl : k = ks.length := by omega
      rw [List.take_length] at hM
      clear hlt
      go_wp2_with fail
      go_ret
      exact ⟨rfl, hM, hb⟩
  · go_wp2_with fail
    refine (table_any sb b1 b2 base a cap l es1 es2 wk (hst.below hbk) H0.out hl hks ks Hkk.out).mono ?_
    rintro e wt ⟨tb, rfl, hT, htb, hbt⟩
    have hMt := hMk.below hbt
    have hsaKt := hsaK.below hbt
    have hbkt := below_next hbk hbt
    have hzt := hbt.size
    clear hMk hsaK hbk hbt
    go_wp2_with fail
    go_loopg [125] ks.length (fun gk i wr => ∃ k : Nat, i = .int .i64 k ∧ k ≤ ks.length ∧ Hid (gk = ks.length - k) ∧ MBox wr w.heap.size (vE f (ks.take k)) ∧ SA wr aK ks ∧ Below w.heap.size w wr ∧ wk.heap.size ≤ wr.heap.size ∧ Kp (· = w.heap.size) wt wr)
    case atStart => exact ⟨0, rfl, by omega, rfl, hMt, hsaKt, hbkt, hzt, Kp.refl _ _⟩
    clear hsaKt hbkt
    obtain ⟨k, rfl, hk, hgk, hM, hsaK, hb, hz, hkp⟩ := hrel
    have hzr := hb.size
    by_cases hlt : k < ks.length
    · have hTr := hT.kpm hMt hkp
      have HB := Lib.hid (balance_any tb ks (rowOf l ks) k wr hTr hlt (fun j _ => rowOf_length l ks j) (by omega))
      have hbs := balS_is l ks hlt ks.length (Nat.le_refl _)
      rw [List.take_length] at hbs
      rw [hbs] at HB
      clear hbs
      obtain ⟨kb, koff, haK, ck⟩ := hsaK.str hlt
      have htake := List.take_succ_eq_append_getElem hlt
      have Hsn := Lib.hid (vE_snoc f (ks.take k) ks[k])
      rw [← htake] at Hsn
      have HaK := Lib.hid haK
      rw [haK]
      clear haK htake
      generalize vE f (ks.take k) = es at *
      have HF4 : ∀ p, f p = (balW l p ks, 1, 0, 1) := fun p => by rw [HF.out, show valF l 4 p = (balW l p (keysOf (fun x => x.1) l), 1, 0, 1) from rfl, Hkk.out]
      have Hv4 := Lib.hid (HF4 ks[k])
      clear HF4
      generalize f ks[k] = v4 at *
      generalize ks[k] = p at *
      generalize balW l p ks = bw at *
      clear hTr
      go_wp2_with fail
      refine HB.out.mono ?_
      rintro e wa ⟨rfl, nd, rfl⟩
      go_wp2_with fail
      refine (whole_any bw _).mono ?_
      rintro e wb ⟨rfl, hbb⟩
      go_wp2_with fail
      refine (zeroC_any _).mono ?_
      rintro e wc ⟨rfl, hbc⟩
      have hbab := below_next hbb hbc
      have hMx := (hM.drewN nd).below hbab
      have hbx := (below_drewN hb nd).trans (hbab.mono hb.size)
      have hsaKx := (hsaK.drewN nd).below hbab
      have hkpx := (hkp.drewN nd).trans (Kp.of_below hbab)
      have hzx : wr.heap.size ≤ wc.heap.size := hbab.size
      clear hM hb hsaK hbb hbab hbc HB hkp
      go_wp2_with (at_mapUpdate; refine wpList_mapUpdate_box rfl _ _ _ _ rfl _ _ Tryz.underlying158 Tryz.underlying9 w.heap.size _ rfl hMx p rfl (valV (bw, 1, 0, 1)) rfl ?_; intro W5 hM5 hg5 hs5)
      have hb5 : Below w.heap.size w W5 := hbx.grown hg5 hbx.size (by rintro j hj; cases hj; omega)
      have hsa5 : SA W5 aK ks := hsaKx.grownS hg5 (fun x hx e => by have := HbK.out x hx; have e' := Option.some.inj e; omega)
      have hkp5 : Kp (· = w.heap.size) wt W5 := hkpx.grown hg5 (fun j hj => .inl (Option.some.inj hj).symm)
      clear hMx hbx hsaKx hg5 hkpx
      go_wp2_with fail
      rw [← HaK.out]
      go_roundg (ks.length - (k + 1))
      case measure => have := hgk.out; omega
      case rel => exact ⟨k + 1, by go_num, by omega, rfl, by rw [Hsn.out, Hv4.out]; exact hM5, hsa5, hb5, by omega, hkp5⟩
    · obtain rfl : k = ks.length := by omega
      rw [List.take_length] at hM
      clear hlt
      go_wp2_with fail
      go_ret
      exact ⟨rfl, hM, hb⟩
  · go_wp2_with fail
    refine (balanced_any sb b1 b2 base a cap l es1 es2 20 wk (hst.below hbk) (fault_scores H0.out) (by omega) (by omega)).mono ?_
    rintro e wt ⟨rfl, hMI0, _, hbt⟩
    have hMt := hMk.below hbt
    have hsaKt := hsaK.below hbt
    have hbkt := below_next hbk hbt
    have hzt := hbt.size
    have HFb : Hid (∀ p, f p = ((bal l 20).1 p, 1, 0, 1)) := fun p => HF.out p
    generalize (bal l 20).1 = bw at *
    clear hMk hsaK hbk hbt
    go_wp2_with fail
    go_loopg [36] ks.length (fun gk i wr => ∃ k : Nat, i = .int .i64 k ∧ k ≤ ks.length ∧ Hid (gk = ks.length - k) ∧ MBox wr w.heap.size (vE f (ks.take k)) ∧ SA wr aK ks ∧ Below w.heap.size w wr ∧ wk.heap.size ≤ wr.heap.size ∧ MI wr wk.heap.size bw)
    case atStart => exact ⟨0, rfl, by omega, rfl, hMt, hsaKt, hbkt, hzt, hMI0⟩
    clear hsaKt hbkt hMI0 hMt
    obtain ⟨k, rfl, hk, hgk, hM, hsaK, hb, hz, hMI⟩ := hrel
    have hzr := hb.size
    by_cases hlt : k < ks.length
    · obtain ⟨kb, koff, haK, ck⟩ := hsaK.str hlt
      have htake := List.take_succ_eq_append_getElem hlt
      have Hsn := Lib.hid (vE_snoc f (ks.take k) ks[k])
      rw [← htake] at Hsn
      have HaK := Lib.hid haK
      rw [haK]
      clear haK htake
      generalize vE f (ks.take k) = es at *
      have Hv4 := Lib.hid (HFb.out ks[k])
      generalize f ks[k] = v4 at *
      generalize ks[k] = p at *
      have hlk := hMI.look p
      generalize bw p = bv at *
      go_wp2_with fail
      refine (whole_any bv _).mono ?_
      rintro e wb ⟨rfl, hbb⟩
      go_wp2_with fail
      refine (zeroC_any _).mono ?_
      rintro e wc ⟨rfl, hbc⟩
      have hbab := below_next hbb hbc
      have hMx := hM.below hbab
      have hbx := hb.trans (hbab.mono hb.size)
      have hsaKx := hsaK.below hbab
      have hMIx := hMI.below hbab
      have hzx : wr.heap.size ≤ wc.heap.size := hbab.size
      clear hM hb hsaK hbb hbab hbc hMI hlk
      go_wp2_with (at_mapUpdate; refine wpList_mapUpdate_box rfl _ _ _ _ rfl _ _ Tryz.underlying158 Tryz.underlying9 w.heap.size _ rfl hMx p rfl (valV (bv, 1, 0, 1)) rfl ?_; intro W5 hM5 hg5 hs5)
      have hb5 : Below w.heap.size w W5 := hbx.grown hg5 hbx.size (by rintro j hj; cases hj; omega)
      have hsa5 : SA W5 aK ks := hsaKx.grownS hg5 (fun x hx e => by have := HbK.out x hx; have e' := Option.some.inj e; omega)
      have hMI5 := hMIx.grown hg5 (by simp; omega)
      clear hMx hbx hsaKx hg5 hMIx
      go_wp2_with fail
      rw [← HaK.out]
      go_roundg (ks.length - (k + 1))
      case measure => have := hgk.out; omega
      case rel => exact ⟨k + 1, by go_num, by omega, rfl, by rw [Hsn.out, Hv4.out]; exact hM5, hsa5, hb5, by omega, hMI5⟩
    · obtain rfl : k = ks.length := by omega
      rw [List.take_length] at hM
      clear hlt
      go_wp2_with fail
      go_ret
      exact ⟨rfl, hM, hb⟩
end Go.Proofs.YtgihommenknhoaaGreatDoor

/-! The order of papers: the comparison, order, Order of the program. -/
namespace Go.Proofs.YtgihommenknhoaaGreatDoor
open Go.RowKit Go.Sort
set_option linter.unusedVariables false
set_option linter.unusedSimpArgs false

/-- Two values are compared. -/
def cmp4 (vx vy : V4) : Int :=
  if cmpI (vy.1 * vx.2.1) (vx.1 * vy.2.1) ≠ 0 then cmpI (vy.1 * vx.2.1) (vx.1 * vy.2.1) else cmpI (vy.2.2.1 * vx.2.2.2) (vx.2.2.1 * vy.2.2.2)
theorem firstOf_two (a b : Int) : firstOf [a, b] = if a ≠ 0 then a else b := by
  unfold firstOf
  by_cases h : a = 0
  · subst h
    simp only [ne_eq, not_true, if_false]
    unfold firstOf
    by_cases h2 : b = 0
    · subst h2; rfl
    · rw [if_pos h2]
  · rw [if_pos h, if_pos h]
/-- Bounds of a value. -/
def ok4 (v : V4) : Prop := (v.1.natAbs ≤ 1000000000 ∧ 1 ≤ v.2.1 ∧ v.2.1 ≤ 1000000) ∧ (v.2.2.1.natAbs ≤ 1000000000 ∧ 1 ≤ v.2.2.2 ∧ v.2.2.2 ≤ 1000000)
theorem vzero (w : World) : (zeroValue 163).run Tryz.prog w = .ok (.agg #[.int .i64 0, .int .i64 0, .int .i64 0, .int .i64 0]) w := Tryz.zeroValue163 w
theorem field0 (a b c d : Int) (w : World) : (Instr.field 163 (.agg #[.int .i64 a, .int .i64 b, .int .i64 c, .int .i64 d]) 0).run Tryz.prog w = .ok (.agg #[.int .i64 a, .int .i64 b]) w := by kernel_rfl
theorem field1 (a b c d : Int) (w : World) : (Instr.field 163 (.agg #[.int .i64 a, .int .i64 b, .int .i64 c, .int .i64 d]) 1).run Tryz.prog w = .ok (.agg #[.int .i64 c, .int .i64 d]) w := by kernel_rfl
set_option maxRecDepth 100000 in
set_option maxHeartbeats 600000 in
theorem ordClo_any (B mb : Nat) (es : List (ByteArray × Value)) (x y : ByteArray) (vx vy : V4) (W : World) (hB : W.cell? ⟨B, 0, none⟩ = some (.map (some mb))) (hM : MBox W mb es) (hx : mget es x = some (valV vx)) (hy : mget es y = some (valV vy)) (ox : ok4 vx) (oy : ok4 vy) :
    Calls Tryz.prog 121 #[.string x, .string y, .pointer (some ⟨B, 0, none⟩)] W (Gives (.int .i64 (cmp4 vx vy)) W) := by
  have HL : Hid (∀ (W' : World) (k : ByteArray) (v : V4), Below W.heap.size W W' → mget es k = some (valV v) → (Instr.lookup 158 (.map (some mb)) (.string k) false).run Tryz.prog W' = .ok (valV v) W') := fun W' k v hb hk => by
    rw [MBox.look (hM.below hb) Tryz.underlying158 Tryz.underlying9 _ vzero k false]
    unfold looked
    simp only [Bool.false_eq_true, if_false, hk, Option.getD_some]
  have hly := HL.out W.drew y vy (Below.refl _ _).drew hy
  have hlx := HL.out W.drew x vx (Below.refl _ _).drew hx
  have HR := Lib.hid (firstOf_two (cmpI (vy.1 * vx.2.1) (vx.1 * vy.2.1)) (cmpI (vy.2.2.1 * vx.2.2.2) (vx.2.2.1 * vy.2.2.2)))
  have HC : Hid (cmp4 vx vy = firstOf [cmpI (vy.1 * vx.2.1) (vx.1 * vy.2.1), cmpI (vy.2.2.1 * vx.2.2.2) (vx.2.2.1 * vy.2.2.2)]) := by show _ = _; rw [HR.out]; rfl
  have m1 := mul_inZ (x := vy.1) (y := vx.2.1) (X := 1000000000) (Y := 1000000) (by have := oy.1.1; omega) (by have := oy.1.1; omega) (by have := ox.1.2.1; omega) ox.1.2.2
  have m2 := mul_inZ (x := vx.1) (y := vy.2.1) (X := 1000000000) (Y := 1000000) (by have := ox.1.1; omega) (by have := ox.1.1; omega) (by have := oy.1.2.1; omega) oy.1.2.2
  have m3 := mul_inZ (x := vy.2.2.1) (y := vx.2.2.2) (X := 1000000000) (Y := 1000000) (by have := oy.2.1; omega) (by have := oy.2.1; omega) (by have := ox.2.2.1; omega) ox.2.2.2
  have m4 := mul_inZ (x := vx.2.2.1) (y := vy.2.2.2) (X := 1000000000) (Y := 1000000) (by have := ox.2.1; omega) (by have := ox.2.1; omega) (by have := oy.2.2.1; omega) oy.2.2.2
  have H1 := Lib.hid (fun W' => cmpFrac_any vy.1 vy.2.1 vx.1 vx.2.1 W' (by omega) (by omega))
  have H2 := Lib.hid (fun W' => cmpFrac_any vy.2.2.1 vy.2.2.2 vx.2.2.1 vx.2.2.2 W' (by omega) (by omega))
  generalize cmp4 vx vy = res at *
  generalize cmpI (vy.1 * vx.2.1) (vx.1 * vy.2.1) = c1 at *
  generalize cmpI (vy.2.2.1 * vx.2.2.2) (vx.2.2.1 * vy.2.2.2) = c2 at *
  have Hx := Lib.hid hx
  have Hy := Lib.hid hy
  clear m1 m2 m3 m4 ox oy HR hx hy hM
  obtain ⟨x1, x2, x3, x4⟩ := vx
  obtain ⟨y1, y2, y3, y4⟩ := vy
  unfold valV at *
  simp only at *
  have fx0 := field0 x1 x2 x3 x4
  have fx1 := field1 x1 x2 x3 x4
  have fy0 := field0 y1 y2 y3 y4
  have fy1 := field1 y1 y2 y3 y4
  go_enter Tryz.func121, Tryz.ntmps121
  go_wp2_with fail
  refine wp_region_held_drew (S := (fun wx => wx.cell? ⟨B, 0, none⟩ = some (.map (some mb)) ∧ (Instr.lookup 158 (.map (some mb)) (.string y) false).run Tryz.prog wx = .ok (.agg #[.int .i64 y1, .int .i64 y2, .int .i64 y3, .int .i64 y4]) wx ∧ (Instr.lookup 158 (.map (some mb)) (.string x) false).run Tryz.prog wx = .ok (.agg #[.int .i64 x1, .int .i64 x2, .int .i64 x3, .int .i64 x4]) wx ∧ Below W.heap.size W wx)) (by kernel_rfl) ?hS (fun hHeld => ?_)
  case hS => exact ⟨hB, hly, hlx, (Below.refl _ _).drew⟩
  refine rtake (i := 0) (d := (some 6)) (v := ?_) rfl (by kernel_rfl) (by kernel_rfl) (by kernel_rfl) (by kernel_rfl) (fun _ _ _ h => h) (by kernel_rfl) (by assumption) ?_ ?_
  rotate_left 1
  · (intro wI hSI; (try dsimp only at hSI); go_simp; (try with_reducible rfl))
  simp only [Act.put, List.setIfInBounds_toArray, List.set_cons_zero, List.set_cons_succ]
  refine rtake (i := 1) (d := (some 7)) (v := ?_) rfl (by kernel_rfl) (by kernel_rfl) (by kernel_rfl) (by kernel_rfl) (fun _ _ _ h => h) (by kernel_rfl) (by assumption) ?_ ?_
  rotate_left 1
  · (intro wI hSI; (try dsimp only at hSI); go_simp; (try with_reducible rfl))
  simp only [Act.put, List.setIfInBounds_toArray, List.set_cons_zero, List.set_cons_succ]
  refine rtake (i := 2) (d := (some 8)) (v := ?_) rfl (by kernel_rfl) (by kernel_rfl) (by kernel_rfl) (by kernel_rfl) (fun _ _ _ h => h) (by kernel_rfl) (by assumption) ?_ ?_
  rotate_left 1
  · (intro wI hSI; (try dsimp only at hSI); go_simp; (try with_reducible rfl))
  simp only [Act.put, List.setIfInBounds_toArray, List.set_cons_zero, List.set_cons_succ]
  refine rtake (i := 3) (d := (some 9)) (v := ?_) rfl (by kernel_rfl) (by kernel_rfl) (by kernel_rfl) (by kernel_rfl) (fun _ _ _ h => h) (by kernel_rfl) (by assumption) ?_ ?_
  rotate_left 1
  · (intro wI hSI; (try dsimp only at hSI); go_simp; (try with_reducible rfl))
  simp only [Act.put, List.setIfInBounds_toArray, List.set_cons_zero, List.set_cons_succ]
  refine rtake (i := 4) (d := (some 10)) (v := ?_) rfl (by kernel_rfl) (by kernel_rfl) (by kernel_rfl) (by kernel_rfl) (fun _ _ _ h => h) (by kernel_rfl) (by assumption) ?_ ?_
  rotate_left 1
  · (intro wI hSI; (try dsimp only at hSI); go_simp; (try with_reducible rfl))
  simp only [Act.put, List.setIfInBounds_toArray, List.set_cons_zero, List.set_cons_succ]
  refine rtake (i := 5) (d := (some 11)) (v := ?_) rfl (by kernel_rfl) (by kernel_rfl) (by kernel_rfl) (by kernel_rfl) (fun _ _ _ h => h) (by kernel_rfl) (by assumption) ?_ ?_
  rotate_left 1
  · (intro wI hSI; (try dsimp only at hSI); go_simp; (try with_reducible rfl))
  simp only [Act.put, List.setIfInBounds_toArray, List.set_cons_zero, List.set_cons_succ]
  refine rtake (i := 6) (d := (some 12)) (v := ?_) rfl (by kernel_rfl) (by kernel_rfl) (by kernel_rfl) (by kernel_rfl) (fun _ _ _ h => h) (by kernel_rfl) (by assumption) ?_ ?_
  rotate_left 1
  · (intro wI hSI; (try dsimp only at hSI); go_simp; (try with_reducible rfl))
  simp only [Act.put, List.setIfInBounds_toArray, List.set_cons_zero, List.set_cons_succ]
  refine rtake (i := 7) (d := (some 13)) (v := ?_) rfl (by kernel_rfl) (by kernel_rfl) (by kernel_rfl) (by kernel_rfl) (fun _ _ _ h => h) (by kernel_rfl) (by assumption) ?_ ?_
  rotate_left 1
  · (intro wI hSI; (try dsimp only at hSI); go_simp; (try with_reducible rfl))
  simp only [Act.put, List.setIfInBounds_toArray, List.set_cons_zero, List.set_cons_succ]
  refine rtake (i := 9) (d := (some 15)) (v := ?_) rfl (by kernel_rfl) (by kernel_rfl) (by kernel_rfl) (by kernel_rfl) (fun _ _ _ h => h) (by kernel_rfl) (by assumption) ?_ ?_
  rotate_left 1
  · (intro wI hSI; (try dsimp only at hSI); go_simp; (try with_reducible rfl))
  simp only [Act.put, List.setIfInBounds_toArray, List.set_cons_zero, List.set_cons_succ]
  refine rtake (i := 10) (d := (some 16)) (v := ?_) rfl (by kernel_rfl) (by kernel_rfl) (by kernel_rfl) (by kernel_rfl) (fun _ _ _ h => h) (by kernel_rfl) (by assumption) ?_ ?_
  rotate_left 1
  · (intro wI hSI; (try dsimp only at hSI); go_simp; (try with_reducible rfl))
  simp only [Act.put, List.setIfInBounds_toArray, List.set_cons_zero, List.set_cons_succ]
  refine rtake (i := 11) (d := (some 17)) (v := ?_) rfl (by kernel_rfl) (by kernel_rfl) (by kernel_rfl) (by kernel_rfl) (fun _ _ _ h => h) (by kernel_rfl) (by assumption) ?_ ?_
  rotate_left 1
  · (intro wI hSI; (try dsimp only at hSI); go_simp; (try with_reducible rfl))
  simp only [Act.put, List.setIfInBounds_toArray, List.set_cons_zero, List.set_cons_succ]
  refine rtake (i := 12) (d := (some 18)) (v := ?_) rfl (by kernel_rfl) (by kernel_rfl) (by kernel_rfl) (by kernel_rfl) (fun _ _ _ h => h) (by kernel_rfl) (by assumption) ?_ ?_
  rotate_left 1
  · (intro wI hSI; (try dsimp only at hSI); go_simp; (try with_reducible rfl))
  simp only [Act.put, List.setIfInBounds_toArray, List.set_cons_zero, List.set_cons_succ]
  refine rtake (i := 13) (d := (some 19)) (v := ?_) rfl (by kernel_rfl) (by kernel_rfl) (by kernel_rfl) (by kernel_rfl) (fun _ _ _ h => h) (by kernel_rfl) (by assumption) ?_ ?_
  rotate_left 1
  · (intro wI hSI; (try dsimp only at hSI); go_simp; (try with_reducible rfl))
  simp only [Act.put, List.setIfInBounds_toArray, List.set_cons_zero, List.set_cons_succ]
  refine rtake (i := 14) (d := (some 20)) (v := ?_) rfl (by kernel_rfl) (by kernel_rfl) (by kernel_rfl) (by kernel_rfl) (fun _ _ _ h => h) (by kernel_rfl) (by assumption) ?_ ?_
  rotate_left 1
  · (intro wI hSI; (try dsimp only at hSI); go_simp; (try with_reducible rfl))
  simp only [Act.put, List.setIfInBounds_toArray, List.set_cons_zero, List.set_cons_succ]
  refine rtake (i := 15) (d := (some 21)) (v := ?_) rfl (by kernel_rfl) (by kernel_rfl) (by kernel_rfl) (by kernel_rfl) (fun _ _ _ h => h) (by kernel_rfl) (by assumption) ?_ ?_
  rotate_left 1
  · (intro wI hSI; (try dsimp only at hSI); go_simp; (try with_reducible rfl))
  simp only [Act.put, List.setIfInBounds_toArray, List.set_cons_zero, List.set_cons_succ]
  refine rtake (i := 16) (d := (some 22)) (v := ?_) rfl (by kernel_rfl) (by kernel_rfl) (by kernel_rfl) (by kernel_rfl) (fun _ _ _ h => h) (by kernel_rfl) (by assumption) ?_ ?_
  rotate_left 1
  · (intro wI hSI; (try dsimp only at hSI); go_simp; (try with_reducible rfl))
  simp only [Act.put, List.setIfInBounds_toArray, List.set_cons_zero, List.set_cons_succ]
  refine rcall (i := 8) (d := (some 14)) (by kernel_rfl) rfl (by kernel_rfl) (fun K hK => ?_)
  go_simp
  go_at_call 70; refine (H1.out _).mono ?_; rintro e wa ⟨rfl, hba⟩
  refine hK.out _ _ ?hS (fun hHeld => ?_)
  case hS => exact ⟨cell_later hba hHeld.1, HL.out _ _ (y1, y2, y3, y4) (below_next hHeld.2.2.2 hba) Hy.out, HL.out _ _ (x1, x2, x3, x4) (below_next hHeld.2.2.2 hba) Hx.out, below_next hHeld.2.2.2 hba⟩
  clear hK K
  simp only [Act.put, List.setIfInBounds_toArray, List.set_cons_zero, List.set_cons_succ]
  refine rcall (i := 17) (d := (some 23)) (by kernel_rfl) rfl (by kernel_rfl) (fun K hK => ?_)
  go_simp
  go_at_call 70; refine (H2.out _).mono ?_; rintro e wb ⟨rfl, hbb⟩
  refine hK.out _ _ ?hS (fun hHeld => ?_)
  case hS => exact ⟨cell_later hbb hHeld.1, HL.out _ _ (y1, y2, y3, y4) (below_next hHeld.2.2.2 hbb) Hy.out, HL.out _ _ (x1, x2, x3, x4) (below_next hHeld.2.2.2 hbb) Hx.out, below_next hHeld.2.2.2 hbb⟩
  clear hK K
  simp only [Act.put, List.setIfInBounds_toArray, List.set_cons_zero, List.set_cons_succ]
  have hbl : Below wb.heap.size wb (wb.alloc (.cells #[.int .i64 c1, .int .i64 c2] 3)) := (Below.refl _ _).alloc (Nat.le_refl _) _
  have hbo := Box.new wb 3 #[.int .i64 c1, .int .i64 c2]
  refine rcall (i := 18) (d := (some 24)) (by kernel_rfl) rfl (by kernel_rfl) (fun K hK => ?_)
  go_simp
  refine hK.out _ _ ?hS (fun hHeld => ?_)
  case hS => exact ⟨cell_later hbl hHeld.1, HL.out _ _ (y1, y2, y3, y4) (below_next hHeld.2.2.2 hbl) Hy.out, HL.out _ _ (x1, x2, x3, x4) (below_next hHeld.2.2.2 hbl) Hx.out, below_next hHeld.2.2.2 hbl⟩
  clear hK K
  simp only [Act.put, List.setIfInBounds_toArray, List.set_cons_zero, List.set_cons_succ]
  refine rcall (i := 19) (d := (some 25)) (by kernel_rfl) rfl (by kernel_rfl) (fun K hK => ?_)
  go_simp
  go_at_call 122; refine (or_any [c1, c2] _ 2 _ (hbo.sa [c1, c2] rfl) (by simp)).mono ?_; rintro e wc ⟨rfl, rfl⟩
  refine hK.out _ _ ?hS (fun hHeld => ?_)
  case hS => exact hHeld
  clear hK K
  simp only [Act.put, List.setIfInBounds_toArray, List.set_cons_zero, List.set_cons_succ]
  refine rtake (i := 20) (d := (some 5)) (v := ?_) rfl (by kernel_rfl) (by kernel_rfl) (by kernel_rfl) (by kernel_rfl) (fun _ _ _ h => h) (by kernel_rfl) (by assumption) ?_ ?_
  rotate_left 1
  · (intro wI hSI; (try dsimp only at hSI); go_simp; (try with_reducible rfl))
  simp only [Act.put, List.setIfInBounds_toArray, List.set_cons_zero, List.set_cons_succ]
  refine wpAnyH_done (by kernel_rfl) ?_ _
  have hfin := hHeld.2.2.2
  go_wp2_with fail
  go_ret
  exact ⟨by rw [HC.out] <;> rfl, hfin⟩
theorem below_kp {base : Nat} {a w w' : World} {X : Nat → Prop} (h : Below base a w) (hk : Kp X w w') (hX : ∀ k, X k → base ≤ k) (hbase : base ≤ w.heap.size) : Below base a w' :=
  ⟨hk.os.trans h.os, hk.tape.trans h.tape, hk.output.trans h.output, Nat.le_trans h.size hk.size, fun k hkk => (hk.block k (Nat.lt_of_lt_of_le hkk hbase) (fun hx => by have := hX k hx; omega)).trans (h.block k hkk)⟩
set_option maxRecDepth 100000 in
set_option maxHeartbeats 2000000 in
theorem order_any (sb b1 b2 base : Nat) (a : Option Addr) (cap : Nat) (l : List Mark) (es1 es2 : List (ByteArray × Value)) (how : Int) (w : World) (hst : ShSt sb b1 b2 base a l.length cap l l es1 es2 w) (h0 : marksFault l = 0) (hl : l.length ≤ 400) (hks : ∀ x ∈ l, x.1.size ≤ 1000 ∧ x.2.1.size ≤ 1000) (hh1 : 1 ≤ how) (hh2 : how ≤ 5) (hkn : (keysOf (fun x => x.1) l).length ≤ 19) :
    Calls Tryz.prog 57 #[.pointer (some ⟨sb, 0, none⟩), .int .i64 how] w (GivesOwn 9 (orderL l how) w) := by
  obtain ⟨out, hout⟩ : ∃ out, orderL l how = out := ⟨_, rfl⟩
  rw [hout]
  unfold orderL at hout
  obtain ⟨ks, hkk⟩ : ∃ ks, keysOf (fun x => x.1) l = ks := ⟨_, rfl⟩
  obtain ⟨f, hff⟩ : ∃ f, valF l how = f := ⟨_, rfl⟩
  have HOk : Hid (∀ p ∈ ks, ok4 (f p)) := fun p hp => by
    rw [← hff]
    refine valF_bd h0 hl how fun h => ?_
    rw [← hkk, keysOf_mem] at hp
    exact sel_nil.1 h hp
  have HV := Lib.hid (values_any sb b1 b2 base a cap l es1 es2 how w hst h0 hl hks hh1 hh2 ks hkk f hff)
  have HK := Lib.hid (fun W (h : Below w.heap.size w W) => keys_any b1 base (fun x => x.1) l es1 W (hst.below h).one (by omega) (fun x hx => (hks x hx).1))
  rw [hkk] at HK hout hkn
  rw [hff] at hout
  have HO := Lib.hid hout
  have hS0 := hst.box
  have HS : Hid (∀ W, Below w.heap.size w W → Box W sb 95 #[.slice a l.length cap, .map (some b1), .map (some b2)]) := fun W h => hS0.below h
  clear hst h0 hkk hff hout hS0
  go_enter Tryz.func57, Tryz.ntmps57
  go_wp2_with fail
  refine HV.out.mono ?_
  rintro e w1 ⟨rfl, hM, hb1⟩
  have hz1 := hM.lt
  have hM1 := hM.alloc (.cells #[.map (some w.heap.size)] 158)
  have hBx := Box.new w1 158 #[.map (some w.heap.size)]
  have hb1a := hb1.alloc hb1.size (.cells #[.map (some w.heap.size)] 158)
  have hSa := HS.out _ hb1a
  have HK1 := Lib.hid (HK.out _ hb1a)
  have hzB : w1.heap.size < (w1.alloc (.cells #[.map (some w.heap.size)] 158)).heap.size := by simp
  clear hM hb1 HK HV HS
  go_upto_region 2 with (fail)
  generalize w1.alloc (.cells #[.map (some w.heap.size)] 158) = W1 at *
  generalize w1.heap.size = B at *
  have hSa_l := hSa.lt; have hSa_0 := hSa.cell 0; have hSa_1 := hSa.cell 1; have hSa_2 := hSa.cell 2; simp at hSa_0 hSa_1 hSa_2
  go_wp2_with fail
  refine HK1.out.mono ?_
  rintro e w2 ⟨vk, rfl, hownk, hb2⟩
  clear hSa_l hSa_0 hSa_1 hSa_2
  have hM2 := hM1.below hb2
  have hB2 := hBx.below hb2
  have hbw2 := below_next hb1a hb2
  have hz2 := hb2.size
  have hvk := hownk.lt
  clear hM1 hBx hb1a hSa HK1 hb2
  have hcmp : ∀ gs, vk.ownBlock = some gs → CmpAt 121 #[.pointer (some ⟨B, 0, none⟩)] (cmpV f) ks gs w2 := fun gs hgs W x y hx hy hk => by
    have hg := hvk gs hgs
    refine ordClo_any B w.heap.size (vE f ks) x y (f x) (f y) W ?_ (hM2.same (hk.block _ hM2.lt (by omega))) (vE_get f hx) (vE_get f hy) (HOk.out x hx) (HOk.out y hy)
    exact (hB2.kp hk (by omega)).cell 0
  have HSS := Lib.hid (sortStable_any W1.heap.size ks vk 121 #[.pointer (some ⟨B, 0, none⟩)] (cmpV f) w2 (enters_of Tryz.func121 (by kernel_rfl) rfl) hcmp hownk hkn)
  rw [HO.out] at HSS
  have Hvk := Lib.hid hvk
  clear hcmp hownk hM2 hB2 hvk
  go_wp2_with fail
  refine HSS.out.mono ?_
  rintro e w3 ⟨rfl, hown3, hk3⟩
  have hb3 : Below w.heap.size w w3 := below_kp hbw2 hk3 (fun k hk => by have := (Hvk.out k hk).1; omega) hbw2.size
  go_wp2_with fail
  go_ret
  exact ⟨vk, rfl, hown3.mono (by omega), hb3⟩
theorem isWay_any (how : Int) (w : World) : Calls Tryz.prog 55 #[.int .i64 how] w (fun e w' => e = .returned (.bool (!(decide (how < 1) || decide (5 < how)))) ∧ w = w') := by
  have HC := Lib.hid (outside_any how 1 5 w)
  generalize (decide (how < 1) || decide (5 < how)) = b at *
  go_enter Tryz.func55, Tryz.ntmps55
  go_wp2_with fail
  refine HC.out.mono ?_
  rintro e w' ⟨rfl, rfl⟩
  go_wp2_with fail
  go_ret
  exact ⟨rfl, rfl⟩
/-- The error of Order. -/
def ordE (l : List Mark) (how : Int) : Int := if marksFault l ≠ 0 then marksFault l else if how < 1 ∨ 5 < how then 4 else 0
end Go.Proofs.YtgihommenknhoaaGreatDoor
