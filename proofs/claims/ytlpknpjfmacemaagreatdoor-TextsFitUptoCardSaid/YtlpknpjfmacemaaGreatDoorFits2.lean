/- Forms and texts: what is wrong with a text. -/
import Derived.Test.YtlpknpjfmacemaaGreatDoorFits1
namespace Go.Proofs.YtlpknpjfmacemaaGreatDoor
open Go.RowKit
set_option linter.unusedVariables false
set_option linter.unusedSimpArgs false

def mustF (secs : List Sect) (ms : List ByteArray) (acc : List Flt) : List Flt := ms.foldl (fun acc m => addF (!secs.any (hasM m)) 4 m acc) acc
theorem mustF_snoc (secs : List Sect) {ms : List ByteArray} (acc : List Flt) {k : Nat} (hk : k < ms.length) : mustF secs (ms.take (k + 1)) acc = addF (!secs.any (hasM ms[k])) 4 ms[k] (mustF secs (ms.take k) acc) := by
  unfold mustF; rw [List.take_succ_eq_append_getElem hk, List.foldl_append]; rfl
theorem mustF_len (secs : List Sect) : ∀ (ms : List ByteArray) (acc : List Flt), (mustF secs ms acc).length ≤ acc.length + ms.length
  | [], acc => by simp [mustF]
  | m :: r, acc => by
    have h1 := mustF_len secs r (addF (!secs.any (hasM m)) 4 m acc)
    have h2 := addF_len (!secs.any (hasM m)) 4 m acc
    show (mustF secs r (addF (!secs.any (hasM m)) 4 m acc)).length ≤ _
    simp only [List.length_cons]
    omega
def aboveL (secs : List Sect) : Nat → Int
  | 0 => 0
  | k + 1 => ((secs[k]?).map (fun x => x.1)).getD 0
def deepB (deep above : Int) (x : Sect) : Bool := decide (deep < x.1) || decide (above + 1 < x.1)
def nextB (secs : List Sect) (k : Nat) (x : Sect) : Bool :=
  match secs[k + 1]? with
  | none => false
  | some y => decide (y.1 ≤ x.1)
def emptyB (secs : List Sect) (k : Nat) (x : Sect) : Bool := decide (x.2.2 = 0) && (decide (k + 1 = secs.length) || nextB secs k x)
def secF (deep : Int) (secs : List Sect) (acc : List Flt) : Nat → List Flt
  | 0 => acc
  | k + 1 => match secs[k]? with
    | none => secF deep secs acc k
    | some x => addF (emptyB secs k x) 6 x.2.1 (addF (deepB deep (aboveL secs k) x) 5 x.2.1 (secF deep secs acc k))
theorem secF_at (deep : Int) {secs : List Sect} (acc : List Flt) {k : Nat} (hk : k < secs.length) : secF deep secs acc (k + 1) = addF (emptyB secs k secs[k]) 6 secs[k].2.1 (addF (deepB deep (aboveL secs k) secs[k]) 5 secs[k].2.1 (secF deep secs acc k)) := by
  show (match secs[k]? with | none => secF deep secs acc k | some x => addF (emptyB secs k x) 6 x.2.1 (addF (deepB deep (aboveL secs k) x) 5 x.2.1 (secF deep secs acc k))) = _
  rw [List.getElem?_eq_getElem hk]
theorem secF_len (deep : Int) (secs : List Sect) (acc : List Flt) : ∀ k, (secF deep secs acc k).length ≤ acc.length + 2 * k
  | 0 => by simp [secF]
  | k + 1 => by
    have ih := secF_len deep secs acc k
    show (match secs[k]? with | none => secF deep secs acc k | some x => addF (emptyB secs k x) 6 x.2.1 (addF (deepB deep (aboveL secs k) x) 5 x.2.1 (secF deep secs acc k))).length ≤ _
    split
    · omega
    · next x _ =>
      have h1 := addF_len (emptyB secs k x) 6 x.2.1 (addF (deepB deep (aboveL secs k) x) 5 x.2.1 (secF deep secs acc k))
      have h2 := addF_len (deepB deep (aboveL secs k) x) 5 x.2.1 (secF deep secs acc k)
      omega
theorem aboveL_at {secs : List Sect} {k : Nat} (hk : k < secs.length) : aboveL secs (k + 1) = secs[k].1 := by
  show ((secs[k]?).map (fun x => x.1)).getD 0 = _
  rw [List.getElem?_eq_getElem hk]; rfl
theorem aboveL_bd {secs : List Sect} {N : Int} (h : ∀ x ∈ secs, SecOk N x) : ∀ k, 0 ≤ aboveL secs k ∧ aboveL secs k ≤ 4
  | 0 => ⟨Int.le_refl _, by show (0 : Int) ≤ 4; decide⟩
  | k + 1 => by
    by_cases hk : k < secs.length
    · rw [aboveL_at hk]
      obtain ⟨a, b, _, _⟩ := h _ (List.getElem_mem hk)
      omega
    · have : aboveL secs (k + 1) = 0 := by show ((secs[k]?).map (fun x => x.1)).getD 0 = 0; rw [List.getElem?_eq_none (by omega)]; rfl
      omega
def fits3 (f : Frm) (wn ln : Int) : List Flt := addF (decide (0 < f.lines) && decide (f.lines < ln)) 3 ⟨#[]⟩ (addF (decide (f.most < wn)) 2 ⟨#[]⟩ (addF (decide (wn < f.least)) 1 ⟨#[]⟩ []))
def fitsL (f : Frm) (wn ln : Int) (secs : List Sect) : List Flt := secF f.deep secs (mustF secs f.must (fits3 f wn ln)) secs.length
theorem fits3_len (f : Frm) (wn ln : Int) : (fits3 f wn ln).length ≤ 3 := by
  unfold fits3
  have h1 := addF_len (decide (0 < f.lines) && decide (f.lines < ln)) 3 ⟨#[]⟩ (addF (decide (f.most < wn)) 2 ⟨#[]⟩ (addF (decide (wn < f.least)) 1 ⟨#[]⟩ []))
  have h2 := addF_len (decide (f.most < wn)) 2 ⟨#[]⟩ (addF (decide (wn < f.least)) 1 ⟨#[]⟩ [])
  have h3 := addF_len (decide (wn < f.least)) 1 ⟨#[]⟩ []
  simp only [List.length_nil] at h3
  omega
theorem FitSt.down {q : Nat} {w w' Wf : World} {v : Value} {acc : List Flt} {sa : Option Addr} {secs : List Sect} (h : FitSt q w v acc sa secs) (hb : Below q Wf w) (hk : Kp (fun j => j = q ∨ v.ownBlock = some j) w w') : Below q Wf w' :=
  belowKp hb hk (fun j hj => hj.elim (fun e => Nat.le_of_eq e.symm) (fun e => by have := (h.own.lt j e).1; omega)) (by have := h.box.lt; omega)
theorem FitSt.keep {q : Nat} {w w' : World} {v : Value} {acc : List Flt} {sa : Option Addr} {secs : List Sect} {b : Nat} {T : TypeId} {vs : Array Value} (h : FitSt q w v acc sa secs) (hk : Kp (fun j => j = q ∨ v.ownBlock = some j) w w') (hB : Box w b T vs) (h1 : b ≠ q) (h2 : v.ownBlock ≠ some b) : Box w' b T vs :=
  hB.kp hk (fun e => e.elim h1 h2)


theorem trimB_len (l : List UInt8) (c : UInt8) : (Lib.trimB l c).length ≤ l.length := by
  unfold Lib.trimB Lib.trimLeftB Lib.trimRightB
  have h1 := (List.dropWhile_sublist (· == c) (l := (l.reverse.dropWhile (· == c)).reverse)).length_le
  have h2 := (List.dropWhile_sublist (· == c) (l := l.reverse)).length_le
  rw [List.length_reverse] at h1
  rw [List.length_reverse] at h2
  omega
theorem headE_len (l : List UInt8) : (headE l).2.length ≤ l.length := by
  unfold headE
  split
  · simp
  · have h1 := trimB_len (l.dropWhile (· == 35)) 32
    have h2 := (List.dropWhile_sublist (· == 35) (l := l)).length_le
    show (Lib.trimB (l.dropWhile (· == 35)) 32).length ≤ _
    omega
theorem bumpL_titles {N : Nat} : ∀ (l : List Sect) (n : Int), (∀ x ∈ l, x.2.1.size ≤ N) → ∀ x ∈ bumpL l n, x.2.1.size ≤ N
  | [], _, _, x, hx => by cases hx
  | [y], n, h, x, hx => by
    rw [bumpL, List.mem_singleton] at hx
    subst hx
    exact h y (List.mem_cons_self ..)
  | y :: z :: r, n, h, x, hx => by
    rw [bumpL] at hx
    rcases List.mem_cons.1 hx with rfl | hx
    · exact h _ (List.mem_cons_self ..)
    · exact bumpL_titles (z :: r) n (fun x hx => h x (List.mem_cons_of_mem _ hx)) x hx
theorem secs_titles {N : Nat} : ∀ (l : List ByteArray) (acc : List Sect), (∀ s ∈ l, s.size ≤ N) → (∀ x ∈ acc, x.2.1.size ≤ N) → ∀ x ∈ l.foldl secS acc, x.2.1.size ≤ N
  | [], _, _, h => h
  | s :: r, acc, hl, h => by
    rw [List.foldl_cons]
    refine secs_titles r _ (fun x hx => hl x (List.mem_cons_of_mem _ hx)) ?_
    unfold secS
    split
    · intro x hx
      rcases List.mem_append.1 hx with hx | hx
      · exact h x hx
      · rw [List.mem_singleton] at hx
        subst hx
        have h1 := headE_len s.data.toList
        have h2 := hl s (List.mem_cons_self ..)
        have h3 : s.data.toList.length = s.size := by simp
        show (headE s.data.toList).2.toArray.size ≤ N
        simp
        omega
    · exact bumpL_titles acc _ h
theorem secs_ok : ∀ (l : List ByteArray) (acc : List Sect) (N : Int), 0 ≤ N → (∀ s ∈ l, s.size ≤ 100000) → (∀ x ∈ acc, SecOk N x) → ∀ x ∈ l.foldl secS acc, SecOk (N + (l.length : Int) * 100001) x
  | [], _, N, _, _, h => by simpa using h
  | s :: r, acc, N, h0, hl, h => by
    rw [List.foldl_cons]
    have h1 := hl s (List.mem_cons_self ..)
    have h2 := spots_len s
    have ih := secs_ok r (secS acc s) (N + 100001) (by omega) (fun x hx => hl x (List.mem_cons_of_mem _ hx)) (secS_ok h0 (by omega) h)
    intro x hx
    obtain ⟨a, b, c, d⟩ := ih x hx
    refine ⟨a, b, c, ?_⟩
    simp only [List.length_cons]
    have e : ((r.length + 1 : Nat) : Int) * 100001 = (r.length : Int) * 100001 + 100001 := by omega
    omega
theorem formE_right {f : Frm} (h : formE f = 0) : f.must.length ≤ 20 := by
  unfold formE at h
  split at h
  · exact absurd h (by decide)
  · split at h
    · exact absurd h (by decide)
    · omega
def fitsX (f : Frm) (s : ByteArray) : Int := if formE f ≠ 0 then formE f else bodyE s
set_option maxRecDepth 100000 in
set_option maxHeartbeats 32000000 in
theorem fits_any (f : Frm) (s : ByteArray) (w : World) (hE0 : Env w) (hf : SA w f.a f.must) (hcap : f.must.length ≤ f.c) (hsm : ∀ x ∈ f.must, x.size ≤ 1000000) (hs : s.size ≤ 100000) :
    Calls Tryz.prog 15 #[encForm f, .string s] w (fun e w' => Below w.heap.size w w' ∧ ((fitsX f s ≠ 0 ∧ e = .returned (.tuple #[.slice none 0 0, .int .i64 (fitsX f s)])) ∨ (fitsX f s = 0 ∧ ∃ a c, e = .returned (.tuple #[.slice a (fitsL f (((spots s).length : Nat) : Int) ((fillN (cutB 10 s) : Nat) : Int) (secsL (cutB 10 s))).length c, .int .i64 0]) ∧ SA w' a (fitsL f (((spots s).length : Nat) : Int) ((fillN (cutB 10 s) : Nat) : Int) (secsL (cutB 10 s)))))) := by
  have HCF := Lib.hid (fun W h1 h2 => checkForm_any f W h1 h2 hcap hsm)
  have HLn := Lib.hid (fun W h => length_any s W h hs)
  have HSc := Lib.hid (fun W h => sections_any s W h hs)
  have hscl : (secsL (cutB 10 s)).length ≤ 100001 := by have h1 := secsL_length (cutB 10 s); have h2 := cutB_len 10 s; omega
  have Hts : Hid (∀ x ∈ secsL (cutB 10 s), x.2.1.size ≤ 100000000) := secs_titles (cutB 10 s) [] (fun x hx => by have := cutB_sizes 10 s x hx; omega) (fun x hx => by cases hx)
  have Hsk : Hid (∀ x ∈ secsL (cutB 10 s), SecOk (0 + ((cutB 10 s).length : Int) * 100001) x) := secs_ok (cutB 10 s) [] 0 (by omega) (fun x hx => by have := cutB_sizes 10 s x hx; omega) (fun x hx => by cases hx)
  have HX1 : Hid (formE f ≠ 0 → fitsX f s = formE f) := fun h => by unfold fitsX; rw [if_pos h]
  have HX2 : Hid (formE f = 0 → fitsX f s = bodyE s) := fun h => by unfold fitsX; rw [if_neg (by simpa using h)]
  have Hml : Hid (formE f = 0 → f.must.length ≤ 20) := formE_right
  have Hf3 := Lib.hid (fits3_len f (((spots s).length : Nat) : Int) ((fillN (cutB 10 s) : Nat) : Int))
  have Hout : Hid (fitsL f (((spots s).length : Nat) : Int) ((fillN (cutB 10 s) : Nat) : Int) (secsL (cutB 10 s)) = secF f.deep (secsL (cutB 10 s)) (mustF (secsL (cutB 10 s)) f.must (fits3 f (((spots s).length : Nat) : Int) ((fillN (cutB 10 s) : Nat) : Int))) (secsL (cutB 10 s)).length) := rfl
  have H3 : Hid (fits3 f (((spots s).length : Nat) : Int) ((fillN (cutB 10 s) : Nat) : Int) = addF (decide (0 < f.lines) && decide (f.lines < ((fillN (cutB 10 s) : Nat) : Int))) 3 ⟨#[]⟩ (addF (decide (f.most < (((spots s).length : Nat) : Int))) 2 ⟨#[]⟩ (addF (decide ((((spots s).length : Nat) : Int) < f.least)) 1 ⟨#[]⟩ []))) := rfl
  generalize ((cutB 10 s).length : Int) = NN at *
  generalize fitsL f (((spots s).length : Nat) : Int) ((fillN (cutB 10 s) : Nat) : Int) (secsL (cutB 10 s)) = out at *
  generalize fits3 f (((spots s).length : Nat) : Int) ((fillN (cutB 10 s) : Nat) : Int) = A3 at *
  generalize fitsX f s = ex at *
  generalize formE f = fe at *
  generalize secsL (cutB 10 s) = secs at *
  generalize (((spots s).length : Nat) : Int) = wn at *
  generalize ((fillN (cutB 10 s) : Nat) : Int) = ln at *
  generalize bodyE s = be at *
  obtain ⟨f1, f2, f3, ms, a, c, f5⟩ := f
  unfold encForm at *
  simp only at hf hcap hsm HCF Hml Hout H3 ⊢
  obtain ⟨n, hn⟩ : ∃ n, ms.length = n := ⟨_, rfl⟩
  have Hn := Lib.hid hn
  rw [hn] at hcap HCF Hml ⊢
  clear hn
  have hB0 := Box.new w 29 #[.int .i64 f1, .int .i64 f2, .int .i64 f3, .slice a n c, .int .i64 f5]
  have hb1 : Below w.heap.size w (w.alloc (.cells #[.int .i64 f1, .int .i64 f2, .int .i64 f3, .slice a n c, .int .i64 f5] 29)) := by (repeat' (first | exact Below.refl _ _ | assumption | refine Below.setCell ?_ ?_ _ | refine below_drewN ?_ _ | refine Below.drew ?_ | refine Below.alloc ?_ ?_ _ | (with_reducible refine Below.trans ?_ (Below.mono hb ?_)) | (with_reducible refine Below.trans ?_ (Below.mono hb0 ?_)) | (with_reducible refine Below.trans ?_ (Below.mono hb1 ?_)) | (with_reducible refine Below.trans ?_ (Below.mono hb2 ?_)) | (with_reducible refine Below.trans ?_ (Below.mono hb3 ?_)) | (with_reducible refine Below.trans ?_ (Below.mono hb4 ?_)) | (with_reducible refine Below.trans ?_ (Below.mono hb5 ?_)) | (with_reducible refine Below.trans ?_ (Below.mono hb6 ?_)) | (with_reducible refine Below.trans ?_ (Below.mono hb7 ?_)) | (with_reducible refine Below.trans ?_ (Below.mono hb8 ?_)) | (with_reducible refine Below.trans ?_ (Below.mono hb9 ?_)) | (with_reducible refine Below.trans ?_ (Below.mono hb10 ?_)) | (with_reducible refine Below.trans ?_ (Below.mono hb11 ?_)) | (with_reducible refine Below.trans ?_ (Below.mono hb12 ?_)) | (with_reducible refine Below.trans ?_ (Below.mono hb13 ?_)) | (with_reducible refine Below.trans ?_ (Below.mono hb14 ?_)) | (with_reducible refine Below.trans ?_ (Below.mono hb15 ?_)) | omega | (simp; done) | (simp; omega)))
  have hE1 := hE0.below hb1
  have hms1 := hf.below hb1
  have hB1 := hB0
  have hB1_l := hB1.lt; have hB1_0 := hB1.cell 0; have hB1_1 := hB1.cell 1; have hB1_2 := hB1.cell 2; have hB1_3 := hB1.cell 3; have hB1_4 := hB1.cell 4; simp at hB1_0 hB1_1 hB1_2 hB1_3 hB1_4
  go_enter Tryz.func15, Tryz.ntmps15
  go_wp2_with fail
  refine (HCF.out _ hE1 hms1).mono ?_
  rintro e w2 ⟨rfl, hb2⟩
  have hb02 := below_next hb1 hb2
  by_cases hfe : fe = 0
  · subst hfe
    replace HX2 := Lib.hid (HX2.out rfl)
    have hml := Hml.out rfl
    clear Hml HX1
    go_wp2_with fail
    refine (HLn.out _ (hE0.below hb02)).mono ?_
    rintro e w3 ⟨hb3, hcase⟩
    have hb03 := below_next hb02 hb3
    rcases hcase with ⟨hbe, rfl⟩ | ⟨rfl, rfl⟩
    · have hq : (be != 0) = true := by simpa using hbe
      have Hbe := Lib.hid hbe
      clear hbe
      go_wp2_with fail
      go_ret2
      exact ⟨hb03, .inl ⟨by rw [HX2.out]; exact Hbe.out, by rw [HX2.out] <;> rfl⟩⟩
    · have hB3 := hB0.below (below_next hb2 hb3)
      have hms3 := hms1.below (below_next hb2 hb3)
      have hbO : Below w3.heap.size w3 (w3.alloc (.cells #[.slice none 0 0] 40)) := by (repeat' (first | exact Below.refl _ _ | assumption | refine Below.setCell ?_ ?_ _ | refine below_drewN ?_ _ | refine Below.drew ?_ | refine Below.alloc ?_ ?_ _ | (with_reducible refine Below.trans ?_ (Below.mono hb ?_)) | (with_reducible refine Below.trans ?_ (Below.mono hb0 ?_)) | (with_reducible refine Below.trans ?_ (Below.mono hb1 ?_)) | (with_reducible refine Below.trans ?_ (Below.mono hb2 ?_)) | (with_reducible refine Below.trans ?_ (Below.mono hb3 ?_)) | (with_reducible refine Below.trans ?_ (Below.mono hb4 ?_)) | (with_reducible refine Below.trans ?_ (Below.mono hb5 ?_)) | (with_reducible refine Below.trans ?_ (Below.mono hb6 ?_)) | (with_reducible refine Below.trans ?_ (Below.mono hb7 ?_)) | (with_reducible refine Below.trans ?_ (Below.mono hb8 ?_)) | (with_reducible refine Below.trans ?_ (Below.mono hb9 ?_)) | (with_reducible refine Below.trans ?_ (Below.mono hb10 ?_)) | (with_reducible refine Below.trans ?_ (Below.mono hb11 ?_)) | (with_reducible refine Below.trans ?_ (Below.mono hb12 ?_)) | (with_reducible refine Below.trans ?_ (Below.mono hb13 ?_)) | (with_reducible refine Below.trans ?_ (Below.mono hb14 ?_)) | (with_reducible refine Below.trans ?_ (Below.mono hb15 ?_)) | omega | (simp; done) | (simp; omega)))
      have hBo := Box.new w3 40 #[.slice none 0 0]
      have hzO : (w3.alloc (.cells #[.slice none 0 0] 40)).heap.size = w3.heap.size + 1 := by simp
      clear hB1 hB1_l hB1_0 hB1_1 hB1_2 hB1_3 hB1_4 hE1 hms1 hb2 hb02 hb1 hB0 hf
      go_wp2_with fail
      refine (HSc.out _ ((hE0.below hb03).below hbO)).mono ?_
      rintro e w4 ⟨v4, rfl, hown4, hb4⟩
      obtain ⟨sa, sc, rfl, hsec, hfar, -⟩ := hown4.sa
      have hst : FitSt w3.heap.size w4 (.slice none 0 0) [] sa secs := ⟨hBo.below hb4, Own.nil _ _ _, hsec, fun x hx => by have h1 := hfar x hx; rw [hzO] at h1; exact ⟨by omega, (fun e => by cases e), h1.2⟩⟩
      have hbq : Below w3.heap.size w3 w4 := below_next hbO hb4
      have hmsa : Hid (∀ W, Below w3.heap.size w3 W → SA W a ms) := fun W h => hms3.below h
      have HF : Hid (∀ W, Below w3.heap.size w3 W → Box W w.heap.size 29 #[.int .i64 f1, .int .i64 f2, .int .i64 f3, .slice a n c, .int .i64 f5]) := fun W h => hB3.below h
      have hb0W := hb03
      clear hBo hzO hbO hown4 hsec hfar hb4 hB3 hms3 HCF HLn HSc hE0 hsm
      have hF5 := HF.out _ hbq
      have hF5_l := hF5.lt; have hF5_0 := hF5.cell 0; have hF5_1 := hF5.cell 1; have hF5_2 := hF5.cell 2; have hF5_3 := hF5.cell 3; have hF5_4 := hF5.cell 4; simp at hF5_0 hF5_1 hF5_2 hF5_3 hF5_4
      rename World => w4
      generalize hWf : w3 = Wf at *
      clear hWf
      go_wp2_with fail
      have hla1 := addF_len (decide (wn < f1)) 1 ⟨#[]⟩ []
      have hla2 := addF_len (decide (f2 < wn)) 2 ⟨#[]⟩ (addF (decide (wn < f1)) 1 ⟨#[]⟩ [])
      simp only [List.length_nil] at hla1
      refine (addCloP_any Wf.heap.size _ [] sa secs (decide (wn < f1)) 1 ⟨#[]⟩ _ hst (by first | omega | (simp; done))).mono ?_
      rintro e w5 ⟨rfl, v5, hst5, hk5, -⟩
      replace hbq := hst.down hbq hk5
      replace hst := hst5
      clear hst5 hk5
      have hF5 := HF.out _ hbq
      have hF5_l := hF5.lt; have hF5_0 := hF5.cell 0; have hF5_1 := hF5.cell 1; have hF5_2 := hF5.cell 2; have hF5_3 := hF5.cell 3; have hF5_4 := hF5.cell 4; simp at hF5_0 hF5_1 hF5_2 hF5_3 hF5_4
      go_wp2_with fail
      clear hF5 hF5_l hF5_0 hF5_1 hF5_2 hF5_3 hF5_4
      refine (addCloP_any Wf.heap.size _ _ sa secs (decide (f2 < wn)) 2 ⟨#[]⟩ _ hst (by first | omega | (simp; done))).mono ?_
      rintro e w5 ⟨rfl, v5, hst5, hk5, -⟩
      replace hbq := hst.down hbq hk5
      replace hst := hst5
      clear hst5 hk5
      have hF5 := HF.out _ hbq
      have hF5_l := hF5.lt; have hF5_0 := hF5.cell 0; have hF5_1 := hF5.cell 1; have hF5_2 := hF5.cell 2; have hF5_3 := hF5.cell 3; have hF5_4 := hF5.cell 4; simp at hF5_0 hF5_1 hF5_2 hF5_3 hF5_4
      go_upto_region 12 with (fail)
      go_cut [] from 47 to 57 (fun wx => ∃ (W' : World) (v : Value), W' = wx ∧ FitSt Wf.heap.size W' v A3 sa secs ∧ Below Wf.heap.size Wf W')
      case first =>
        by_cases h30 : 0 < f3
        · have H3b : Hid (A3 = addF (decide (f3 < ln)) 3 ⟨#[]⟩ (addF (decide (f2 < wn)) 2 ⟨#[]⟩ (addF (decide (wn < f1)) 1 ⟨#[]⟩ []))) := by show _ = _; rw [H3.out, decide_eq_true h30, Bool.true_and]
          go_wp2_with fail
          clear hF5 hF5_l hF5_0 hF5_1 hF5_2 hF5_3 hF5_4
          refine (addCloP_any Wf.heap.size _ _ sa secs (decide (f3 < ln)) 3 ⟨#[]⟩ _ hst (by first | omega | (simp; done))).mono ?_
          rintro e w5 ⟨rfl, v5, hst5, hk5, -⟩
          replace hbq := hst.down hbq hk5
          replace hst := hst5
          clear hst5 hk5
          have hF5 := HF.out _ hbq
          have hF5_l := hF5.lt; have hF5_0 := hF5.cell 0; have hF5_1 := hF5.cell 1; have hF5_2 := hF5.cell 2; have hF5_3 := hF5.cell 3; have hF5_4 := hF5.cell 4; simp at hF5_0 hF5_1 hF5_2 hF5_3 hF5_4
          rw [← H3b.out] at hst
          go_wp2_with fail
          go_meet
          exact ⟨_, _, rfl, hst, hbq⟩
        · have H3b : Hid (A3 = addF false 3 ⟨#[]⟩ (addF (decide (f2 < wn)) 2 ⟨#[]⟩ (addF (decide (wn < f1)) 1 ⟨#[]⟩ []))) := by show _ = _; rw [H3.out, decide_eq_false h30, Bool.false_and]
          go_wp2_with fail
          clear hF5 hF5_l hF5_0 hF5_1 hF5_2 hF5_3 hF5_4
          refine (addCloP_any Wf.heap.size _ _ sa secs false 3 ⟨#[]⟩ _ hst (by first | omega | (simp; done))).mono ?_
          rintro e w5 ⟨rfl, v5, hst5, hk5, -⟩
          replace hbq := hst.down hbq hk5
          replace hst := hst5
          clear hst5 hk5
          have hF5 := HF.out _ hbq
          have hF5_l := hF5.lt; have hF5_0 := hF5.cell 0; have hF5_1 := hF5.cell 1; have hF5_2 := hF5.cell 2; have hF5_3 := hF5.cell 3; have hF5_4 := hF5.cell 4; simp at hF5_0 hF5_1 hF5_2 hF5_3 hF5_4
          rw [← H3b.out] at hst
          go_wp2_with fail
          go_meet
          exact ⟨_, _, rfl, hst, hbq⟩
      case rest =>
        clear hst hbq hla1 hla2 hF5 hF5_l hF5_0 hF5_1 hF5_2 hF5_3 hF5_4
        obtain ⟨W7, v7, rfl, hst, hbq⟩ := hcut
        have hF5 := HF.out _ hbq
        have hF5_l := hF5.lt; have hF5_0 := hF5.cell 0; have hF5_1 := hF5.cell 1; have hF5_2 := hF5.cell 2; have hF5_3 := hF5.cell 3; have hF5_4 := hF5.cell 4; simp at hF5_0 hF5_1 hF5_2 hF5_3 hF5_4
        have hA3l := Hf3.out
        go_wp2_with fail
        clear hF5 hF5_l hF5_0 hF5_1 hF5_2 hF5_3 hF5_4
        obtain ⟨q, hqW⟩ : ∃ q, Wf.heap.size = q := ⟨_, rfl⟩
        have hwq : w.heap.size ≤ q := by rw [← hqW]; exact hb0W.size
        rw [hqW] at hst hbq hmsa HF ⊢
        clear hqW
        go_loopg [61] n (fun gk i wr => ∃ (k : Nat) (v : Value), i = .int .i64 k ∧ k ≤ n ∧ Hid (gk = n - k) ∧ FitSt q wr v (mustF secs (ms.take k) A3) sa secs ∧ Below q Wf wr)
        case atStart => exact ⟨0, _, rfl, by omega, rfl, hst, hbq⟩
        clear hst hbq
        obtain ⟨k, v, rfl, hk, hgk, hst, hbq⟩ := hrel
        have hql := hst.box.lt
        by_cases hlt : k < n
        · have hltl : k < ms.length := by rw [Hn.out]; exact hlt
          obtain ⟨qb, qoff, hqa, d0⟩ := (hmsa.out _ hbq).str hltl
          have HSn := Lib.hid (mustF_snoc secs A3 hltl)
          have hal := mustF_len secs (ms.take k) A3
          rw [List.length_take] at hal
          have Hq := Lib.hid hqa
          rw [hqa]
          clear hqa
          generalize ms[k] = m at *
          obtain ⟨acc2, ha2⟩ : ∃ a, mustF secs (ms.take (k + 1)) A3 = a := ⟨_, rfl⟩
          rw [ha2] at HSn
          have HA2 := Lib.hid ha2
          clear ha2
          generalize mustF secs (ms.take k) A3 = acc at *
          have hk1 : (0 : Int) ≤ (k : Int) := by omega
          have hk2 : (k : Int) < (n : Int) := by omega
          have hbw : Below wr.heap.size wr (wr.alloc (.cells #[.string m] 9)) := (Below.refl _ _).alloc (Nat.le_refl _) _
          have hstA := hst.below hbw
          have hbqA : Below q Wf (wr.alloc (.cells #[.string m] 9)) := hbq.alloc (by omega) _
          have hBm := Box.new wr 9 #[.string m]
          have hvm : v.ownBlock ≠ some wr.heap.size := fun e => by have := (hst.own.lt _ e).2; omega
          have HFd := Lib.hid (fun W (h : Below (wr.alloc (.cells #[.string m] 9)).heap.size (wr.alloc (.cells #[.string m] 9)) W) => findSect_any secs sa sc 69 #[.pointer (some ⟨wr.heap.size, 0, none⟩)] (hasM m) W (enters_of Tryz.func69 (by kernel_rfl) rfl) (hstA.sec.below h) (by omega) (fun x hx W' hb' => hasCloP_any x wr.heap.size m W' (((hBm.below h).below hb').cell 0) (Hts.out x hx)))
          generalize secs.any (hasM m) = an at *
          have hqm : wr.heap.size ≠ q := by omega
          have hcm := hBm.cell 0
          clear hst hbq
          go_upto_region 16 with (fail)
          refine wp_region_held_drew (S := (fun wy => wy.cell? ⟨wr.heap.size, 0, none⟩ = some (.string m))) (by kernel_rfl) ?hS (fun hHeld => ?_)
          case hS => exact hcm
          refine rtake (i := 0) (d := (some 65)) (v := ?_) rfl (by kernel_rfl) (by kernel_rfl) (by kernel_rfl) (by kernel_rfl) (fun _ _ _ h => h) (by kernel_rfl) (by assumption) ?_ ?_
          rotate_left 1
          · (intro wI hSI; (try dsimp only at hSI); go_simp; (try with_reducible rfl))
          simp only [Act.put, List.setIfInBounds_toArray, List.set_cons_zero, List.set_cons_succ]
          refine rtake (i := 1) (d := (some 66)) (v := ?_) rfl (by kernel_rfl) (by kernel_rfl) (by kernel_rfl) (by kernel_rfl) (fun _ _ _ h => h) (by kernel_rfl) (by assumption) ?_ ?_
          rotate_left 1
          · (intro wI hSI; (try dsimp only at hSI); go_simp; (try with_reducible rfl))
          simp only [Act.put, List.setIfInBounds_toArray, List.set_cons_zero, List.set_cons_succ]
          refine rtake (i := 2) (d := (some 67)) (v := ?_) rfl (by kernel_rfl) (by kernel_rfl) (by kernel_rfl) (by kernel_rfl) (fun _ _ _ h => h) (by kernel_rfl) (by assumption) ?_ ?_
          rotate_left 1
          · (intro wI hSI; (try dsimp only at hSI); go_simp; (try with_reducible rfl))
          simp only [Act.put, List.setIfInBounds_toArray, List.set_cons_zero, List.set_cons_succ]
          refine rtake (i := 5) (d := (some 70)) (v := ?_) rfl (by kernel_rfl) (by kernel_rfl) (by kernel_rfl) (by kernel_rfl) (fun _ _ _ h => h) (by kernel_rfl) (by assumption) ?_ ?_
          rotate_left 1
          · (intro wI hSI; (try dsimp only at hSI); go_simp; (try with_reducible rfl))
          simp only [Act.put, List.setIfInBounds_toArray, List.set_cons_zero, List.set_cons_succ]
          refine rcall (i := 3) (d := (some 68)) (by kernel_rfl) rfl (by kernel_rfl) (fun K hK => ?_)
          go_simp
          go_at_call 68; refine (HFd.out _ (Below.refl _ _).drew).mono ?_; rintro e w4 ⟨rfl, hb4⟩
          refine hK.out _ _ ?hS (fun hHeld => ?_)
          case hS => exact cell_later hb4 hHeld
          clear hK K
          simp only [Act.put, List.setIfInBounds_toArray, List.set_cons_zero, List.set_cons_succ]
          have hst4 := (hstA.below (Below.refl _ _).drew).below hb4
          refine rtake (i := 4) (d := (some 69)) (v := ?_) rfl (by kernel_rfl) (by kernel_rfl) (by kernel_rfl) (by kernel_rfl) (fun _ _ _ h => h) (by kernel_rfl) (by assumption) ?_ ?_
          rotate_left 1
          · (intro wI hSI; (try dsimp only at hSI); go_simp; (try with_reducible rfl))
          simp only [Act.put, List.setIfInBounds_toArray, List.set_cons_zero, List.set_cons_succ]
          refine rcall (i := 6) (d := (some 71)) (by kernel_rfl) rfl (by kernel_rfl) (fun K hK => ?_)
          go_simp
          go_at_call 67; refine (addCloP_any q v acc sa secs (!an) 4 m _ hst4 (by omega)).mono ?_; rintro e w5 ⟨rfl, v5, hst5, hk5, -⟩
          refine hK.out _ _ ?hS (fun hHeld => ?_)
          case hS => exact cellKp hk5 (fun e => e.elim hqm (fun e => hvm e)) hHeld
          clear hK K
          simp only [Act.put, List.setIfInBounds_toArray, List.set_cons_zero, List.set_cons_succ]
          refine wpAnyH_done (by kernel_rfl) ?_ _
          have hbq5 := hst4.down (hbqA.drew.trans (hb4.mono (by simp; omega))) hk5
          rw [← HSn.out] at hst5
          rw [← Hq.out]
          clear hHeld
          go_wp2_with fail
          go_roundg (n - (k + 1))
          case measure => have := hgk.out; omega
          case rel => exact ⟨k + 1, v5, by go_num, by omega, rfl, by rw [HA2.out]; exact hst5, hbq5⟩
        · obtain rfl : k = n := by omega
          have HfinM : Hid (mustF secs (ms.take k) A3 = mustF secs ms A3) := by show _ = _; rw [← Hn.out, List.take_length]
          rw [HfinM.out] at hst
          have hA4l := mustF_len secs ms A3
          rw [Hn.out] at hA4l
          generalize mustF secs ms A3 = A4 at *
          clear hgk hk HfinM hlt
          go_wp2_with fail
          rename World => wo2
          go_loopg [15, 75] secs.length (fun gk ab i wr => ∃ (k : Nat) (v : Value), ab = .int .i64 (aboveL secs k) ∧ i = .int .i64 k ∧ k ≤ secs.length ∧ Hid (gk = secs.length - k) ∧ FitSt q wr v (secF f5 secs A4 k) sa secs ∧ Below q Wf wr)
          case atStart => exact ⟨0, _, rfl, rfl, by omega, rfl, hst, hbq⟩
          clear hst hbq
          obtain ⟨k, v, rfl, rfl, hk, hgk, hst, hbq⟩ := hrel
          have hql := hst.box.lt
          by_cases hlt : k < secs.length
          · obtain ⟨qb, qoff, hqa, d0, d1, d2⟩ := hst.sec.sect hlt
            have hnx : ∀ h : k + 1 < secs.length, wr.cell? ⟨qb, qoff + (k + 1) * 3, none⟩ = some (.int .i64 secs[k + 1].1) := fun h => by
              obtain ⟨qb', qoff', hqa', c0, -, -⟩ := hst.sec.sect h
              rw [hqa] at hqa'
              cases hqa'
              exact c0
            have hqfar := hst.far _ hqa
            have HSn := secF_at f5 A4 hlt
            have Hab := Lib.hid (aboveL_at hlt)
            obtain ⟨a1, a2⟩ := aboveL_bd Hsk.out k
            have hal := secF_len f5 secs A4 k
            obtain ⟨x5, x6, x7, x8⟩ := Hsk.out secs[k] (List.getElem_mem hlt)
            have Hq := Lib.hid hqa
            rw [hqa]
            clear hqa
            have Hem : Hid (emptyB secs k secs[k] = (decide (secs[k].2.2 = 0) && (decide (k + 1 = secs.length) || nextB secs k secs[k]))) := rfl
            have Hdp : Hid (deepB f5 (aboveL secs k) secs[k] = (decide (f5 < secs[k].1) || decide (aboveL secs k + 1 < secs[k].1))) := rfl
            have Hnx : Hid (∀ h : k + 1 < secs.length, nextB secs k secs[k] = decide (secs[k + 1].1 ≤ secs[k].1)) := fun h => by unfold nextB; rw [List.getElem?_eq_getElem h]
            have Hsk1 : Hid (∀ h : k + 1 < secs.length, 1 ≤ secs[k + 1].1 ∧ secs[k + 1].1 ≤ 4) := fun h => by obtain ⟨a, b, _, _⟩ := Hsk.out secs[k + 1] (List.getElem_mem h); exact ⟨a, b⟩
            have Hnc := Lib.hid hnx
            clear hnx
            generalize emptyB secs k secs[k] = em at *
            generalize deepB f5 (aboveL secs k) secs[k] = dp at *
            generalize nextB secs k secs[k] = nb at *
            generalize secs[k] = x at *
            obtain ⟨x1, x2, x3⟩ := x
            generalize aboveL secs k = ab at *
            simp only at d0 d1 d2 HSn x5 x6 x7 x8 Hem Hdp Hnx Hab
            obtain ⟨acc2, ha2⟩ : ∃ a, secF f5 secs A4 (k + 1) = a := ⟨_, rfl⟩
            rw [ha2] at HSn
            replace HSn := Lib.hid HSn
            have HA2 := Lib.hid ha2
            clear ha2
            generalize secF f5 secs A4 k = acc at *
            obtain ⟨acc5, ha5⟩ : ∃ a, addF dp 5 x2 acc = a := ⟨_, rfl⟩
            have HA5 := Lib.hid ha5.symm
            rw [ha5] at HSn
            clear ha5
            have hk1 : (0 : Int) ≤ (k : Int) := by omega
            have hk2 : (k : Int) < (secs.length : Int) := by omega
            have hbw : Below wr.heap.size wr (wr.alloc (.cells #[.int .i64 x1, .string x2, .int .i64 x3] 54)) := (Below.refl _ _).alloc (Nat.le_refl _) _
            have hstA := hst.below hbw
            have hbqA : Below q Wf (wr.alloc (.cells #[.int .i64 x1, .string x2, .int .i64 x3] 54)) := hbq.alloc (by omega) _
            have hBx := Box.new wr 54 #[.int .i64 x1, .string x2, .int .i64 x3]
            have hqx : wr.heap.size ≠ q := by omega
            have hvx0 : v.ownBlock ≠ some wr.heap.size := fun e => by have := (hst.own.lt _ e).2; omega
            have hFc := (HF.out _ hbqA).cell 4
            have hwa : IntKind.i64.wrap (ab + 1) = ab + 1 := IntWalk.i64_in _ (by omega)
            have hwk : IntKind.i64.wrap ((k : Int) + 1) = (k : Int) + 1 := IntWalk.i64_in _ (by omega)
            simp at hFc
            have hBx_l := hBx.lt; have hBx_0 := hBx.cell 0; have hBx_1 := hBx.cell 1; have hBx_2 := hBx.cell 2; simp at hBx_0 hBx_1 hBx_2
            clear hst hbq
            go_upto_region 22 with (fail)
            go_cut [] from 80 to 95 (fun wx => ∃ (W' : World) (v5 : Value), W' = wx ∧ FitSt q W' v5 acc5 sa secs ∧ Kp (fun j => j = q ∨ v.ownBlock = some j) (wr.alloc (.cells #[.int .i64 x1, .string x2, .int .i64 x3] 54)) W' ∧ ∀ j, v5.ownBlock = some j → v.ownBlock = some j ∨ (wr.alloc (.cells #[.int .i64 x1, .string x2, .int .i64 x3] 54)).heap.size ≤ j)
            case first =>
              by_cases hd1 : f5 < x1
              · obtain rfl : dp = true := by rw [Hdp.out, decide_eq_true hd1]; rfl
                go_wp2_with fail
                refine (addCloP_any q v acc sa secs true 5 x2 _ hstA (by omega)).mono ?_
                rintro e w5 ⟨rfl, v5, hst5, hk5, hnw5⟩
                rw [← HA5.out] at hst5
                go_wp2_with fail
                go_meet
                exact ⟨w5, v5, rfl, hst5, hk5, hnw5⟩
              · by_cases hd2 : ab + 1 < x1
                · obtain rfl : dp = true := by rw [Hdp.out, decide_eq_true hd2]; simp
                  go_wp2_with fail
                  refine (addCloP_any q v acc sa secs true 5 x2 _ hstA (by omega)).mono ?_
                  rintro e w5 ⟨rfl, v5, hst5, hk5, hnw5⟩
                  rw [← HA5.out] at hst5
                  go_wp2_with fail
                  go_meet
                  exact ⟨w5, v5, rfl, hst5, hk5, hnw5⟩
                · obtain rfl : dp = false := by rw [Hdp.out, decide_eq_false hd1, decide_eq_false hd2]; rfl
                  go_wp2_with fail
                  refine (addCloP_any q v acc sa secs false 5 x2 _ hstA (by omega)).mono ?_
                  rintro e w5 ⟨rfl, v5, hst5, hk5, hnw5⟩
                  rw [← HA5.out] at hst5
                  go_wp2_with fail
                  go_meet
                  exact ⟨w5, v5, rfl, hst5, hk5, hnw5⟩
            case rest =>
              obtain ⟨w5, v5, rfl, hst5, hk5, hnw5⟩ := hcut
              have hbq5 := hstA.down hbqA hk5
              have hBx5 := hstA.keep hk5 hBx hqx hvx0
              have hvx : v5.ownBlock ≠ some wr.heap.size := fun e => (hnw5 _ e).elim hvx0 (fun h => by simp at h; omega)
              have hacl5 := addF_len dp 5 x2 acc
              have hacl6 : acc5.length ≤ acc.length + 1 := by rw [HA5.out]; exact hacl5
              clear hacl5 hBx_l hBx_0 hBx_1 hBx_2
              have hst6 := hst5.below (Below.refl _ _).drew
              have hbq6 := hbq5.drew
              have hBx5_l := hBx5.lt; have hBx5_0 := hBx5.cell 0; have hBx5_1 := hBx5.cell 1; have hBx5_2 := hBx5.cell 2; simp at hBx5_0 hBx5_1 hBx5_2
              clear hstA hbqA
              go_upto_region 23 with (fail)
              by_cases hx3 : x3 = 0
              · subst hx3
                by_cases hkn : k + 1 = secs.length
                · have hem : em = true := by rw [Hem.out, decide_eq_true hkn]; rfl
                  rw [hem] at HSn
                  have hq1 : (((k : Int) + 1) == (secs.length : Int)) = true := by rw [beq_iff_eq]; omega
                  clear hem hkn
                  refine wp_region_held_drew (S := (fun wy => wy.cell? ⟨wr.heap.size, 0, none⟩ = some (.int .i64 x1) ∧ wy.cell? ⟨wr.heap.size, 1, none⟩ = some (.string x2) ∧ wy.cell? ⟨wr.heap.size, 2, none⟩ = some (.int .i64 0))) (by kernel_rfl) ?hS (fun hHeld => ?_)
                  case hS => exact ⟨hBx5_0, hBx5_1, hBx5_2⟩
                  refine rtake (i := 0) (d := (some 96)) (v := ?_) rfl (by kernel_rfl) (by kernel_rfl) (by kernel_rfl) (by kernel_rfl) (fun _ _ _ h => h) (by kernel_rfl) (by assumption) ?_ ?_
                  rotate_left 1
                  · (intro wI hSI; (try dsimp only at hSI); go_simp; (try with_reducible rfl))
                  simp only [Act.put, List.setIfInBounds_toArray, List.set_cons_zero, List.set_cons_succ]
                  refine rtake (i := 1) (d := (some 97)) (v := ?_) rfl (by kernel_rfl) (by kernel_rfl) (by kernel_rfl) (by kernel_rfl) (fun _ _ _ h => h) (by kernel_rfl) (by assumption) ?_ ?_
                  rotate_left 1
                  · (intro wI hSI; (try dsimp only at hSI); go_simp; (try with_reducible rfl))
                  simp only [Act.put, List.setIfInBounds_toArray, List.set_cons_zero, List.set_cons_succ]
                  refine rtake (i := 2) (d := (some 98)) (v := ?_) rfl (by kernel_rfl) (by kernel_rfl) (by kernel_rfl) (by kernel_rfl) (fun _ _ _ h => h) (by kernel_rfl) (by assumption) ?_ ?_
                  rotate_left 1
                  · (intro wI hSI; (try dsimp only at hSI); go_simp; (try with_reducible rfl))
                  simp only [Act.put, List.setIfInBounds_toArray, List.set_cons_zero, List.set_cons_succ]
                  refine rtake (i := 3) (d := (some 99)) (v := ?_) rfl (by kernel_rfl) (by kernel_rfl) (by kernel_rfl) (by kernel_rfl) (fun _ _ _ h => h) (by kernel_rfl) (by assumption) ?_ ?_
                  rotate_left 1
                  · (intro wI hSI; (try dsimp only at hSI); go_simp; (try with_reducible rfl))
                  simp only [Act.put, List.setIfInBounds_toArray, List.set_cons_zero, List.set_cons_succ]
                  refine rtake (i := 4) (d := (some 100)) (v := ?_) rfl (by kernel_rfl) (by kernel_rfl) (by kernel_rfl) (by kernel_rfl) (fun _ _ _ h => h) (by kernel_rfl) (by assumption) ?_ ?_
                  rotate_left 1
                  · (intro wI hSI; (try dsimp only at hSI); go_simp; (try with_reducible rfl))
                  simp only [Act.put, List.setIfInBounds_toArray, List.set_cons_zero, List.set_cons_succ]
                  refine rtake (i := 5) (d := (some 101)) (v := ?_) rfl (by kernel_rfl) (by kernel_rfl) (by kernel_rfl) (by kernel_rfl) (fun _ _ _ h => h) (by kernel_rfl) (by assumption) ?_ ?_
                  rotate_left 1
                  · (intro wI hSI; (try dsimp only at hSI); go_simp; (try with_reducible rfl))
                  simp only [Act.put, List.setIfInBounds_toArray, List.set_cons_zero, List.set_cons_succ]
                  refine rtake (i := 6) (d := (some 102)) (v := ?_) rfl (by kernel_rfl) (by kernel_rfl) (by kernel_rfl) (by kernel_rfl) (fun _ _ _ h => h) (by kernel_rfl) (by assumption) ?_ ?_
                  rotate_left 1
                  · (intro wI hSI; (try dsimp only at hSI); go_simp; (try with_reducible rfl))
                  simp only [Act.put, List.setIfInBounds_toArray, List.set_cons_zero, List.set_cons_succ]
                  refine rtake (i := 7) (d := (some 103)) (v := ?_) rfl (by kernel_rfl) (by kernel_rfl) (by kernel_rfl) (by kernel_rfl) (fun _ _ _ h => h) (by kernel_rfl) (by assumption) ?_ ?_
                  rotate_left 1
                  · (intro wI hSI; (try dsimp only at hSI); go_simp; (try with_reducible rfl))
                  simp only [Act.put, List.setIfInBounds_toArray, List.set_cons_zero, List.set_cons_succ]
                  refine rtake (i := 8) (d := (some 104)) (v := ?_) rfl (by kernel_rfl) (by kernel_rfl) (by kernel_rfl) (by kernel_rfl) (fun _ _ _ h => h) (by kernel_rfl) (by assumption) ?_ ?_
                  rotate_left 1
                  · (intro wI hSI; (try dsimp only at hSI); go_simp; (try with_reducible rfl))
                  simp only [Act.put, List.setIfInBounds_toArray, List.set_cons_zero, List.set_cons_succ]
                  refine rtake (i := 9) (d := (some 105)) (v := ?_) rfl (by kernel_rfl) (by kernel_rfl) (by kernel_rfl) (by kernel_rfl) (fun _ _ _ h => h) (by kernel_rfl) (by assumption) ?_ ?_
                  rotate_left 1
                  · (intro wI hSI; (try dsimp only at hSI); go_simp; (try with_reducible rfl))
                  simp only [Act.put, List.setIfInBounds_toArray, List.set_cons_zero, List.set_cons_succ]
                  refine rtake (i := 10) (d := (some 106)) (v := ?_) rfl (by kernel_rfl) (by kernel_rfl) (by kernel_rfl) (by kernel_rfl) (fun _ _ _ h => h) (by kernel_rfl) (by assumption) ?_ ?_
                  rotate_left 1
                  · (intro wI hSI; (try dsimp only at hSI); go_simp; (try with_reducible rfl))
                  simp only [Act.put, List.setIfInBounds_toArray, List.set_cons_zero, List.set_cons_succ]
                  refine rskip (i := 11) (d := (some 107)) rfl (by kernel_rfl) (by kernel_rfl) (by kernel_rfl) (by kernel_rfl) (fun _ _ _ h => h) (by kernel_rfl) (by assumption) ?_
                  simp only [Act.put, List.setIfInBounds_toArray, List.set_cons_zero, List.set_cons_succ]
                  refine rskip (i := 12) (d := (some 108)) rfl (by kernel_rfl) (by kernel_rfl) (by kernel_rfl) (by kernel_rfl) (fun _ _ _ h => h) (by kernel_rfl) (by assumption) ?_
                  simp only [Act.put, List.setIfInBounds_toArray, List.set_cons_zero, List.set_cons_succ]
                  refine rskip (i := 13) (d := (some 109)) rfl (by kernel_rfl) (by kernel_rfl) (by kernel_rfl) (by kernel_rfl) (fun _ _ _ h => h) (by kernel_rfl) (by assumption) ?_
                  simp only [Act.put, List.setIfInBounds_toArray, List.set_cons_zero, List.set_cons_succ]
                  refine rskip (i := 14) (d := (some 110)) rfl (by kernel_rfl) (by kernel_rfl) (by kernel_rfl) (by kernel_rfl) (fun _ _ _ h => h) (by kernel_rfl) (by assumption) ?_
                  simp only [Act.put, List.setIfInBounds_toArray, List.set_cons_zero, List.set_cons_succ]
                  refine rskip (i := 15) (d := (some 111)) rfl (by kernel_rfl) (by kernel_rfl) (by kernel_rfl) (by kernel_rfl) (fun _ _ _ h => h) (by kernel_rfl) (by assumption) ?_
                  simp only [Act.put, List.setIfInBounds_toArray, List.set_cons_zero, List.set_cons_succ]
                  refine rskip (i := 16) (d := (some 112)) rfl (by kernel_rfl) (by kernel_rfl) (by kernel_rfl) (by kernel_rfl) (fun _ _ _ h => h) (by kernel_rfl) (by assumption) ?_
                  simp only [Act.put, List.setIfInBounds_toArray, List.set_cons_zero, List.set_cons_succ]
                  refine rskip (i := 17) (d := (some 113)) rfl (by kernel_rfl) (by kernel_rfl) (by kernel_rfl) (by kernel_rfl) (fun _ _ _ h => h) (by kernel_rfl) (by assumption) ?_
                  simp only [Act.put, List.setIfInBounds_toArray, List.set_cons_zero, List.set_cons_succ]
                  refine rskip (i := 18) (d := (some 114)) rfl (by kernel_rfl) (by kernel_rfl) (by kernel_rfl) (by kernel_rfl) (fun _ _ _ h => h) (by kernel_rfl) (by assumption) ?_
                  simp only [Act.put, List.setIfInBounds_toArray, List.set_cons_zero, List.set_cons_succ]
                  refine rskip (i := 19) (d := (some 115)) rfl (by kernel_rfl) (by kernel_rfl) (by kernel_rfl) (by kernel_rfl) (fun _ _ _ h => h) (by kernel_rfl) (by assumption) ?_
                  simp only [Act.put, List.setIfInBounds_toArray, List.set_cons_zero, List.set_cons_succ]
                  refine rtake (i := 20) (d := (some 116)) (v := ?_) rfl (by kernel_rfl) (by kernel_rfl) (by kernel_rfl) (by kernel_rfl) (fun _ _ _ h => h) (by kernel_rfl) (by assumption) ?_ ?_
                  rotate_left 1
                  · (intro wI hSI; (try dsimp only at hSI); go_simp; (try with_reducible rfl))
                  simp only [Act.put, List.setIfInBounds_toArray, List.set_cons_zero, List.set_cons_succ]
                  refine rtake (i := 21) (d := (some 117)) (v := ?_) rfl (by kernel_rfl) (by kernel_rfl) (by kernel_rfl) (by kernel_rfl) (fun _ _ _ h => h) (by kernel_rfl) (by assumption) ?_ ?_
                  rotate_left 1
                  · (intro wI hSI; (try dsimp only at hSI); go_simp; (try with_reducible rfl))
                  simp only [Act.put, List.setIfInBounds_toArray, List.set_cons_zero, List.set_cons_succ]
                  refine rtake (i := 22) (d := (some 118)) (v := ?_) rfl (by kernel_rfl) (by kernel_rfl) (by kernel_rfl) (by kernel_rfl) (fun _ _ _ h => h) (by kernel_rfl) (by assumption) ?_ ?_
                  rotate_left 1
                  · (intro wI hSI; (try dsimp only at hSI); go_simp; (try with_reducible rfl))
                  simp only [Act.put, List.setIfInBounds_toArray, List.set_cons_zero, List.set_cons_succ]
                  refine rtake (i := 23) (d := (some 119)) (v := ?_) rfl (by kernel_rfl) (by kernel_rfl) (by kernel_rfl) (by kernel_rfl) (fun _ _ _ h => h) (by kernel_rfl) (by assumption) ?_ ?_
                  rotate_left 1
                  · (intro wI hSI; (try dsimp only at hSI); go_simp; (try with_reducible rfl))
                  simp only [Act.put, List.setIfInBounds_toArray, List.set_cons_zero, List.set_cons_succ]
                  refine rcall (i := 24) (d := (some 120)) (by kernel_rfl) rfl (by kernel_rfl) (fun K hK => ?_)
                  go_simp
                  go_at_call 67; refine (addCloP_any q v5 acc5 sa secs true 6 x2 _ hst6 (by omega)).mono ?_; rintro e w7 ⟨rfl, v7, hst7, hk7, -⟩
                  refine hK.out _ _ ?hS (fun hHeld => ?_)
                  case hS => exact ⟨cellKp hk7 (fun e => e.elim hqx (fun e => hvx e)) hHeld.1, cellKp hk7 (fun e => e.elim hqx (fun e => hvx e)) hHeld.2.1, cellKp hk7 (fun e => e.elim hqx (fun e => hvx e)) hHeld.2.2⟩
                  clear hK K
                  simp only [Act.put, List.setIfInBounds_toArray, List.set_cons_zero, List.set_cons_succ]
                  refine wpAnyH_done (by kernel_rfl) ?_ _
                  have hbq7 := hst6.down hbq6 hk7
                  have hxc7 := hHeld.1
                  rw [← HSn.out] at hst7
                  rw [← Hq.out]
                  clear hHeld
                  go_wp2_with fail
                  go_roundg (secs.length - (k + 1))
                  case measure => have := hgk.out; omega
                  case rel => exact ⟨k + 1, v7, by rw [Hab.out], by go_num, by omega, rfl, by rw [HA2.out]; exact hst7, hbq7⟩
                · have hkl : k + 1 < secs.length := by omega
                  have hem : em = nb := by rw [Hem.out, decide_eq_false hkn]; rfl
                  rw [hem, Hnx.out hkl] at HSn
                  have hq1 : (((k : Int) + 1) == (secs.length : Int)) = false := by rw [beq_eq_false_iff_ne]; omega
                  have hki : (k : Int) + 1 < (secs.length : Int) := by omega
                  have hki0 : (0 : Int) ≤ (k : Int) + 1 := by omega
                  obtain ⟨qb', qoff', hqa', c0, -, -⟩ := hst6.sec.sect hkl
                  rw [Hq.out] at hqa'
                  cases hqa'
                  have hfar6 := hst6.far _ Hq.out
                  generalize secs[k + 1].1 = y1 at *
                  clear hem hkn
                  refine wp_region_held_drew (S := (fun wy => wy.cell? ⟨wr.heap.size, 0, none⟩ = some (.int .i64 x1) ∧ wy.cell? ⟨wr.heap.size, 1, none⟩ = some (.string x2) ∧ wy.cell? ⟨wr.heap.size, 2, none⟩ = some (.int .i64 0) ∧ wy.cell? ⟨qb, qoff + (k + 1) * 3, none⟩ = some (.int .i64 y1))) (by kernel_rfl) ?hS (fun hHeld => ?_)
                  case hS => exact ⟨hBx5_0, hBx5_1, hBx5_2, c0⟩
                  refine rtake (i := 0) (d := (some 96)) (v := ?_) rfl (by kernel_rfl) (by kernel_rfl) (by kernel_rfl) (by kernel_rfl) (fun _ _ _ h => h) (by kernel_rfl) (by assumption) ?_ ?_
                  rotate_left 1
                  · (intro wI hSI; (try dsimp only at hSI); go_simp; (try with_reducible rfl))
                  simp only [Act.put, List.setIfInBounds_toArray, List.set_cons_zero, List.set_cons_succ]
                  refine rtake (i := 1) (d := (some 97)) (v := ?_) rfl (by kernel_rfl) (by kernel_rfl) (by kernel_rfl) (by kernel_rfl) (fun _ _ _ h => h) (by kernel_rfl) (by assumption) ?_ ?_
                  rotate_left 1
                  · (intro wI hSI; (try dsimp only at hSI); go_simp; (try with_reducible rfl))
                  simp only [Act.put, List.setIfInBounds_toArray, List.set_cons_zero, List.set_cons_succ]
                  refine rtake (i := 2) (d := (some 98)) (v := ?_) rfl (by kernel_rfl) (by kernel_rfl) (by kernel_rfl) (by kernel_rfl) (fun _ _ _ h => h) (by kernel_rfl) (by assumption) ?_ ?_
                  rotate_left 1
                  · (intro wI hSI; (try dsimp only at hSI); go_simp; (try with_reducible rfl))
                  simp only [Act.put, List.setIfInBounds_toArray, List.set_cons_zero, List.set_cons_succ]
                  refine rtake (i := 3) (d := (some 99)) (v := ?_) rfl (by kernel_rfl) (by kernel_rfl) (by kernel_rfl) (by kernel_rfl) (fun _ _ _ h => h) (by kernel_rfl) (by assumption) ?_ ?_
                  rotate_left 1
                  · (intro wI hSI; (try dsimp only at hSI); go_simp; (try with_reducible rfl))
                  simp only [Act.put, List.setIfInBounds_toArray, List.set_cons_zero, List.set_cons_succ]
                  refine rtake (i := 4) (d := (some 100)) (v := ?_) rfl (by kernel_rfl) (by kernel_rfl) (by kernel_rfl) (by kernel_rfl) (fun _ _ _ h => h) (by kernel_rfl) (by assumption) ?_ ?_
                  rotate_left 1
                  · (intro wI hSI; (try dsimp only at hSI); go_simp; (try with_reducible rfl))
                  simp only [Act.put, List.setIfInBounds_toArray, List.set_cons_zero, List.set_cons_succ]
                  refine rtake (i := 5) (d := (some 101)) (v := ?_) rfl (by kernel_rfl) (by kernel_rfl) (by kernel_rfl) (by kernel_rfl) (fun _ _ _ h => h) (by kernel_rfl) (by assumption) ?_ ?_
                  rotate_left 1
                  · (intro wI hSI; (try dsimp only at hSI); go_simp; (try with_reducible rfl))
                  simp only [Act.put, List.setIfInBounds_toArray, List.set_cons_zero, List.set_cons_succ]
                  refine rtake (i := 6) (d := (some 102)) (v := ?_) rfl (by kernel_rfl) (by kernel_rfl) (by kernel_rfl) (by kernel_rfl) (fun _ _ _ h => h) (by kernel_rfl) (by assumption) ?_ ?_
                  rotate_left 1
                  · (intro wI hSI; (try dsimp only at hSI); go_simp; (try with_reducible rfl))
                  simp only [Act.put, List.setIfInBounds_toArray, List.set_cons_zero, List.set_cons_succ]
                  refine rtake (i := 7) (d := (some 103)) (v := ?_) rfl (by kernel_rfl) (by kernel_rfl) (by kernel_rfl) (by kernel_rfl) (fun _ _ _ h => h) (by kernel_rfl) (by assumption) ?_ ?_
                  rotate_left 1
                  · (intro wI hSI; (try dsimp only at hSI); go_simp; (try with_reducible rfl))
                  simp only [Act.put, List.setIfInBounds_toArray, List.set_cons_zero, List.set_cons_succ]
                  refine rtake (i := 8) (d := (some 104)) (v := ?_) rfl (by kernel_rfl) (by kernel_rfl) (by kernel_rfl) (by kernel_rfl) (fun _ _ _ h => h) (by kernel_rfl) (by assumption) ?_ ?_
                  rotate_left 1
                  · (intro wI hSI; (try dsimp only at hSI); go_simp; (try with_reducible rfl))
                  simp only [Act.put, List.setIfInBounds_toArray, List.set_cons_zero, List.set_cons_succ]
                  refine rtake (i := 9) (d := (some 105)) (v := ?_) rfl (by kernel_rfl) (by kernel_rfl) (by kernel_rfl) (by kernel_rfl) (fun _ _ _ h => h) (by kernel_rfl) (by assumption) ?_ ?_
                  rotate_left 1
                  · (intro wI hSI; (try dsimp only at hSI); go_simp; (try with_reducible rfl))
                  simp only [Act.put, List.setIfInBounds_toArray, List.set_cons_zero, List.set_cons_succ]
                  refine rtake (i := 10) (d := (some 106)) (v := ?_) rfl (by kernel_rfl) (by kernel_rfl) (by kernel_rfl) (by kernel_rfl) (fun _ _ _ h => h) (by kernel_rfl) (by assumption) ?_ ?_
                  rotate_left 1
                  · (intro wI hSI; (try dsimp only at hSI); go_simp; (try with_reducible rfl))
                  simp only [Act.put, List.setIfInBounds_toArray, List.set_cons_zero, List.set_cons_succ]
                  refine rtake (i := 11) (d := (some 107)) (v := ?_) rfl (by kernel_rfl) (by kernel_rfl) (by kernel_rfl) (by kernel_rfl) (fun _ _ _ h => h) (by kernel_rfl) (by assumption) ?_ ?_
                  rotate_left 1
                  · (intro wI hSI; (try dsimp only at hSI); go_simp; (try with_reducible rfl))
                  simp only [Act.put, List.setIfInBounds_toArray, List.set_cons_zero, List.set_cons_succ]
                  refine rtake (i := 12) (d := (some 108)) (v := ?_) rfl (by kernel_rfl) (by kernel_rfl) (by kernel_rfl) (by kernel_rfl) (fun _ _ _ h => h) (by kernel_rfl) (by assumption) ?_ ?_
                  rotate_left 1
                  · (intro wI hSI; (try dsimp only at hSI); go_simp; (try with_reducible rfl))
                  simp only [Act.put, List.setIfInBounds_toArray, List.set_cons_zero, List.set_cons_succ]
                  refine rtake (i := 13) (d := (some 109)) (v := ?_) rfl (by kernel_rfl) (by kernel_rfl) (by kernel_rfl) (by kernel_rfl) (fun _ _ _ h => h) (by kernel_rfl) (by assumption) ?_ ?_
                  rotate_left 1
                  · (intro wI hSI; (try dsimp only at hSI); go_simp; (try with_reducible rfl))
                  simp only [Act.put, List.setIfInBounds_toArray, List.set_cons_zero, List.set_cons_succ]
                  refine rtake (i := 14) (d := (some 110)) (v := ?_) rfl (by kernel_rfl) (by kernel_rfl) (by kernel_rfl) (by kernel_rfl) (fun _ _ _ h => h) (by kernel_rfl) (by assumption) ?_ ?_
                  rotate_left 1
                  · (intro wI hSI; (try dsimp only at hSI); go_simp; (try with_reducible rfl))
                  simp only [Act.put, List.setIfInBounds_toArray, List.set_cons_zero, List.set_cons_succ]
                  refine rtake (i := 15) (d := (some 111)) (v := ?_) rfl (by kernel_rfl) (by kernel_rfl) (by kernel_rfl) (by kernel_rfl) (fun _ _ _ h => h) (by kernel_rfl) (by assumption) ?_ ?_
                  rotate_left 1
                  · (intro wI hSI; (try dsimp only at hSI); go_simp; (try with_reducible rfl))
                  simp only [Act.put, List.setIfInBounds_toArray, List.set_cons_zero, List.set_cons_succ]
                  refine rtake (i := 16) (d := (some 112)) (v := ?_) rfl (by kernel_rfl) (by kernel_rfl) (by kernel_rfl) (by kernel_rfl) (fun _ _ _ h => h) (by kernel_rfl) (by assumption) ?_ ?_
                  rotate_left 1
                  · (intro wI hSI; (try dsimp only at hSI); go_simp; (try with_reducible rfl))
                  simp only [Act.put, List.setIfInBounds_toArray, List.set_cons_zero, List.set_cons_succ]
                  refine rtake (i := 17) (d := (some 113)) (v := ?_) rfl (by kernel_rfl) (by kernel_rfl) (by kernel_rfl) (by kernel_rfl) (fun _ _ _ h => h) (by kernel_rfl) (by assumption) ?_ ?_
                  rotate_left 1
                  · (intro wI hSI; (try dsimp only at hSI); go_simp; (try with_reducible rfl))
                  simp only [Act.put, List.setIfInBounds_toArray, List.set_cons_zero, List.set_cons_succ]
                  refine rtake (i := 18) (d := (some 114)) (v := ?_) rfl (by kernel_rfl) (by kernel_rfl) (by kernel_rfl) (by kernel_rfl) (fun _ _ _ h => h) (by kernel_rfl) (by assumption) ?_ ?_
                  rotate_left 1
                  · (intro wI hSI; (try dsimp only at hSI); go_simp; (try with_reducible rfl))
                  simp only [Act.put, List.setIfInBounds_toArray, List.set_cons_zero, List.set_cons_succ]
                  refine rtake (i := 19) (d := (some 115)) (v := ?_) rfl (by kernel_rfl) (by kernel_rfl) (by kernel_rfl) (by kernel_rfl) (fun _ _ _ h => h) (by kernel_rfl) (by assumption) ?_ ?_
                  rotate_left 1
                  · (intro wI hSI; (try dsimp only at hSI); go_simp; (try with_reducible rfl))
                  simp only [Act.put, List.setIfInBounds_toArray, List.set_cons_zero, List.set_cons_succ]
                  refine rtake (i := 20) (d := (some 116)) (v := ?_) rfl (by kernel_rfl) (by kernel_rfl) (by kernel_rfl) (by kernel_rfl) (fun _ _ _ h => h) (by kernel_rfl) (by assumption) ?_ ?_
                  rotate_left 1
                  · (intro wI hSI; (try dsimp only at hSI); go_simp; (try with_reducible rfl))
                  simp only [Act.put, List.setIfInBounds_toArray, List.set_cons_zero, List.set_cons_succ]
                  refine rtake (i := 21) (d := (some 117)) (v := ?_) rfl (by kernel_rfl) (by kernel_rfl) (by kernel_rfl) (by kernel_rfl) (fun _ _ _ h => h) (by kernel_rfl) (by assumption) ?_ ?_
                  rotate_left 1
                  · (intro wI hSI; (try dsimp only at hSI); go_simp; (try with_reducible rfl))
                  simp only [Act.put, List.setIfInBounds_toArray, List.set_cons_zero, List.set_cons_succ]
                  refine rtake (i := 22) (d := (some 118)) (v := ?_) rfl (by kernel_rfl) (by kernel_rfl) (by kernel_rfl) (by kernel_rfl) (fun _ _ _ h => h) (by kernel_rfl) (by assumption) ?_ ?_
                  rotate_left 1
                  · (intro wI hSI; (try dsimp only at hSI); go_simp; (try with_reducible rfl))
                  simp only [Act.put, List.setIfInBounds_toArray, List.set_cons_zero, List.set_cons_succ]
                  refine rtake (i := 23) (d := (some 119)) (v := ?_) rfl (by kernel_rfl) (by kernel_rfl) (by kernel_rfl) (by kernel_rfl) (fun _ _ _ h => h) (by kernel_rfl) (by assumption) ?_ ?_
                  rotate_left 1
                  · (intro wI hSI; (try dsimp only at hSI); go_simp; (try with_reducible rfl))
                  simp only [Act.put, List.setIfInBounds_toArray, List.set_cons_zero, List.set_cons_succ]
                  refine rcall (i := 24) (d := (some 120)) (by kernel_rfl) rfl (by kernel_rfl) (fun K hK => ?_)
                  go_simp
                  go_at_call 67; refine (addCloP_any q v5 acc5 sa secs (decide (y1 ≤ x1)) 6 x2 _ hst6 (by omega)).mono ?_; rintro e w7 ⟨rfl, v7, hst7, hk7, -⟩
                  refine hK.out _ _ ?hS (fun hHeld => ?_)
                  case hS => exact ⟨cellKp hk7 (fun e => e.elim hqx (fun e => hvx e)) hHeld.1, cellKp hk7 (fun e => e.elim hqx (fun e => hvx e)) hHeld.2.1, cellKp hk7 (fun e => e.elim hqx (fun e => hvx e)) hHeld.2.2.1, cellKp hk7 (fun e => e.elim hfar6.1 (fun e => hfar6.2.1 e)) hHeld.2.2.2⟩
                  clear hK K
                  simp only [Act.put, List.setIfInBounds_toArray, List.set_cons_zero, List.set_cons_succ]
                  refine wpAnyH_done (by kernel_rfl) ?_ _
                  have hbq7 := hst6.down hbq6 hk7
                  have hxc7 := hHeld.1
                  rw [← HSn.out] at hst7
                  rw [← Hq.out]
                  clear hHeld
                  go_wp2_with fail
                  go_roundg (secs.length - (k + 1))
                  case measure => have := hgk.out; omega
                  case rel => exact ⟨k + 1, v7, by rw [Hab.out], by go_num, by omega, rfl, by rw [HA2.out]; exact hst7, hbq7⟩
              · have hem : em = false := by rw [Hem.out, decide_eq_false hx3]; rfl
                rw [hem] at HSn
                have hq0 : (x3 == 0) = false := by rw [beq_eq_false_iff_ne]; exact hx3
                clear hem hx3
                refine wp_region_held_drew (S := (fun wy => wy.cell? ⟨wr.heap.size, 0, none⟩ = some (.int .i64 x1) ∧ wy.cell? ⟨wr.heap.size, 1, none⟩ = some (.string x2) ∧ wy.cell? ⟨wr.heap.size, 2, none⟩ = some (.int .i64 x3))) (by kernel_rfl) ?hS (fun hHeld => ?_)
                case hS => exact ⟨hBx5_0, hBx5_1, hBx5_2⟩
                refine rtake (i := 0) (d := (some 96)) (v := ?_) rfl (by kernel_rfl) (by kernel_rfl) (by kernel_rfl) (by kernel_rfl) (fun _ _ _ h => h) (by kernel_rfl) (by assumption) ?_ ?_
                rotate_left 1
                · (intro wI hSI; (try dsimp only at hSI); go_simp; (try with_reducible rfl))
                simp only [Act.put, List.setIfInBounds_toArray, List.set_cons_zero, List.set_cons_succ]
                refine rtake (i := 1) (d := (some 97)) (v := ?_) rfl (by kernel_rfl) (by kernel_rfl) (by kernel_rfl) (by kernel_rfl) (fun _ _ _ h => h) (by kernel_rfl) (by assumption) ?_ ?_
                rotate_left 1
                · (intro wI hSI; (try dsimp only at hSI); go_simp; (try with_reducible rfl))
                simp only [Act.put, List.setIfInBounds_toArray, List.set_cons_zero, List.set_cons_succ]
                refine rtake (i := 2) (d := (some 98)) (v := ?_) rfl (by kernel_rfl) (by kernel_rfl) (by kernel_rfl) (by kernel_rfl) (fun _ _ _ h => h) (by kernel_rfl) (by assumption) ?_ ?_
                rotate_left 1
                · (intro wI hSI; (try dsimp only at hSI); go_simp; (try with_reducible rfl))
                simp only [Act.put, List.setIfInBounds_toArray, List.set_cons_zero, List.set_cons_succ]
                refine rtake (i := 3) (d := (some 99)) (v := ?_) rfl (by kernel_rfl) (by kernel_rfl) (by kernel_rfl) (by kernel_rfl) (fun _ _ _ h => h) (by kernel_rfl) (by assumption) ?_ ?_
                rotate_left 1
                · (intro wI hSI; (try dsimp only at hSI); go_simp; (try with_reducible rfl))
                simp only [Act.put, List.setIfInBounds_toArray, List.set_cons_zero, List.set_cons_succ]
                refine rtake (i := 4) (d := (some 100)) (v := ?_) rfl (by kernel_rfl) (by kernel_rfl) (by kernel_rfl) (by kernel_rfl) (fun _ _ _ h => h) (by kernel_rfl) (by assumption) ?_ ?_
                rotate_left 1
                · (intro wI hSI; (try dsimp only at hSI); go_simp; (try with_reducible rfl))
                simp only [Act.put, List.setIfInBounds_toArray, List.set_cons_zero, List.set_cons_succ]
                refine rskip (i := 5) (d := (some 101)) rfl (by kernel_rfl) (by kernel_rfl) (by kernel_rfl) (by kernel_rfl) (fun _ _ _ h => h) (by kernel_rfl) (by assumption) ?_
                simp only [Act.put, List.setIfInBounds_toArray, List.set_cons_zero, List.set_cons_succ]
                refine rskip (i := 6) (d := (some 102)) rfl (by kernel_rfl) (by kernel_rfl) (by kernel_rfl) (by kernel_rfl) (fun _ _ _ h => h) (by kernel_rfl) (by assumption) ?_
                simp only [Act.put, List.setIfInBounds_toArray, List.set_cons_zero, List.set_cons_succ]
                refine rskip (i := 7) (d := (some 103)) rfl (by kernel_rfl) (by kernel_rfl) (by kernel_rfl) (by kernel_rfl) (fun _ _ _ h => h) (by kernel_rfl) (by assumption) ?_
                simp only [Act.put, List.setIfInBounds_toArray, List.set_cons_zero, List.set_cons_succ]
                refine rskip (i := 8) (d := (some 104)) rfl (by kernel_rfl) (by kernel_rfl) (by kernel_rfl) (by kernel_rfl) (fun _ _ _ h => h) (by kernel_rfl) (by assumption) ?_
                simp only [Act.put, List.setIfInBounds_toArray, List.set_cons_zero, List.set_cons_succ]
                refine rskip (i := 9) (d := (some 105)) rfl (by kernel_rfl) (by kernel_rfl) (by kernel_rfl) (by kernel_rfl) (fun _ _ _ h => h) (by kernel_rfl) (by assumption) ?_
                simp only [Act.put, List.setIfInBounds_toArray, List.set_cons_zero, List.set_cons_succ]
                refine rskip (i := 10) (d := (some 106)) rfl (by kernel_rfl) (by kernel_rfl) (by kernel_rfl) (by kernel_rfl) (fun _ _ _ h => h) (by kernel_rfl) (by assumption) ?_
                simp only [Act.put, List.setIfInBounds_toArray, List.set_cons_zero, List.set_cons_succ]
                refine rskip (i := 11) (d := (some 107)) rfl (by kernel_rfl) (by kernel_rfl) (by kernel_rfl) (by kernel_rfl) (fun _ _ _ h => h) (by kernel_rfl) (by assumption) ?_
                simp only [Act.put, List.setIfInBounds_toArray, List.set_cons_zero, List.set_cons_succ]
                refine rskip (i := 12) (d := (some 108)) rfl (by kernel_rfl) (by kernel_rfl) (by kernel_rfl) (by kernel_rfl) (fun _ _ _ h => h) (by kernel_rfl) (by assumption) ?_
                simp only [Act.put, List.setIfInBounds_toArray, List.set_cons_zero, List.set_cons_succ]
                refine rskip (i := 13) (d := (some 109)) rfl (by kernel_rfl) (by kernel_rfl) (by kernel_rfl) (by kernel_rfl) (fun _ _ _ h => h) (by kernel_rfl) (by assumption) ?_
                simp only [Act.put, List.setIfInBounds_toArray, List.set_cons_zero, List.set_cons_succ]
                refine rskip (i := 14) (d := (some 110)) rfl (by kernel_rfl) (by kernel_rfl) (by kernel_rfl) (by kernel_rfl) (fun _ _ _ h => h) (by kernel_rfl) (by assumption) ?_
                simp only [Act.put, List.setIfInBounds_toArray, List.set_cons_zero, List.set_cons_succ]
                refine rskip (i := 15) (d := (some 111)) rfl (by kernel_rfl) (by kernel_rfl) (by kernel_rfl) (by kernel_rfl) (fun _ _ _ h => h) (by kernel_rfl) (by assumption) ?_
                simp only [Act.put, List.setIfInBounds_toArray, List.set_cons_zero, List.set_cons_succ]
                refine rskip (i := 16) (d := (some 112)) rfl (by kernel_rfl) (by kernel_rfl) (by kernel_rfl) (by kernel_rfl) (fun _ _ _ h => h) (by kernel_rfl) (by assumption) ?_
                simp only [Act.put, List.setIfInBounds_toArray, List.set_cons_zero, List.set_cons_succ]
                refine rskip (i := 17) (d := (some 113)) rfl (by kernel_rfl) (by kernel_rfl) (by kernel_rfl) (by kernel_rfl) (fun _ _ _ h => h) (by kernel_rfl) (by assumption) ?_
                simp only [Act.put, List.setIfInBounds_toArray, List.set_cons_zero, List.set_cons_succ]
                refine rskip (i := 18) (d := (some 114)) rfl (by kernel_rfl) (by kernel_rfl) (by kernel_rfl) (by kernel_rfl) (fun _ _ _ h => h) (by kernel_rfl) (by assumption) ?_
                simp only [Act.put, List.setIfInBounds_toArray, List.set_cons_zero, List.set_cons_succ]
                refine rskip (i := 19) (d := (some 115)) rfl (by kernel_rfl) (by kernel_rfl) (by kernel_rfl) (by kernel_rfl) (fun _ _ _ h => h) (by kernel_rfl) (by assumption) ?_
                simp only [Act.put, List.setIfInBounds_toArray, List.set_cons_zero, List.set_cons_succ]
                refine rskip (i := 20) (d := (some 116)) rfl (by kernel_rfl) (by kernel_rfl) (by kernel_rfl) (by kernel_rfl) (fun _ _ _ h => h) (by kernel_rfl) (by assumption) ?_
                simp only [Act.put, List.setIfInBounds_toArray, List.set_cons_zero, List.set_cons_succ]
                refine rtake (i := 21) (d := (some 117)) (v := ?_) rfl (by kernel_rfl) (by kernel_rfl) (by kernel_rfl) (by kernel_rfl) (fun _ _ _ h => h) (by kernel_rfl) (by assumption) ?_ ?_
                rotate_left 1
                · (intro wI hSI; (try dsimp only at hSI); go_simp; (try with_reducible rfl))
                simp only [Act.put, List.setIfInBounds_toArray, List.set_cons_zero, List.set_cons_succ]
                refine rtake (i := 22) (d := (some 118)) (v := ?_) rfl (by kernel_rfl) (by kernel_rfl) (by kernel_rfl) (by kernel_rfl) (fun _ _ _ h => h) (by kernel_rfl) (by assumption) ?_ ?_
                rotate_left 1
                · (intro wI hSI; (try dsimp only at hSI); go_simp; (try with_reducible rfl))
                simp only [Act.put, List.setIfInBounds_toArray, List.set_cons_zero, List.set_cons_succ]
                refine rtake (i := 23) (d := (some 119)) (v := ?_) rfl (by kernel_rfl) (by kernel_rfl) (by kernel_rfl) (by kernel_rfl) (fun _ _ _ h => h) (by kernel_rfl) (by assumption) ?_ ?_
                rotate_left 1
                · (intro wI hSI; (try dsimp only at hSI); go_simp; (try with_reducible rfl))
                simp only [Act.put, List.setIfInBounds_toArray, List.set_cons_zero, List.set_cons_succ]
                refine rcall (i := 24) (d := (some 120)) (by kernel_rfl) rfl (by kernel_rfl) (fun K hK => ?_)
                go_simp
                go_at_call 67; refine (addCloP_any q v5 acc5 sa secs false 6 x2 _ hst6 (by omega)).mono ?_; rintro e w7 ⟨rfl, v7, hst7, hk7, -⟩
                refine hK.out _ _ ?hS (fun hHeld => ?_)
                case hS => exact ⟨cellKp hk7 (fun e => e.elim hqx (fun e => hvx e)) hHeld.1, cellKp hk7 (fun e => e.elim hqx (fun e => hvx e)) hHeld.2.1, cellKp hk7 (fun e => e.elim hqx (fun e => hvx e)) hHeld.2.2⟩
                clear hK K
                simp only [Act.put, List.setIfInBounds_toArray, List.set_cons_zero, List.set_cons_succ]
                refine wpAnyH_done (by kernel_rfl) ?_ _
                have hbq7 := hst6.down hbq6 hk7
                have hxc7 := hHeld.1
                rw [← HSn.out] at hst7
                rw [← Hq.out]
                clear hHeld
                go_wp2_with fail
                go_roundg (secs.length - (k + 1))
                case measure => have := hgk.out; omega
                case rel => exact ⟨k + 1, v7, by rw [Hab.out], by go_num, by omega, rfl, by rw [HA2.out]; exact hst7, hbq7⟩
          · obtain rfl : k = secs.length := by omega
            rw [← Hout.out] at hst
            obtain ⟨oa, oc, hve, hoa, -, -⟩ := hst.own.sa
            have hov := hst.box.cell 0
            rw [hve] at hov
            simp at hov
            clear hst hlt
            go_wp2_with fail
            go_ret2; exact ⟨hb0W.trans (hbq.mono hwq), .inr ⟨by rw [HX2.out] <;> rfl, oa, oc, rfl, hoa⟩⟩
  · have hq : (fe != 0) = true := by simpa using hfe
    have Hfe := Lib.hid (HX1.out hfe)
    have Hne := Lib.hid hfe
    clear hfe
    go_wp2_with fail
    go_ret2
    exact ⟨hb02, .inl ⟨by rw [Hfe.out]; exact Hne.out, by rw [Hfe.out] <;> rfl⟩⟩
set_option maxRecDepth 100000 in
set_option maxHeartbeats 32000000 in
theorem fitsOf_any (f : Frm) (s : ByteArray) (w : World) (hE0 : Env w) (hf : SA w f.a f.must) (hml : f.must.length ≤ 20) (hs : s.size ≤ 100000) :
    Calls Tryz.prog 19 #[encForm f, .string s] w (fun e w' => ∃ a c, e = .returned (.slice a (fitsL f (((spots s).length : Nat) : Int) ((fillN (lineL s) : Nat) : Int) (secsL (lineL s))).length c) ∧ SA w' a (fitsL f (((spots s).length : Nat) : Int) ((fillN (lineL s) : Nat) : Int) (secsL (lineL s))) ∧ Below w.heap.size w w') := by
  have HLn := Lib.hid (fun W h => lengthOf_any s W h hs)
  have HSc := Lib.hid (fun W h => sectionsOf_any s W h hs)
  have hlb : ∀ x ∈ lineL s, x.size ≤ 100000 := fun x hx => by have := cutB_sizes 10 s x ((List.dropLast_sublist _).subset hx); omega
  have hscl : (secsL (lineL s)).length ≤ 100001 := by have h1 := secsL_length (lineL s); have h2 := cutB_len 10 s; unfold lineL at *; rw [List.length_dropLast] at h1; omega
  have Hts : Hid (∀ x ∈ secsL (lineL s), x.2.1.size ≤ 100000000) := secs_titles (lineL s) [] (fun x hx => by have := hlb x hx; omega) (fun x hx => by cases hx)
  have Hsk : Hid (∀ x ∈ secsL (lineL s), SecOk (0 + ((lineL s).length : Int) * 100001) x) := secs_ok (lineL s) [] 0 (by omega) hlb (fun x hx => by cases hx)
  have Hf3 := Lib.hid (fits3_len f (((spots s).length : Nat) : Int) ((fillN (lineL s) : Nat) : Int))
  have Hout : Hid (fitsL f (((spots s).length : Nat) : Int) ((fillN (lineL s) : Nat) : Int) (secsL (lineL s)) = secF f.deep (secsL (lineL s)) (mustF (secsL (lineL s)) f.must (fits3 f (((spots s).length : Nat) : Int) ((fillN (lineL s) : Nat) : Int))) (secsL (lineL s)).length) := rfl
  have H3 : Hid (fits3 f (((spots s).length : Nat) : Int) ((fillN (lineL s) : Nat) : Int) = addF (decide (0 < f.lines) && decide (f.lines < ((fillN (lineL s) : Nat) : Int))) 3 ⟨#[]⟩ (addF (decide (f.most < (((spots s).length : Nat) : Int))) 2 ⟨#[]⟩ (addF (decide ((((spots s).length : Nat) : Int) < f.least)) 1 ⟨#[]⟩ []))) := rfl
  clear hlb
  generalize ((lineL s).length : Int) = NN at *
  generalize fitsL f (((spots s).length : Nat) : Int) ((fillN (lineL s) : Nat) : Int) (secsL (lineL s)) = out at *
  generalize fits3 f (((spots s).length : Nat) : Int) ((fillN (lineL s) : Nat) : Int) = A3 at *
  generalize secsL (lineL s) = secs at *
  generalize (((spots s).length : Nat) : Int) = wn at *
  generalize ((fillN (lineL s) : Nat) : Int) = ln at *
  obtain ⟨f1, f2, f3, ms, a, c, f5⟩ := f
  unfold encForm at *
  simp only at hf hml Hout H3 ⊢
  obtain ⟨n, hn⟩ : ∃ n, ms.length = n := ⟨_, rfl⟩
  have Hn := Lib.hid hn
  rw [hn] at hml ⊢
  clear hn
  have hB0 := Box.new w 29 #[.int .i64 f1, .int .i64 f2, .int .i64 f3, .slice a n c, .int .i64 f5]
  have hb1 : Below w.heap.size w (w.alloc (.cells #[.int .i64 f1, .int .i64 f2, .int .i64 f3, .slice a n c, .int .i64 f5] 29)) := by (repeat' (first | exact Below.refl _ _ | assumption | refine Below.setCell ?_ ?_ _ | refine below_drewN ?_ _ | refine Below.drew ?_ | refine Below.alloc ?_ ?_ _ | (with_reducible refine Below.trans ?_ (Below.mono hb ?_)) | (with_reducible refine Below.trans ?_ (Below.mono hb0 ?_)) | (with_reducible refine Below.trans ?_ (Below.mono hb1 ?_)) | (with_reducible refine Below.trans ?_ (Below.mono hb2 ?_)) | (with_reducible refine Below.trans ?_ (Below.mono hb3 ?_)) | (with_reducible refine Below.trans ?_ (Below.mono hb4 ?_)) | (with_reducible refine Below.trans ?_ (Below.mono hb5 ?_)) | (with_reducible refine Below.trans ?_ (Below.mono hb6 ?_)) | (with_reducible refine Below.trans ?_ (Below.mono hb7 ?_)) | (with_reducible refine Below.trans ?_ (Below.mono hb8 ?_)) | (with_reducible refine Below.trans ?_ (Below.mono hb9 ?_)) | (with_reducible refine Below.trans ?_ (Below.mono hb10 ?_)) | (with_reducible refine Below.trans ?_ (Below.mono hb11 ?_)) | (with_reducible refine Below.trans ?_ (Below.mono hb12 ?_)) | (with_reducible refine Below.trans ?_ (Below.mono hb13 ?_)) | (with_reducible refine Below.trans ?_ (Below.mono hb14 ?_)) | (with_reducible refine Below.trans ?_ (Below.mono hb15 ?_)) | omega | (simp; done) | (simp; omega)))
  have hE1 := hE0.below hb1
  have hms1 := hf.below hb1
  go_enter Tryz.func19, Tryz.ntmps19
  go_wp2_with fail
  refine (HLn.out _ hE1).mono ?_
  rintro e w3 ⟨rfl, hb3⟩
  have hb0W := below_next hb1 hb3
  have hB3 := hB0.below hb3
  have hms3 := hms1.below hb3
  have hE3 := hE1.below hb3
  have hbO : Below w3.heap.size w3 (w3.alloc (.cells #[.slice none 0 0] 40)) := by (repeat' (first | exact Below.refl _ _ | assumption | refine Below.setCell ?_ ?_ _ | refine below_drewN ?_ _ | refine Below.drew ?_ | refine Below.alloc ?_ ?_ _ | (with_reducible refine Below.trans ?_ (Below.mono hb ?_)) | (with_reducible refine Below.trans ?_ (Below.mono hb0 ?_)) | (with_reducible refine Below.trans ?_ (Below.mono hb1 ?_)) | (with_reducible refine Below.trans ?_ (Below.mono hb2 ?_)) | (with_reducible refine Below.trans ?_ (Below.mono hb3 ?_)) | (with_reducible refine Below.trans ?_ (Below.mono hb4 ?_)) | (with_reducible refine Below.trans ?_ (Below.mono hb5 ?_)) | (with_reducible refine Below.trans ?_ (Below.mono hb6 ?_)) | (with_reducible refine Below.trans ?_ (Below.mono hb7 ?_)) | (with_reducible refine Below.trans ?_ (Below.mono hb8 ?_)) | (with_reducible refine Below.trans ?_ (Below.mono hb9 ?_)) | (with_reducible refine Below.trans ?_ (Below.mono hb10 ?_)) | (with_reducible refine Below.trans ?_ (Below.mono hb11 ?_)) | (with_reducible refine Below.trans ?_ (Below.mono hb12 ?_)) | (with_reducible refine Below.trans ?_ (Below.mono hb13 ?_)) | (with_reducible refine Below.trans ?_ (Below.mono hb14 ?_)) | (with_reducible refine Below.trans ?_ (Below.mono hb15 ?_)) | omega | (simp; done) | (simp; omega)))
  have hBo := Box.new w3 40 #[.slice none 0 0]
  have hst : FitSt w3.heap.size (w3.alloc (.cells #[.slice none 0 0] 40)) (.slice none 0 0) [] none [] := ⟨hBo, Own.nil _ _ _, .inl rfl, fun x hx => by cases hx⟩
  have hbq := hbO
  have hmsa : Hid (∀ W, Below w3.heap.size w3 W → SA W a ms) := fun W h => hms3.below h
  have HF : Hid (∀ W, Below w3.heap.size w3 W → Box W w.heap.size 29 #[.int .i64 f1, .int .i64 f2, .int .i64 f3, .slice a n c, .int .i64 f5]) := fun W h => hB3.below h
  have HEn : Hid (∀ W, Below w3.heap.size w3 W → Env W) := fun W h => hE3.below h
  clear hBo hbO hB3 hms3 HLn hE0 hE1 hE3 hms1 hb3 hb1 hB0 hf
  have hF5 := HF.out _ hbq
  have hF5_l := hF5.lt; have hF5_0 := hF5.cell 0; have hF5_1 := hF5.cell 1; have hF5_2 := hF5.cell 2; have hF5_3 := hF5.cell 3; have hF5_4 := hF5.cell 4; simp at hF5_0 hF5_1 hF5_2 hF5_3 hF5_4
  generalize hWf : w3 = Wf at *
  clear hWf
  have hla1 := addF_len (decide (wn < f1)) 1 ⟨#[]⟩ []
  have hla2 := addF_len (decide (f2 < wn)) 2 ⟨#[]⟩ (addF (decide (wn < f1)) 1 ⟨#[]⟩ [])
  simp only [List.length_nil] at hla1
  go_wp2_with fail
  refine (addCloR_any Wf.heap.size _ [] none [] (decide (wn < f1)) 1 ⟨#[]⟩ _ hst (by first | omega | (simp; done))).mono ?_
  rintro e w5 ⟨rfl, v5, hst5, hk5, -⟩
  replace hbq := hst.down hbq hk5
  replace hst := hst5
  clear hst5 hk5
  have hF5 := HF.out _ hbq
  have hF5_l := hF5.lt; have hF5_0 := hF5.cell 0; have hF5_1 := hF5.cell 1; have hF5_2 := hF5.cell 2; have hF5_3 := hF5.cell 3; have hF5_4 := hF5.cell 4; simp at hF5_0 hF5_1 hF5_2 hF5_3 hF5_4
  go_wp2_with fail
  clear hF5 hF5_l hF5_0 hF5_1 hF5_2 hF5_3 hF5_4
  refine (addCloR_any Wf.heap.size _ _ none [] (decide (f2 < wn)) 2 ⟨#[]⟩ _ hst (by first | omega | (simp; done))).mono ?_
  rintro e w5 ⟨rfl, v5, hst5, hk5, -⟩
  replace hbq := hst.down hbq hk5
  replace hst := hst5
  clear hst5 hk5
  have hF5 := HF.out _ hbq
  have hF5_l := hF5.lt; have hF5_0 := hF5.cell 0; have hF5_1 := hF5.cell 1; have hF5_2 := hF5.cell 2; have hF5_3 := hF5.cell 3; have hF5_4 := hF5.cell 4; simp at hF5_0 hF5_1 hF5_2 hF5_3 hF5_4
  go_upto_region 6 with (fail)
  go_cut [] from 33 to 43 (fun wx => ∃ (W' : World) (v : Value), W' = wx ∧ FitSt Wf.heap.size W' v A3 none [] ∧ Below Wf.heap.size Wf W')
  case first =>
    by_cases h30 : 0 < f3
    · have H3b : Hid (A3 = addF (decide (f3 < ln)) 3 ⟨#[]⟩ (addF (decide (f2 < wn)) 2 ⟨#[]⟩ (addF (decide (wn < f1)) 1 ⟨#[]⟩ []))) := by show _ = _; rw [H3.out, decide_eq_true h30, Bool.true_and]
      go_wp2_with fail
      clear hF5 hF5_l hF5_0 hF5_1 hF5_2 hF5_3 hF5_4
      refine (addCloR_any Wf.heap.size _ _ none [] (decide (f3 < ln)) 3 ⟨#[]⟩ _ hst (by first | omega | (simp; done))).mono ?_
      rintro e w5 ⟨rfl, v5, hst5, hk5, -⟩
      replace hbq := hst.down hbq hk5
      replace hst := hst5
      clear hst5 hk5
      have hF5 := HF.out _ hbq
      have hF5_l := hF5.lt; have hF5_0 := hF5.cell 0; have hF5_1 := hF5.cell 1; have hF5_2 := hF5.cell 2; have hF5_3 := hF5.cell 3; have hF5_4 := hF5.cell 4; simp at hF5_0 hF5_1 hF5_2 hF5_3 hF5_4
      rw [← H3b.out] at hst
      go_wp2_with fail
      go_meet
      exact ⟨_, _, rfl, hst, hbq⟩
    · have H3b : Hid (A3 = addF false 3 ⟨#[]⟩ (addF (decide (f2 < wn)) 2 ⟨#[]⟩ (addF (decide (wn < f1)) 1 ⟨#[]⟩ []))) := by show _ = _; rw [H3.out, decide_eq_false h30, Bool.false_and]
      go_wp2_with fail
      clear hF5 hF5_l hF5_0 hF5_1 hF5_2 hF5_3 hF5_4
      refine (addCloR_any Wf.heap.size _ _ none [] false 3 ⟨#[]⟩ _ hst (by first | omega | (simp; done))).mono ?_
      rintro e w5 ⟨rfl, v5, hst5, hk5, -⟩
      replace hbq := hst.down hbq hk5
      replace hst := hst5
      clear hst5 hk5
      have hF5 := HF.out _ hbq
      have hF5_l := hF5.lt; have hF5_0 := hF5.cell 0; have hF5_1 := hF5.cell 1; have hF5_2 := hF5.cell 2; have hF5_3 := hF5.cell 3; have hF5_4 := hF5.cell 4; simp at hF5_0 hF5_1 hF5_2 hF5_3 hF5_4
      rw [← H3b.out] at hst
      go_wp2_with fail
      go_meet
      exact ⟨_, _, rfl, hst, hbq⟩
  case rest =>
    clear hst hbq hla1 hla2 hF5 hF5_l hF5_0 hF5_1 hF5_2 hF5_3 hF5_4
    obtain ⟨W7, v7, rfl, hst7, hbq7⟩ := hcut
    have hql7 := hst7.box.lt
    go_wp2_with fail
    refine (HSc.out _ (HEn.out _ hbq7)).mono ?_
    rintro e w4 ⟨v4, rfl, hown4, hb4⟩
    obtain ⟨sa, sc, rfl, hsec, hfar, -⟩ := hown4.sa
    have hst : FitSt Wf.heap.size w4 v7 A3 sa secs := ⟨hst7.box.below hb4, hst7.own.below hb4, hsec, fun x hx => by have h1 := hfar x hx; exact ⟨by omega, (fun e => by have := (hst7.own.lt _ e).2; omega), h1.2⟩⟩
    have hbq : Below Wf.heap.size Wf w4 := hbq7.trans (hb4.mono (by omega))
    clear hst7 hbq7 hown4 hsec hfar hb4 HEn HSc
    have hF5 := HF.out _ hbq
    have hF5_l := hF5.lt; have hF5_0 := hF5.cell 0; have hF5_1 := hF5.cell 1; have hF5_2 := hF5.cell 2; have hF5_3 := hF5.cell 3; have hF5_4 := hF5.cell 4; simp at hF5_0 hF5_1 hF5_2 hF5_3 hF5_4
    have hA3l := Hf3.out
    go_wp2_with fail
    clear hF5 hF5_l hF5_0 hF5_1 hF5_2 hF5_3 hF5_4
    obtain ⟨q, hqW⟩ : ∃ q, Wf.heap.size = q := ⟨_, rfl⟩
    have hwq : w.heap.size ≤ q := by rw [← hqW]; exact hb0W.size
    rw [hqW] at hst hbq hmsa HF ⊢
    clear hqW
    go_loopg [49] n (fun gk i wr => ∃ (k : Nat) (v : Value), i = .int .i64 k ∧ k ≤ n ∧ Hid (gk = n - k) ∧ FitSt q wr v (mustF secs (ms.take k) A3) sa secs ∧ Below q Wf wr)
    case atStart => exact ⟨0, _, rfl, by omega, rfl, hst, hbq⟩
    clear hst hbq
    obtain ⟨k, v, rfl, hk, hgk, hst, hbq⟩ := hrel
    have hql := hst.box.lt
    by_cases hlt : k < n
    · have hltl : k < ms.length := by rw [Hn.out]; exact hlt
      obtain ⟨qb, qoff, hqa, d0⟩ := (hmsa.out _ hbq).str hltl
      have HSn := Lib.hid (mustF_snoc secs A3 hltl)
      have hal := mustF_len secs (ms.take k) A3
      rw [List.length_take] at hal
      have Hq := Lib.hid hqa
      rw [hqa]
      clear hqa
      generalize ms[k] = m at *
      obtain ⟨acc2, ha2⟩ : ∃ a, mustF secs (ms.take (k + 1)) A3 = a := ⟨_, rfl⟩
      rw [ha2] at HSn
      have HA2 := Lib.hid ha2
      clear ha2
      generalize mustF secs (ms.take k) A3 = acc at *
      have hk1 : (0 : Int) ≤ (k : Int) := by omega
      have hk2 : (k : Int) < (n : Int) := by omega
      have hbw : Below wr.heap.size wr (wr.alloc (.cells #[.string m] 9)) := (Below.refl _ _).alloc (Nat.le_refl _) _
      have hstA := hst.below hbw
      have hbqA : Below q Wf (wr.alloc (.cells #[.string m] 9)) := hbq.alloc (by omega) _
      have hBm := Box.new wr 9 #[.string m]
      have hvm : v.ownBlock ≠ some wr.heap.size := fun e => by have := (hst.own.lt _ e).2; omega
      have HFd := Lib.hid (fun W (h : Below (wr.alloc (.cells #[.string m] 9)).heap.size (wr.alloc (.cells #[.string m] 9)) W) => findSect_any secs sa sc 72 #[.pointer (some ⟨wr.heap.size, 0, none⟩)] (hasM m) W (enters_of Tryz.func72 (by kernel_rfl) rfl) (hstA.sec.below h) (by omega) (fun x hx W' hb' => hasCloR_any x wr.heap.size m W' (((hBm.below h).below hb').cell 0) (Hts.out x hx)))
      generalize secs.any (hasM m) = an at *
      have hqm : wr.heap.size ≠ q := by omega
      have hcm := hBm.cell 0
      clear hst hbq
      go_upto_region 11 with (fail)
      refine wp_region_held_drew (S := (fun wy => wy.cell? ⟨wr.heap.size, 0, none⟩ = some (.string m))) (by kernel_rfl) ?hS (fun hHeld => ?_)
      case hS => exact hcm
      refine rtake (i := 0) (d := (some 53)) (v := ?_) rfl (by kernel_rfl) (by kernel_rfl) (by kernel_rfl) (by kernel_rfl) (fun _ _ _ h => h) (by kernel_rfl) (by assumption) ?_ ?_
      rotate_left 1
      · (intro wI hSI; (try dsimp only at hSI); go_simp; (try with_reducible rfl))
      simp only [Act.put, List.setIfInBounds_toArray, List.set_cons_zero, List.set_cons_succ]
      refine rtake (i := 1) (d := (some 54)) (v := ?_) rfl (by kernel_rfl) (by kernel_rfl) (by kernel_rfl) (by kernel_rfl) (fun _ _ _ h => h) (by kernel_rfl) (by assumption) ?_ ?_
      rotate_left 1
      · (intro wI hSI; (try dsimp only at hSI); go_simp; (try with_reducible rfl))
      simp only [Act.put, List.setIfInBounds_toArray, List.set_cons_zero, List.set_cons_succ]
      refine rtake (i := 2) (d := (some 55)) (v := ?_) rfl (by kernel_rfl) (by kernel_rfl) (by kernel_rfl) (by kernel_rfl) (fun _ _ _ h => h) (by kernel_rfl) (by assumption) ?_ ?_
      rotate_left 1
      · (intro wI hSI; (try dsimp only at hSI); go_simp; (try with_reducible rfl))
      simp only [Act.put, List.setIfInBounds_toArray, List.set_cons_zero, List.set_cons_succ]
      refine rtake (i := 5) (d := (some 58)) (v := ?_) rfl (by kernel_rfl) (by kernel_rfl) (by kernel_rfl) (by kernel_rfl) (fun _ _ _ h => h) (by kernel_rfl) (by assumption) ?_ ?_
      rotate_left 1
      · (intro wI hSI; (try dsimp only at hSI); go_simp; (try with_reducible rfl))
      simp only [Act.put, List.setIfInBounds_toArray, List.set_cons_zero, List.set_cons_succ]
      refine rcall (i := 3) (d := (some 56)) (by kernel_rfl) rfl (by kernel_rfl) (fun K hK => ?_)
      go_simp
      go_at_call 68; refine (HFd.out _ (Below.refl _ _).drew).mono ?_; rintro e w4 ⟨rfl, hb4⟩
      refine hK.out _ _ ?hS (fun hHeld => ?_)
      case hS => exact cell_later hb4 hHeld
      clear hK K
      simp only [Act.put, List.setIfInBounds_toArray, List.set_cons_zero, List.set_cons_succ]
      have hst4 := (hstA.below (Below.refl _ _).drew).below hb4
      refine rtake (i := 4) (d := (some 57)) (v := ?_) rfl (by kernel_rfl) (by kernel_rfl) (by kernel_rfl) (by kernel_rfl) (fun _ _ _ h => h) (by kernel_rfl) (by assumption) ?_ ?_
      rotate_left 1
      · (intro wI hSI; (try dsimp only at hSI); go_simp; (try with_reducible rfl))
      simp only [Act.put, List.setIfInBounds_toArray, List.set_cons_zero, List.set_cons_succ]
      refine rcall (i := 6) (d := (some 59)) (by kernel_rfl) rfl (by kernel_rfl) (fun K hK => ?_)
      go_simp
      go_at_call 71; refine (addCloR_any q v acc sa secs (!an) 4 m _ hst4 (by omega)).mono ?_; rintro e w5 ⟨rfl, v5, hst5, hk5, -⟩
      refine hK.out _ _ ?hS (fun hHeld => ?_)
      case hS => exact cellKp hk5 (fun e => e.elim hqm (fun e => hvm e)) hHeld
      clear hK K
      simp only [Act.put, List.setIfInBounds_toArray, List.set_cons_zero, List.set_cons_succ]
      refine wpAnyH_done (by kernel_rfl) ?_ _
      have hbq5 := hst4.down (hbqA.drew.trans (hb4.mono (by simp; omega))) hk5
      rw [← HSn.out] at hst5
      rw [← Hq.out]
      clear hHeld
      go_wp2_with fail
      go_roundg (n - (k + 1))
      case measure => have := hgk.out; omega
      case rel => exact ⟨k + 1, v5, by go_num, by omega, rfl, by rw [HA2.out]; exact hst5, hbq5⟩
    · obtain rfl : k = n := by omega
      have HfinM : Hid (mustF secs (ms.take k) A3 = mustF secs ms A3) := by show _ = _; rw [← Hn.out, List.take_length]
      rw [HfinM.out] at hst
      have hA4l := mustF_len secs ms A3
      rw [Hn.out] at hA4l
      generalize mustF secs ms A3 = A4 at *
      clear hgk hk HfinM hlt
      go_wp2_with fail
      rename World => wo2
      go_loopg [12, 63] secs.length (fun gk ab i wr => ∃ (k : Nat) (v : Value), ab = .int .i64 (aboveL secs k) ∧ i = .int .i64 k ∧ k ≤ secs.length ∧ Hid (gk = secs.length - k) ∧ FitSt q wr v (secF f5 secs A4 k) sa secs ∧ Below q Wf wr)
      case atStart => exact ⟨0, _, rfl, rfl, by omega, rfl, hst, hbq⟩
      clear hst hbq
      obtain ⟨k, v, rfl, rfl, hk, hgk, hst, hbq⟩ := hrel
      have hql := hst.box.lt
      by_cases hlt : k < secs.length
      · obtain ⟨qb, qoff, hqa, d0, d1, d2⟩ := hst.sec.sect hlt
        have hnx : ∀ h : k + 1 < secs.length, wr.cell? ⟨qb, qoff + (k + 1) * 3, none⟩ = some (.int .i64 secs[k + 1].1) := fun h => by
          obtain ⟨qb', qoff', hqa', c0, -, -⟩ := hst.sec.sect h
          rw [hqa] at hqa'
          cases hqa'
          exact c0
        have hqfar := hst.far _ hqa
        have HSn := secF_at f5 A4 hlt
        have Hab := Lib.hid (aboveL_at hlt)
        obtain ⟨a1, a2⟩ := aboveL_bd Hsk.out k
        have hal := secF_len f5 secs A4 k
        obtain ⟨x5, x6, x7, x8⟩ := Hsk.out secs[k] (List.getElem_mem hlt)
        have Hq := Lib.hid hqa
        rw [hqa]
        clear hqa
        have Hem : Hid (emptyB secs k secs[k] = (decide (secs[k].2.2 = 0) && (decide (k + 1 = secs.length) || nextB secs k secs[k]))) := rfl
        have Hdp : Hid (deepB f5 (aboveL secs k) secs[k] = (decide (f5 < secs[k].1) || decide (aboveL secs k + 1 < secs[k].1))) := rfl
        have Hnx : Hid (∀ h : k + 1 < secs.length, nextB secs k secs[k] = decide (secs[k + 1].1 ≤ secs[k].1)) := fun h => by unfold nextB; rw [List.getElem?_eq_getElem h]
        have Hsk1 : Hid (∀ h : k + 1 < secs.length, 1 ≤ secs[k + 1].1 ∧ secs[k + 1].1 ≤ 4) := fun h => by obtain ⟨a, b, _, _⟩ := Hsk.out secs[k + 1] (List.getElem_mem h); exact ⟨a, b⟩
        have Hnc := Lib.hid hnx
        clear hnx
        generalize emptyB secs k secs[k] = em at *
        generalize deepB f5 (aboveL secs k) secs[k] = dp at *
        generalize nextB secs k secs[k] = nb at *
        generalize secs[k] = x at *
        obtain ⟨x1, x2, x3⟩ := x
        generalize aboveL secs k = ab at *
        simp only at d0 d1 d2 HSn x5 x6 x7 x8 Hem Hdp Hnx Hab
        obtain ⟨acc2, ha2⟩ : ∃ a, secF f5 secs A4 (k + 1) = a := ⟨_, rfl⟩
        rw [ha2] at HSn
        replace HSn := Lib.hid HSn
        have HA2 := Lib.hid ha2
        clear ha2
        generalize secF f5 secs A4 k = acc at *
        obtain ⟨acc5, ha5⟩ : ∃ a, addF dp 5 x2 acc = a := ⟨_, rfl⟩
        have HA5 := Lib.hid ha5.symm
        rw [ha5] at HSn
        clear ha5
        have hk1 : (0 : Int) ≤ (k : Int) := by omega
        have hk2 : (k : Int) < (secs.length : Int) := by omega
        have hbw : Below wr.heap.size wr (wr.alloc (.cells #[.int .i64 x1, .string x2, .int .i64 x3] 54)) := (Below.refl _ _).alloc (Nat.le_refl _) _
        have hstA := hst.below hbw
        have hbqA : Below q Wf (wr.alloc (.cells #[.int .i64 x1, .string x2, .int .i64 x3] 54)) := hbq.alloc (by omega) _
        have hBx := Box.new wr 54 #[.int .i64 x1, .string x2, .int .i64 x3]
        have hqx : wr.heap.size ≠ q := by omega
        have hvx0 : v.ownBlock ≠ some wr.heap.size := fun e => by have := (hst.own.lt _ e).2; omega
        have hFc := (HF.out _ hbqA).cell 4
        have hwa : IntKind.i64.wrap (ab + 1) = ab + 1 := IntWalk.i64_in _ (by omega)
        have hwk : IntKind.i64.wrap ((k : Int) + 1) = (k : Int) + 1 := IntWalk.i64_in _ (by omega)
        simp at hFc
        have hBx_l := hBx.lt; have hBx_0 := hBx.cell 0; have hBx_1 := hBx.cell 1; have hBx_2 := hBx.cell 2; simp at hBx_0 hBx_1 hBx_2
        clear hst hbq
        go_upto_region 17 with (fail)
        go_cut [] from 68 to 83 (fun wx => ∃ (W' : World) (v5 : Value), W' = wx ∧ FitSt q W' v5 acc5 sa secs ∧ Kp (fun j => j = q ∨ v.ownBlock = some j) (wr.alloc (.cells #[.int .i64 x1, .string x2, .int .i64 x3] 54)) W' ∧ ∀ j, v5.ownBlock = some j → v.ownBlock = some j ∨ (wr.alloc (.cells #[.int .i64 x1, .string x2, .int .i64 x3] 54)).heap.size ≤ j)
        case first =>
          by_cases hd1 : f5 < x1
          · obtain rfl : dp = true := by rw [Hdp.out, decide_eq_true hd1]; rfl
            go_wp2_with fail
            refine (addCloR_any q v acc sa secs true 5 x2 _ hstA (by omega)).mono ?_
            rintro e w5 ⟨rfl, v5, hst5, hk5, hnw5⟩
            rw [← HA5.out] at hst5
            go_wp2_with fail
            go_meet
            exact ⟨w5, v5, rfl, hst5, hk5, hnw5⟩
          · by_cases hd2 : ab + 1 < x1
            · obtain rfl : dp = true := by rw [Hdp.out, decide_eq_true hd2]; simp
              go_wp2_with fail
              refine (addCloR_any q v acc sa secs true 5 x2 _ hstA (by omega)).mono ?_
              rintro e w5 ⟨rfl, v5, hst5, hk5, hnw5⟩
              rw [← HA5.out] at hst5
              go_wp2_with fail
              go_meet
              exact ⟨w5, v5, rfl, hst5, hk5, hnw5⟩
            · obtain rfl : dp = false := by rw [Hdp.out, decide_eq_false hd1, decide_eq_false hd2]; rfl
              go_wp2_with fail
              refine (addCloR_any q v acc sa secs false 5 x2 _ hstA (by omega)).mono ?_
              rintro e w5 ⟨rfl, v5, hst5, hk5, hnw5⟩
              rw [← HA5.out] at hst5
              go_wp2_with fail
              go_meet
              exact ⟨w5, v5, rfl, hst5, hk5, hnw5⟩
        case rest =>
          obtain ⟨w5, v5, rfl, hst5, hk5, hnw5⟩ := hcut
          have hbq5 := hstA.down hbqA hk5
          have hBx5 := hstA.keep hk5 hBx hqx hvx0
          have hvx : v5.ownBlock ≠ some wr.heap.size := fun e => (hnw5 _ e).elim hvx0 (fun h => by simp at h; omega)
          have hacl5 := addF_len dp 5 x2 acc
          have hacl6 : acc5.length ≤ acc.length + 1 := by rw [HA5.out]; exact hacl5
          clear hacl5 hBx_l hBx_0 hBx_1 hBx_2
          have hst6 := hst5.below (Below.refl _ _).drew
          have hbq6 := hbq5.drew
          have hBx5_l := hBx5.lt; have hBx5_0 := hBx5.cell 0; have hBx5_1 := hBx5.cell 1; have hBx5_2 := hBx5.cell 2; simp at hBx5_0 hBx5_1 hBx5_2
          clear hstA hbqA
          go_upto_region 18 with (fail)
          by_cases hx3 : x3 = 0
          · subst hx3
            by_cases hkn : k + 1 = secs.length
            · have hem : em = true := by rw [Hem.out, decide_eq_true hkn]; rfl
              rw [hem] at HSn
              have hq1 : (((k : Int) + 1) == (secs.length : Int)) = true := by rw [beq_iff_eq]; omega
              clear hem hkn
              refine wp_region_held_drew (S := (fun wy => wy.cell? ⟨wr.heap.size, 0, none⟩ = some (.int .i64 x1) ∧ wy.cell? ⟨wr.heap.size, 1, none⟩ = some (.string x2) ∧ wy.cell? ⟨wr.heap.size, 2, none⟩ = some (.int .i64 0))) (by kernel_rfl) ?hS (fun hHeld => ?_)
              case hS => exact ⟨hBx5_0, hBx5_1, hBx5_2⟩
              refine rtake (i := 0) (d := (some 84)) (v := ?_) rfl (by kernel_rfl) (by kernel_rfl) (by kernel_rfl) (by kernel_rfl) (fun _ _ _ h => h) (by kernel_rfl) (by assumption) ?_ ?_
              rotate_left 1
              · (intro wI hSI; (try dsimp only at hSI); go_simp; (try with_reducible rfl))
              simp only [Act.put, List.setIfInBounds_toArray, List.set_cons_zero, List.set_cons_succ]
              refine rtake (i := 1) (d := (some 85)) (v := ?_) rfl (by kernel_rfl) (by kernel_rfl) (by kernel_rfl) (by kernel_rfl) (fun _ _ _ h => h) (by kernel_rfl) (by assumption) ?_ ?_
              rotate_left 1
              · (intro wI hSI; (try dsimp only at hSI); go_simp; (try with_reducible rfl))
              simp only [Act.put, List.setIfInBounds_toArray, List.set_cons_zero, List.set_cons_succ]
              refine rtake (i := 2) (d := (some 86)) (v := ?_) rfl (by kernel_rfl) (by kernel_rfl) (by kernel_rfl) (by kernel_rfl) (fun _ _ _ h => h) (by kernel_rfl) (by assumption) ?_ ?_
              rotate_left 1
              · (intro wI hSI; (try dsimp only at hSI); go_simp; (try with_reducible rfl))
              simp only [Act.put, List.setIfInBounds_toArray, List.set_cons_zero, List.set_cons_succ]
              refine rtake (i := 3) (d := (some 87)) (v := ?_) rfl (by kernel_rfl) (by kernel_rfl) (by kernel_rfl) (by kernel_rfl) (fun _ _ _ h => h) (by kernel_rfl) (by assumption) ?_ ?_
              rotate_left 1
              · (intro wI hSI; (try dsimp only at hSI); go_simp; (try with_reducible rfl))
              simp only [Act.put, List.setIfInBounds_toArray, List.set_cons_zero, List.set_cons_succ]
              refine rtake (i := 4) (d := (some 88)) (v := ?_) rfl (by kernel_rfl) (by kernel_rfl) (by kernel_rfl) (by kernel_rfl) (fun _ _ _ h => h) (by kernel_rfl) (by assumption) ?_ ?_
              rotate_left 1
              · (intro wI hSI; (try dsimp only at hSI); go_simp; (try with_reducible rfl))
              simp only [Act.put, List.setIfInBounds_toArray, List.set_cons_zero, List.set_cons_succ]
              refine rtake (i := 5) (d := (some 89)) (v := ?_) rfl (by kernel_rfl) (by kernel_rfl) (by kernel_rfl) (by kernel_rfl) (fun _ _ _ h => h) (by kernel_rfl) (by assumption) ?_ ?_
              rotate_left 1
              · (intro wI hSI; (try dsimp only at hSI); go_simp; (try with_reducible rfl))
              simp only [Act.put, List.setIfInBounds_toArray, List.set_cons_zero, List.set_cons_succ]
              refine rtake (i := 6) (d := (some 90)) (v := ?_) rfl (by kernel_rfl) (by kernel_rfl) (by kernel_rfl) (by kernel_rfl) (fun _ _ _ h => h) (by kernel_rfl) (by assumption) ?_ ?_
              rotate_left 1
              · (intro wI hSI; (try dsimp only at hSI); go_simp; (try with_reducible rfl))
              simp only [Act.put, List.setIfInBounds_toArray, List.set_cons_zero, List.set_cons_succ]
              refine rtake (i := 7) (d := (some 91)) (v := ?_) rfl (by kernel_rfl) (by kernel_rfl) (by kernel_rfl) (by kernel_rfl) (fun _ _ _ h => h) (by kernel_rfl) (by assumption) ?_ ?_
              rotate_left 1
              · (intro wI hSI; (try dsimp only at hSI); go_simp; (try with_reducible rfl))
              simp only [Act.put, List.setIfInBounds_toArray, List.set_cons_zero, List.set_cons_succ]
              refine rtake (i := 8) (d := (some 92)) (v := ?_) rfl (by kernel_rfl) (by kernel_rfl) (by kernel_rfl) (by kernel_rfl) (fun _ _ _ h => h) (by kernel_rfl) (by assumption) ?_ ?_
              rotate_left 1
              · (intro wI hSI; (try dsimp only at hSI); go_simp; (try with_reducible rfl))
              simp only [Act.put, List.setIfInBounds_toArray, List.set_cons_zero, List.set_cons_succ]
              refine rtake (i := 9) (d := (some 93)) (v := ?_) rfl (by kernel_rfl) (by kernel_rfl) (by kernel_rfl) (by kernel_rfl) (fun _ _ _ h => h) (by kernel_rfl) (by assumption) ?_ ?_
              rotate_left 1
              · (intro wI hSI; (try dsimp only at hSI); go_simp; (try with_reducible rfl))
              simp only [Act.put, List.setIfInBounds_toArray, List.set_cons_zero, List.set_cons_succ]
              refine rtake (i := 10) (d := (some 94)) (v := ?_) rfl (by kernel_rfl) (by kernel_rfl) (by kernel_rfl) (by kernel_rfl) (fun _ _ _ h => h) (by kernel_rfl) (by assumption) ?_ ?_
              rotate_left 1
              · (intro wI hSI; (try dsimp only at hSI); go_simp; (try with_reducible rfl))
              simp only [Act.put, List.setIfInBounds_toArray, List.set_cons_zero, List.set_cons_succ]
              refine rskip (i := 11) (d := (some 95)) rfl (by kernel_rfl) (by kernel_rfl) (by kernel_rfl) (by kernel_rfl) (fun _ _ _ h => h) (by kernel_rfl) (by assumption) ?_
              simp only [Act.put, List.setIfInBounds_toArray, List.set_cons_zero, List.set_cons_succ]
              refine rskip (i := 12) (d := (some 96)) rfl (by kernel_rfl) (by kernel_rfl) (by kernel_rfl) (by kernel_rfl) (fun _ _ _ h => h) (by kernel_rfl) (by assumption) ?_
              simp only [Act.put, List.setIfInBounds_toArray, List.set_cons_zero, List.set_cons_succ]
              refine rskip (i := 13) (d := (some 97)) rfl (by kernel_rfl) (by kernel_rfl) (by kernel_rfl) (by kernel_rfl) (fun _ _ _ h => h) (by kernel_rfl) (by assumption) ?_
              simp only [Act.put, List.setIfInBounds_toArray, List.set_cons_zero, List.set_cons_succ]
              refine rskip (i := 14) (d := (some 98)) rfl (by kernel_rfl) (by kernel_rfl) (by kernel_rfl) (by kernel_rfl) (fun _ _ _ h => h) (by kernel_rfl) (by assumption) ?_
              simp only [Act.put, List.setIfInBounds_toArray, List.set_cons_zero, List.set_cons_succ]
              refine rskip (i := 15) (d := (some 99)) rfl (by kernel_rfl) (by kernel_rfl) (by kernel_rfl) (by kernel_rfl) (fun _ _ _ h => h) (by kernel_rfl) (by assumption) ?_
              simp only [Act.put, List.setIfInBounds_toArray, List.set_cons_zero, List.set_cons_succ]
              refine rskip (i := 16) (d := (some 100)) rfl (by kernel_rfl) (by kernel_rfl) (by kernel_rfl) (by kernel_rfl) (fun _ _ _ h => h) (by kernel_rfl) (by assumption) ?_
              simp only [Act.put, List.setIfInBounds_toArray, List.set_cons_zero, List.set_cons_succ]
              refine rskip (i := 17) (d := (some 101)) rfl (by kernel_rfl) (by kernel_rfl) (by kernel_rfl) (by kernel_rfl) (fun _ _ _ h => h) (by kernel_rfl) (by assumption) ?_
              simp only [Act.put, List.setIfInBounds_toArray, List.set_cons_zero, List.set_cons_succ]
              refine rskip (i := 18) (d := (some 102)) rfl (by kernel_rfl) (by kernel_rfl) (by kernel_rfl) (by kernel_rfl) (fun _ _ _ h => h) (by kernel_rfl) (by assumption) ?_
              simp only [Act.put, List.setIfInBounds_toArray, List.set_cons_zero, List.set_cons_succ]
              refine rskip (i := 19) (d := (some 103)) rfl (by kernel_rfl) (by kernel_rfl) (by kernel_rfl) (by kernel_rfl) (fun _ _ _ h => h) (by kernel_rfl) (by assumption) ?_
              simp only [Act.put, List.setIfInBounds_toArray, List.set_cons_zero, List.set_cons_succ]
              refine rtake (i := 20) (d := (some 104)) (v := ?_) rfl (by kernel_rfl) (by kernel_rfl) (by kernel_rfl) (by kernel_rfl) (fun _ _ _ h => h) (by kernel_rfl) (by assumption) ?_ ?_
              rotate_left 1
              · (intro wI hSI; (try dsimp only at hSI); go_simp; (try with_reducible rfl))
              simp only [Act.put, List.setIfInBounds_toArray, List.set_cons_zero, List.set_cons_succ]
              refine rtake (i := 21) (d := (some 105)) (v := ?_) rfl (by kernel_rfl) (by kernel_rfl) (by kernel_rfl) (by kernel_rfl) (fun _ _ _ h => h) (by kernel_rfl) (by assumption) ?_ ?_
              rotate_left 1
              · (intro wI hSI; (try dsimp only at hSI); go_simp; (try with_reducible rfl))
              simp only [Act.put, List.setIfInBounds_toArray, List.set_cons_zero, List.set_cons_succ]
              refine rtake (i := 22) (d := (some 106)) (v := ?_) rfl (by kernel_rfl) (by kernel_rfl) (by kernel_rfl) (by kernel_rfl) (fun _ _ _ h => h) (by kernel_rfl) (by assumption) ?_ ?_
              rotate_left 1
              · (intro wI hSI; (try dsimp only at hSI); go_simp; (try with_reducible rfl))
              simp only [Act.put, List.setIfInBounds_toArray, List.set_cons_zero, List.set_cons_succ]
              refine rtake (i := 23) (d := (some 107)) (v := ?_) rfl (by kernel_rfl) (by kernel_rfl) (by kernel_rfl) (by kernel_rfl) (fun _ _ _ h => h) (by kernel_rfl) (by assumption) ?_ ?_
              rotate_left 1
              · (intro wI hSI; (try dsimp only at hSI); go_simp; (try with_reducible rfl))
              simp only [Act.put, List.setIfInBounds_toArray, List.set_cons_zero, List.set_cons_succ]
              refine rcall (i := 24) (d := (some 108)) (by kernel_rfl) rfl (by kernel_rfl) (fun K hK => ?_)
              go_simp
              go_at_call 71; refine (addCloR_any q v5 acc5 sa secs true 6 x2 _ hst6 (by omega)).mono ?_; rintro e w7 ⟨rfl, v7, hst7, hk7, -⟩
              refine hK.out _ _ ?hS (fun hHeld => ?_)
              case hS => exact ⟨cellKp hk7 (fun e => e.elim hqx (fun e => hvx e)) hHeld.1, cellKp hk7 (fun e => e.elim hqx (fun e => hvx e)) hHeld.2.1, cellKp hk7 (fun e => e.elim hqx (fun e => hvx e)) hHeld.2.2⟩
              clear hK K
              simp only [Act.put, List.setIfInBounds_toArray, List.set_cons_zero, List.set_cons_succ]
              refine wpAnyH_done (by kernel_rfl) ?_ _
              have hbq7 := hst6.down hbq6 hk7
              have hxc7 := hHeld.1
              rw [← HSn.out] at hst7
              rw [← Hq.out]
              clear hHeld
              go_wp2_with fail
              go_roundg (secs.length - (k + 1))
              case measure => have := hgk.out; omega
              case rel => exact ⟨k + 1, v7, by rw [Hab.out], by go_num, by omega, rfl, by rw [HA2.out]; exact hst7, hbq7⟩
            · have hkl : k + 1 < secs.length := by omega
              have hem : em = nb := by rw [Hem.out, decide_eq_false hkn]; rfl
              rw [hem, Hnx.out hkl] at HSn
              have hq1 : (((k : Int) + 1) == (secs.length : Int)) = false := by rw [beq_eq_false_iff_ne]; omega
              have hki : (k : Int) + 1 < (secs.length : Int) := by omega
              have hki0 : (0 : Int) ≤ (k : Int) + 1 := by omega
              obtain ⟨qb', qoff', hqa', c0, -, -⟩ := hst6.sec.sect hkl
              rw [Hq.out] at hqa'
              cases hqa'
              have hfar6 := hst6.far _ Hq.out
              generalize secs[k + 1].1 = y1 at *
              clear hem hkn
              refine wp_region_held_drew (S := (fun wy => wy.cell? ⟨wr.heap.size, 0, none⟩ = some (.int .i64 x1) ∧ wy.cell? ⟨wr.heap.size, 1, none⟩ = some (.string x2) ∧ wy.cell? ⟨wr.heap.size, 2, none⟩ = some (.int .i64 0) ∧ wy.cell? ⟨qb, qoff + (k + 1) * 3, none⟩ = some (.int .i64 y1))) (by kernel_rfl) ?hS (fun hHeld => ?_)
              case hS => exact ⟨hBx5_0, hBx5_1, hBx5_2, c0⟩
              refine rtake (i := 0) (d := (some 84)) (v := ?_) rfl (by kernel_rfl) (by kernel_rfl) (by kernel_rfl) (by kernel_rfl) (fun _ _ _ h => h) (by kernel_rfl) (by assumption) ?_ ?_
              rotate_left 1
              · (intro wI hSI; (try dsimp only at hSI); go_simp; (try with_reducible rfl))
              simp only [Act.put, List.setIfInBounds_toArray, List.set_cons_zero, List.set_cons_succ]
              refine rtake (i := 1) (d := (some 85)) (v := ?_) rfl (by kernel_rfl) (by kernel_rfl) (by kernel_rfl) (by kernel_rfl) (fun _ _ _ h => h) (by kernel_rfl) (by assumption) ?_ ?_
              rotate_left 1
              · (intro wI hSI; (try dsimp only at hSI); go_simp; (try with_reducible rfl))
              simp only [Act.put, List.setIfInBounds_toArray, List.set_cons_zero, List.set_cons_succ]
              refine rtake (i := 2) (d := (some 86)) (v := ?_) rfl (by kernel_rfl) (by kernel_rfl) (by kernel_rfl) (by kernel_rfl) (fun _ _ _ h => h) (by kernel_rfl) (by assumption) ?_ ?_
              rotate_left 1
              · (intro wI hSI; (try dsimp only at hSI); go_simp; (try with_reducible rfl))
              simp only [Act.put, List.setIfInBounds_toArray, List.set_cons_zero, List.set_cons_succ]
              refine rtake (i := 3) (d := (some 87)) (v := ?_) rfl (by kernel_rfl) (by kernel_rfl) (by kernel_rfl) (by kernel_rfl) (fun _ _ _ h => h) (by kernel_rfl) (by assumption) ?_ ?_
              rotate_left 1
              · (intro wI hSI; (try dsimp only at hSI); go_simp; (try with_reducible rfl))
              simp only [Act.put, List.setIfInBounds_toArray, List.set_cons_zero, List.set_cons_succ]
              refine rtake (i := 4) (d := (some 88)) (v := ?_) rfl (by kernel_rfl) (by kernel_rfl) (by kernel_rfl) (by kernel_rfl) (fun _ _ _ h => h) (by kernel_rfl) (by assumption) ?_ ?_
              rotate_left 1
              · (intro wI hSI; (try dsimp only at hSI); go_simp; (try with_reducible rfl))
              simp only [Act.put, List.setIfInBounds_toArray, List.set_cons_zero, List.set_cons_succ]
              refine rtake (i := 5) (d := (some 89)) (v := ?_) rfl (by kernel_rfl) (by kernel_rfl) (by kernel_rfl) (by kernel_rfl) (fun _ _ _ h => h) (by kernel_rfl) (by assumption) ?_ ?_
              rotate_left 1
              · (intro wI hSI; (try dsimp only at hSI); go_simp; (try with_reducible rfl))
              simp only [Act.put, List.setIfInBounds_toArray, List.set_cons_zero, List.set_cons_succ]
              refine rtake (i := 6) (d := (some 90)) (v := ?_) rfl (by kernel_rfl) (by kernel_rfl) (by kernel_rfl) (by kernel_rfl) (fun _ _ _ h => h) (by kernel_rfl) (by assumption) ?_ ?_
              rotate_left 1
              · (intro wI hSI; (try dsimp only at hSI); go_simp; (try with_reducible rfl))
              simp only [Act.put, List.setIfInBounds_toArray, List.set_cons_zero, List.set_cons_succ]
              refine rtake (i := 7) (d := (some 91)) (v := ?_) rfl (by kernel_rfl) (by kernel_rfl) (by kernel_rfl) (by kernel_rfl) (fun _ _ _ h => h) (by kernel_rfl) (by assumption) ?_ ?_
              rotate_left 1
              · (intro wI hSI; (try dsimp only at hSI); go_simp; (try with_reducible rfl))
              simp only [Act.put, List.setIfInBounds_toArray, List.set_cons_zero, List.set_cons_succ]
              refine rtake (i := 8) (d := (some 92)) (v := ?_) rfl (by kernel_rfl) (by kernel_rfl) (by kernel_rfl) (by kernel_rfl) (fun _ _ _ h => h) (by kernel_rfl) (by assumption) ?_ ?_
              rotate_left 1
              · (intro wI hSI; (try dsimp only at hSI); go_simp; (try with_reducible rfl))
              simp only [Act.put, List.setIfInBounds_toArray, List.set_cons_zero, List.set_cons_succ]
              refine rtake (i := 9) (d := (some 93)) (v := ?_) rfl (by kernel_rfl) (by kernel_rfl) (by kernel_rfl) (by kernel_rfl) (fun _ _ _ h => h) (by kernel_rfl) (by assumption) ?_ ?_
              rotate_left 1
              · (intro wI hSI; (try dsimp only at hSI); go_simp; (try with_reducible rfl))
              simp only [Act.put, List.setIfInBounds_toArray, List.set_cons_zero, List.set_cons_succ]
              refine rtake (i := 10) (d := (some 94)) (v := ?_) rfl (by kernel_rfl) (by kernel_rfl) (by kernel_rfl) (by kernel_rfl) (fun _ _ _ h => h) (by kernel_rfl) (by assumption) ?_ ?_
              rotate_left 1
              · (intro wI hSI; (try dsimp only at hSI); go_simp; (try with_reducible rfl))
              simp only [Act.put, List.setIfInBounds_toArray, List.set_cons_zero, List.set_cons_succ]
              refine rtake (i := 11) (d := (some 95)) (v := ?_) rfl (by kernel_rfl) (by kernel_rfl) (by kernel_rfl) (by kernel_rfl) (fun _ _ _ h => h) (by kernel_rfl) (by assumption) ?_ ?_
              rotate_left 1
              · (intro wI hSI; (try dsimp only at hSI); go_simp; (try with_reducible rfl))
              simp only [Act.put, List.setIfInBounds_toArray, List.set_cons_zero, List.set_cons_succ]
              refine rtake (i := 12) (d := (some 96)) (v := ?_) rfl (by kernel_rfl) (by kernel_rfl) (by kernel_rfl) (by kernel_rfl) (fun _ _ _ h => h) (by kernel_rfl) (by assumption) ?_ ?_
              rotate_left 1
              · (intro wI hSI; (try dsimp only at hSI); go_simp; (try with_reducible rfl))
              simp only [Act.put, List.setIfInBounds_toArray, List.set_cons_zero, List.set_cons_succ]
              refine rtake (i := 13) (d := (some 97)) (v := ?_) rfl (by kernel_rfl) (by kernel_rfl) (by kernel_rfl) (by kernel_rfl) (fun _ _ _ h => h) (by kernel_rfl) (by assumption) ?_ ?_
              rotate_left 1
              · (intro wI hSI; (try dsimp only at hSI); go_simp; (try with_reducible rfl))
              simp only [Act.put, List.setIfInBounds_toArray, List.set_cons_zero, List.set_cons_succ]
              refine rtake (i := 14) (d := (some 98)) (v := ?_) rfl (by kernel_rfl) (by kernel_rfl) (by kernel_rfl) (by kernel_rfl) (fun _ _ _ h => h) (by kernel_rfl) (by assumption) ?_ ?_
              rotate_left 1
              · (intro wI hSI; (try dsimp only at hSI); go_simp; (try with_reducible rfl))
              simp only [Act.put, List.setIfInBounds_toArray, List.set_cons_zero, List.set_cons_succ]
              refine rtake (i := 15) (d := (some 99)) (v := ?_) rfl (by kernel_rfl) (by kernel_rfl) (by kernel_rfl) (by kernel_rfl) (fun _ _ _ h => h) (by kernel_rfl) (by assumption) ?_ ?_
              rotate_left 1
              · (intro wI hSI; (try dsimp only at hSI); go_simp; (try with_reducible rfl))
              simp only [Act.put, List.setIfInBounds_toArray, List.set_cons_zero, List.set_cons_succ]
              refine rtake (i := 16) (d := (some 100)) (v := ?_) rfl (by kernel_rfl) (by kernel_rfl) (by kernel_rfl) (by kernel_rfl) (fun _ _ _ h => h) (by kernel_rfl) (by assumption) ?_ ?_
              rotate_left 1
              · (intro wI hSI; (try dsimp only at hSI); go_simp; (try with_reducible rfl))
              simp only [Act.put, List.setIfInBounds_toArray, List.set_cons_zero, List.set_cons_succ]
              refine rtake (i := 17) (d := (some 101)) (v := ?_) rfl (by kernel_rfl) (by kernel_rfl) (by kernel_rfl) (by kernel_rfl) (fun _ _ _ h => h) (by kernel_rfl) (by assumption) ?_ ?_
              rotate_left 1
              · (intro wI hSI; (try dsimp only at hSI); go_simp; (try with_reducible rfl))
              simp only [Act.put, List.setIfInBounds_toArray, List.set_cons_zero, List.set_cons_succ]
              refine rtake (i := 18) (d := (some 102)) (v := ?_) rfl (by kernel_rfl) (by kernel_rfl) (by kernel_rfl) (by kernel_rfl) (fun _ _ _ h => h) (by kernel_rfl) (by assumption) ?_ ?_
              rotate_left 1
              · (intro wI hSI; (try dsimp only at hSI); go_simp; (try with_reducible rfl))
              simp only [Act.put, List.setIfInBounds_toArray, List.set_cons_zero, List.set_cons_succ]
              refine rtake (i := 19) (d := (some 103)) (v := ?_) rfl (by kernel_rfl) (by kernel_rfl) (by kernel_rfl) (by kernel_rfl) (fun _ _ _ h => h) (by kernel_rfl) (by assumption) ?_ ?_
              rotate_left 1
              · (intro wI hSI; (try dsimp only at hSI); go_simp; (try with_reducible rfl))
              simp only [Act.put, List.setIfInBounds_toArray, List.set_cons_zero, List.set_cons_succ]
              refine rtake (i := 20) (d := (some 104)) (v := ?_) rfl (by kernel_rfl) (by kernel_rfl) (by kernel_rfl) (by kernel_rfl) (fun _ _ _ h => h) (by kernel_rfl) (by assumption) ?_ ?_
              rotate_left 1
              · (intro wI hSI; (try dsimp only at hSI); go_simp; (try with_reducible rfl))
              simp only [Act.put, List.setIfInBounds_toArray, List.set_cons_zero, List.set_cons_succ]
              refine rtake (i := 21) (d := (some 105)) (v := ?_) rfl (by kernel_rfl) (by kernel_rfl) (by kernel_rfl) (by kernel_rfl) (fun _ _ _ h => h) (by kernel_rfl) (by assumption) ?_ ?_
              rotate_left 1
              · (intro wI hSI; (try dsimp only at hSI); go_simp; (try with_reducible rfl))
              simp only [Act.put, List.setIfInBounds_toArray, List.set_cons_zero, List.set_cons_succ]
              refine rtake (i := 22) (d := (some 106)) (v := ?_) rfl (by kernel_rfl) (by kernel_rfl) (by kernel_rfl) (by kernel_rfl) (fun _ _ _ h => h) (by kernel_rfl) (by assumption) ?_ ?_
              rotate_left 1
              · (intro wI hSI; (try dsimp only at hSI); go_simp; (try with_reducible rfl))
              simp only [Act.put, List.setIfInBounds_toArray, List.set_cons_zero, List.set_cons_succ]
              refine rtake (i := 23) (d := (some 107)) (v := ?_) rfl (by kernel_rfl) (by kernel_rfl) (by kernel_rfl) (by kernel_rfl) (fun _ _ _ h => h) (by kernel_rfl) (by assumption) ?_ ?_
              rotate_left 1
              · (intro wI hSI; (try dsimp only at hSI); go_simp; (try with_reducible rfl))
              simp only [Act.put, List.setIfInBounds_toArray, List.set_cons_zero, List.set_cons_succ]
              refine rcall (i := 24) (d := (some 108)) (by kernel_rfl) rfl (by kernel_rfl) (fun K hK => ?_)
              go_simp
              go_at_call 71; refine (addCloR_any q v5 acc5 sa secs (decide (y1 ≤ x1)) 6 x2 _ hst6 (by omega)).mono ?_; rintro e w7 ⟨rfl, v7, hst7, hk7, -⟩
              refine hK.out _ _ ?hS (fun hHeld => ?_)
              case hS => exact ⟨cellKp hk7 (fun e => e.elim hqx (fun e => hvx e)) hHeld.1, cellKp hk7 (fun e => e.elim hqx (fun e => hvx e)) hHeld.2.1, cellKp hk7 (fun e => e.elim hqx (fun e => hvx e)) hHeld.2.2.1, cellKp hk7 (fun e => e.elim hfar6.1 (fun e => hfar6.2.1 e)) hHeld.2.2.2⟩
              clear hK K
              simp only [Act.put, List.setIfInBounds_toArray, List.set_cons_zero, List.set_cons_succ]
              refine wpAnyH_done (by kernel_rfl) ?_ _
              have hbq7 := hst6.down hbq6 hk7
              have hxc7 := hHeld.1
              rw [← HSn.out] at hst7
              rw [← Hq.out]
              clear hHeld
              go_wp2_with fail
              go_roundg (secs.length - (k + 1))
              case measure => have := hgk.out; omega
              case rel => exact ⟨k + 1, v7, by rw [Hab.out], by go_num, by omega, rfl, by rw [HA2.out]; exact hst7, hbq7⟩
          · have hem : em = false := by rw [Hem.out, decide_eq_false hx3]; rfl
            rw [hem] at HSn
            have hq0 : (x3 == 0) = false := by rw [beq_eq_false_iff_ne]; exact hx3
            clear hem hx3
            refine wp_region_held_drew (S := (fun wy => wy.cell? ⟨wr.heap.size, 0, none⟩ = some (.int .i64 x1) ∧ wy.cell? ⟨wr.heap.size, 1, none⟩ = some (.string x2) ∧ wy.cell? ⟨wr.heap.size, 2, none⟩ = some (.int .i64 x3))) (by kernel_rfl) ?hS (fun hHeld => ?_)
            case hS => exact ⟨hBx5_0, hBx5_1, hBx5_2⟩
            refine rtake (i := 0) (d := (some 84)) (v := ?_) rfl (by kernel_rfl) (by kernel_rfl) (by kernel_rfl) (by kernel_rfl) (fun _ _ _ h => h) (by kernel_rfl) (by assumption) ?_ ?_
            rotate_left 1
            · (intro wI hSI; (try dsimp only at hSI); go_simp; (try with_reducible rfl))
            simp only [Act.put, List.setIfInBounds_toArray, List.set_cons_zero, List.set_cons_succ]
            refine rtake (i := 1) (d := (some 85)) (v := ?_) rfl (by kernel_rfl) (by kernel_rfl) (by kernel_rfl) (by kernel_rfl) (fun _ _ _ h => h) (by kernel_rfl) (by assumption) ?_ ?_
            rotate_left 1
            · (intro wI hSI; (try dsimp only at hSI); go_simp; (try with_reducible rfl))
            simp only [Act.put, List.setIfInBounds_toArray, List.set_cons_zero, List.set_cons_succ]
            refine rtake (i := 2) (d := (some 86)) (v := ?_) rfl (by kernel_rfl) (by kernel_rfl) (by kernel_rfl) (by kernel_rfl) (fun _ _ _ h => h) (by kernel_rfl) (by assumption) ?_ ?_
            rotate_left 1
            · (intro wI hSI; (try dsimp only at hSI); go_simp; (try with_reducible rfl))
            simp only [Act.put, List.setIfInBounds_toArray, List.set_cons_zero, List.set_cons_succ]
            refine rtake (i := 3) (d := (some 87)) (v := ?_) rfl (by kernel_rfl) (by kernel_rfl) (by kernel_rfl) (by kernel_rfl) (fun _ _ _ h => h) (by kernel_rfl) (by assumption) ?_ ?_
            rotate_left 1
            · (intro wI hSI; (try dsimp only at hSI); go_simp; (try with_reducible rfl))
            simp only [Act.put, List.setIfInBounds_toArray, List.set_cons_zero, List.set_cons_succ]
            refine rtake (i := 4) (d := (some 88)) (v := ?_) rfl (by kernel_rfl) (by kernel_rfl) (by kernel_rfl) (by kernel_rfl) (fun _ _ _ h => h) (by kernel_rfl) (by assumption) ?_ ?_
            rotate_left 1
            · (intro wI hSI; (try dsimp only at hSI); go_simp; (try with_reducible rfl))
            simp only [Act.put, List.setIfInBounds_toArray, List.set_cons_zero, List.set_cons_succ]
            refine rskip (i := 5) (d := (some 89)) rfl (by kernel_rfl) (by kernel_rfl) (by kernel_rfl) (by kernel_rfl) (fun _ _ _ h => h) (by kernel_rfl) (by assumption) ?_
            simp only [Act.put, List.setIfInBounds_toArray, List.set_cons_zero, List.set_cons_succ]
            refine rskip (i := 6) (d := (some 90)) rfl (by kernel_rfl) (by kernel_rfl) (by kernel_rfl) (by kernel_rfl) (fun _ _ _ h => h) (by kernel_rfl) (by assumption) ?_
            simp only [Act.put, List.setIfInBounds_toArray, List.set_cons_zero, List.set_cons_succ]
            refine rskip (i := 7) (d := (some 91)) rfl (by kernel_rfl) (by kernel_rfl) (by kernel_rfl) (by kernel_rfl) (fun _ _ _ h => h) (by kernel_rfl) (by assumption) ?_
            simp only [Act.put, List.setIfInBounds_toArray, List.set_cons_zero, List.set_cons_succ]
            refine rskip (i := 8) (d := (some 92)) rfl (by kernel_rfl) (by kernel_rfl) (by kernel_rfl) (by kernel_rfl) (fun _ _ _ h => h) (by kernel_rfl) (by assumption) ?_
            simp only [Act.put, List.setIfInBounds_toArray, List.set_cons_zero, List.set_cons_succ]
            refine rskip (i := 9) (d := (some 93)) rfl (by kernel_rfl) (by kernel_rfl) (by kernel_rfl) (by kernel_rfl) (fun _ _ _ h => h) (by kernel_rfl) (by assumption) ?_
            simp only [Act.put, List.setIfInBounds_toArray, List.set_cons_zero, List.set_cons_succ]
            refine rskip (i := 10) (d := (some 94)) rfl (by kernel_rfl) (by kernel_rfl) (by kernel_rfl) (by kernel_rfl) (fun _ _ _ h => h) (by kernel_rfl) (by assumption) ?_
            simp only [Act.put, List.setIfInBounds_toArray, List.set_cons_zero, List.set_cons_succ]
            refine rskip (i := 11) (d := (some 95)) rfl (by kernel_rfl) (by kernel_rfl) (by kernel_rfl) (by kernel_rfl) (fun _ _ _ h => h) (by kernel_rfl) (by assumption) ?_
            simp only [Act.put, List.setIfInBounds_toArray, List.set_cons_zero, List.set_cons_succ]
            refine rskip (i := 12) (d := (some 96)) rfl (by kernel_rfl) (by kernel_rfl) (by kernel_rfl) (by kernel_rfl) (fun _ _ _ h => h) (by kernel_rfl) (by assumption) ?_
            simp only [Act.put, List.setIfInBounds_toArray, List.set_cons_zero, List.set_cons_succ]
            refine rskip (i := 13) (d := (some 97)) rfl (by kernel_rfl) (by kernel_rfl) (by kernel_rfl) (by kernel_rfl) (fun _ _ _ h => h) (by kernel_rfl) (by assumption) ?_
            simp only [Act.put, List.setIfInBounds_toArray, List.set_cons_zero, List.set_cons_succ]
            refine rskip (i := 14) (d := (some 98)) rfl (by kernel_rfl) (by kernel_rfl) (by kernel_rfl) (by kernel_rfl) (fun _ _ _ h => h) (by kernel_rfl) (by assumption) ?_
            simp only [Act.put, List.setIfInBounds_toArray, List.set_cons_zero, List.set_cons_succ]
            refine rskip (i := 15) (d := (some 99)) rfl (by kernel_rfl) (by kernel_rfl) (by kernel_rfl) (by kernel_rfl) (fun _ _ _ h => h) (by kernel_rfl) (by assumption) ?_
            simp only [Act.put, List.setIfInBounds_toArray, List.set_cons_zero, List.set_cons_succ]
            refine rskip (i := 16) (d := (some 100)) rfl (by kernel_rfl) (by kernel_rfl) (by kernel_rfl) (by kernel_rfl) (fun _ _ _ h => h) (by kernel_rfl) (by assumption) ?_
            simp only [Act.put, List.setIfInBounds_toArray, List.set_cons_zero, List.set_cons_succ]
            refine rskip (i := 17) (d := (some 101)) rfl (by kernel_rfl) (by kernel_rfl) (by kernel_rfl) (by kernel_rfl) (fun _ _ _ h => h) (by kernel_rfl) (by assumption) ?_
            simp only [Act.put, List.setIfInBounds_toArray, List.set_cons_zero, List.set_cons_succ]
            refine rskip (i := 18) (d := (some 102)) rfl (by kernel_rfl) (by kernel_rfl) (by kernel_rfl) (by kernel_rfl) (fun _ _ _ h => h) (by kernel_rfl) (by assumption) ?_
            simp only [Act.put, List.setIfInBounds_toArray, List.set_cons_zero, List.set_cons_succ]
            refine rskip (i := 19) (d := (some 103)) rfl (by kernel_rfl) (by kernel_rfl) (by kernel_rfl) (by kernel_rfl) (fun _ _ _ h => h) (by kernel_rfl) (by assumption) ?_
            simp only [Act.put, List.setIfInBounds_toArray, List.set_cons_zero, List.set_cons_succ]
            refine rskip (i := 20) (d := (some 104)) rfl (by kernel_rfl) (by kernel_rfl) (by kernel_rfl) (by kernel_rfl) (fun _ _ _ h => h) (by kernel_rfl) (by assumption) ?_
            simp only [Act.put, List.setIfInBounds_toArray, List.set_cons_zero, List.set_cons_succ]
            refine rtake (i := 21) (d := (some 105)) (v := ?_) rfl (by kernel_rfl) (by kernel_rfl) (by kernel_rfl) (by kernel_rfl) (fun _ _ _ h => h) (by kernel_rfl) (by assumption) ?_ ?_
            rotate_left 1
            · (intro wI hSI; (try dsimp only at hSI); go_simp; (try with_reducible rfl))
            simp only [Act.put, List.setIfInBounds_toArray, List.set_cons_zero, List.set_cons_succ]
            refine rtake (i := 22) (d := (some 106)) (v := ?_) rfl (by kernel_rfl) (by kernel_rfl) (by kernel_rfl) (by kernel_rfl) (fun _ _ _ h => h) (by kernel_rfl) (by assumption) ?_ ?_
            rotate_left 1
            · (intro wI hSI; (try dsimp only at hSI); go_simp; (try with_reducible rfl))
            simp only [Act.put, List.setIfInBounds_toArray, List.set_cons_zero, List.set_cons_succ]
            refine rtake (i := 23) (d := (some 107)) (v := ?_) rfl (by kernel_rfl) (by kernel_rfl) (by kernel_rfl) (by kernel_rfl) (fun _ _ _ h => h) (by kernel_rfl) (by assumption) ?_ ?_
            rotate_left 1
            · (intro wI hSI; (try dsimp only at hSI); go_simp; (try with_reducible rfl))
            simp only [Act.put, List.setIfInBounds_toArray, List.set_cons_zero, List.set_cons_succ]
            refine rcall (i := 24) (d := (some 108)) (by kernel_rfl) rfl (by kernel_rfl) (fun K hK => ?_)
            go_simp
            go_at_call 71; refine (addCloR_any q v5 acc5 sa secs false 6 x2 _ hst6 (by omega)).mono ?_; rintro e w7 ⟨rfl, v7, hst7, hk7, -⟩
            refine hK.out _ _ ?hS (fun hHeld => ?_)
            case hS => exact ⟨cellKp hk7 (fun e => e.elim hqx (fun e => hvx e)) hHeld.1, cellKp hk7 (fun e => e.elim hqx (fun e => hvx e)) hHeld.2.1, cellKp hk7 (fun e => e.elim hqx (fun e => hvx e)) hHeld.2.2⟩
            clear hK K
            simp only [Act.put, List.setIfInBounds_toArray, List.set_cons_zero, List.set_cons_succ]
            refine wpAnyH_done (by kernel_rfl) ?_ _
            have hbq7 := hst6.down hbq6 hk7
            have hxc7 := hHeld.1
            rw [← HSn.out] at hst7
            rw [← Hq.out]
            clear hHeld
            go_wp2_with fail
            go_roundg (secs.length - (k + 1))
            case measure => have := hgk.out; omega
            case rel => exact ⟨k + 1, v7, by rw [Hab.out], by go_num, by omega, rfl, by rw [HA2.out]; exact hst7, hbq7⟩
      · obtain rfl : k = secs.length := by omega
        rw [← Hout.out] at hst
        obtain ⟨oa, oc, hve, hoa, -, -⟩ := hst.own.sa
        have hov := hst.box.cell 0
        rw [hve] at hov
        simp at hov
        clear hst hlt
        go_wp2_with fail
        go_ret; exact ⟨oa, oc, rfl, hoa, hb0W.trans (hbq.mono hwq)⟩
end Go.Proofs.YtlpknpjfmacemaaGreatDoor
