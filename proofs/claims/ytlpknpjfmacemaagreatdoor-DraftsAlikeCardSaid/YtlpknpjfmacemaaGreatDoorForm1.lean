/- Forms of texts: what is wrong with one. -/
import Derived.Test.YtlpknpjfmacemaaGreatDoorLine1
import Derived.Test.YtlpknpjfmacemaaGreatDoorOutside
namespace Go.Proofs.YtlpknpjfmacemaaGreatDoor
open Go.RowKit
set_option linter.unusedVariables false
set_option linter.unusedSimpArgs false

/-- A form as it lies in memory. -/
structure Frm where
  least : Int
  most : Int
  lines : Int
  must : List ByteArray
  a : Option Addr
  c : Nat
  deep : Int
def encForm (f : Frm) : Value := .agg #[.int .i64 f.least, .int .i64 f.most, .int .i64 f.lines, .slice f.a f.must.length f.c, .int .i64 f.deep]
def mustBad (s : ByteArray) : Bool := decide (s.size = 0) || (!plainB s || (decide (60 < s.size) || !decide (lowS s = s)))
def mustE (l : List ByteArray) (i : Nat) : Int :=
  match l[i]? with
  | none => 0
  | some s => if mustBad s = true then 3 else if (l.take i).any (fun y => decide (y = s)) = true then 6 else 0
theorem mustE_at {l : List ByteArray} {i : Nat} (h : i < l.length) : mustE l i = if mustBad l[i] = true then 3 else if (l.take i).any (fun y => decide (y = l[i])) = true then 6 else 0 := by
  unfold mustE; rw [List.getElem?_eq_getElem h]
def numBad (f : Frm) : Bool := decide (f.least < 0 ∨ f.most < f.least ∨ 20000 < f.most ∨ f.lines < 0 ∨ 20000 < f.lines ∨ f.deep < 1 ∨ 4 < f.deep)
def formE (f : Frm) : Int := if numBad f = true then 1 else if 20 < f.must.length then 2 else firstErr (mustE f.must) f.must.length
theorem low_beq (s : ByteArray) : ((lowS s).toList == s.toList) = decide (lowS s = s) := by
  rw [ByteArray.toList_eq, ByteArray.toList_eq, Bool.eq_iff_iff, beq_iff_eq, decide_eq_true_eq]
  constructor
  · intro h
    have : (lowS s).data = s.data := Array.toList_inj.1 h
    cases hl : lowS s; cases hs : s; simp_all
  · intro h; rw [h]
theorem SA.takeW {α : Type} [Cel α] {w : World} {a : Option Addr} {l : List α} (h : SA w a l) (n : Nat) : SA w a (l.take n) := by
  rcases h with rfl | ⟨b, off, rfl, h⟩
  · exact .inl (by simp)
  · exact .inr ⟨b, off, rfl, h.take n⟩
set_option maxRecDepth 100000 in
set_option maxHeartbeats 8000000 in
theorem checkForm_any (f : Frm) (w : World) (hE0 : Env w) (hf : SA w f.a f.must) (hcap : f.must.length ≤ f.c) (hsm : ∀ x ∈ f.must, x.size ≤ 1000000) : Calls Tryz.prog 11 #[encForm f] w (Gives (.int .i64 (formE f)) w) := by
  obtain ⟨f1, f2, f3, l, a, c, f5⟩ := f
  have HE : Hid (formE ⟨f1, f2, f3, l, a, c, f5⟩ = if decide (f1 < 0 ∨ f2 < f1 ∨ 20000 < f2 ∨ f3 < 0 ∨ 20000 < f3 ∨ f5 < 1 ∨ 4 < f5) = true then 1 else if 20 < l.length then 2 else firstErr (mustE l) l.length) := rfl
  unfold encForm
  simp only at hf hsm hcap ⊢
  generalize formE ⟨f1, f2, f3, l, a, c, f5⟩ = er at *
  have Hsm := Lib.hid hsm
  obtain ⟨n, hn⟩ : ∃ n, l.length = n := ⟨_, rfl⟩
  have Hn := Lib.hid hn
  rw [hn] at HE hcap ⊢
  clear hn
  have hB0 := Box.new w 29 #[.int .i64 f1, .int .i64 f2, .int .i64 f3, .slice a n c, .int .i64 f5]
  have hb1 : Below w.heap.size w (w.alloc (.cells #[.int .i64 f1, .int .i64 f2, .int .i64 f3, .slice a n c, .int .i64 f5] 29)) := by (repeat' (first | exact Below.refl _ _ | assumption | refine Below.setCell ?_ ?_ _ | refine below_drewN ?_ _ | refine Below.drew ?_ | refine Below.alloc ?_ ?_ _ | (with_reducible refine Below.trans ?_ (Below.mono hb ?_)) | (with_reducible refine Below.trans ?_ (Below.mono hb0 ?_)) | (with_reducible refine Below.trans ?_ (Below.mono hb1 ?_)) | (with_reducible refine Below.trans ?_ (Below.mono hb2 ?_)) | (with_reducible refine Below.trans ?_ (Below.mono hb3 ?_)) | (with_reducible refine Below.trans ?_ (Below.mono hb4 ?_)) | (with_reducible refine Below.trans ?_ (Below.mono hb5 ?_)) | (with_reducible refine Below.trans ?_ (Below.mono hb6 ?_)) | (with_reducible refine Below.trans ?_ (Below.mono hb7 ?_)) | (with_reducible refine Below.trans ?_ (Below.mono hb8 ?_)) | (with_reducible refine Below.trans ?_ (Below.mono hb9 ?_)) | (with_reducible refine Below.trans ?_ (Below.mono hb10 ?_)) | (with_reducible refine Below.trans ?_ (Below.mono hb11 ?_)) | (with_reducible refine Below.trans ?_ (Below.mono hb12 ?_)) | (with_reducible refine Below.trans ?_ (Below.mono hb13 ?_)) | (with_reducible refine Below.trans ?_ (Below.mono hb14 ?_)) | (with_reducible refine Below.trans ?_ (Below.mono hb15 ?_)) | omega | (simp; done) | (simp; omega)))
  have hE1 := hE0.below hb1
  have hsa := hf.below hb1
  have hc0 := hB0.cell 0
  have hc1 := hB0.cell 1
  have hc2 := hB0.cell 2
  have hc3 := hB0.cell 3
  have hc4 := hB0.cell 4
  simp at hc0 hc1 hc2 hc3 hc4
  by_cases n1 : f1 < 0 ∨ f2 < f1
  · have HE1 := Lib.hid (HE.out.trans (if_pos (decide_eq_true (by omega))))
    go_enter Tryz.func11, Tryz.ntmps11
    go_wp2_with fail
    refine (outside_yes f1 0 f2 _ (by omega)).mono ?_
    rintro e w2 ⟨rfl, rfl⟩
    go_wp2_with fail
    go_ret
    exact ⟨by rw [HE1.out] <;> rfl, hb1⟩
  by_cases n2 : 20000 < f2
  · have HE1 := Lib.hid (HE.out.trans (if_pos (decide_eq_true (by omega))))
    go_enter Tryz.func11, Tryz.ntmps11
    go_wp2_with fail
    refine (outside_no f1 0 f2 _ (by omega) (by omega)).mono ?_
    rintro e w2 ⟨rfl, rfl⟩
    go_wp2_with fail
    go_ret
    exact ⟨by rw [HE1.out] <;> rfl, hb1⟩
  by_cases n3 : f3 < 0 ∨ 20000 < f3
  · have HE1 := Lib.hid (HE.out.trans (if_pos (decide_eq_true (by omega))))
    go_enter Tryz.func11, Tryz.ntmps11
    go_wp2_with fail
    refine (outside_no f1 0 f2 _ (by omega) (by omega)).mono ?_
    rintro e w2 ⟨rfl, rfl⟩
    go_wp2_with fail
    refine (outside_yes f3 0 20000 _ (by omega)).mono ?_
    rintro e w2 ⟨rfl, rfl⟩
    go_wp2_with fail
    go_ret
    exact ⟨by rw [HE1.out] <;> rfl, hb1⟩
  by_cases n4 : f5 < 1 ∨ 4 < f5
  · have HE1 := Lib.hid (HE.out.trans (if_pos (decide_eq_true (by omega))))
    go_enter Tryz.func11, Tryz.ntmps11
    go_wp2_with fail
    refine (outside_no f1 0 f2 _ (by omega) (by omega)).mono ?_
    rintro e w2 ⟨rfl, rfl⟩
    go_wp2_with fail
    refine (outside_no f3 0 20000 _ (by omega) (by omega)).mono ?_
    rintro e w2 ⟨rfl, rfl⟩
    go_wp2_with fail
    refine (outside_yes f5 1 4 _ (by omega)).mono ?_
    rintro e w2 ⟨rfl, rfl⟩
    go_wp2_with fail
    go_ret
    exact ⟨by rw [HE1.out] <;> rfl, hb1⟩
  replace HE := Lib.hid (HE.out.trans (if_neg (show ¬ decide (f1 < 0 ∨ f2 < f1 ∨ 20000 < f2 ∨ f3 < 0 ∨ 20000 < f3 ∨ f5 < 1 ∨ 4 < f5) = true from fun e => by have := of_decide_eq_true e; omega)))
  go_enter Tryz.func11, Tryz.ntmps11
  go_wp2_with fail
  refine (outside_no f1 0 f2 _ (by omega) (by omega)).mono ?_
  rintro e w2 ⟨rfl, rfl⟩
  go_wp2_with fail
  refine (outside_no f3 0 20000 _ (by omega) (by omega)).mono ?_
  rintro e w2 ⟨rfl, rfl⟩
  go_wp2_with fail
  refine (outside_no f5 1 4 _ (by omega) (by omega)).mono ?_
  rintro e w2 ⟨rfl, rfl⟩
  by_cases h20 : 20 < n
  · replace HE := Lib.hid (HE.out.trans (if_pos h20))
    have hd20 : (20 : Int) < (n : Int) := by omega
    go_wp2_with fail
    go_ret
    exact ⟨by rw [HE.out] <;> rfl, hb1⟩
  replace HE := Lib.hid (HE.out.trans (if_neg h20))
  have hd20 : ¬ (20 : Int) < (n : Int) := by omega
  go_wp2_with fail
  have hBf := hB0
  clear hB0 hc0 hc1 hc2 hc3 hc4 hf hsm
  generalize hW1 : w.alloc (.cells #[.int .i64 f1, .int .i64 f2, .int .i64 f3, .slice a n c, .int .i64 f5] 29) = W1 at *
  clear hW1
  go_loopg [32] n (fun gk i wr => ∃ k : Nat, i = .int .i64 k ∧ k ≤ n ∧ Hid (gk = n - k) ∧ Hid (∀ j, j < k → mustE l j = 0) ∧ Below W1.heap.size W1 wr)
  case atStart => exact ⟨0, rfl, by omega, rfl, fun j hj => (by omega), Below.refl _ _⟩
  obtain ⟨k, rfl, hk, hgk, hall, hb⟩ := hrel
  have hzr := hb.size
  have hF := hBf.below hb
  by_cases hlt : k < n
  · have hltl : k < l.length := by rw [Hn.out]; exact hlt
    obtain ⟨qb, qoff, hqa, d0⟩ := (hsa.below hb).str hltl
    have hsz := Hsm.out l[k] (List.getElem_mem hltl)
    have HMk := mustE_at hltl
    have HM3 : Hid (mustBad l[k] = true → firstErr (mustE l) n = 3) := fun h => by
      rw [if_pos h] at HMk
      exact firstErr_is hlt hall.out HMk (by decide)
    have HM6 : Hid (mustBad l[k] = false → (l.take k).any (fun y => decide (y = l[k])) = true → firstErr (mustE l) n = 6) := fun h h2 => by
      rw [h, if_neg (by decide), if_pos h2] at HMk
      exact firstErr_is hlt hall.out HMk (by decide)
    have HM0 : Hid (mustBad l[k] = false → (l.take k).any (fun y => decide (y = l[k])) = false → ∀ j, j < k + 1 → mustE l j = 0) := fun h h2 j hj => by
      by_cases e : j = k
      · subst e; rw [HMk, h, h2]; rfl
      · exact hall.out j (by omega)
    have Hq := Lib.hid hqa
    have hcn := fun W (h : SA W a (l.take k)) => contains_any (l.take k) a c l[k] W h (by rw [List.length_take]; omega)
    rw [List.length_take, Nat.min_eq_left (by omega)] at hcn
    have HCn := Lib.hid hcn
    have hP := isPlain_any l[k] wr (hE1.below hb) (by omega)
    have HP := Lib.hid hP
    have HL := Lib.hid (fun W => lower_any l[k] W (by omega))
    have Hlb := Lib.hid (low_beq l[k])
    have hie := isEmpty_size l[k]
    have Hbd : Hid (mustBad l[k] = (decide (l[k].size = 0) || (!plainB l[k] || (decide (60 < l[k].size) || !decide (lowS l[k] = l[k]))))) := rfl
    clear hcn hP HMk
    rw [hqa]
    clear hqa
    generalize l[k] = x at *
    generalize (l.take k).any (fun y => decide (y = x)) = dup at *
    generalize mustBad x = bad at *
    generalize plainB x = pl at *
    generalize decide (lowS x = x) = lo at *
    generalize lowS x = lx at *
    have hk1 : (0 : Int) ≤ (k : Int) := by omega
    have hk2 : (k : Int) < (n : Int) := by omega
    have hk3 : (k : Int) ≤ (n : Int) := by omega
    have hF_l := hF.lt; have hF_0 := hF.cell 0; have hF_1 := hF.cell 1; have hF_2 := hF.cell 2; have hF_3 := hF.cell 3; have hF_4 := hF.cell 4; simp at hF_0 hF_1 hF_2 hF_3 hF_4
    by_cases h0 : x.size = 0
    · rw [decide_eq_true h0] at hie Hbd
      have hbad : bad = true := by rw [Hbd.out]; rfl
      have hb9 := below_next hb1 hb
      clear h0
      have Hbad := Lib.hid (HM3.out hbad)
      clear hbad
      go_wp2_with fail
      go_ret
      exact ⟨by rw [HE.out, Hbad.out] <;> rfl, hb9⟩
    · rw [decide_eq_false h0] at hie Hbd
      have hx0 : ¬ x.size = 0 := h0
      cases pl
      · have hbad : bad = true := by rw [Hbd.out]; rfl
        clear h0
        have Hbad := Lib.hid (HM3.out hbad)
        clear hbad
        go_wp2_with fail; refine HP.out.mono ?_; rintro e w2 ⟨rfl, hb2⟩; have hb9 := below_next hb1 (below_next hb hb2); go_wp2_with fail
        go_ret
        exact ⟨by rw [HE.out, Hbad.out] <;> rfl, hb9⟩
      · by_cases h60 : 60 < x.size
        · rw [decide_eq_true h60] at Hbd
          have hbad : bad = true := by rw [Hbd.out]; rfl
          have hd60 : (60 : Int) < (x.size : Int) := by omega
          have Hbad := Lib.hid (HM3.out hbad)
          clear hbad
          go_wp2_with fail; refine HP.out.mono ?_; rintro e w2 ⟨rfl, hb2⟩; have hb9 := below_next hb1 (below_next hb hb2); go_wp2_with fail
          go_ret
          exact ⟨by rw [HE.out, Hbad.out] <;> rfl, hb9⟩
        · rw [decide_eq_false h60] at Hbd
          have hd60 : ¬ (60 : Int) < (x.size : Int) := by omega
          cases lo
          · have hbad : bad = true := by rw [Hbd.out]; rfl
            have hlb := Hlb.out
            have Hbad := Lib.hid (HM3.out hbad)
            clear hbad
            go_wp2_with fail; refine HP.out.mono ?_; rintro e w2 ⟨rfl, hb2⟩; go_wp2_with fail; refine (HL.out _).mono ?_; rintro e w3 ⟨rfl, hb3⟩; have hb9 := below_next hb1 (below_next hb (below_next hb2 hb3)); go_wp2_with fail
            go_ret
            exact ⟨by rw [HE.out, Hbad.out] <;> rfl, hb9⟩
          · have hbad : bad = false := by rw [Hbd.out]; rfl
            have hlb := Hlb.out
            go_wp2_with fail
            refine HP.out.mono ?_
            rintro e w2 ⟨rfl, hb2⟩
            go_wp2_with fail
            refine (HL.out _).mono ?_
            rintro e w3 ⟨rfl, hb3⟩
            have hb93 := below_next hb (below_next hb2 hb3)
            have hF3 := hBf.below hb93
            have hsa3 := (hsa.below hb93).takeW k
            clear hF hF_l hF_0 hF_1 hF_2 hF_3 hF_4
            have hF3_l := hF3.lt; have hF3_0 := hF3.cell 0; have hF3_1 := hF3.cell 1; have hF3_2 := hF3.cell 2; have hF3_3 := hF3.cell 3; have hF3_4 := hF3.cell 4; simp at hF3_0 hF3_1 hF3_2 hF3_3 hF3_4
            have HCd := Lib.hid (HCn.out _ hsa3)
            clear HCn hsa3 hb2 hb3
            cases dup
            · have Hz := Lib.hid (HM0.out hbad rfl)
              clear hbad
              go_wp2_with fail
              refine HCd.out.mono ?_
              rintro e w4 ⟨rfl, rfl⟩
              go_wp2_with fail
              rw [← Hq.out]
              go_roundg (n - (k + 1))
              case measure => have := hgk.out; omega
              case rel => exact ⟨k + 1, by go_num, by omega, rfl, Hz.out, hb93⟩
            · have H6 := Lib.hid (HM6.out hbad rfl)
              clear hbad
              go_wp2_with fail
              refine HCd.out.mono ?_
              rintro e w4 ⟨rfl, rfl⟩
              go_wp2_with fail
              go_ret
              exact ⟨by rw [HE.out, H6.out] <;> rfl, below_next hb1 hb93⟩
  · obtain rfl : k = n := by omega
    have Hz := Lib.hid (firstErr_zero hall.out)
    go_wp2_with fail
    go_ret
    exact ⟨by rw [HE.out, Hz.out] <;> rfl, below_next hb1 hb⟩
set_option maxRecDepth 100000 in
set_option maxHeartbeats 8000000 in
theorem formFault_any (f : Frm) (w : World) (hE0 : Env w) (hf : SA w f.a f.must) (hcap : f.must.length ≤ f.c) (hsm : ∀ x ∈ f.must, x.size ≤ 1000000) : Calls Tryz.prog 12 #[encForm f] w (Gives (.int .i64 (formE f)) w) := by
  obtain ⟨f1, f2, f3, l, a, c, f5⟩ := f
  have HE : Hid (formE ⟨f1, f2, f3, l, a, c, f5⟩ = if decide (f1 < 0 ∨ f2 < f1 ∨ 20000 < f2 ∨ f3 < 0 ∨ 20000 < f3 ∨ f5 < 1 ∨ 4 < f5) = true then 1 else if 20 < l.length then 2 else firstErr (mustE l) l.length) := rfl
  unfold encForm
  simp only at hf hsm hcap ⊢
  generalize formE ⟨f1, f2, f3, l, a, c, f5⟩ = er at *
  have Hsm := Lib.hid hsm
  obtain ⟨n, hn⟩ : ∃ n, l.length = n := ⟨_, rfl⟩
  have Hn := Lib.hid hn
  rw [hn] at HE hcap ⊢
  clear hn
  have hB0 := Box.new w 29 #[.int .i64 f1, .int .i64 f2, .int .i64 f3, .slice a n c, .int .i64 f5]
  have hb1 : Below w.heap.size w (w.alloc (.cells #[.int .i64 f1, .int .i64 f2, .int .i64 f3, .slice a n c, .int .i64 f5] 29)) := by (repeat' (first | exact Below.refl _ _ | assumption | refine Below.setCell ?_ ?_ _ | refine below_drewN ?_ _ | refine Below.drew ?_ | refine Below.alloc ?_ ?_ _ | (with_reducible refine Below.trans ?_ (Below.mono hb ?_)) | (with_reducible refine Below.trans ?_ (Below.mono hb0 ?_)) | (with_reducible refine Below.trans ?_ (Below.mono hb1 ?_)) | (with_reducible refine Below.trans ?_ (Below.mono hb2 ?_)) | (with_reducible refine Below.trans ?_ (Below.mono hb3 ?_)) | (with_reducible refine Below.trans ?_ (Below.mono hb4 ?_)) | (with_reducible refine Below.trans ?_ (Below.mono hb5 ?_)) | (with_reducible refine Below.trans ?_ (Below.mono hb6 ?_)) | (with_reducible refine Below.trans ?_ (Below.mono hb7 ?_)) | (with_reducible refine Below.trans ?_ (Below.mono hb8 ?_)) | (with_reducible refine Below.trans ?_ (Below.mono hb9 ?_)) | (with_reducible refine Below.trans ?_ (Below.mono hb10 ?_)) | (with_reducible refine Below.trans ?_ (Below.mono hb11 ?_)) | (with_reducible refine Below.trans ?_ (Below.mono hb12 ?_)) | (with_reducible refine Below.trans ?_ (Below.mono hb13 ?_)) | (with_reducible refine Below.trans ?_ (Below.mono hb14 ?_)) | (with_reducible refine Below.trans ?_ (Below.mono hb15 ?_)) | omega | (simp; done) | (simp; omega)))
  have hE1 := hE0.below hb1
  have hsa := hf.below hb1
  have hc0 := hB0.cell 0
  have hc1 := hB0.cell 1
  have hc2 := hB0.cell 2
  have hc3 := hB0.cell 3
  have hc4 := hB0.cell 4
  simp at hc0 hc1 hc2 hc3 hc4
  by_cases m0 : f1 < 0
  · have HE1 := Lib.hid (HE.out.trans (if_pos (decide_eq_true (by omega))))
    go_enter Tryz.func12, Tryz.ntmps12
    go_wp2_with fail
    go_ret
    exact ⟨by rw [HE1.out] <;> rfl, hb1⟩
  by_cases m1 : f2 < f1
  · have HE1 := Lib.hid (HE.out.trans (if_pos (decide_eq_true (by omega))))
    go_enter Tryz.func12, Tryz.ntmps12
    go_wp2_with fail
    go_ret
    exact ⟨by rw [HE1.out] <;> rfl, hb1⟩
  by_cases m2 : 20000 < f2
  · have HE1 := Lib.hid (HE.out.trans (if_pos (decide_eq_true (by omega))))
    go_enter Tryz.func12, Tryz.ntmps12
    go_wp2_with fail
    go_ret
    exact ⟨by rw [HE1.out] <;> rfl, hb1⟩
  by_cases m3 : f3 < 0
  · have HE1 := Lib.hid (HE.out.trans (if_pos (decide_eq_true (by omega))))
    go_enter Tryz.func12, Tryz.ntmps12
    go_wp2_with fail
    go_ret
    exact ⟨by rw [HE1.out] <;> rfl, hb1⟩
  by_cases m4 : 20000 < f3
  · have HE1 := Lib.hid (HE.out.trans (if_pos (decide_eq_true (by omega))))
    go_enter Tryz.func12, Tryz.ntmps12
    go_wp2_with fail
    go_ret
    exact ⟨by rw [HE1.out] <;> rfl, hb1⟩
  by_cases m5 : f5 < 1
  · have HE1 := Lib.hid (HE.out.trans (if_pos (decide_eq_true (by omega))))
    go_enter Tryz.func12, Tryz.ntmps12
    go_wp2_with fail
    go_ret
    exact ⟨by rw [HE1.out] <;> rfl, hb1⟩
  by_cases m6 : 4 < f5
  · have HE1 := Lib.hid (HE.out.trans (if_pos (decide_eq_true (by omega))))
    go_enter Tryz.func12, Tryz.ntmps12
    go_wp2_with fail
    go_ret
    exact ⟨by rw [HE1.out] <;> rfl, hb1⟩
  replace HE := Lib.hid (HE.out.trans (if_neg (show ¬ decide (f1 < 0 ∨ f2 < f1 ∨ 20000 < f2 ∨ f3 < 0 ∨ 20000 < f3 ∨ f5 < 1 ∨ 4 < f5) = true from fun e => by have := of_decide_eq_true e; omega)))
  go_enter Tryz.func12, Tryz.ntmps12
  by_cases h20 : 20 < n
  · replace HE := Lib.hid (HE.out.trans (if_pos h20))
    have hd20 : (20 : Int) < (n : Int) := by omega
    go_wp2_with fail
    go_ret
    exact ⟨by rw [HE.out] <;> rfl, hb1⟩
  replace HE := Lib.hid (HE.out.trans (if_neg h20))
  have hd20 : ¬ (20 : Int) < (n : Int) := by omega
  go_wp2_with fail
  have hBf := hB0
  clear hB0 hc0 hc1 hc2 hc3 hc4 hf hsm
  generalize hW1 : w.alloc (.cells #[.int .i64 f1, .int .i64 f2, .int .i64 f3, .slice a n c, .int .i64 f5] 29) = W1 at *
  clear hW1
  go_loopg [47] n (fun gk i wr => ∃ k : Nat, i = .int .i64 k ∧ k ≤ n ∧ Hid (gk = n - k) ∧ Hid (∀ j, j < k → mustE l j = 0) ∧ Below W1.heap.size W1 wr)
  case atStart => exact ⟨0, rfl, by omega, rfl, fun j hj => (by omega), Below.refl _ _⟩
  obtain ⟨k, rfl, hk, hgk, hall, hb⟩ := hrel
  have hzr := hb.size
  have hF := hBf.below hb
  by_cases hlt : k < n
  · have hltl : k < l.length := by rw [Hn.out]; exact hlt
    obtain ⟨qb, qoff, hqa, d0⟩ := (hsa.below hb).str hltl
    have hsz := Hsm.out l[k] (List.getElem_mem hltl)
    have HMk := mustE_at hltl
    have HM3 : Hid (mustBad l[k] = true → firstErr (mustE l) n = 3) := fun h => by
      rw [if_pos h] at HMk
      exact firstErr_is hlt hall.out HMk (by decide)
    have HM6 : Hid (mustBad l[k] = false → (l.take k).any (fun y => decide (y = l[k])) = true → firstErr (mustE l) n = 6) := fun h h2 => by
      rw [h, if_neg (by decide), if_pos h2] at HMk
      exact firstErr_is hlt hall.out HMk (by decide)
    have HM0 : Hid (mustBad l[k] = false → (l.take k).any (fun y => decide (y = l[k])) = false → ∀ j, j < k + 1 → mustE l j = 0) := fun h h2 j hj => by
      by_cases e : j = k
      · subst e; rw [HMk, h, h2]; rfl
      · exact hall.out j (by omega)
    have Hq := Lib.hid hqa
    have hcn := fun W (h : SA W a (l.take k)) => contains_any (l.take k) a c l[k] W h (by rw [List.length_take]; omega)
    rw [List.length_take, Nat.min_eq_left (by omega)] at hcn
    have HCn := Lib.hid hcn
    have hP := plainOf_any l[k] wr (hE1.below hb) (by omega)
    have HP := Lib.hid hP
    have HL := Lib.hid (fun W => lowerR_any l[k] W (by omega))
    have Hlb := Lib.hid (low_beq l[k])
    have hie := isEmpty_size l[k]
    have Hbd : Hid (mustBad l[k] = (decide (l[k].size = 0) || (!plainB l[k] || (decide (60 < l[k].size) || !decide (lowS l[k] = l[k]))))) := rfl
    clear hcn hP HMk
    rw [hqa]
    clear hqa
    generalize l[k] = x at *
    generalize (l.take k).any (fun y => decide (y = x)) = dup at *
    generalize mustBad x = bad at *
    generalize plainB x = pl at *
    generalize decide (lowS x = x) = lo at *
    generalize lowS x = lx at *
    have hk1 : (0 : Int) ≤ (k : Int) := by omega
    have hk2 : (k : Int) < (n : Int) := by omega
    have hk3 : (k : Int) ≤ (n : Int) := by omega
    have hF_l := hF.lt; have hF_0 := hF.cell 0; have hF_1 := hF.cell 1; have hF_2 := hF.cell 2; have hF_3 := hF.cell 3; have hF_4 := hF.cell 4; simp at hF_0 hF_1 hF_2 hF_3 hF_4
    by_cases h0 : x.size = 0
    · rw [decide_eq_true h0] at hie Hbd
      have hbad : bad = true := by rw [Hbd.out]; rfl
      have hb9 := below_next hb1 hb
      clear h0
      have Hbad := Lib.hid (HM3.out hbad)
      clear hbad
      go_wp2_with fail
      go_ret
      exact ⟨by rw [HE.out, Hbad.out] <;> rfl, hb9⟩
    · rw [decide_eq_false h0] at hie Hbd
      have hx0 : ¬ x.size = 0 := h0
      cases pl
      · have hbad : bad = true := by rw [Hbd.out]; rfl
        clear h0
        have Hbad := Lib.hid (HM3.out hbad)
        clear hbad
        go_wp2_with fail; refine HP.out.mono ?_; rintro e w2 ⟨rfl, hb2⟩; have hb9 := below_next hb1 (below_next hb hb2); go_wp2_with fail
        go_ret
        exact ⟨by rw [HE.out, Hbad.out] <;> rfl, hb9⟩
      · by_cases h60 : 60 < x.size
        · rw [decide_eq_true h60] at Hbd
          have hbad : bad = true := by rw [Hbd.out]; rfl
          have hd60 : (60 : Int) < (x.size : Int) := by omega
          have Hbad := Lib.hid (HM3.out hbad)
          clear hbad
          go_wp2_with fail; refine HP.out.mono ?_; rintro e w2 ⟨rfl, hb2⟩; have hb9 := below_next hb1 (below_next hb hb2); go_wp2_with fail
          go_ret
          exact ⟨by rw [HE.out, Hbad.out] <;> rfl, hb9⟩
        · rw [decide_eq_false h60] at Hbd
          have hd60 : ¬ (60 : Int) < (x.size : Int) := by omega
          cases lo
          · have hbad : bad = true := by rw [Hbd.out]; rfl
            have hlb := Hlb.out
            have Hbad := Lib.hid (HM3.out hbad)
            clear hbad
            go_wp2_with fail; refine HP.out.mono ?_; rintro e w2 ⟨rfl, hb2⟩; go_wp2_with fail; refine (HL.out _).mono ?_; rintro e w3 ⟨rfl, hb3⟩; have hb9 := below_next hb1 (below_next hb (below_next hb2 hb3)); go_wp2_with fail
            go_ret
            exact ⟨by rw [HE.out, Hbad.out] <;> rfl, hb9⟩
          · have hbad : bad = false := by rw [Hbd.out]; rfl
            have hlb := Hlb.out
            go_wp2_with fail
            refine HP.out.mono ?_
            rintro e w2 ⟨rfl, hb2⟩
            go_wp2_with fail
            refine (HL.out _).mono ?_
            rintro e w3 ⟨rfl, hb3⟩
            have hb93 := below_next hb (below_next hb2 hb3)
            have hF3 := hBf.below hb93
            have hsa3 := (hsa.below hb93).takeW k
            clear hF hF_l hF_0 hF_1 hF_2 hF_3 hF_4
            have hF3_l := hF3.lt; have hF3_0 := hF3.cell 0; have hF3_1 := hF3.cell 1; have hF3_2 := hF3.cell 2; have hF3_3 := hF3.cell 3; have hF3_4 := hF3.cell 4; simp at hF3_0 hF3_1 hF3_2 hF3_3 hF3_4
            have HCd := Lib.hid (HCn.out _ hsa3)
            clear HCn hsa3 hb2 hb3
            cases dup
            · have Hz := Lib.hid (HM0.out hbad rfl)
              clear hbad
              go_wp2_with fail
              refine HCd.out.mono ?_
              rintro e w4 ⟨rfl, rfl⟩
              go_wp2_with fail
              rw [← Hq.out]
              go_roundg (n - (k + 1))
              case measure => have := hgk.out; omega
              case rel => exact ⟨k + 1, by go_num, by omega, rfl, Hz.out, hb93⟩
            · have H6 := Lib.hid (HM6.out hbad rfl)
              clear hbad
              go_wp2_with fail
              refine HCd.out.mono ?_
              rintro e w4 ⟨rfl, rfl⟩
              go_wp2_with fail
              go_ret
              exact ⟨by rw [HE.out, H6.out] <;> rfl, below_next hb1 hb93⟩
  · obtain rfl : k = n := by omega
    have Hz := Lib.hid (firstErr_zero hall.out)
    go_wp2_with fail
    go_ret
    exact ⟨by rw [HE.out, Hz.out] <;> rfl, below_next hb1 hb⟩
end Go.Proofs.YtlpknpjfmacemaaGreatDoor
