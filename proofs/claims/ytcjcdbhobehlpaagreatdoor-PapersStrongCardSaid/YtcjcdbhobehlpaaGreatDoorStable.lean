/- Stable insertion: the plain laws. -/
import Derived.Test.YtcjcdbhobehlpaaGreatDoorOrd
import Derived.Test.YtcjcdbhobehlpaaGreatDoorKeep
import Derived.Test.YtcjcdbhobehlpaaGreatDoorReg
/-! Stable insertion: the plain laws. -/
namespace Go.Proofs.YtcjcdbhobehlpaaGreatDoor
open Go.RowKit
set_option linter.unusedVariables false
set_option linter.unusedSimpArgs false

/-- Two neighbours change places. -/
def swapAt (s : List ByteArray) (j : Nat) : List ByteArray := (s.set (j + 1) (s.getD j ⟨#[]⟩)).set j (s.getD (j + 1) ⟨#[]⟩)
theorem swapAt_length (s : List ByteArray) (j : Nat) : (swapAt s j).length = s.length := by unfold swapAt; simp
/-- The string at place j goes down as long as it comes before the one below. -/
def sink (c : ByteArray → ByteArray → Int) : List ByteArray → Nat → List ByteArray
 | s, 0 => s
 | s, j + 1 => if c (s.getD (j + 1) ⟨#[]⟩) (s.getD j ⟨#[]⟩) < 0 then sink c (swapAt s j) j else s
theorem sink_length (c : ByteArray → ByteArray → Int) : ∀ (j : Nat) (s : List ByteArray), (sink c s j).length = s.length
 | 0, s => rfl
 | j + 1, s => by
  unfold sink
  split
  ·
   rw [sink_length c j, swapAt_length]
  ·
   rfl
/-- The first n strings are put in their order. -/
def isortN (c : ByteArray → ByteArray → Int) (s : List ByteArray) : Nat → List ByteArray
 | 0 => s
 | 1 => s
 | n + 2 => sink c (isortN c s (n + 1)) (n + 1)
def isort (c : ByteArray → ByteArray → Int) (s : List ByteArray) : List ByteArray := isortN c s s.length
theorem isortN_length (c : ByteArray → ByteArray → Int) (s : List ByteArray) : ∀ n, (isortN c s n).length = s.length
 | 0 => rfl
 | 1 => rfl
 | n + 2 => by rw [isortN, sink_length, isortN_length c s (n + 1)]
theorem swapAt_perm (s : List ByteArray) (j : Nat) (h : j + 1 < s.length) : (swapAt s j).Perm s := by
 unfold swapAt
 rw [List.getD_eq_getElem?_getD, List.getD_eq_getElem?_getD, List.getElem?_eq_getElem h, List.getElem?_eq_getElem (show j < s.length by omega)]
 exact List.set_set_perm h (show j < s.length by omega)
theorem sink_perm (c : ByteArray → ByteArray → Int) : ∀ (j : Nat) (s : List ByteArray), j < s.length → (sink c s j).Perm s
 | 0, s, _ => List.Perm.refl _
 | j + 1, s, h => by
  unfold sink
  split
  ·
   exact (sink_perm c j _ (by rw [swapAt_length]; omega)).trans (swapAt_perm s j h)
  ·
   exact List.Perm.refl _
theorem isortN_perm (c : ByteArray → ByteArray → Int) (s : List ByteArray) : ∀ n, n ≤ s.length → (isortN c s n).Perm s
 | 0, _ => List.Perm.refl _
 | 1, _ => List.Perm.refl _
 | n + 2, h => by
  rw [isortN]
  exact (sink_perm c _ _ (by rw [isortN_length]; omega)).trans (isortN_perm c s (n + 1) (by omega))
theorem isort_perm (c : ByteArray → ByteArray → Int) (s : List ByteArray) : (isort c s).Perm s := isortN_perm c s _ (Nat.le_refl _)
theorem isort_length (c : ByteArray → ByteArray → Int) (s : List ByteArray) : (isort c s).length = s.length := (isort_perm c s).length_eq
end Go.Proofs.YtcjcdbhobehlpaaGreatDoor

/-! The library's stable sort of strings by a function: walked for fewer than 20 strings. -/
namespace Go.Proofs.YtcjcdbhobehlpaaGreatDoor
open Go.RowKit
set_option linter.unusedVariables false
set_option linter.unusedSimpArgs false

/-- A function value compares strings: in every world that differs from w in block gs alone. -/
def CmpAt (g : Nat) (lb : Array Value) (c : ByteArray → ByteArray → Int) (l : List ByteArray) (gs : Nat) (w : World) : Prop :=
 ∀ (W : World) (x y : ByteArray), x ∈ l → y ∈ l → Kp (· = gs) w W → Calls Tryz.prog g (#[.string x, .string y] ++ lb) W (Gives (.int .i64 (c x y)) W)
theorem swapAt_mem {s : List ByteArray} {j : Nat} (h : j + 1 < s.length) {x : ByteArray} : x ∈ swapAt s j ↔ x ∈ s := (swapAt_perm s j h).mem_iff
set_option maxRecDepth 100000 in
set_option maxHeartbeats 2000000 in
theorem insCmp_any (base gs : Nat) (l : List ByteArray) (cap g : Nat) (lb : Array Value) (c : ByteArray → ByteArray → Int) (w : World) (eg : ∀ args w, (callFunc g args).run Tryz.prog w = .ok (.enter g args) w) (hc : CmpAt g lb c l gs w)
  (hown : Own base 9 w (.slice (some ⟨gs, 0, none⟩) l.length cap) l) (hl : l.length ≤ 1000) :
  Calls Tryz.prog 60 #[.slice (some ⟨gs, 0, none⟩) l.length cap, .int .i64 0, .int .i64 l.length, .func (.func g) #[] lb] w (fun e w' => e = .returned (.tuple #[]) ∧ Own base 9 w' (.slice (some ⟨gs, 0, none⟩) l.length cap) (isort c l) ∧ Kp (· = gs) w w') := by
 have HC := Lib.hid hc
 clear hc
 go_enter Tryz.func60, Tryz.ntmps60
 go_wp2_with fail
 go_loopg [8] l.length (fun gk vi wr => ∃ i : Nat, vi = .int .i64 i ∧ 1 ≤ i ∧ i ≤ max 1 l.length ∧ Hid (gk = l.length + 1 - i) ∧ Own base 9 wr (.slice (some ⟨gs, 0, none⟩) l.length cap) (isortN c l i) ∧ Kp (· = gs) w wr)
 case atStart => exact ⟨1, rfl, by omega, by omega, by show _ = _; omega, hown, Kp.refl _ _⟩
 case round =>
  clear hown
  obtain ⟨i, rfl, hi1, hi2, hgk, hown, hk⟩ := hrel
  by_cases hlt : i < l.length
  ·
   have Hnext := Lib.hid (show isortN c l (i + 1) = sink c (isortN c l i) i by obtain ⟨q, rfl⟩ : ∃ q, i = q + 1 := ⟨i - 1, by omega⟩; rfl)
   have Hmem : Hid (∀ x ∈ isortN c l i, x ∈ l) := fun x hx => (isortN_perm c l i (by omega)).mem_iff.1 hx
   have hsl := isortN_length c l i
   generalize isortN c l i = s0 at *
   have hlt' : (i : Int) < (l.length : Int) := by omega
   go_wp2_with fail
   go_loopg [9] i (fun gk vj wr => ∃ (j : Nat) (s : List ByteArray), vj = .int .i64 j ∧ j ≤ i ∧ Hid (gk = j) ∧ s.length = l.length ∧ Own base 9 wr (.slice (some ⟨gs, 0, none⟩) l.length cap) s ∧ Hid (sink c s j = sink c s0 i) ∧ Hid (∀ x ∈ s, x ∈ l) ∧ Kp (· = gs) w wr)
   case atStart => exact ⟨i, s0, rfl, Nat.le_refl _, rfl, hsl, hown, rfl, Hmem.out, hk⟩
   clear hown hk hsl
   obtain ⟨j, s, rfl, hji, hgj, hsl, hown, hsk, hmem, hk⟩ := hrel
   have hsl1 : s.length ≤ l.length := by omega
   have hsl2 : l.length ≤ s.length := by omega
   have hsa : SA wr (some ⟨gs, 0, none⟩) s := by obtain ⟨a', c', he, hh, _⟩ := hown.sa; simp only [Value.slice.injEq] at he; rw [he.1]; exact hh
   clear hsl
   by_cases hj0 : j = 0
   ·
    subst hj0
    have hd : decide ((0 : Int) < 0) = false := by decide
    have Hsk := Lib.hid (show s = sink c s0 i from hsk.out)
    clear hsk
    go_wp2_with fail
    refine wp_region_held_drew (S := (fun _ => True)) (by kernel_rfl) ?hS (fun hHeld => ?_)
    case hS => trivial
    refine rt 0 (some 18) ?_
    refine rt 1 (some 19) ?_
    refine rt 2 (some 20) ?_
    refine rt 3 (some 21) ?_
    refine rs 4 (some 22) ?_
    refine rs 5 (some 23) ?_
    refine rs 6 (some 24) ?_
    refine rs 7 (some 25) ?_
    refine rs 8 (some 26) ?_
    refine rs 9 (some 27) ?_
    refine rs 10 (some 28) ?_
    refine rs 11 (some 29) ?_
    refine rs 12 (some 30) ?_
    refine rs 13 (some 31) ?_
    refine rs 14 (some 32) ?_
    refine rs 15 (some 33) ?_
    refine rt 16 (some 34) ?_
    refine wpAnyH_done (by kernel_rfl) ?_ _
    go_wp2_with fail
    go_roundg (l.length - i)
    case measure => have := hgk.out; omega
    case rel => exact ⟨i + 1, by go_num, by omega, by omega, by show _ = _; omega, by rw [Hnext.out, ← Hsk.out]; exact hown.drew, hk.drew⟩
   ·
    obtain ⟨q, hq⟩ : ∃ q, j = q + 1 := ⟨j - 1, by omega⟩
    have hjl : j < s.length := by omega
    have hql : q < s.length := by omega
    obtain ⟨ab, off, ha, cj⟩ := hsa.str hjl
    obtain ⟨ab', off', ha', cq⟩ := hsa.str hql
    cases ha
    cases ha'
    rw [Nat.zero_add] at cj cq
    have hxl := hmem.out s[j] (List.getElem_mem _)
    have hyl := hmem.out s[q] (List.getElem_mem _)
    have hgx : s.getD j ⟨#[]⟩ = s[j] := by rw [List.getD_eq_getElem?_getD, List.getElem?_eq_getElem hjl]; rfl
    have hgy : s.getD q ⟨#[]⟩ = s[q] := by rw [List.getD_eq_getElem?_getD, List.getElem?_eq_getElem hql]; rfl
    have Hs1 : Hid (c s[j] s[q] < 0 → sink c s j = sink c (swapAt s q) q) := fun h => by
     subst hq
     rw [show sink c s (q + 1) = if c (s.getD (q + 1) ⟨#[]⟩) (s.getD q ⟨#[]⟩) < 0 then sink c (swapAt s q) q else s from rfl, hgx, hgy, if_pos h]
    have Hs2 : Hid (¬ c s[j] s[q] < 0 → sink c s j = s) := fun h => by
     subst hq
     rw [show sink c s (q + 1) = if c (s.getD (q + 1) ⟨#[]⟩) (s.getD q ⟨#[]⟩) < 0 then sink c (swapAt s q) q else s from rfl, hgx, hgy, if_neg h]
    have Hsw : Hid (swapAt s q = (s.set j s[q]).set q s[j]) := by
     show _ = _
     subst hq
     unfold swapAt; rw [hgx, hgy]
    have Hsm : Hid (∀ x ∈ swapAt s q, x ∈ l) := fun x hx => hmem.out x ((swapAt_mem (by omega)).1 hx)
    have hsl3 := swapAt_length s q
    have hown0 := hown.drew
    have hput1 := hown0.put j 0 s[q] (.string s[q]) hjl (by decide) rfl
    have hput2 := hput1.put q 0 s[j] (.string s[j]) (by rw [List.length_set]; exact hql) (by decide) rfl
    rw [← Hsw.out, show j * Cel.k ByteArray + 0 = j from by show j * 1 + 0 = j; omega, show q * Cel.k ByteArray + 0 = q from by show q * 1 + 0 = q; omega] at hput2
    obtain ⟨cur, hbx⟩ := hown.box
    have hfj := hbx.frozen j
    have hfq := hbx.frozen q
    have Hput2 := Lib.hid hput2
    clear hput1 hput2 hgx hgy hown0
    generalize s[j] = x at *
    generalize s[q] = y at *
    have hd : decide ((0 : Int) < (j : Int)) = true := by simp; omega
    have hd2 : (0 : Int) < (j : Int) := by omega
    have hd3 : 0 < j := by omega
    have hwq : IntKind.i64.wrap ((j : Int) - 1) = (q : Int) := by rw [hq, IntWalk.i64_in _ (by omega)]; omega
    have hb1 : (0 : Int) ≤ (j : Int) := by omega
    have hb2 : (j : Int) < (l.length : Int) := by omega
    have hb3 : (0 : Int) ≤ (q : Int) := by omega
    have hb4 : (q : Int) < (l.length : Int) := by omega
    have Hq := Lib.hid hq
    have HCx := Lib.hid (HC.out wr.drew x y hxl hyl hk.drew)
    clear hq hj0 hxl hyl hbx
    go_wp2_with fail
    refine wp_region_held_drew (S := (fun wx => wx.cell? ⟨gs, j, none⟩ = some (.string x) ∧ wx.cell? ⟨gs, q, none⟩ = some (.string y))) (by kernel_rfl) ?hS (fun hHeld => ?_)
    case hS => exact ⟨cj, cq⟩
    refine rt 0 (some 18) ?_
    refine rt 1 (some 19) ?_
    refine rt 2 (some 20) ?_
    refine rt 3 (some 21) ?_
    refine rt 4 (some 22) ?_
    refine rt 5 (some 23) ?_
    refine rt 6 (some 24) ?_
    refine rt 7 (some 25) ?_
    refine rt 8 (some 26) ?_
    refine rt 9 (some 27) ?_
    refine rt 10 (some 28) ?_
    refine rt 11 (some 29) ?_
    refine rt 12 (some 30) ?_
    refine rt 13 (some 31) ?_
    refine rcall (i := 14) (d := (some 32)) (by kernel_rfl) rfl (by kernel_rfl) (fun K hK => ?_)
    go_simp
    refine HCx.out.mono ?_; rintro e wa ⟨rfl, hba⟩
    refine hK.out _ _ ?hS (fun hHeld => ?_)
    case hS => exact ⟨cell_later hba hHeld.1, cell_later hba hHeld.2⟩
    clear hK K
    simp only [Act.put, lsetA, lsetZ, lsetS]
    have hka : Kp (· = gs) w wa := (hk.drew).trans (Kp.of_below hba)
    have hfja : wa.frozen? ⟨gs, j, none⟩ = false := by rw [hba.frozen (p := ⟨gs, j, none⟩) (by show gs < _; exact (cell_lt cj))]; exact hfj
    have hfqa : wa.frozen? ⟨gs, q, none⟩ = false := by rw [hba.frozen (p := ⟨gs, q, none⟩) (by show gs < _; exact (cell_lt cj))]; exact hfq
    have hgw : gs < wa.heap.size := cell_lt hHeld.1
    have hcja := hHeld.1
    have hcqa := hHeld.2
    have hownA := (hown.drew).below hba
    by_cases hcc : c x y < 0
    ·
     have hdc : decide (c x y < 0) = true := decide_eq_true hcc
     have Hs3 := Lib.hid (Hs1.out hcc)
     refine rt 15 (some 33) ?_
     refine rt 16 (some 34) ?_
     refine wpAnyH_done (by kernel_rfl) ?_ _
     clear hdc hcc Hs1 Hs2 Hput2
     have hput1 := hownA.drew.put j 0 y (.string y) hjl (by decide) rfl
     have hput2 := hput1.put q 0 x (.string x) (by rw [List.length_set]; exact hql) (by decide) rfl
     rw [← Hsw.out, show j * Cel.k ByteArray + 0 = j from by show j * 1 + 0 = j; omega, show q * Cel.k ByteArray + 0 = q from by show q * 1 + 0 = q; omega] at hput2
     have hk2 := ((hka.drew).setCell (p := ⟨gs, j, none⟩) (.inl rfl) (.string y)).setCell (p := ⟨gs, q, none⟩) (.inl rfl) (.string x)
     have hjq : j ≠ q := by have := Hq.out; omega
     clear hput1
     go_wp2_with fail
     go_region
     go_wp2_with fail
     go_roundg q
     case measure => have := Hq.out; have := hgj.out; omega
     case rel => exact ⟨q, swapAt s q, by congr 1, by have := Hq.out; omega, rfl, by omega, hput2, by show _ = _; rw [← Hs3.out]; exact hsk.out, Hsm.out, hk2⟩
    ·
     have hdc : decide (c x y < 0) = false := decide_eq_false hcc
     have Hs3 := Lib.hid (Hs2.out (by omega))
     refine rt 15 (some 33) ?_
     refine rt 16 (some 34) ?_
     refine wpAnyH_done (by kernel_rfl) ?_ _
     clear hdc hcc Hs1 Hs2
     go_wp2_with fail
     go_roundg (l.length - i)
     case measure => have := hgk.out; omega
     case rel => exact ⟨i + 1, by go_num, by omega, by omega, by show _ = _; omega, by rw [Hnext.out, ← hsk.out, Hs3.out]; exact hownA, hka⟩
  ·
   have hlast : isortN c l i = isort c l := by
    unfold isort
    by_cases h : l.length = 0
    ·
     have : l = [] := List.length_eq_zero_iff.1 h
     subst this
     obtain rfl : i = 1 := by simp at hi2; omega
     rfl
    ·
     obtain rfl : i = l.length := by omega
     rfl
   rw [hlast] at hown
   have hlt' : ¬ (i : Int) < (l.length : Int) := by omega
   clear hlast hlt
   go_wp2_with fail
   go_end0
   exact ⟨rfl, hown, hk⟩
theorem insCmp_nil (a : Option Addr) (cap : Nat) (f : Value) (w : World) : Calls Tryz.prog 60 #[.slice a 0 cap, .int .i64 0, .int .i64 0, f] w (fun e w' => e = .returned (.tuple #[]) ∧ w' = w) := by
 go_enter Tryz.func60, Tryz.ntmps60
 go_wp2_with fail
 go_loopg [8] 0 (fun gk vi wr => vi = .int .i64 1 ∧ wr = w)
 case atStart => exact ⟨rfl, rfl⟩
 case round =>
  obtain ⟨rfl, rfl⟩ := hrel
  go_wp2_with fail
  go_end0
  exact ⟨rfl, rfl⟩
set_option maxHeartbeats 1000000 in
theorem sortStable_any (base : Nat) (l : List ByteArray) (v : Value) (g : Nat) (lb : Array Value) (c : ByteArray → ByteArray → Int) (w : World) (eg : ∀ args w, (callFunc g args).run Tryz.prog w = .ok (.enter g args) w) (hc : ∀ gs, v.ownBlock = some gs → CmpAt g lb c l gs w)
  (hown : Own base 9 w v l) (hl : l.length ≤ 19) :
  Calls Tryz.prog 26 #[v, .func (.func g) #[] lb] w (fun e w' => e = .returned (.tuple #[]) ∧ Own base 9 w' v (isort c l) ∧ Kp (fun k => v.ownBlock = some k) w w') := by
 obtain ⟨a, cap, rfl, hsa, hf, hcap⟩ := hown.form
 have key : Calls Tryz.prog 60 #[.slice a l.length cap, .int .i64 0, .int .i64 l.length, .func (.func g) #[] lb] w (fun e w' => e = .returned (.tuple #[]) ∧ Own base 9 w' (.slice a l.length cap) (isort c l) ∧ Kp (fun k => (Value.slice a l.length cap).ownBlock = some k) w w') := by
  by_cases h0 : l = []
  ·
   subst h0
   refine (insCmp_nil a cap _ w).mono ?_
   rintro e w' ⟨rfl, rfl⟩
   exact ⟨rfl, hown, Kp.refl _ _⟩
  ·
   rcases hf with rfl | ⟨gs, rfl, hg1, hg2⟩
   ·
    rcases hsa with h | ⟨b, off, h, _⟩
    ·
     exact absurd h h0
    ·
     cases h
   ·
    refine (insCmp_any base gs l cap g lb c w eg (hc gs rfl) hown (by omega)).mono ?_
    rintro e w' ⟨rfl, h1, h2⟩
    refine ⟨rfl, h1, h2.mono fun k hk => .inl ?_⟩
    subst hk
    rfl
 have HK := Lib.hid key
 generalize isort c l = out at *
 generalize hn : l.length = n at *
 clear key hsa hf hcap hc hown
 have inner : Calls Tryz.prog 43 #[.slice a n cap, .int .i64 n, .func (.func g) #[] lb] w (fun e w' => e = .returned (.tuple #[]) ∧ Own base 9 w' (.slice a n cap) out ∧ Kp (fun k => (Value.slice a n cap).ownBlock = some k) w w') := by
  go_enter Tryz.func43, Tryz.ntmps43
  go_wp2_with fail
  go_loopg [7, 8] 0 (fun gk x y wr => x = .int .i64 0 ∧ y = .int .i64 20 ∧ wr = w)
  case atStart => exact ⟨rfl, rfl, rfl⟩
  obtain ⟨rfl, rfl, rfl⟩ := hrel
  have h20 : ¬ (20 : Int) ≤ (n : Int) := by omega
  have h21 : ¬ (20 : Int) < (n : Int) := by omega
  go_wp2_with fail
  refine HK.out.mono ?_
  rintro e w1 ⟨rfl, h1, h2⟩
  go_wp2_with fail
  go_loopg [6] 0 (fun gk x wx => x = .int .i64 20 ∧ wx = w1)
  case atStart => exact ⟨rfl, rfl⟩
  obtain ⟨rfl, rfl⟩ := hrel
  go_wp2_with fail
  go_end0
  exact ⟨rfl, h1, h2⟩
 have HI := Lib.hid inner
 clear inner HK
 go_enter Tryz.func26, Tryz.ntmps26
 go_wp2_with fail
 refine HI.out.mono ?_
 rintro e w1 ⟨rfl, h1, h2⟩
 go_wp2_with fail
 go_end0
 exact ⟨rfl, h1, h2⟩
end Go.Proofs.YtcjcdbhobehlpaaGreatDoor

/-! Stable insertion by two functions that decide alike. -/
namespace Go.Proofs.YtcjcdbhobehlpaaGreatDoor
open Go.RowKit
set_option linter.unusedVariables false
set_option linter.unusedSimpArgs false

theorem swapAt_get (s : List ByteArray) (j k : Nat) (h : j + 1 < s.length) : (swapAt s j)[k]? = if k = j then s[j + 1]? else if k = j + 1 then s[j]? else s[k]? := by
 unfold swapAt
 have e1 : s.getD (j + 1) ⟨#[]⟩ = s[j + 1] := by rw [List.getD_eq_getElem?_getD, List.getElem?_eq_getElem h]; rfl
 have e2 : s.getD j ⟨#[]⟩ = s[j] := by rw [List.getD_eq_getElem?_getD, List.getElem?_eq_getElem (show j < s.length by omega)]; rfl
 rw [e1, e2, List.getElem?_set, List.getElem?_set, List.length_set]
 by_cases h1 : k = j
 ·
  subst h1
  simp [h, show k < s.length by omega]
 ·
  by_cases h2 : k = j + 1
  ·
   subst h2
   simp [h, show j < s.length by omega]
  ·
   rw [if_neg (fun e => h1 e.symm), if_neg (fun e => h2 e.symm), if_neg h1, if_neg h2]
theorem sink_same (c1 c2 : ByteArray → ByteArray → Int) : ∀ (j : Nat) (s : List ByteArray) (hj : j < s.length), (∀ q (hq : q < j), c1 s[j] (s[q]'(by omega)) < 0 ↔ c2 s[j] (s[q]'(by omega)) < 0) → sink c1 s j = sink c2 s j
 | 0, s, _, _ => rfl
 | j + 1, s, hj, h => by
  have e1 : s.getD (j + 1) ⟨#[]⟩ = s[j + 1] := by rw [List.getD_eq_getElem?_getD, List.getElem?_eq_getElem hj]; rfl
  have e2 : s.getD j ⟨#[]⟩ = s[j] := by rw [List.getD_eq_getElem?_getD, List.getElem?_eq_getElem (show j < s.length by omega)]; rfl
  unfold sink
  rw [e1, e2]
  have h0 := h j (by omega)
  have hrec : sink c1 (swapAt s j) j = sink c2 (swapAt s j) j := by
   refine sink_same c1 c2 j (swapAt s j) (by rw [swapAt_length]; omega) fun q hq => ?_
   have g1 : (swapAt s j)[j]? = some s[j + 1] := by rw [swapAt_get s j j hj, if_pos rfl, List.getElem?_eq_getElem hj]
   have g2 : (swapAt s j)[q]? = some (s[q]'(by omega)) := by rw [swapAt_get s j q hj, if_neg (by omega), if_neg (by omega), List.getElem?_eq_getElem (show q < s.length by omega)]
   have l1 : j < (swapAt s j).length := by rw [swapAt_length]; omega
   have l2 : q < (swapAt s j).length := by rw [swapAt_length]; omega
   rw [List.getElem?_eq_getElem l1] at g1
   rw [List.getElem?_eq_getElem l2] at g2
   rw [Option.some.inj g1, Option.some.inj g2]
   exact h q (by omega)
  by_cases hc : c1 s[j + 1] s[j] < 0
  ·
   rw [if_pos hc, if_pos (h0.1 hc), hrec]
  ·
   rw [if_neg hc, if_neg (fun h' => hc (h0.2 h'))]
theorem sink_above (c : ByteArray → ByteArray → Int) : ∀ (j : Nat) (s : List ByteArray) (k : Nat), j < s.length → j < k → (sink c s j)[k]? = s[k]?
 | 0, s, k, _, _ => rfl
 | j + 1, s, k, hj, hk => by
  unfold sink
  split
  ·
   rw [sink_above c j (swapAt s j) k (by rw [swapAt_length]; omega) (by omega), swapAt_get s j k hj, if_neg (by omega), if_neg (by omega)]
  ·
   rfl
theorem isortN_above (c : ByteArray → ByteArray → Int) (s : List ByteArray) : ∀ (n k : Nat), n ≤ s.length → n ≤ k → (isortN c s n)[k]? = s[k]?
 | 0, k, _, _ => rfl
 | 1, k, _, _ => rfl
 | n + 2, k, hn, hk => by
  rw [isortN, sink_above c (n + 1) _ k (by rw [isortN_length]; omega) (by omega), isortN_above c s (n + 1) k (by omega) (by omega)]
theorem isort_same (c1 c2 : ByteArray → ByteArray → Int) (s : List ByteArray) (hn : s.Nodup) (h : ∀ i q (hi : i < s.length) (hq : q < i), c1 s[i] (s[q]'(by omega)) < 0 ↔ c2 s[i] (s[q]'(by omega)) < 0) : isort c1 s = isort c2 s := by
 have key : ∀ n, n ≤ s.length → isortN c1 s n = isortN c2 s n := by
  intro n
  induction n with
  | zero => intro _; rfl
  | succ n ih =>
   intro hle
   cases n with
   | zero => rfl
   | succ n =>
    rw [isortN, isortN, ← ih (by omega)]
    have gen : ∀ t : List ByteArray, t.length = s.length → t.Perm s → (∀ k, n + 1 ≤ k → t[k]? = s[k]?) → sink c1 t (n + 1) = sink c2 t (n + 1) := by
     intro t hl hp habove
     refine sink_same c1 c2 (n + 1) _ (by omega) fun q hq => ?_
     have hnt : t.Nodup := hp.nodup_iff.2 hn
     have g1 := habove (n + 1) (Nat.le_refl _)
     rw [List.getElem?_eq_getElem (show n + 1 < t.length by omega), List.getElem?_eq_getElem (show n + 1 < s.length by omega)] at g1
     have g2 := Option.some.inj g1
     have hm : t[q]'(by omega) ∈ s := hp.mem_iff.1 (List.getElem_mem _)
     obtain ⟨r, hr, he⟩ := List.mem_iff_getElem.1 hm
     have hrn : r < n + 1 := by
      rcases Nat.lt_or_ge r (n + 1) with h' | h'
      ·
       exact h'
      ·
       have g3 := habove r h'
       rw [List.getElem?_eq_getElem hr, List.getElem?_eq_getElem (show r < t.length by omega)] at g3
       have g4 := Option.some.inj g3
       rw [he] at g4
       exact absurd (by first | exact g4 | exact g4.symm) (List.pairwise_iff_getElem.1 hnt q r _ _ (by omega))
     rw [g2, ← he]
     exact h (n + 1) r (by omega) hrn
    exact gen _ (isortN_length c1 s (n + 1)) (isortN_perm c1 s (n + 1) (by omega)) (fun k hk => isortN_above c1 s (n + 1) k (by omega) hk)
 unfold isort
 exact key _ (Nat.le_refl _)
end Go.Proofs.YtcjcdbhobehlpaaGreatDoor
