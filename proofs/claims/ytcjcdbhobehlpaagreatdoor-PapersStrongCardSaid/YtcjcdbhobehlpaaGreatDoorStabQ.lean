/- The library's stable sort of strings by a function that reads what is being sorted. -/
import Derived.Test.YtcjcdbhobehlpaaGreatDoorStable
namespace Go.Proofs.YtcjcdbhobehlpaaGreatDoor
open Go.RowKit
set_option linter.unusedVariables false
set_option linter.unusedSimpArgs false

/-- As CmpAt; the block that is sorted holds the strings in some order. -/
def CmpAtQ (base g : Nat) (lb : Array Value) (c : ByteArray → ByteArray → Int) (l : List ByteArray) (gs : Nat) (v : Value) (w : World) : Prop :=
 ∀ (W : World) (x y : ByteArray), x ∈ l → y ∈ l → Kp (· = gs) w W → (∃ s : List ByteArray, s.Perm l ∧ Own base 9 W v s) → Calls Tryz.prog g (#[.string x, .string y] ++ lb) W (Gives (.int .i64 (c x y)) W)
set_option maxRecDepth 100000 in
set_option maxHeartbeats 2000000 in
theorem insCmpQ_any (base gs : Nat) (l : List ByteArray) (cap g : Nat) (lb : Array Value) (c : ByteArray → ByteArray → Int) (w : World) (eg : ∀ args w, (callFunc g args).run Tryz.prog w = .ok (.enter g args) w) (hc : CmpAtQ base g lb c l gs (.slice (some ⟨gs, 0, none⟩) l.length cap) w)
  (hown : Own base 9 w (.slice (some ⟨gs, 0, none⟩) l.length cap) l) (hl : l.length ≤ 1000) :
  Calls Tryz.prog 60 #[.slice (some ⟨gs, 0, none⟩) l.length cap, .int .i64 0, .int .i64 l.length, .func (.func g) #[] lb] w (fun e w' => e = .returned (.tuple #[]) ∧ Own base 9 w' (.slice (some ⟨gs, 0, none⟩) l.length cap) (isort c l) ∧ Kp (· = gs) w w') := by
 have HC := Lib.hid hc
 clear hc
 go_enter Tryz.func60, Tryz.ntmps60
 go_wp2_with fail
 go_loopg [8] l.length (fun gk vi wr => ∃ i : Nat, vi = .int .i64 i ∧ 1 ≤ i ∧ i ≤ max 1 l.length ∧ Hid (gk = l.length + 1 - i) ∧ Own base 9 wr (.slice (some ⟨gs, 0, none⟩) l.length cap) (isortN c l i) ∧ Kp (· = gs) w wr)
 case atStart => exact ⟨1, rfl, by omega, by omega, by show _ = _; omega, hown, Kp.refl _ _⟩
 case round =>
  clear hown
  obtain ⟨i, rfl, hi1, hi2, hgk, hown, hk⟩ := hrel
  by_cases hlt : i < l.length
  ·
   have Hnext := Lib.hid (show isortN c l (i + 1) = sink c (isortN c l i) i by obtain ⟨q, rfl⟩ : ∃ q, i = q + 1 := ⟨i - 1, by omega⟩; rfl)
   have Hmem : Hid ((isortN c l i).Perm l) := isortN_perm c l i (by omega)
   have hsl := isortN_length c l i
   generalize isortN c l i = s0 at *
   have hlt' : (i : Int) < (l.length : Int) := by omega
   go_wp2_with fail
   go_loopg [9] i (fun gk vj wr => ∃ (j : Nat) (s : List ByteArray), vj = .int .i64 j ∧ j ≤ i ∧ Hid (gk = j) ∧ s.length = l.length ∧ Own base 9 wr (.slice (some ⟨gs, 0, none⟩) l.length cap) s ∧ Hid (sink c s j = sink c s0 i) ∧ Hid (s.Perm l) ∧ Kp (· = gs) w wr)
   case atStart => exact ⟨i, s0, rfl, Nat.le_refl _, rfl, hsl, hown, rfl, Hmem.out, hk⟩
   clear hown hk hsl
   obtain ⟨j, s, rfl, hji, hgj, hsl, hown, hsk, hmem, hk⟩ := hrel
   have hsl1 : s.length ≤ l.length := by omega
   have hsl2 : l.length ≤ s.length := by omega
   have hsa : SA wr (some ⟨gs, 0, none⟩) s := by obtain ⟨a', c', he, hh, _⟩ := hown.sa; simp only [Value.slice.injEq] at he; rw [he.1]; exact hh
   clear hsl
   by_cases hj0 : j = 0
   ·
    subst hj0
    have hd : decide ((0 : Int) < 0) = false := by decide
    have Hsk := Lib.hid (show s = sink c s0 i from hsk.out)
    clear hsk
    go_wp2_with fail
    refine wp_region_held_drew (S := (fun _ => True)) (by kernel_rfl) ?hS (fun hHeld => ?_)
    case hS => trivial
    refine rt 0 (some 18) ?_
    refine rt 1 (some 19) ?_
    refine rt 2 (some 20) ?_
    refine rt 3 (some 21) ?_
    refine rs 4 (some 22) ?_
    refine rs 5 (some 23) ?_
    refine rs 6 (some 24) ?_
    refine rs 7 (some 25) ?_
    refine rs 8 (some 26) ?_
    refine rs 9 (some 27) ?_
    refine rs 10 (some 28) ?_
    refine rs 11 (some 29) ?_
    refine rs 12 (some 30) ?_
    refine rs 13 (some 31) ?_
    refine rs 14 (some 32) ?_
    refine rs 15 (some 33) ?_
    refine rt 16 (some 34) ?_
    refine wpAnyH_done (by kernel_rfl) ?_ _
    go_wp2_with fail
    go_roundg (l.length - i)
    case measure => have := hgk.out; omega
    case rel => exact ⟨i + 1, by go_num, by omega, by omega, by show _ = _; omega, by rw [Hnext.out, ← Hsk.out]; exact hown.drew, hk.drew⟩
   ·
    obtain ⟨q, hq⟩ : ∃ q, j = q + 1 := ⟨j - 1, by omega⟩
    have hjl : j < s.length := by omega
    have hql : q < s.length := by omega
    obtain ⟨ab, off, ha, cj⟩ := hsa.str hjl
    obtain ⟨ab', off', ha', cq⟩ := hsa.str hql
    cases ha
    cases ha'
    rw [Nat.zero_add] at cj cq
    have hxl := hmem.out.mem_iff.1 (List.getElem_mem hjl)
    have hyl := hmem.out.mem_iff.1 (List.getElem_mem hql)
    have hgx : s.getD j ⟨#[]⟩ = s[j] := by rw [List.getD_eq_getElem?_getD, List.getElem?_eq_getElem hjl]; rfl
    have hgy : s.getD q ⟨#[]⟩ = s[q] := by rw [List.getD_eq_getElem?_getD, List.getElem?_eq_getElem hql]; rfl
    have Hs1 : Hid (c s[j] s[q] < 0 → sink c s j = sink c (swapAt s q) q) := fun h => by
     subst hq
     rw [show sink c s (q + 1) = if c (s.getD (q + 1) ⟨#[]⟩) (s.getD q ⟨#[]⟩) < 0 then sink c (swapAt s q) q else s from rfl, hgx, hgy, if_pos h]
    have Hs2 : Hid (¬ c s[j] s[q] < 0 → sink c s j = s) := fun h => by
     subst hq
     rw [show sink c s (q + 1) = if c (s.getD (q + 1) ⟨#[]⟩) (s.getD q ⟨#[]⟩) < 0 then sink c (swapAt s q) q else s from rfl, hgx, hgy, if_neg h]
    have Hsw : Hid (swapAt s q = (s.set j s[q]).set q s[j]) := by
     show _ = _
     subst hq
     unfold swapAt; rw [hgx, hgy]
    have Hsm : Hid ((swapAt s q).Perm l) := (swapAt_perm s q (by omega)).trans hmem.out
    have hsl3 := swapAt_length s q
    have hown0 := hown.drew
    have hput1 := hown0.put j 0 s[q] (.string s[q]) hjl (by decide) rfl
    have hput2 := hput1.put q 0 s[j] (.string s[j]) (by rw [List.length_set]; exact hql) (by decide) rfl
    rw [← Hsw.out, show j * Cel.k ByteArray + 0 = j from by show j * 1 + 0 = j; omega, show q * Cel.k ByteArray + 0 = q from by show q * 1 + 0 = q; omega] at hput2
    obtain ⟨cur, hbx⟩ := hown.box
    have hfj := hbx.frozen j
    have hfq := hbx.frozen q
    have Hput2 := Lib.hid hput2
    clear hput1 hput2 hgx hgy hown0
    generalize s[j] = x at *
    generalize s[q] = y at *
    have hd : decide ((0 : Int) < (j : Int)) = true := by simp; omega
    have hd2 : (0 : Int) < (j : Int) := by omega
    have hd3 : 0 < j := by omega
    have hwq : IntKind.i64.wrap ((j : Int) - 1) = (q : Int) := by rw [hq, IntWalk.i64_in _ (by omega)]; omega
    have hb1 : (0 : Int) ≤ (j : Int) := by omega
    have hb2 : (j : Int) < (l.length : Int) := by omega
    have hb3 : (0 : Int) ≤ (q : Int) := by omega
    have hb4 : (q : Int) < (l.length : Int) := by omega
    have Hq := Lib.hid hq
    have HCx := Lib.hid (HC.out wr.drew x y hxl hyl hk.drew ⟨s, hmem.out, hown.drew⟩)
    clear hq hj0 hxl hyl hbx
    go_wp2_with fail
    refine wp_region_held_drew (S := (fun wx => wx.cell? ⟨gs, j, none⟩ = some (.string x) ∧ wx.cell? ⟨gs, q, none⟩ = some (.string y))) (by kernel_rfl) ?hS (fun hHeld => ?_)
    case hS => exact ⟨cj, cq⟩
    refine rt 0 (some 18) ?_
    refine rt 1 (some 19) ?_
    refine rt 2 (some 20) ?_
    refine rt 3 (some 21) ?_
    refine rt 4 (some 22) ?_
    refine rt 5 (some 23) ?_
    refine rt 6 (some 24) ?_
    refine rt 7 (some 25) ?_
    refine rt 8 (some 26) ?_
    refine rt 9 (some 27) ?_
    refine rt 10 (some 28) ?_
    refine rt 11 (some 29) ?_
    refine rt 12 (some 30) ?_
    refine rt 13 (some 31) ?_
    refine rcall (i := 14) (d := (some 32)) (by kernel_rfl) rfl (by kernel_rfl) (fun K hK => ?_)
    go_simp
    refine HCx.out.mono ?_; rintro e wa ⟨rfl, hba⟩
    refine hK.out _ _ ?hS (fun hHeld => ?_)
    case hS => exact ⟨cell_later hba hHeld.1, cell_later hba hHeld.2⟩
    clear hK K
    simp only [Act.put, lsetA, lsetZ, lsetS]
    have hka : Kp (· = gs) w wa := (hk.drew).trans (Kp.of_below hba)
    have hfja : wa.frozen? ⟨gs, j, none⟩ = false := by rw [hba.frozen (p := ⟨gs, j, none⟩) (by show gs < _; exact (cell_lt cj))]; exact hfj
    have hfqa : wa.frozen? ⟨gs, q, none⟩ = false := by rw [hba.frozen (p := ⟨gs, q, none⟩) (by show gs < _; exact (cell_lt cj))]; exact hfq
    have hgw : gs < wa.heap.size := cell_lt hHeld.1
    have hcja := hHeld.1
    have hcqa := hHeld.2
    have hownA := (hown.drew).below hba
    by_cases hcc : c x y < 0
    ·
     have hdc : decide (c x y < 0) = true := decide_eq_true hcc
     have Hs3 := Lib.hid (Hs1.out hcc)
     refine rt 15 (some 33) ?_
     refine rt 16 (some 34) ?_
     refine wpAnyH_done (by kernel_rfl) ?_ _
     clear hdc hcc Hs1 Hs2 Hput2
     have hput1 := hownA.drew.put j 0 y (.string y) hjl (by decide) rfl
     have hput2 := hput1.put q 0 x (.string x) (by rw [List.length_set]; exact hql) (by decide) rfl
     rw [← Hsw.out, show j * Cel.k ByteArray + 0 = j from by show j * 1 + 0 = j; omega, show q * Cel.k ByteArray + 0 = q from by show q * 1 + 0 = q; omega] at hput2
     have hk2 := ((hka.drew).setCell (p := ⟨gs, j, none⟩) (.inl rfl) (.string y)).setCell (p := ⟨gs, q, none⟩) (.inl rfl) (.string x)
     have hjq : j ≠ q := by have := Hq.out; omega
     clear hput1
     go_wp2_with fail
     go_region
     go_wp2_with fail
     go_roundg q
     case measure => have := Hq.out; have := hgj.out; omega
     case rel => exact ⟨q, swapAt s q, by congr 1, by have := Hq.out; omega, rfl, by omega, hput2, by show _ = _; rw [← Hs3.out]; exact hsk.out, Hsm.out, hk2⟩
    ·
     have hdc : decide (c x y < 0) = false := decide_eq_false hcc
     have Hs3 := Lib.hid (Hs2.out (by omega))
     refine rt 15 (some 33) ?_
     refine rt 16 (some 34) ?_
     refine wpAnyH_done (by kernel_rfl) ?_ _
     clear hdc hcc Hs1 Hs2
     go_wp2_with fail
     go_roundg (l.length - i)
     case measure => have := hgk.out; omega
     case rel => exact ⟨i + 1, by go_num, by omega, by omega, by show _ = _; omega, by rw [Hnext.out, ← hsk.out, Hs3.out]; exact hownA, hka⟩
  ·
   have hlast : isortN c l i = isort c l := by
    unfold isort
    by_cases h : l.length = 0
    ·
     have : l = [] := List.length_eq_zero_iff.1 h
     subst this
     obtain rfl : i = 1 := by simp at hi2; omega
     rfl
    ·
     obtain rfl : i = l.length := by omega
     rfl
   rw [hlast] at hown
   have hlt' : ¬ (i : Int) < (l.length : Int) := by omega
   clear hlast hlt
   go_wp2_with fail
   go_end0
   exact ⟨rfl, hown, hk⟩
set_option maxHeartbeats 1000000 in
theorem sortStableQ_any (base : Nat) (l : List ByteArray) (v : Value) (g : Nat) (lb : Array Value) (c : ByteArray → ByteArray → Int) (w : World) (eg : ∀ args w, (callFunc g args).run Tryz.prog w = .ok (.enter g args) w) (hc : ∀ gs, v.ownBlock = some gs → CmpAtQ base g lb c l gs v w)
  (hown : Own base 9 w v l) (hl : l.length ≤ 19) :
  Calls Tryz.prog 26 #[v, .func (.func g) #[] lb] w (fun e w' => e = .returned (.tuple #[]) ∧ Own base 9 w' v (isort c l) ∧ Kp (fun k => v.ownBlock = some k) w w') := by
 obtain ⟨a, cap, rfl, hsa, hf, hcap⟩ := hown.form
 have key : Calls Tryz.prog 60 #[.slice a l.length cap, .int .i64 0, .int .i64 l.length, .func (.func g) #[] lb] w (fun e w' => e = .returned (.tuple #[]) ∧ Own base 9 w' (.slice a l.length cap) (isort c l) ∧ Kp (fun k => (Value.slice a l.length cap).ownBlock = some k) w w') := by
  by_cases h0 : l = []
  ·
   subst h0
   refine (insCmp_nil a cap _ w).mono ?_
   rintro e w' ⟨rfl, rfl⟩
   exact ⟨rfl, hown, Kp.refl _ _⟩
  ·
   rcases hf with rfl | ⟨gs, rfl, hg1, hg2⟩
   ·
    rcases hsa with h | ⟨b, off, h, _⟩
    ·
     exact absurd h h0
    ·
     cases h
   ·
    refine (insCmpQ_any base gs l cap g lb c w eg (hc gs rfl) hown (by omega)).mono ?_
    rintro e w' ⟨rfl, h1, h2⟩
    refine ⟨rfl, h1, h2.mono fun k hk => .inl ?_⟩
    subst hk
    rfl
 have HK := Lib.hid key
 generalize isort c l = out at *
 generalize hn : l.length = n at *
 clear key hsa hf hcap hc hown
 have inner : Calls Tryz.prog 43 #[.slice a n cap, .int .i64 n, .func (.func g) #[] lb] w (fun e w' => e = .returned (.tuple #[]) ∧ Own base 9 w' (.slice a n cap) out ∧ Kp (fun k => (Value.slice a n cap).ownBlock = some k) w w') := by
  go_enter Tryz.func43, Tryz.ntmps43
  go_wp2_with fail
  go_loopg [7, 8] 0 (fun gk x y wr => x = .int .i64 0 ∧ y = .int .i64 20 ∧ wr = w)
  case atStart => exact ⟨rfl, rfl, rfl⟩
  obtain ⟨rfl, rfl, rfl⟩ := hrel
  have h20 : ¬ (20 : Int) ≤ (n : Int) := by omega
  have h21 : ¬ (20 : Int) < (n : Int) := by omega
  go_wp2_with fail
  refine HK.out.mono ?_
  rintro e w1 ⟨rfl, h1, h2⟩
  go_wp2_with fail
  go_loopg [6] 0 (fun gk x wx => x = .int .i64 20 ∧ wx = w1)
  case atStart => exact ⟨rfl, rfl⟩
  obtain ⟨rfl, rfl⟩ := hrel
  go_wp2_with fail
  go_end0
  exact ⟨rfl, h1, h2⟩
 have HI := Lib.hid inner
 clear inner HK
 go_enter Tryz.func26, Tryz.ntmps26
 go_wp2_with fail
 refine HI.out.mono ?_
 rintro e w1 ⟨rfl, h1, h2⟩
 go_wp2_with fail
 go_end0
 exact ⟨rfl, h1, h2⟩
end Go.Proofs.YtcjcdbhobehlpaaGreatDoor
