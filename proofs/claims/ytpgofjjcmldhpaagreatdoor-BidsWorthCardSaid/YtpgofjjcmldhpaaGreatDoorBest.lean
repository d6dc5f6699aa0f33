/- Stable insertion: the plain laws. -/
import Derived.Test.YtpgofjjcmldhpaaGreatDoorOrd
import Derived.Test.YtpgofjjcmldhpaaGreatDoorKeep
import Derived.Test.YtpgofjjcmldhpaaGreatDoorReg
import Derived.Test.YtpgofjjcmldhpaaGreatDoorField
import Derived.Test.YtpgofjjcmldhpaaGreatDoorFrac
import Derived.Test.YtpgofjjcmldhpaaGreatDoorWorths
import Derived.Test.YtpgofjjcmldhpaaGreatDoorOutside
/-! Stable insertion: the plain laws. -/
/-! Stable insertion: the plain laws. -/
namespace Go.Proofs.YtpgofjjcmldhpaaGreatDoor
open Go.RowKit
set_option linter.unusedVariables false
set_option linter.unusedSimpArgs false

/-- Two neighbours change places. -/
def swapAtI (s : List Int) (j : Nat) : List Int := (s.set (j + 1) (s.getD j 0)).set j (s.getD (j + 1) 0)
theorem swapAtI_length (s : List Int) (j : Nat) : (swapAtI s j).length = s.length := by unfold swapAtI; simp
/-- The string at place j goes down as long as it comes before the one below. -/
def sinkI (c : Int → Int → Int) : List Int → Nat → List Int
  | s, 0 => s
  | s, j + 1 => if c (s.getD (j + 1) 0) (s.getD j 0) < 0 then sinkI c (swapAtI s j) j else s
theorem sinkI_length (c : Int → Int → Int) : ∀ (j : Nat) (s : List Int), (sinkI c s j).length = s.length
  | 0, s => rfl
  | j + 1, s => by
    unfold sinkI
    split
    · rw [sinkI_length c j, swapAtI_length]
    · rfl
/-- The first n strings are put in their order. -/
def isortNI (c : Int → Int → Int) (s : List Int) : Nat → List Int
  | 0 => s
  | 1 => s
  | n + 2 => sinkI c (isortNI c s (n + 1)) (n + 1)
def isortI (c : Int → Int → Int) (s : List Int) : List Int := isortNI c s s.length
theorem isortNI_length (c : Int → Int → Int) (s : List Int) : ∀ n, (isortNI c s n).length = s.length
  | 0 => rfl
  | 1 => rfl
  | n + 2 => by rw [isortNI, sinkI_length, isortNI_length c s (n + 1)]
theorem swapAtI_perm (s : List Int) (j : Nat) (h : j + 1 < s.length) : (swapAtI s j).Perm s := by
  unfold swapAtI
  rw [List.getD_eq_getElem?_getD, List.getD_eq_getElem?_getD, List.getElem?_eq_getElem h, List.getElem?_eq_getElem (show j < s.length by omega)]
  exact List.set_set_perm h (show j < s.length by omega)
theorem sinkI_perm (c : Int → Int → Int) : ∀ (j : Nat) (s : List Int), j < s.length → (sinkI c s j).Perm s
  | 0, s, _ => List.Perm.refl _
  | j + 1, s, h => by
    unfold sinkI
    split
    · exact (sinkI_perm c j _ (by rw [swapAtI_length]; omega)).trans (swapAtI_perm s j h)
    · exact List.Perm.refl _
theorem isortNI_perm (c : Int → Int → Int) (s : List Int) : ∀ n, n ≤ s.length → (isortNI c s n).Perm s
  | 0, _ => List.Perm.refl _
  | 1, _ => List.Perm.refl _
  | n + 2, h => by
    rw [isortNI]
    exact (sinkI_perm c _ _ (by rw [isortNI_length]; omega)).trans (isortNI_perm c s (n + 1) (by omega))
theorem isortI_perm (c : Int → Int → Int) (s : List Int) : (isortI c s).Perm s := isortNI_perm c s _ (Nat.le_refl _)
theorem isortI_length (c : Int → Int → Int) (s : List Int) : (isortI c s).length = s.length := (isortI_perm c s).length_eq
end Go.Proofs.YtpgofjjcmldhpaaGreatDoor

/-! The library's stable sort of strings by a function: walked for fewer than 20 strings. -/
namespace Go.Proofs.YtpgofjjcmldhpaaGreatDoor
open Go.RowKit
set_option linter.unusedVariables false
set_option linter.unusedSimpArgs false

/-- A function value compares strings: in every world that differs from w in block gs alone. -/
def CmpAtI (g : Nat) (lb : Array Value) (c : Int → Int → Int) (l : List Int) (gs : Nat) (w : World) : Prop :=
  ∀ (W : World) (x y : Int), x ∈ l → y ∈ l → Kp (· = gs) w W → Calls Tryz.prog g (#[.int .i64 x, .int .i64 y] ++ lb) W (Gives (.int .i64 (c x y)) W)
theorem swapAtI_mem {s : List Int} {j : Nat} (h : j + 1 < s.length) {x : Int} : x ∈ swapAtI s j ↔ x ∈ s := (swapAtI_perm s j h).mem_iff
theorem SA.intS {w : World} {a : Option Addr} {l : List Int} (h : SA w a l) {i : Nat} (hi : i < l.length) :
    ∃ b off, a = some ⟨b, off, none⟩ ∧ w.cell? ⟨b, off + i, none⟩ = some (.int .i64 l[i]) := by
  obtain ⟨b, off, ha, hc⟩ := h.at hi
  have := hc 0 (by decide)
  rw [show off + (i * Cel.k Int + 0) = off + i by show off + (i * 1 + 0) = off + i; omega] at this
  exact ⟨b, off, ha, this⟩
set_option maxRecDepth 100000 in
set_option maxHeartbeats 2000000 in
theorem insCmpI_any (base gs : Nat) (l : List Int) (cap g : Nat) (lb : Array Value) (c : Int → Int → Int) (w : World) (eg : ∀ args w, (callFunc g args).run Tryz.prog w = .ok (.enter g args) w) (hc : CmpAtI g lb c l gs w)
    (hown : Own base 3 w (.slice (some ⟨gs, 0, none⟩) l.length cap) l) (hl : l.length ≤ 1000) :
    Calls Tryz.prog 141 #[.slice (some ⟨gs, 0, none⟩) l.length cap, .int .i64 0, .int .i64 l.length, .func (.func g) #[] lb] w (fun e w' => e = .returned (.tuple #[]) ∧ Own base 3 w' (.slice (some ⟨gs, 0, none⟩) l.length cap) (isortI c l) ∧ Kp (· = gs) w w') := by
  have HC := Lib.hid hc
  clear hc
  go_enter Tryz.func141, Tryz.ntmps141
  go_wp2_with fail
  go_loopg [8] l.length (fun gk vi wr => ∃ i : Nat, vi = .int .i64 i ∧ 1 ≤ i ∧ i ≤ max 1 l.length ∧ Hid (gk = l.length + 1 - i) ∧ Own base 3 wr (.slice (some ⟨gs, 0, none⟩) l.length cap) (isortNI c l i) ∧ Kp (· = gs) w wr)
  case atStart => exact ⟨1, rfl, by omega, by omega, by show _ = _; omega, hown, Kp.refl _ _⟩
  case round =>
    clear hown
    obtain ⟨i, rfl, hi1, hi2, hgk, hown, hk⟩ := hrel
    by_cases hlt : i < l.length
    · have Hnext := Lib.hid (show isortNI c l (i + 1) = sinkI c (isortNI c l i) i by obtain ⟨q, rfl⟩ : ∃ q, i = q + 1 := ⟨i - 1, by omega⟩; rfl)
      have Hmem : Hid (∀ x ∈ isortNI c l i, x ∈ l) := fun x hx => (isortNI_perm c l i (by omega)).mem_iff.1 hx
      have hsl := isortNI_length c l i
      generalize isortNI c l i = s0 at *
      have hlt' : (i : Int) < (l.length : Int) := by omega
      go_wp2_with fail
      go_loopg [9] i (fun gk vj wr => ∃ (j : Nat) (s : List Int), vj = .int .i64 j ∧ j ≤ i ∧ Hid (gk = j) ∧ s.length = l.length ∧ Own base 3 wr (.slice (some ⟨gs, 0, none⟩) l.length cap) s ∧ Hid (sinkI c s j = sinkI c s0 i) ∧ Hid (∀ x ∈ s, x ∈ l) ∧ Kp (· = gs) w wr)
      case atStart => exact ⟨i, s0, rfl, Nat.le_refl _, rfl, hsl, hown, rfl, Hmem.out, hk⟩
      clear hown hk hsl
      obtain ⟨j, s, rfl, hji, hgj, hsl, hown, hsk, hmem, hk⟩ := hrel
      have hsl1 : s.length ≤ l.length := by omega
      have hsl2 : l.length ≤ s.length := by omega
      have hsa : SA wr (some ⟨gs, 0, none⟩) s := by obtain ⟨a', c', he, hh, _⟩ := hown.sa; simp only [Value.slice.injEq] at he; rw [he.1]; exact hh
      clear hsl
      by_cases hj0 : j = 0
      · subst hj0
        have hd : decide ((0 : Int) < 0) = false := by decide
        have Hsk := Lib.hid (show s = sinkI c s0 i from hsk.out)
        clear hsk
        go_wp2_with fail
        refine wp_region_held_drew (S := (fun _ => True)) (by kernel_rfl) ?hS (fun hHeld => ?_)
        case hS => trivial
        refine rtake (i := 0) (d := (some 18)) (v := ?_) rfl (by kernel_rfl) (by kernel_rfl) (by kernel_rfl) (by kernel_rfl) (fun _ _ _ h => h) (by kernel_rfl) (by assumption) ?_ ?_
        rotate_left 1
        · (intro wI hSI; (try dsimp only at hSI); go_simp; (try with_reducible rfl))
        simp only [Act.put, List.setIfInBounds_toArray, List.set_cons_zero, List.set_cons_succ]
        refine rtake (i := 1) (d := (some 19)) (v := ?_) rfl (by kernel_rfl) (by kernel_rfl) (by kernel_rfl) (by kernel_rfl) (fun _ _ _ h => h) (by kernel_rfl) (by assumption) ?_ ?_
        rotate_left 1
        · (intro wI hSI; (try dsimp only at hSI); go_simp; (try with_reducible rfl))
        simp only [Act.put, List.setIfInBounds_toArray, List.set_cons_zero, List.set_cons_succ]
        refine rtake (i := 2) (d := (some 20)) (v := ?_) rfl (by kernel_rfl) (by kernel_rfl) (by kernel_rfl) (by kernel_rfl) (fun _ _ _ h => h) (by kernel_rfl) (by assumption) ?_ ?_
        rotate_left 1
        · (intro wI hSI; (try dsimp only at hSI); go_simp; (try with_reducible rfl))
        simp only [Act.put, List.setIfInBounds_toArray, List.set_cons_zero, List.set_cons_succ]
        refine rtake (i := 3) (d := (some 21)) (v := ?_) rfl (by kernel_rfl) (by kernel_rfl) (by kernel_rfl) (by kernel_rfl) (fun _ _ _ h => h) (by kernel_rfl) (by assumption) ?_ ?_
        rotate_left 1
        · (intro wI hSI; (try dsimp only at hSI); go_simp; (try with_reducible rfl))
        simp only [Act.put, List.setIfInBounds_toArray, List.set_cons_zero, List.set_cons_succ]
        refine rskip (i := 4) (d := (some 22)) rfl (by kernel_rfl) (by kernel_rfl) (by kernel_rfl) (by kernel_rfl) (fun _ _ _ h => h) (by kernel_rfl) (by assumption) ?_
        simp only [Act.put, List.setIfInBounds_toArray, List.set_cons_zero, List.set_cons_succ]
        refine rskip (i := 5) (d := (some 23)) rfl (by kernel_rfl) (by kernel_rfl) (by kernel_rfl) (by kernel_rfl) (fun _ _ _ h => h) (by kernel_rfl) (by assumption) ?_
        simp only [Act.put, List.setIfInBounds_toArray, List.set_cons_zero, List.set_cons_succ]
        refine rskip (i := 6) (d := (some 24)) rfl (by kernel_rfl) (by kernel_rfl) (by kernel_rfl) (by kernel_rfl) (fun _ _ _ h => h) (by kernel_rfl) (by assumption) ?_
        simp only [Act.put, List.setIfInBounds_toArray, List.set_cons_zero, List.set_cons_succ]
        refine rskip (i := 7) (d := (some 25)) rfl (by kernel_rfl) (by kernel_rfl) (by kernel_rfl) (by kernel_rfl) (fun _ _ _ h => h) (by kernel_rfl) (by assumption) ?_
        simp only [Act.put, List.setIfInBounds_toArray, List.set_cons_zero, List.set_cons_succ]
        refine rskip (i := 8) (d := (some 26)) rfl (by kernel_rfl) (by kernel_rfl) (by kernel_rfl) (by kernel_rfl) (fun _ _ _ h => h) (by kernel_rfl) (by assumption) ?_
        simp only [Act.put, List.setIfInBounds_toArray, List.set_cons_zero, List.set_cons_succ]
        refine rskip (i := 9) (d := (some 27)) rfl (by kernel_rfl) (by kernel_rfl) (by kernel_rfl) (by kernel_rfl) (fun _ _ _ h => h) (by kernel_rfl) (by assumption) ?_
        simp only [Act.put, List.setIfInBounds_toArray, List.set_cons_zero, List.set_cons_succ]
        refine rskip (i := 10) (d := (some 28)) rfl (by kernel_rfl) (by kernel_rfl) (by kernel_rfl) (by kernel_rfl) (fun _ _ _ h => h) (by kernel_rfl) (by assumption) ?_
        simp only [Act.put, List.setIfInBounds_toArray, List.set_cons_zero, List.set_cons_succ]
        refine rskip (i := 11) (d := (some 29)) rfl (by kernel_rfl) (by kernel_rfl) (by kernel_rfl) (by kernel_rfl) (fun _ _ _ h => h) (by kernel_rfl) (by assumption) ?_
        simp only [Act.put, List.setIfInBounds_toArray, List.set_cons_zero, List.set_cons_succ]
        refine rskip (i := 12) (d := (some 30)) rfl (by kernel_rfl) (by kernel_rfl) (by kernel_rfl) (by kernel_rfl) (fun _ _ _ h => h) (by kernel_rfl) (by assumption) ?_
        simp only [Act.put, List.setIfInBounds_toArray, List.set_cons_zero, List.set_cons_succ]
        refine rskip (i := 13) (d := (some 31)) rfl (by kernel_rfl) (by kernel_rfl) (by kernel_rfl) (by kernel_rfl) (fun _ _ _ h => h) (by kernel_rfl) (by assumption) ?_
        simp only [Act.put, List.setIfInBounds_toArray, List.set_cons_zero, List.set_cons_succ]
        refine rskip (i := 14) (d := (some 32)) rfl (by kernel_rfl) (by kernel_rfl) (by kernel_rfl) (by kernel_rfl) (fun _ _ _ h => h) (by kernel_rfl) (by assumption) ?_
        simp only [Act.put, List.setIfInBounds_toArray, List.set_cons_zero, List.set_cons_succ]
        refine rskip (i := 15) (d := (some 33)) rfl (by kernel_rfl) (by kernel_rfl) (by kernel_rfl) (by kernel_rfl) (fun _ _ _ h => h) (by kernel_rfl) (by assumption) ?_
        simp only [Act.put, List.setIfInBounds_toArray, List.set_cons_zero, List.set_cons_succ]
        refine rtake (i := 16) (d := (some 34)) (v := ?_) rfl (by kernel_rfl) (by kernel_rfl) (by kernel_rfl) (by kernel_rfl) (fun _ _ _ h => h) (by kernel_rfl) (by assumption) ?_ ?_
        rotate_left 1
        · (intro wI hSI; (try dsimp only at hSI); go_simp; (try with_reducible rfl))
        simp only [Act.put, List.setIfInBounds_toArray, List.set_cons_zero, List.set_cons_succ]
        refine wpAnyH_done (by kernel_rfl) ?_ _
        go_wp2_with fail
        go_roundg (l.length - i)
        case measure => have := hgk.out; omega
        case rel => exact ⟨i + 1, by go_num, by omega, by omega, by show _ = _; omega, by rw [Hnext.out, ← Hsk.out]; exact hown.drew, hk.drew⟩
      · obtain ⟨q, hq⟩ : ∃ q, j = q + 1 := ⟨j - 1, by omega⟩
        have hjl : j < s.length := by omega
        have hql : q < s.length := by omega
        obtain ⟨ab, off, ha, cj⟩ := hsa.intS hjl
        obtain ⟨ab', off', ha', cq⟩ := hsa.intS hql
        cases ha
        cases ha'
        rw [Nat.zero_add] at cj cq
        have hxl := hmem.out s[j] (List.getElem_mem _)
        have hyl := hmem.out s[q] (List.getElem_mem _)
        have hgx : s.getD j 0 = s[j] := by rw [List.getD_eq_getElem?_getD, List.getElem?_eq_getElem hjl]; rfl
        have hgy : s.getD q 0 = s[q] := by rw [List.getD_eq_getElem?_getD, List.getElem?_eq_getElem hql]; rfl
        have Hs1 : Hid (c s[j] s[q] < 0 → sinkI c s j = sinkI c (swapAtI s q) q) := fun h => by
          subst hq
          rw [show sinkI c s (q + 1) = if c (s.getD (q + 1) 0) (s.getD q 0) < 0 then sinkI c (swapAtI s q) q else s from rfl, hgx, hgy, if_pos h]
        have Hs2 : Hid (¬ c s[j] s[q] < 0 → sinkI c s j = s) := fun h => by
          subst hq
          rw [show sinkI c s (q + 1) = if c (s.getD (q + 1) 0) (s.getD q 0) < 0 then sinkI c (swapAtI s q) q else s from rfl, hgx, hgy, if_neg h]
        have Hsw : Hid (swapAtI s q = (s.set j s[q]).set q s[j]) := by
          show _ = _
          subst hq
          unfold swapAtI; rw [hgx, hgy]
        have Hsm : Hid (∀ x ∈ swapAtI s q, x ∈ l) := fun x hx => hmem.out x ((swapAtI_mem (by omega)).1 hx)
        have hsl3 := swapAtI_length s q
        have hown0 := hown.drew
        have hput1 := hown0.put j 0 s[q] (.int .i64 s[q]) hjl (by decide) rfl
        have hput2 := hput1.put q 0 s[j] (.int .i64 s[j]) (by rw [List.length_set]; exact hql) (by decide) rfl
        rw [← Hsw.out, show j * Cel.k Int + 0 = j from by show j * 1 + 0 = j; omega, show q * Cel.k Int + 0 = q from by show q * 1 + 0 = q; omega] at hput2
        obtain ⟨cur, hbx⟩ := hown.box
        have hfj := hbx.frozen j
        have hfq := hbx.frozen q
        have Hput2 := Lib.hid hput2
        clear hput1 hput2 hgx hgy hown0
        generalize s[j] = x at *
        generalize s[q] = y at *
        have hd : decide ((0 : Int) < (j : Int)) = true := by simp; omega
        have hd2 : (0 : Int) < (j : Int) := by omega
        have hd3 : 0 < j := by omega
        have hwq : IntKind.i64.wrap ((j : Int) - 1) = (q : Int) := by rw [hq, IntWalk.i64_in _ (by omega)]; omega
        have hb1 : (0 : Int) ≤ (j : Int) := by omega
        have hb2 : (j : Int) < (l.length : Int) := by omega
        have hb3 : (0 : Int) ≤ (q : Int) := by omega
        have hb4 : (q : Int) < (l.length : Int) := by omega
        have Hq := Lib.hid hq
        have HCx := Lib.hid (HC.out wr.drew x y hxl hyl hk.drew)
        clear hq hj0 hxl hyl hbx
        go_wp2_with fail
        refine wp_region_held_drew (S := (fun wx => wx.cell? ⟨gs, j, none⟩ = some (.int .i64 x) ∧ wx.cell? ⟨gs, q, none⟩ = some (.int .i64 y))) (by kernel_rfl) ?hS (fun hHeld => ?_)
        case hS => exact ⟨cj, cq⟩
        refine rtake (i := 0) (d := (some 18)) (v := ?_) rfl (by kernel_rfl) (by kernel_rfl) (by kernel_rfl) (by kernel_rfl) (fun _ _ _ h => h) (by kernel_rfl) (by assumption) ?_ ?_
        rotate_left 1
        · (intro wI hSI; (try dsimp only at hSI); go_simp; (try with_reducible rfl))
        simp only [Act.put, List.setIfInBounds_toArray, List.set_cons_zero, List.set_cons_succ]
        refine rtake (i := 1) (d := (some 19)) (v := ?_) rfl (by kernel_rfl) (by kernel_rfl) (by kernel_rfl) (by kernel_rfl) (fun _ _ _ h => h) (by kernel_rfl) (by assumption) ?_ ?_
        rotate_left 1
        · (intro wI hSI; (try dsimp only at hSI); go_simp; (try with_reducible rfl))
        simp only [Act.put, List.setIfInBounds_toArray, List.set_cons_zero, List.set_cons_succ]
        refine rtake (i := 2) (d := (some 20)) (v := ?_) rfl (by kernel_rfl) (by kernel_rfl) (by kernel_rfl) (by kernel_rfl) (fun _ _ _ h => h) (by kernel_rfl) (by assumption) ?_ ?_
        rotate_left 1
        · (intro wI hSI; (try dsimp only at hSI); go_simp; (try with_reducible rfl))
        simp only [Act.put, List.setIfInBounds_toArray, List.set_cons_zero, List.set_cons_succ]
        refine rtake (i := 3) (d := (some 21)) (v := ?_) rfl (by kernel_rfl) (by kernel_rfl) (by kernel_rfl) (by kernel_rfl) (fun _ _ _ h => h) (by kernel_rfl) (by assumption) ?_ ?_
        rotate_left 1
        · (intro wI hSI; (try dsimp only at hSI); go_simp; (try with_reducible rfl))
        simp only [Act.put, List.setIfInBounds_toArray, List.set_cons_zero, List.set_cons_succ]
        refine rtake (i := 4) (d := (some 22)) (v := ?_) rfl (by kernel_rfl) (by kernel_rfl) (by kernel_rfl) (by kernel_rfl) (fun _ _ _ h => h) (by kernel_rfl) (by assumption) ?_ ?_
        rotate_left 1
        · (intro wI hSI; (try dsimp only at hSI); go_simp; (try with_reducible rfl))
        simp only [Act.put, List.setIfInBounds_toArray, List.set_cons_zero, List.set_cons_succ]
        refine rtake (i := 5) (d := (some 23)) (v := ?_) rfl (by kernel_rfl) (by kernel_rfl) (by kernel_rfl) (by kernel_rfl) (fun _ _ _ h => h) (by kernel_rfl) (by assumption) ?_ ?_
        rotate_left 1
        · (intro wI hSI; (try dsimp only at hSI); go_simp; (try with_reducible rfl))
        simp only [Act.put, List.setIfInBounds_toArray, List.set_cons_zero, List.set_cons_succ]
        refine rtake (i := 6) (d := (some 24)) (v := ?_) rfl (by kernel_rfl) (by kernel_rfl) (by kernel_rfl) (by kernel_rfl) (fun _ _ _ h => h) (by kernel_rfl) (by assumption) ?_ ?_
        rotate_left 1
        · (intro wI hSI; (try dsimp only at hSI); go_simp; (try with_reducible rfl))
        simp only [Act.put, List.setIfInBounds_toArray, List.set_cons_zero, List.set_cons_succ]
        refine rtake (i := 7) (d := (some 25)) (v := ?_) rfl (by kernel_rfl) (by kernel_rfl) (by kernel_rfl) (by kernel_rfl) (fun _ _ _ h => h) (by kernel_rfl) (by assumption) ?_ ?_
        rotate_left 1
        · (intro wI hSI; (try dsimp only at hSI); go_simp; (try with_reducible rfl))
        simp only [Act.put, List.setIfInBounds_toArray, List.set_cons_zero, List.set_cons_succ]
        refine rtake (i := 8) (d := (some 26)) (v := ?_) rfl (by kernel_rfl) (by kernel_rfl) (by kernel_rfl) (by kernel_rfl) (fun _ _ _ h => h) (by kernel_rfl) (by assumption) ?_ ?_
        rotate_left 1
        · (intro wI hSI; (try dsimp only at hSI); go_simp; (try with_reducible rfl))
        simp only [Act.put, List.setIfInBounds_toArray, List.set_cons_zero, List.set_cons_succ]
        refine rtake (i := 9) (d := (some 27)) (v := ?_) rfl (by kernel_rfl) (by kernel_rfl) (by kernel_rfl) (by kernel_rfl) (fun _ _ _ h => h) (by kernel_rfl) (by assumption) ?_ ?_
        rotate_left 1
        · (intro wI hSI; (try dsimp only at hSI); go_simp; (try with_reducible rfl))
        simp only [Act.put, List.setIfInBounds_toArray, List.set_cons_zero, List.set_cons_succ]
        refine rtake (i := 10) (d := (some 28)) (v := ?_) rfl (by kernel_rfl) (by kernel_rfl) (by kernel_rfl) (by kernel_rfl) (fun _ _ _ h => h) (by kernel_rfl) (by assumption) ?_ ?_
        rotate_left 1
        · (intro wI hSI; (try dsimp only at hSI); go_simp; (try with_reducible rfl))
        simp only [Act.put, List.setIfInBounds_toArray, List.set_cons_zero, List.set_cons_succ]
        refine rtake (i := 11) (d := (some 29)) (v := ?_) rfl (by kernel_rfl) (by kernel_rfl) (by kernel_rfl) (by kernel_rfl) (fun _ _ _ h => h) (by kernel_rfl) (by assumption) ?_ ?_
        rotate_left 1
        · (intro wI hSI; (try dsimp only at hSI); go_simp; (try with_reducible rfl))
        simp only [Act.put, List.setIfInBounds_toArray, List.set_cons_zero, List.set_cons_succ]
        refine rtake (i := 12) (d := (some 30)) (v := ?_) rfl (by kernel_rfl) (by kernel_rfl) (by kernel_rfl) (by kernel_rfl) (fun _ _ _ h => h) (by kernel_rfl) (by assumption) ?_ ?_
        rotate_left 1
        · (intro wI hSI; (try dsimp only at hSI); go_simp; (try with_reducible rfl))
        simp only [Act.put, List.setIfInBounds_toArray, List.set_cons_zero, List.set_cons_succ]
        refine rtake (i := 13) (d := (some 31)) (v := ?_) rfl (by kernel_rfl) (by kernel_rfl) (by kernel_rfl) (by kernel_rfl) (fun _ _ _ h => h) (by kernel_rfl) (by assumption) ?_ ?_
        rotate_left 1
        · (intro wI hSI; (try dsimp only at hSI); go_simp; (try with_reducible rfl))
        simp only [Act.put, List.setIfInBounds_toArray, List.set_cons_zero, List.set_cons_succ]
        refine rcall (i := 14) (d := (some 32)) (by kernel_rfl) rfl (by kernel_rfl) (fun K hK => ?_)
        go_simp
        refine HCx.out.mono ?_; rintro e wa ⟨rfl, hba⟩
        refine hK.out _ _ ?hS (fun hHeld => ?_)
        case hS => exact ⟨cell_later hba hHeld.1, cell_later hba hHeld.2⟩
        clear hK K
        simp only [Act.put, List.setIfInBounds_toArray, List.set_cons_zero, List.set_cons_succ]
        have hka : Kp (· = gs) w wa := (hk.drew).trans (Kp.of_below hba)
        have hfja : wa.frozen? ⟨gs, j, none⟩ = false := by rw [hba.frozen (p := ⟨gs, j, none⟩) (by show gs < _; exact (cell_lt cj))]; exact hfj
        have hfqa : wa.frozen? ⟨gs, q, none⟩ = false := by rw [hba.frozen (p := ⟨gs, q, none⟩) (by show gs < _; exact (cell_lt cj))]; exact hfq
        have hgw : gs < wa.heap.size := cell_lt hHeld.1
        have hcja := hHeld.1
        have hcqa := hHeld.2
        have hownA := (hown.drew).below hba
        by_cases hcc : c x y < 0
        · have hdc : decide (c x y < 0) = true := decide_eq_true hcc
          have Hs3 := Lib.hid (Hs1.out hcc)
          refine rtake (i := 15) (d := (some 33)) (v := ?_) rfl (by kernel_rfl) (by kernel_rfl) (by kernel_rfl) (by kernel_rfl) (fun _ _ _ h => h) (by kernel_rfl) (by assumption) ?_ ?_
          rotate_left 1
          · (intro wI hSI; (try dsimp only at hSI); go_simp; (try with_reducible rfl))
          simp only [Act.put, List.setIfInBounds_toArray, List.set_cons_zero, List.set_cons_succ]
          refine rtake (i := 16) (d := (some 34)) (v := ?_) rfl (by kernel_rfl) (by kernel_rfl) (by kernel_rfl) (by kernel_rfl) (fun _ _ _ h => h) (by kernel_rfl) (by assumption) ?_ ?_
          rotate_left 1
          · (intro wI hSI; (try dsimp only at hSI); go_simp; (try with_reducible rfl))
          simp only [Act.put, List.setIfInBounds_toArray, List.set_cons_zero, List.set_cons_succ]
          refine wpAnyH_done (by kernel_rfl) ?_ _
          clear hdc hcc Hs1 Hs2 Hput2
          have hput1 := hownA.drew.put j 0 y (.int .i64 y) hjl (by decide) rfl
          have hput2 := hput1.put q 0 x (.int .i64 x) (by rw [List.length_set]; exact hql) (by decide) rfl
          rw [← Hsw.out, show j * Cel.k Int + 0 = j from by show j * 1 + 0 = j; omega, show q * Cel.k Int + 0 = q from by show q * 1 + 0 = q; omega] at hput2
          have hk2 := ((hka.drew).setCell (p := ⟨gs, j, none⟩) (.inl rfl) (.int .i64 y)).setCell (p := ⟨gs, q, none⟩) (.inl rfl) (.int .i64 x)
          have hjq : j ≠ q := by have := Hq.out; omega
          clear hput1
          go_wp2_with fail
          go_region
          go_wp2_with fail
          go_roundg q
          case measure => have := Hq.out; have := hgj.out; omega
          case rel => exact ⟨q, swapAtI s q, by congr 1, by have := Hq.out; omega, rfl, by omega, hput2, by show _ = _; rw [← Hs3.out]; exact hsk.out, Hsm.out, hk2⟩
        · have hdc : decide (c x y < 0) = false := decide_eq_false hcc
          have Hs3 := Lib.hid (Hs2.out (by omega))
          refine rtake (i := 15) (d := (some 33)) (v := ?_) rfl (by kernel_rfl) (by kernel_rfl) (by kernel_rfl) (by kernel_rfl) (fun _ _ _ h => h) (by kernel_rfl) (by assumption) ?_ ?_
          rotate_left 1
          · (intro wI hSI; (try dsimp only at hSI); go_simp; (try with_reducible rfl))
          simp only [Act.put, List.setIfInBounds_toArray, List.set_cons_zero, List.set_cons_succ]
          refine rtake (i := 16) (d := (some 34)) (v := ?_) rfl (by kernel_rfl) (by kernel_rfl) (by kernel_rfl) (by kernel_rfl) (fun _ _ _ h => h) (by kernel_rfl) (by assumption) ?_ ?_
          rotate_left 1
          · (intro wI hSI; (try dsimp only at hSI); go_simp; (try with_reducible rfl))
          simp only [Act.put, List.setIfInBounds_toArray, List.set_cons_zero, List.set_cons_succ]
          refine wpAnyH_done (by kernel_rfl) ?_ _
          clear hdc hcc Hs1 Hs2
          go_wp2_with fail
          go_roundg (l.length - i)
          case measure => have := hgk.out; omega
          case rel => exact ⟨i + 1, by go_num, by omega, by omega, by show _ = _; omega, by rw [Hnext.out, ← hsk.out, Hs3.out]; exact hownA, hka⟩
    · have hlast : isortNI c l i = isortI c l := by
        unfold isortI
        by_cases h : l.length = 0
        · have : l = [] := List.length_eq_zero_iff.1 h
          subst this
          obtain rfl : i = 1 := by simp at hi2; omega
          rfl
        · obtain rfl : i = l.length := by omega
          rfl
      rw [hlast] at hown
      have hlt' : ¬ (i : Int) < (l.length : Int) := by omega
      clear hlast hlt
      go_wp2_with fail
      go_end0
      exact ⟨rfl, hown, hk⟩
theorem insCmpI_nil (a : Option Addr) (cap : Nat) (f : Value) (w : World) : Calls Tryz.prog 141 #[.slice a 0 cap, .int .i64 0, .int .i64 0, f] w (fun e w' => e = .returned (.tuple #[]) ∧ w' = w) := by
  go_enter Tryz.func141, Tryz.ntmps141
  go_wp2_with fail
  go_loopg [8] 0 (fun gk vi wr => vi = .int .i64 1 ∧ wr = w)
  case atStart => exact ⟨rfl, rfl⟩
  case round =>
    obtain ⟨rfl, rfl⟩ := hrel
    go_wp2_with fail
    go_end0
    exact ⟨rfl, rfl⟩
set_option maxHeartbeats 1000000 in
theorem sortStableI_any (base : Nat) (l : List Int) (v : Value) (g : Nat) (lb : Array Value) (c : Int → Int → Int) (w : World) (eg : ∀ args w, (callFunc g args).run Tryz.prog w = .ok (.enter g args) w) (hc : ∀ gs, v.ownBlock = some gs → CmpAtI g lb c l gs w)
    (hown : Own base 3 w v l) (hl : l.length ≤ 19) :
    Calls Tryz.prog 77 #[v, .func (.func g) #[] lb] w (fun e w' => e = .returned (.tuple #[]) ∧ Own base 3 w' v (isortI c l) ∧ Kp (fun k => v.ownBlock = some k) w w') := by
  obtain ⟨a, cap, rfl, hsa, hf, hcap⟩ := hown.form
  have key : Calls Tryz.prog 141 #[.slice a l.length cap, .int .i64 0, .int .i64 l.length, .func (.func g) #[] lb] w (fun e w' => e = .returned (.tuple #[]) ∧ Own base 3 w' (.slice a l.length cap) (isortI c l) ∧ Kp (fun k => (Value.slice a l.length cap).ownBlock = some k) w w') := by
    by_cases h0 : l = []
    · subst h0
      refine (insCmpI_nil a cap _ w).mono ?_
      rintro e w' ⟨rfl, rfl⟩
      exact ⟨rfl, hown, Kp.refl _ _⟩
    · rcases hf with rfl | ⟨gs, rfl, hg1, hg2⟩
      · rcases hsa with h | ⟨b, off, h, _⟩
        · exact absurd h h0
        · cases h
      · refine (insCmpI_any base gs l cap g lb c w eg (hc gs rfl) hown (by omega)).mono ?_
        rintro e w' ⟨rfl, h1, h2⟩
        refine ⟨rfl, h1, h2.mono fun k hk => .inl ?_⟩
        subst hk
        rfl
  have HK := Lib.hid key
  generalize isortI c l = out at *
  generalize hn : l.length = n at *
  clear key hsa hf hcap hc hown
  have inner : Calls Tryz.prog 114 #[.slice a n cap, .int .i64 n, .func (.func g) #[] lb] w (fun e w' => e = .returned (.tuple #[]) ∧ Own base 3 w' (.slice a n cap) out ∧ Kp (fun k => (Value.slice a n cap).ownBlock = some k) w w') := by
    go_enter Tryz.func114, Tryz.ntmps114
    go_wp2_with fail
    go_loopg [7, 8] 0 (fun gk x y wr => x = .int .i64 0 ∧ y = .int .i64 20 ∧ wr = w)
    case atStart => exact ⟨rfl, rfl, rfl⟩
    obtain ⟨rfl, rfl, rfl⟩ := hrel
    have h20 : ¬ (20 : Int) ≤ (n : Int) := by omega
    have h21 : ¬ (20 : Int) < (n : Int) := by omega
    go_wp2_with fail
    refine HK.out.mono ?_
    rintro e w1 ⟨rfl, h1, h2⟩
    go_wp2_with fail
    go_loopg [6] 0 (fun gk x wx => x = .int .i64 20 ∧ wx = w1)
    case atStart => exact ⟨rfl, rfl⟩
    obtain ⟨rfl, rfl⟩ := hrel
    go_wp2_with fail
    go_end0
    exact ⟨rfl, h1, h2⟩
  have HI := Lib.hid inner
  clear inner HK
  go_enter Tryz.func77, Tryz.ntmps77
  go_wp2_with fail
  refine HI.out.mono ?_
  rintro e w1 ⟨rfl, h1, h2⟩
  go_wp2_with fail
  go_end0
  exact ⟨rfl, h1, h2⟩
end Go.Proofs.YtpgofjjcmldhpaaGreatDoor

/-! Stable insertion by two functions that decide alike. -/
namespace Go.Proofs.YtpgofjjcmldhpaaGreatDoor
open Go.RowKit
set_option linter.unusedVariables false
set_option linter.unusedSimpArgs false

theorem swapAtI_get (s : List Int) (j k : Nat) (h : j + 1 < s.length) : (swapAtI s j)[k]? = if k = j then s[j + 1]? else if k = j + 1 then s[j]? else s[k]? := by
  unfold swapAtI
  have e1 : s.getD (j + 1) 0 = s[j + 1] := by rw [List.getD_eq_getElem?_getD, List.getElem?_eq_getElem h]; rfl
  have e2 : s.getD j 0 = s[j] := by rw [List.getD_eq_getElem?_getD, List.getElem?_eq_getElem (show j < s.length by omega)]; rfl
  rw [e1, e2, List.getElem?_set, List.getElem?_set, List.length_set]
  by_cases h1 : k = j
  · subst h1
    simp [h, show k < s.length by omega]
  · by_cases h2 : k = j + 1
    · subst h2
      simp [h, show j < s.length by omega]
    · rw [if_neg (fun e => h1 e.symm), if_neg (fun e => h2 e.symm), if_neg h1, if_neg h2]
theorem sinkI_same (c1 c2 : Int → Int → Int) : ∀ (j : Nat) (s : List Int) (hj : j < s.length), (∀ q (hq : q < j), c1 s[j] (s[q]'(by omega)) < 0 ↔ c2 s[j] (s[q]'(by omega)) < 0) → sinkI c1 s j = sinkI c2 s j
  | 0, s, _, _ => rfl
  | j + 1, s, hj, h => by
    have e1 : s.getD (j + 1) 0 = s[j + 1] := by rw [List.getD_eq_getElem?_getD, List.getElem?_eq_getElem hj]; rfl
    have e2 : s.getD j 0 = s[j] := by rw [List.getD_eq_getElem?_getD, List.getElem?_eq_getElem (show j < s.length by omega)]; rfl
    unfold sinkI
    rw [e1, e2]
    have h0 := h j (by omega)
    have hrec : sinkI c1 (swapAtI s j) j = sinkI c2 (swapAtI s j) j := by
      refine sinkI_same c1 c2 j (swapAtI s j) (by rw [swapAtI_length]; omega) fun q hq => ?_
      have g1 : (swapAtI s j)[j]? = some s[j + 1] := by rw [swapAtI_get s j j hj, if_pos rfl, List.getElem?_eq_getElem hj]
      have g2 : (swapAtI s j)[q]? = some (s[q]'(by omega)) := by rw [swapAtI_get s j q hj, if_neg (by omega), if_neg (by omega), List.getElem?_eq_getElem (show q < s.length by omega)]
      have l1 : j < (swapAtI s j).length := by rw [swapAtI_length]; omega
      have l2 : q < (swapAtI s j).length := by rw [swapAtI_length]; omega
      rw [List.getElem?_eq_getElem l1] at g1
      rw [List.getElem?_eq_getElem l2] at g2
      rw [Option.some.inj g1, Option.some.inj g2]
      exact h q (by omega)
    by_cases hc : c1 s[j + 1] s[j] < 0
    · rw [if_pos hc, if_pos (h0.1 hc), hrec]
    · rw [if_neg hc, if_neg (fun h' => hc (h0.2 h'))]
theorem sinkI_above (c : Int → Int → Int) : ∀ (j : Nat) (s : List Int) (k : Nat), j < s.length → j < k → (sinkI c s j)[k]? = s[k]?
  | 0, s, k, _, _ => rfl
  | j + 1, s, k, hj, hk => by
    unfold sinkI
    split
    · rw [sinkI_above c j (swapAtI s j) k (by rw [swapAtI_length]; omega) (by omega), swapAtI_get s j k hj, if_neg (by omega), if_neg (by omega)]
    · rfl
theorem isortNI_above (c : Int → Int → Int) (s : List Int) : ∀ (n k : Nat), n ≤ s.length → n ≤ k → (isortNI c s n)[k]? = s[k]?
  | 0, k, _, _ => rfl
  | 1, k, _, _ => rfl
  | n + 2, k, hn, hk => by
    rw [isortNI, sinkI_above c (n + 1) _ k (by rw [isortNI_length]; omega) (by omega), isortNI_above c s (n + 1) k (by omega) (by omega)]
theorem isortI_same (c1 c2 : Int → Int → Int) (s : List Int) (hn : s.Nodup) (h : ∀ i q (hi : i < s.length) (hq : q < i), c1 s[i] (s[q]'(by omega)) < 0 ↔ c2 s[i] (s[q]'(by omega)) < 0) : isortI c1 s = isortI c2 s := by
  have key : ∀ n, n ≤ s.length → isortNI c1 s n = isortNI c2 s n := by
    intro n
    induction n with
    | zero => intro _; rfl
    | succ n ih =>
      intro hle
      cases n with
      | zero => rfl
      | succ n =>
        rw [isortNI, isortNI, ← ih (by omega)]
        have gen : ∀ t : List Int, t.length = s.length → t.Perm s → (∀ k, n + 1 ≤ k → t[k]? = s[k]?) → sinkI c1 t (n + 1) = sinkI c2 t (n + 1) := by
          intro t hl hp habove
          refine sinkI_same c1 c2 (n + 1) _ (by omega) fun q hq => ?_
          have hnt : t.Nodup := hp.nodup_iff.2 hn
          have g1 := habove (n + 1) (Nat.le_refl _)
          rw [List.getElem?_eq_getElem (show n + 1 < t.length by omega), List.getElem?_eq_getElem (show n + 1 < s.length by omega)] at g1
          have g2 := Option.some.inj g1
          have hm : t[q]'(by omega) ∈ s := hp.mem_iff.1 (List.getElem_mem _)
          obtain ⟨r, hr, he⟩ := List.mem_iff_getElem.1 hm
          have hrn : r < n + 1 := by
            rcases Nat.lt_or_ge r (n + 1) with h' | h'
            · exact h'
            · have g3 := habove r h'
              rw [List.getElem?_eq_getElem hr, List.getElem?_eq_getElem (show r < t.length by omega)] at g3
              have g4 := Option.some.inj g3
              rw [he] at g4
              exact absurd (by first | exact g4 | exact g4.symm) (List.pairwise_iff_getElem.1 hnt q r _ _ (by omega))
          rw [g2, ← he]
          exact h (n + 1) r (by omega) hrn
        exact gen _ (isortNI_length c1 s (n + 1)) (isortNI_perm c1 s (n + 1) (by omega)) (fun k hk => isortNI_above c1 s (n + 1) k (by omega) hk)
  unfold isortI
  exact key _ (Nat.le_refl _)
end Go.Proofs.YtpgofjjcmldhpaaGreatDoor

/-! The tests of the best readers. -/
namespace Go.Proofs.YtpgofjjcmldhpaaGreatDoor
open Go.RowKit
set_option linter.unusedVariables false
set_option linter.unusedSimpArgs false

set_option maxHeartbeats 1000000 in
theorem bestClo1_any (p : Paper) (bq : Nat) (x : ByteArray) (w : World) (hc : w.cell? ⟨bq, 0, none⟩ = some (.string x)) :
    Calls Tryz.prog 76 #[encPaper p, .pointer (some ⟨bq, 0, none⟩)] w (Gives (.bool (decide (p.id = x))) w) := by
  obtain ⟨x1, x2, x3, x4, x5, x6, x7, x8, x9⟩ := p
  unfold encPaper
  simp only
  have hlt := cell_lt hc
  go_enter Tryz.func76, Tryz.ntmps76
  go_wp2_with fail
  go_ret
  exact ⟨by simp [toList_beq], by (repeat' (first | exact Below.refl _ _ | assumption | refine Below.setCell ?_ ?_ _ | refine below_drewN ?_ _ | refine Below.drew ?_ | refine Below.alloc ?_ ?_ _ | (with_reducible refine Below.trans ?_ (Below.mono hb ?_)) | (with_reducible refine Below.trans ?_ (Below.mono hb0 ?_)) | (with_reducible refine Below.trans ?_ (Below.mono hb1 ?_)) | (with_reducible refine Below.trans ?_ (Below.mono hb2 ?_)) | (with_reducible refine Below.trans ?_ (Below.mono hb3 ?_)) | (with_reducible refine Below.trans ?_ (Below.mono hb4 ?_)) | (with_reducible refine Below.trans ?_ (Below.mono hb5 ?_)) | (with_reducible refine Below.trans ?_ (Below.mono hb6 ?_)) | (with_reducible refine Below.trans ?_ (Below.mono hb7 ?_)) | (with_reducible refine Below.trans ?_ (Below.mono hb8 ?_)) | (with_reducible refine Below.trans ?_ (Below.mono hb9 ?_)) | (with_reducible refine Below.trans ?_ (Below.mono hb10 ?_)) | (with_reducible refine Below.trans ?_ (Below.mono hb11 ?_)) | (with_reducible refine Below.trans ?_ (Below.mono hb12 ?_)) | (with_reducible refine Below.trans ?_ (Below.mono hb13 ?_)) | (with_reducible refine Below.trans ?_ (Below.mono hb14 ?_)) | (with_reducible refine Below.trans ?_ (Below.mono hb15 ?_)) | omega | (simp; done) | (simp; omega)))⟩
set_option maxHeartbeats 1000000 in
theorem bestOfClo1_any (p : Paper) (bq : Nat) (x : ByteArray) (w : World) (hc : w.cell? ⟨bq, 0, none⟩ = some (.string x)) :
    Calls Tryz.prog 81 #[encPaper p, .pointer (some ⟨bq, 0, none⟩)] w (Gives (.bool (decide (p.id = x))) w) := by
  obtain ⟨x1, x2, x3, x4, x5, x6, x7, x8, x9⟩ := p
  unfold encPaper
  simp only
  have hlt := cell_lt hc
  go_enter Tryz.func81, Tryz.ntmps81
  go_wp2_with fail
  go_ret
  exact ⟨by simp [toList_beq], by (repeat' (first | exact Below.refl _ _ | assumption | refine Below.setCell ?_ ?_ _ | refine below_drewN ?_ _ | refine Below.drew ?_ | refine Below.alloc ?_ ?_ _ | (with_reducible refine Below.trans ?_ (Below.mono hb ?_)) | (with_reducible refine Below.trans ?_ (Below.mono hb0 ?_)) | (with_reducible refine Below.trans ?_ (Below.mono hb1 ?_)) | (with_reducible refine Below.trans ?_ (Below.mono hb2 ?_)) | (with_reducible refine Below.trans ?_ (Below.mono hb3 ?_)) | (with_reducible refine Below.trans ?_ (Below.mono hb4 ?_)) | (with_reducible refine Below.trans ?_ (Below.mono hb5 ?_)) | (with_reducible refine Below.trans ?_ (Below.mono hb6 ?_)) | (with_reducible refine Below.trans ?_ (Below.mono hb7 ?_)) | (with_reducible refine Below.trans ?_ (Below.mono hb8 ?_)) | (with_reducible refine Below.trans ?_ (Below.mono hb9 ?_)) | (with_reducible refine Below.trans ?_ (Below.mono hb10 ?_)) | (with_reducible refine Below.trans ?_ (Below.mono hb11 ?_)) | (with_reducible refine Below.trans ?_ (Below.mono hb12 ?_)) | (with_reducible refine Below.trans ?_ (Below.mono hb13 ?_)) | (with_reducible refine Below.trans ?_ (Below.mono hb14 ?_)) | (with_reducible refine Below.trans ?_ (Below.mono hb15 ?_)) | omega | (simp; done) | (simp; omega)))⟩
/-- The order of two places in a row of numbers: the greater number first. -/
def cmpRow (xs : List Int) (i j : Int) : Int := cmpZ (xs.getD j.toNat 0) (xs.getD i.toNat 0)
set_option maxRecDepth 100000 in
set_option maxHeartbeats 2000000 in
theorem bestClo2_any (xs : List Int) (a : Option Addr) (c bq i j : Nat) (w : World) (hc : w.cell? ⟨bq, 0, none⟩ = some (.slice a xs.length c)) (hs : SA w a xs) (hi : i < xs.length) (hj : j < xs.length) (hl : xs.length ≤ 1000000) :
    Calls Tryz.prog 78 #[.int .i64 i, .int .i64 j, .pointer (some ⟨bq, 0, none⟩)] w (Gives (.int .i64 (cmpRow xs i j)) w) := by
  obtain ⟨b, off, rfl, c1⟩ := hs.intS hi
  obtain ⟨b', off', ha', c2⟩ := hs.intS hj
  cases ha'
  have HC : Hid (cmpRow xs i j = cmpZ xs[j] xs[i]) := by
    show _ = _
    unfold cmpRow
    rw [Int.toNat_natCast, Int.toNat_natCast, List.getD_eq_getElem?_getD, List.getD_eq_getElem?_getD, List.getElem?_eq_getElem hi, List.getElem?_eq_getElem hj]
    rfl
  generalize xs[i] = x at *
  generalize xs[j] = y at *
  have h1 : (0 : Int) ≤ (i : Int) := by omega
  have h2 : (i : Int) < (xs.length : Int) := by omega
  have h3 : (0 : Int) ≤ (j : Int) := by omega
  have h4 : (j : Int) < (xs.length : Int) := by omega
  have HM := Lib.hid (fun W => cmpCompare_any y x W)
  generalize cmpZ y x = z at *
  go_enter Tryz.func78, Tryz.ntmps78
  go_upto_region 1 with (fail)
  refine wp_region_held_drew (S := (fun wx => wx.cell? ⟨bq, 0, none⟩ = some (.slice (some ⟨b, off, none⟩) xs.length c) ∧ wx.cell? ⟨b, off + i, none⟩ = some (.int .i64 x) ∧ wx.cell? ⟨b, off + j, none⟩ = some (.int .i64 y))) (by kernel_rfl) ?hS (fun hHeld => ?_)
  case hS => exact ⟨hc, c1, c2⟩
  refine rtake (i := 0) (d := (some 6)) (v := ?_) rfl (by kernel_rfl) (by kernel_rfl) (by kernel_rfl) (by kernel_rfl) (fun _ _ _ h => h) (by kernel_rfl) (by assumption) ?_ ?_
  rotate_left 1
  · (intro wI hSI; (try dsimp only at hSI); go_simp; (try with_reducible rfl))
  simp only [Act.put, List.setIfInBounds_toArray, List.set_cons_zero, List.set_cons_succ]
  refine rtake (i := 1) (d := (some 7)) (v := ?_) rfl (by kernel_rfl) (by kernel_rfl) (by kernel_rfl) (by kernel_rfl) (fun _ _ _ h => h) (by kernel_rfl) (by assumption) ?_ ?_
  rotate_left 1
  · (intro wI hSI; (try dsimp only at hSI); go_simp; (try with_reducible rfl))
  simp only [Act.put, List.setIfInBounds_toArray, List.set_cons_zero, List.set_cons_succ]
  refine rtake (i := 2) (d := (some 8)) (v := ?_) rfl (by kernel_rfl) (by kernel_rfl) (by kernel_rfl) (by kernel_rfl) (fun _ _ _ h => h) (by kernel_rfl) (by assumption) ?_ ?_
  rotate_left 1
  · (intro wI hSI; (try dsimp only at hSI); go_simp; (try with_reducible rfl))
  simp only [Act.put, List.setIfInBounds_toArray, List.set_cons_zero, List.set_cons_succ]
  refine rtake (i := 3) (d := (some 9)) (v := ?_) rfl (by kernel_rfl) (by kernel_rfl) (by kernel_rfl) (by kernel_rfl) (fun _ _ _ h => h) (by kernel_rfl) (by assumption) ?_ ?_
  rotate_left 1
  · (intro wI hSI; (try dsimp only at hSI); go_simp; (try with_reducible rfl))
  simp only [Act.put, List.setIfInBounds_toArray, List.set_cons_zero, List.set_cons_succ]
  refine rtake (i := 4) (d := (some 10)) (v := ?_) rfl (by kernel_rfl) (by kernel_rfl) (by kernel_rfl) (by kernel_rfl) (fun _ _ _ h => h) (by kernel_rfl) (by assumption) ?_ ?_
  rotate_left 1
  · (intro wI hSI; (try dsimp only at hSI); go_simp; (try with_reducible rfl))
  simp only [Act.put, List.setIfInBounds_toArray, List.set_cons_zero, List.set_cons_succ]
  refine rtake (i := 5) (d := (some 11)) (v := ?_) rfl (by kernel_rfl) (by kernel_rfl) (by kernel_rfl) (by kernel_rfl) (fun _ _ _ h => h) (by kernel_rfl) (by assumption) ?_ ?_
  rotate_left 1
  · (intro wI hSI; (try dsimp only at hSI); go_simp; (try with_reducible rfl))
  simp only [Act.put, List.setIfInBounds_toArray, List.set_cons_zero, List.set_cons_succ]
  refine rtake (i := 6) (d := (some 12)) (v := ?_) rfl (by kernel_rfl) (by kernel_rfl) (by kernel_rfl) (by kernel_rfl) (fun _ _ _ h => h) (by kernel_rfl) (by assumption) ?_ ?_
  rotate_left 1
  · (intro wI hSI; (try dsimp only at hSI); go_simp; (try with_reducible rfl))
  simp only [Act.put, List.setIfInBounds_toArray, List.set_cons_zero, List.set_cons_succ]
  refine rtake (i := 7) (d := (some 13)) (v := ?_) rfl (by kernel_rfl) (by kernel_rfl) (by kernel_rfl) (by kernel_rfl) (fun _ _ _ h => h) (by kernel_rfl) (by assumption) ?_ ?_
  rotate_left 1
  · (intro wI hSI; (try dsimp only at hSI); go_simp; (try with_reducible rfl))
  simp only [Act.put, List.setIfInBounds_toArray, List.set_cons_zero, List.set_cons_succ]
  refine rcall (i := 8) (d := (some 14)) (by kernel_rfl) rfl (by kernel_rfl) (fun K hK => ?_)
  go_simp
  go_at_call 79; refine (HM.out _).mono ?_; rintro e w3 ⟨rfl, rfl⟩
  refine hK.out _ _ ?hS (fun hHeld => ?_)
  case hS => exact hHeld
  clear hK K
  simp only [Act.put, List.setIfInBounds_toArray, List.set_cons_zero, List.set_cons_succ]
  refine rtake (i := 9) (d := (some 5)) (v := ?_) rfl (by kernel_rfl) (by kernel_rfl) (by kernel_rfl) (by kernel_rfl) (fun _ _ _ h => h) (by kernel_rfl) (by assumption) ?_ ?_
  rotate_left 1
  · (intro wI hSI; (try dsimp only at hSI); go_simp; (try with_reducible rfl))
  simp only [Act.put, List.setIfInBounds_toArray, List.set_cons_zero, List.set_cons_succ]
  refine wpAnyH_done (by kernel_rfl) ?_ _
  go_wp2_with fail
  go_ret
  exact ⟨by rw [HC.out] <;> rfl, (Below.refl _ _).drew⟩
end Go.Proofs.YtpgofjjcmldhpaaGreatDoor

/-! The best readers: the plain law. -/
namespace Go.Proofs.YtpgofjjcmldhpaaGreatDoor
open Go.RowKit
set_option linter.unusedVariables false
set_option linter.unusedSimpArgs false

/-- The places of positive numbers. -/
def posL : List Int → Nat → List Int
  | _, 0 => []
  | xs, n + 1 => if 0 < xs.getD n 0 then posL xs n ++ [(n : Int)] else posL xs n
theorem posL_mem (xs : List Int) (x : Int) : ∀ n, x ∈ posL xs n ↔ ∃ k : Nat, x = k ∧ k < n ∧ 0 < xs.getD k 0
  | 0 => by simp [posL]
  | n + 1 => by
    have ih := posL_mem xs x n
    unfold posL
    split
    · next h =>
      rw [List.mem_append, ih, List.mem_singleton]
      constructor
      · rintro (⟨k, rfl, h1, h2⟩ | rfl)
        · exact ⟨k, rfl, by omega, h2⟩
        · exact ⟨n, rfl, by omega, h⟩
      · rintro ⟨k, rfl, h1, h2⟩
        by_cases hk : k = n
        · subst hk; exact .inr rfl
        · exact .inl ⟨k, rfl, by omega, h2⟩
    · next h =>
      rw [ih]
      constructor
      · rintro ⟨k, rfl, h1, h2⟩; exact ⟨k, rfl, by omega, h2⟩
      · rintro ⟨k, rfl, h1, h2⟩
        refine ⟨k, rfl, ?_, h2⟩
        by_cases hk : k = n
        · subst hk; exact absurd h2 h
        · omega
theorem posL_sorted (xs : List Int) : ∀ n, (posL xs n).Pairwise (· < ·)
  | 0 => List.Pairwise.nil
  | n + 1 => by
    have ih := posL_sorted xs n
    unfold posL
    split
    · rw [List.pairwise_append]
      refine ⟨ih, List.pairwise_singleton _ _, fun a ha b hb => ?_⟩
      rw [List.mem_singleton] at hb
      obtain ⟨k, rfl, h1, _⟩ := (posL_mem xs a n).1 ha
      omega
    · exact ih
theorem posL_length (xs : List Int) : ∀ n, (posL xs n).length ≤ n
  | 0 => Nat.le_refl _
  | n + 1 => by
    have ih := posL_length xs n
    unfold posL
    split
    · simp; omega
    · omega
/-- One element goes into its place; the list stands backwards. -/
def insR (c : Int → Int → Int) : List Int → Int → List Int
  | [], x => [x]
  | y :: p, x => if c x y < 0 then y :: insR c p x else x :: y :: p
theorem sinkI_insR (c : Int → Int → Int) : ∀ (p : List Int) (x : Int) (t : List Int), sinkI c (p.reverse ++ x :: t) p.length = (insR c p x).reverse ++ t
  | [], x, t => by simp [insR, sinkI]
  | y :: p, x, t => by
    have e1 : ((y :: p).reverse ++ x :: t).getD (p.length + 1) 0 = x := by
      rw [List.getD_eq_getElem?_getD, List.getElem?_append_right (by simp)]; simp
    have e2 : ((y :: p).reverse ++ x :: t).getD p.length 0 = y := by
      rw [List.getD_eq_getElem?_getD, List.getElem?_append_left (by simp), List.reverse_cons, List.getElem?_append_right (by simp)]; simp
    have e3 : swapAtI ((y :: p).reverse ++ x :: t) p.length = p.reverse ++ x :: (y :: t) := by
      unfold swapAtI
      rw [e1, e2]
      rw [show (y :: p).reverse ++ x :: t = p.reverse ++ (y :: x :: t) by simp]
      rw [List.set_append_right _ _ (by simp), List.set_append_right _ _ (by simp)]
      simp
    rw [List.length_cons, sinkI, e1, e2, e3]
    unfold insR
    split
    · rw [sinkI_insR c p x (y :: t)]; simp
    · simp
def foldR (c : Int → Int → Int) (l : List Int) : List Int := l.foldl (insR c) []
theorem insR_length (c : Int → Int → Int) : ∀ (p : List Int) (x : Int), (insR c p x).length = p.length + 1
  | [], x => rfl
  | y :: p, x => by unfold insR; split <;> simp [insR_length c p x]
theorem insR_mem (c : Int → Int → Int) : ∀ (p : List Int) (x z : Int), z ∈ insR c p x ↔ z = x ∨ z ∈ p
  | [], x, z => by simp [insR]
  | y :: p, x, z => by
    unfold insR
    split
    · rw [List.mem_cons, insR_mem c p x z, List.mem_cons]
      constructor
      · rintro (h | h | h)
        · exact .inr (.inl h)
        · exact .inl h
        · exact .inr (.inr h)
      · rintro (h | h | h)
        · exact .inr (.inl h)
        · exact .inl h
        · exact .inr (.inr h)
    · simp
theorem foldR_snoc (c : Int → Int → Int) (l : List Int) (x : Int) : foldR c (l ++ [x]) = insR c (foldR c l) x := by unfold foldR; rw [List.foldl_append]; rfl
theorem foldR_length (c : Int → Int → Int) (l : List Int) : ∀ n, n ≤ l.length → (foldR c (l.take n)).length = n
  | 0, _ => by simp [foldR]
  | n + 1, h => by rw [List.take_succ_eq_append_getElem (by omega), foldR_snoc, insR_length, foldR_length c l n (by omega)]
theorem isortNI_foldR (c : Int → Int → Int) (s : List Int) : ∀ n, n + 1 ≤ s.length → isortNI c s (n + 1) = (foldR c (s.take (n + 1))).reverse ++ s.drop (n + 1)
  | 0, h => by
    cases s with
    | nil => simp at h
    | cons x r => simp [isortNI, foldR, insR]
  | n + 1, h => by
    rw [isortNI, isortNI_foldR c s n (by omega)]
    rw [List.take_succ_eq_append_getElem (show n + 1 < s.length by omega), foldR_snoc]
    have hl := foldR_length c s (n + 1) (by omega)
    rw [List.drop_eq_getElem_cons (show n + 1 < s.length by omega)]
    have := sinkI_insR c (foldR c (s.take (n + 1))) s[n + 1] (s.drop (n + 1 + 1))
    rw [hl] at this
    exact this
theorem isortI_foldR (c : Int → Int → Int) (s : List Int) : isortI c s = (foldR c s).reverse := by
  unfold isortI
  cases h : s.length with
  | zero => rw [List.length_eq_zero_iff] at h; subst h; rfl
  | succ n => rw [isortNI_foldR c s n (by omega), ← h, List.take_length, List.drop_length, List.append_nil]
/-- The greater number first, of equal ones the lower place. -/
def ordR (xs : List Int) (i j : Int) : Prop := xs.getD j.toNat 0 < xs.getD i.toNat 0 ∨ (xs.getD j.toNat 0 = xs.getD i.toNat 0 ∧ i < j)
theorem ordR_asymm {xs : List Int} {i j : Int} (h : ordR xs i j) (k : ordR xs j i) : False := by unfold ordR at h k; omega
theorem cmpRow_lt {xs : List Int} {i j : Int} : cmpRow xs i j < 0 ↔ xs.getD j.toNat 0 < xs.getD i.toNat 0 := by
  unfold cmpRow cmpZ
  split
  · next h => exact ⟨fun _ => h, fun _ => by decide⟩
  · next h => split <;> exact ⟨fun k => absurd k (by decide), fun k => absurd k h⟩
theorem insR_sorted (xs : List Int) : ∀ (p : List Int) (x : Int), p.Pairwise (fun a b => ordR xs b a) → (∀ y ∈ p, y < x) → (insR (cmpRow xs) p x).Pairwise (fun a b => ordR xs b a)
  | [], x, _, _ => List.pairwise_singleton _ _
  | y :: p, x, hp, hx => by
    rw [List.pairwise_cons] at hp
    unfold insR
    split
    · next h =>
      rw [cmpRow_lt] at h
      rw [List.pairwise_cons]
      refine ⟨fun z hz => ?_, insR_sorted xs p x hp.2 (fun y hy => hx y (List.mem_cons_of_mem _ hy))⟩
      rcases (insR_mem _ _ _ _).1 hz with rfl | hz
      · exact .inl h
      · exact hp.1 z hz
    · next h =>
      rw [cmpRow_lt] at h
      have hyx := hx y List.mem_cons_self
      rw [List.pairwise_cons]
      refine ⟨fun z hz => ?_, List.pairwise_cons.2 hp⟩
      have hzx := hx z hz
      rcases List.mem_cons.1 hz with rfl | hz
      · unfold ordR; omega
      · have := hp.1 z hz
        unfold ordR at *
        omega
theorem foldR_sorted (xs : List Int) (l : List Int) (hl : l.Pairwise (· < ·)) : ∀ n, n ≤ l.length → (foldR (cmpRow xs) (l.take n)).Pairwise (fun a b => ordR xs b a) ∧ ∀ z, z ∈ foldR (cmpRow xs) (l.take n) ↔ z ∈ l.take n
  | 0, _ => by simp [foldR]
  | n + 1, h => by
    obtain ⟨i1, i2⟩ := foldR_sorted xs l hl n (by omega)
    rw [List.take_succ_eq_append_getElem (show n < l.length by omega), foldR_snoc]
    refine ⟨insR_sorted xs _ _ i1 fun y hy => ?_, fun z => ?_⟩
    · have := (i2 y).1 hy
      obtain ⟨k, hk, rfl⟩ := List.mem_take_iff_getElem.1 this
      exact List.pairwise_iff_getElem.1 hl k n _ _ (by omega)
    · rw [insR_mem, i2, List.mem_append, List.mem_singleton, or_comm]
/-- The places of positive numbers, the greatest number first. -/
def bestL (xs : List Int) : List Int := isortI (cmpRow xs) (posL xs xs.length)
theorem bestL_sorted (xs : List Int) : (bestL xs).Pairwise (ordR xs) := by
  unfold bestL
  rw [isortI_foldR, List.pairwise_reverse]
  have := (foldR_sorted xs (posL xs xs.length) (posL_sorted _ _) _ (Nat.le_refl _)).1
  rwa [List.take_length] at this
theorem bestL_mem (xs : List Int) (x : Int) : x ∈ bestL xs ↔ ∃ k : Nat, x = k ∧ k < xs.length ∧ 0 < xs.getD k 0 := by
  unfold bestL
  rw [(isortI_perm _ _).mem_iff, posL_mem]
theorem bestL_length (xs : List Int) : (bestL xs).length ≤ xs.length := by unfold bestL; rw [isortI_length]; exact posL_length _ _
/-- The greatest of the first numbers that may be taken, the first of equal ones; -1 if there is none. -/
def pickN (xs : List Int) (e : Nat → Bool) : Nat → Int
  | 0 => -1
  | n + 1 => if e n = true ∧ (pickN xs e n < 0 ∨ xs.getD (pickN xs e n).toNat 0 < xs.getD n 0) then n else pickN xs e n
theorem pickN_low (xs : List Int) (e : Nat → Bool) : ∀ n, -1 ≤ pickN xs e n ∧ pickN xs e n < n
  | 0 => by simp [pickN]
  | n + 1 => by have := pickN_low xs e n; unfold pickN; split <;> omega
theorem pickN_is (xs : List Int) (e : Nat → Bool) : ∀ n, (pickN xs e n < 0 → ∀ k, k < n → e k = false) ∧ ∀ i : Nat, pickN xs e n = i → e i = true ∧ i < n ∧ ∀ k, k < n → e k = true → k = i ∨ ordR xs i k
  | 0 => ⟨fun _ k hk => absurd hk (by omega), fun i hi => by simp [pickN] at hi⟩
  | n + 1 => by
    obtain ⟨h1, h2⟩ := pickN_is xs e n
    have h3 := pickN_low xs e n
    unfold pickN
    split
    · next h =>
      refine ⟨fun h' => absurd h' (by omega), fun i hi => ?_⟩
      obtain rfl : n = i := by omega
      refine ⟨h.1, by omega, fun k hk he => ?_⟩
      by_cases hkn : k = n
      · exact .inl hkn
      rcases h.2 with h4 | h4
      · exact absurd he (by rw [h1 h4 k (by omega)]; decide)
      · by_cases h5 : pickN xs e n < 0
        · exact absurd he (by rw [h1 h5 k (by omega)]; decide)
        obtain ⟨q, hq⟩ : ∃ q : Nat, pickN xs e n = q := ⟨(pickN xs e n).toNat, by omega⟩
        obtain ⟨_, q2, q3⟩ := h2 q hq
        rw [hq] at h4
        refine .inr ?_
        unfold ordR at *
        simp only [Int.toNat_natCast] at *
        rcases q3 k (by omega) he with rfl | q4
        · exact .inl h4
        · omega
    · next h =>
      refine ⟨fun h' k hk => ?_, fun i hi => ?_⟩
      · by_cases hkn : k = n
        · subst hkn
          cases he : e k
          · rfl
          · exact absurd ⟨he, .inl h'⟩ h
        · exact h1 h' k (by omega)
      · obtain ⟨q1, q2, q3⟩ := h2 i hi
        refine ⟨q1, by omega, fun k hk he => ?_⟩
        by_cases hkn : k = n
        · subst hkn
          refine .inr ?_
          rw [hi] at h
          have : ¬ xs.getD (i : Int).toNat 0 < xs.getD k 0 := fun h' => h ⟨he, .inr h'⟩
          unfold ordR
          simp only [Int.toNat_natCast] at *
          omega
        · exact q3 k (by omega) he
/-- The keys of the best n. -/
def keyAt (ks : List ByteArray) (i : Int) : ByteArray := ks.getD i.toNat ByteArray.empty
def bestK (xs : List Int) (ks : List ByteArray) (n : Nat) : List ByteArray := ((bestL xs).take n).map (keyAt ks)
/-- What may be taken: a positive number whose key is not there yet. -/
def mayT (xs : List Int) (ks out : List ByteArray) (i : Nat) : Bool := decide (0 < xs.getD i 0) && !(out.any (fun y => decide (y = keyAt ks i)))
theorem nodup_at {α : Type} {l : List α} (h : l.Nodup) {i j : Nat} (hi : i < l.length) (hj : j < l.length) (e : l[i] = l[j]) : i = j := by
  rcases Nat.lt_trichotomy i j with k | k | k
  · exact absurd e (List.pairwise_iff_getElem.1 h i j hi hj k)
  · exact k
  · exact absurd e.symm (List.pairwise_iff_getElem.1 h j i hj hi k)
theorem keyAt_inj {ks : List ByteArray} (hn : ks.Nodup) {i j : Nat} (hi : i < ks.length) (hj : j < ks.length) (h : keyAt ks i = keyAt ks j) : i = j := by
  unfold keyAt at h
  rw [Int.toNat_natCast, Int.toNat_natCast, List.getD_eq_getElem?_getD, List.getD_eq_getElem?_getD, List.getElem?_eq_getElem hi, List.getElem?_eq_getElem hj] at h
  exact nodup_at hn hi hj h
theorem pick_best (xs : List Int) (ks : List ByteArray) (hl : ks.length = xs.length) (hn : ks.Nodup) (k : Nat) :
    pickN xs (mayT xs ks (bestK xs ks k)) xs.length = if h : k < (bestL xs).length then (bestL xs)[k] else -1 := by
  have hs := bestL_sorted xs
  have hm := bestL_mem xs
  obtain ⟨p1, p2⟩ := pickN_is xs (mayT xs ks (bestK xs ks k)) xs.length
  have p3 := pickN_low xs (mayT xs ks (bestK xs ks k)) xs.length
  have may : ∀ i : Nat, i < xs.length → (mayT xs ks (bestK xs ks k) i = true ↔ 0 < xs.getD i 0 ∧ (i : Int) ∉ (bestL xs).take k) := by
    intro i hi
    unfold mayT
    rw [Bool.and_eq_true, decide_eq_true_eq, Bool.not_eq_true', List.any_eq_false]
    refine and_congr Iff.rfl ⟨fun h hin => ?_, fun h y hy => ?_⟩
    · refine h (keyAt ks i) ?_ (by simp)
      unfold bestK
      exact List.mem_map.2 ⟨_, hin, rfl⟩
    · unfold bestK at hy
      obtain ⟨z, hz, rfl⟩ := List.mem_map.1 hy
      obtain ⟨q, rfl, hq, _⟩ := (hm z).1 (List.mem_of_mem_take hz)
      intro he
      have he := keyAt_inj hn (by omega) (by omega) (of_decide_eq_true he)
      subst he
      exact h hz
  split
  · next h =>
    obtain ⟨q, hq, hql, hqp⟩ := (hm _).1 (List.getElem_mem h)
    have hnd : (bestL xs).Nodup := hs.imp (fun {a b} hab => fun e => by subst e; exact ordR_asymm hab hab)
    have hout : (bestL xs)[k] ∉ (bestL xs).take k := by
      intro hin
      obtain ⟨m, hm1, hm2⟩ := List.mem_take_iff_getElem.1 hin
      have := nodup_at hnd (by omega) h hm2
      omega
    have hmq : mayT xs ks (bestK xs ks k) q = true := (may q hql).2 ⟨hqp, by rw [← hq]; exact hout⟩
    by_cases hneg : pickN xs (mayT xs ks (bestK xs ks k)) xs.length < 0
    · have := p1 hneg q hql
      rw [hmq] at this; cases this
    obtain ⟨i, hi⟩ : ∃ i : Nat, pickN xs (mayT xs ks (bestK xs ks k)) xs.length = i := ⟨(pickN xs (mayT xs ks (bestK xs ks k)) xs.length).toNat, by omega⟩
    obtain ⟨r1, r2, r3⟩ := p2 i hi
    rw [hi, hq]
    rcases r3 q hql hmq with e | e
    · rw [e]
    · exfalso
      obtain ⟨s1, s2⟩ := (may i r2).1 r1
      obtain ⟨m, hm1, hm2⟩ := List.getElem_of_mem ((hm (i : Int)).2 ⟨i, rfl, r2, s1⟩)
      have hkm : k ≤ m := by
        rcases Nat.lt_or_ge m k with h' | h'
        · exact absurd (List.mem_take_iff_getElem.2 ⟨m, by omega, hm2⟩) s2
        · exact h'
      by_cases hkm2 : k = m
      · subst hkm2
        rw [hq] at hm2
        rw [hm2] at e
        exact ordR_asymm e e
      · have := List.pairwise_iff_getElem.1 hs k m h hm1 (by omega)
        rw [hm2, hq] at this
        exact ordR_asymm this e
  · next h =>
    by_cases hneg : pickN xs (mayT xs ks (bestK xs ks k)) xs.length < 0
    · omega
    obtain ⟨i, hi⟩ : ∃ i : Nat, pickN xs (mayT xs ks (bestK xs ks k)) xs.length = i := ⟨(pickN xs (mayT xs ks (bestK xs ks k)) xs.length).toNat, by omega⟩
    obtain ⟨r1, r2, r3⟩ := p2 i hi
    obtain ⟨s1, s2⟩ := (may i r2).1 r1
    exfalso
    apply s2
    rw [List.take_of_length_le (by omega)]
    exact (hm _).2 ⟨i, rfl, r2, s1⟩
theorem bestK_snoc (xs : List Int) (ks : List ByteArray) {k : Nat} (h : k < (bestL xs).length) : bestK xs ks (k + 1) = bestK xs ks k ++ [keyAt ks (bestL xs)[k]] := by
  unfold bestK; rw [List.take_succ_eq_append_getElem h, List.map_append]; rfl
theorem bestK_all (xs : List Int) (ks : List ByteArray) {k : Nat} (h : ¬ k < (bestL xs).length) {n : Nat} (hn : k ≤ n) : bestK xs ks k = bestK xs ks n := by
  unfold bestK; rw [List.take_of_length_le (by omega), List.take_of_length_le (by omega)]
theorem bestK_length (xs : List Int) (ks : List ByteArray) (k : Nat) : (bestK xs ks k).length = min k (bestL xs).length := by simp [bestK]
end Go.Proofs.YtpgofjjcmldhpaaGreatDoor

/-! Best of the program. -/
namespace Go.Proofs.YtpgofjjcmldhpaaGreatDoor
open Go.RowKit
set_option linter.unusedVariables false
set_option linter.unusedSimpArgs false

theorem idxI_cases {α : Type} (c : α → Bool) (l : List α) : idxI c l < 0 ∨ ∃ k : Nat, idxI c l = k ∧ k < l.length := by
  unfold idxI
  split
  · next k h =>
    rw [List.findIdx?_eq_some_iff_getElem] at h
    obtain ⟨h, _⟩ := h
    exact .inr ⟨k, rfl, h⟩
  · exact .inl (by decide)
def bestE (ps : List Paper) (id : ByteArray) (n : Int) : Int := if idxI (fun p => decide (p.id = id)) ps < 0 then 8 else if n < 1 ∨ 100 < n then 1 else 0
def bestX (l : List Topic) (ps : List Paper) (rs : List Reader) (bs : List Mark) (id : ByteArray) (n : Int) : Int := if fieldE l ps rs bs ≠ 0 then fieldE l ps rs bs else bestE ps id n
/-- The row of a paper. -/
def bestR (l : List Topic) (ps : List Paper) (rs : List Reader) (bs : List Mark) (id : ByteArray) : List Int := (worthsL l ps rs bs).getD (idxI (fun p => decide (p.id = id)) ps).toNat []
def bestO (l : List Topic) (ps : List Paper) (rs : List Reader) (bs : List Mark) (id : ByteArray) (n : Int) : List ByteArray := if bestX l ps rs bs id n = 0 then bestK (bestR l ps rs bs id) (rs.map (·.key)) n.toNat else []
theorem worths_get (l : List Topic) (ps : List Paper) (rs : List Reader) (bs : List Mark) {k : Nat} (hk : k < ps.length) : (worthsL l ps rs bs).getD k [] = rowL l bs rs ps[k] := by
  unfold worthsL
  rw [List.getD_eq_getElem?_getD, List.getElem?_map, List.getElem?_eq_getElem hk]; rfl
/-- Strings and an error. -/
def GivesBest (er : Int) (out : List ByteArray) (w : World) (e : Ending) (w' : World) : Prop :=
  Below w.heap.size w w' ∧ ∃ a c, e = .returned (.tuple #[.slice a out.length c, .int .i64 er]) ∧ SA w' a out
theorem bestK_min (xs : List Int) (ks : List ByteArray) (n : Nat) : bestK xs ks (min n (bestL xs).length) = bestK xs ks n := by
  unfold bestK
  rcases Nat.le_total n (bestL xs).length with h | h
  · rw [Nat.min_eq_left h]
  · rw [Nat.min_eq_right h, List.take_of_length_le (Nat.le_refl _), List.take_of_length_le h]
theorem posL_step (xs : List Int) {k : Nat} (hk : k < xs.length) : posL xs (k + 1) = if 0 < xs[k] then posL xs k ++ [(k : Int)] else posL xs k := by
  rw [posL, List.getD_eq_getElem?_getD, List.getElem?_eq_getElem hk]; rfl
theorem keyAt_map (rs : List Reader) {q : Nat} (hq : q < rs.length) : keyAt (rs.map (·.key)) q = rs[q].key := by
  unfold keyAt
  rw [Int.toNat_natCast, List.getD_eq_getElem?_getD, List.getElem?_map, List.getElem?_eq_getElem hq]; rfl

set_option maxRecDepth 100000 in
set_option maxHeartbeats 16000000 in
theorem bestT_any (l : List Topic) (al : Option Addr) (capl : Nat) (ps : List Paper) (pa : Option Addr) (pc : Nat) (rs : List Reader) (ra : Option Addr) (rc : Nat) (bs : List Mark) (ba : Option Addr) (bc : Nat) (id : ByteArray) (n : Int) (w : World) (hE0 : Env w) (hl : SA w al l) (hP : PapersAt w pa ps) (hR : ReadersAt w ra rs) (hB : SA w ba bs)
    (hlen : l.length ≤ 1000000) (hsT : SmallT l) (hpl : ps.length ≤ 1000) (hsm : ∀ p ∈ ps, PSmall p) (hrl : rs.length ≤ 19) (hrm : ∀ r ∈ rs, RSmall r) (hbl : bs.length ≤ 1000000) (hbm : ∀ x ∈ bs, x.1.size ≤ 1000 ∧ x.2.1.size ≤ 1000) :
    Calls Tryz.prog 24 #[.slice al l.length capl, .slice pa ps.length pc, .slice ra rs.length rc, .slice ba bs.length bc, .string id, .int .i64 n] w (GivesBest (bestX l ps rs bs id n) (bestO l ps rs bs id n) w) := by
  have hb0 : Below w.heap.size w (w.alloc (.cells #[.string id] 9)) := by (repeat' (first | exact Below.refl _ _ | assumption | refine Below.setCell ?_ ?_ _ | refine below_drewN ?_ _ | refine Below.drew ?_ | refine Below.alloc ?_ ?_ _ | (with_reducible refine Below.trans ?_ (Below.mono hb ?_)) | (with_reducible refine Below.trans ?_ (Below.mono hb0 ?_)) | (with_reducible refine Below.trans ?_ (Below.mono hb1 ?_)) | (with_reducible refine Below.trans ?_ (Below.mono hb2 ?_)) | (with_reducible refine Below.trans ?_ (Below.mono hb3 ?_)) | (with_reducible refine Below.trans ?_ (Below.mono hb4 ?_)) | (with_reducible refine Below.trans ?_ (Below.mono hb5 ?_)) | (with_reducible refine Below.trans ?_ (Below.mono hb6 ?_)) | (with_reducible refine Below.trans ?_ (Below.mono hb7 ?_)) | (with_reducible refine Below.trans ?_ (Below.mono hb8 ?_)) | (with_reducible refine Below.trans ?_ (Below.mono hb9 ?_)) | (with_reducible refine Below.trans ?_ (Below.mono hb10 ?_)) | (with_reducible refine Below.trans ?_ (Below.mono hb11 ?_)) | (with_reducible refine Below.trans ?_ (Below.mono hb12 ?_)) | (with_reducible refine Below.trans ?_ (Below.mono hb13 ?_)) | (with_reducible refine Below.trans ?_ (Below.mono hb14 ?_)) | (with_reducible refine Below.trans ?_ (Below.mono hb15 ?_)) | omega | (simp; done) | (simp; omega)))
  have hBx := Box.new w 9 #[.string id]
  have HF := Lib.hid (fieldOf_any l al capl ps pa pc rs ra rc bs ba bc _ (hE0.below hb0) (hl.below hb0) (hP.below hb0) (hR.below hb0) (hB.below hb0) hlen hsT hpl hsm (by omega) hrm hbl hbm)
  have HRt := Lib.hid (fun h => field_right (l := l) (ps := ps) (rs := rs) (bs := bs) h)
  have HX1 : Hid (fieldE l ps rs bs ≠ 0 → bestX l ps rs bs id n = fieldE l ps rs bs) := fun h => by unfold bestX; rw [if_pos h]
  have HX2 : Hid (fieldE l ps rs bs = 0 → bestX l ps rs bs id n = bestE ps id n) := fun h => by unfold bestX; rw [if_neg (by simpa using h)]
  have HO1 : Hid (bestX l ps rs bs id n ≠ 0 → bestO l ps rs bs id n = []) := fun h => by unfold bestO; rw [if_neg h]
  have HO2 : Hid (bestX l ps rs bs id n = 0 → bestO l ps rs bs id n = bestK (bestR l ps rs bs id) (rs.map (·.key)) n.toNat) := fun h => by unfold bestO; rw [if_pos h]
  generalize bestX l ps rs bs id n = bx at *
  generalize bestO l ps rs bs id n = out at *
  generalize fieldE l ps rs bs = er at *
  have hP0 := hP.below hb0
  have hR0 := hR.below hb0
  clear hE0 hl hP hR hB
  go_enter Tryz.func24, Tryz.ntmps24
  go_wp2_with fail
  refine HF.out.mono ?_
  rintro e W1 ⟨hb1, hcase⟩
  have hbw1 := below_next hb0 hb1
  rcases hcase with ⟨hne, rfl⟩ | ⟨h0, xb, rfl, hX⟩
  · have hq : (er != 0) = true := by simpa using hne
    have Her := Lib.hid (HX1.out hne)
    have Hout := Lib.hid (HO1.out (by rw [Her.out]; exact hne))
    clear hne HX1 HX2 HO1 HO2
    go_wp2_with fail
    go_ret2
    exact ⟨hbw1, none, 0, by rw [Hout.out, Her.out]; rfl, .inl Hout.out⟩
  · subst h0
    obtain ⟨z1, z2, z3, z4, z5, z6⟩ := HRt.out rfl
    have hl1k := forest_len z1
    replace HX2 := Lib.hid (HX2.out rfl)
    have HRow := Lib.hid (fun (p : Paper) (hp : p ∈ ps) W (h1 : FieldAt W xb l ps pa pc rs ra rc bs) (h2 : ReadersAt W ra rs) (h3 : SA W p.a2 p.topics) => row_any l xb ps pa pc rs ra rc bs p W h1 h2 h3 hl1k (by omega) (fun r hr => ⟨hrm r hr, skills_fit z1 (readers_right z4 r hr)⟩) (hsm p hp).1 (wanted_fit z1 (want_right z3 p hp)).1 (wanted_fit z1 (want_right z3 p hp)).2 z5 (bids_nodup z5))
    have hP1 := hP0.below hb1
    have hR1 := hR0.below hb1
    have hB1 := hBx.below hb1
    have HI := Lib.hid (indexPaper_any ps pa pc 76 #[.pointer (some ⟨w.heap.size, 0, none⟩)] (fun p => decide (p.id = id)) W1 (enters_of Tryz.func76 (by kernel_rfl) rfl) hP1.1 (by omega) (fun x hx W' hb' => bestClo1_any x w.heap.size id W' ((hB1.below hb').cell 0)))
    have HC := Lib.hid (idxI_cases (fun p : Paper => decide (p.id = id)) ps)
    have HE1 : Hid (idxI (fun p : Paper => decide (p.id = id)) ps < 0 → bx = 8) := fun h => by rw [HX2.out]; unfold bestE; rw [if_pos h]
    have HE2 : Hid (¬ idxI (fun p : Paper => decide (p.id = id)) ps < 0 → bx = if n < 1 ∨ 100 < n then 1 else 0) := fun h => by rw [HX2.out]; unfold bestE; rw [if_neg h]
    have HWR : Hid (∀ k, idxI (fun p : Paper => decide (p.id = id)) ps = (k : Nat) → ∀ h : k < ps.length, bestR l ps rs bs id = rowL l bs rs ps[k]) := fun k hk h => by unfold bestR; rw [hk]; exact worths_get l ps rs bs h
    generalize idxI (fun p : Paper => decide (p.id = id)) ps = r at *
    generalize bestR l ps rs bs id = xs at *
    clear HF HRt HX1 HX2 z1 z2 z3 z4 z5 z6 hP0 hR0 hb0 hBx hB1
    go_wp2_with fail
    refine HI.out.mono ?_
    rintro e W2 ⟨r', rfl, _, hb2, hr'⟩
    replace hr' := hr'.symm
    subst hr'
    have hbw2 := below_next hbw1 hb2
    rcases HC.out with hneg | ⟨k, hk, hkl⟩
    · have hd : decide (r < 0) = true := decide_eq_true hneg
      have Her := Lib.hid (HE1.out hneg)
      have Hout := Lib.hid (HO1.out (by rw [Her.out]; decide))
      clear hneg HE1 HE2 HWR HO1 HO2
      go_wp2_with fail
      go_ret2
      exact ⟨hbw2, none, 0, by rw [Hout.out, Her.out]; rfl, .inl Hout.out⟩
    · have Hxs := Lib.hid (HWR.out k hk hkl)
      replace HE2 := Lib.hid (HE2.out (by omega))
      subst hk
      have hd : decide ((k : Int) < 0) = false := decide_eq_false (by omega)
      clear HWR HE1 HC HI
      by_cases hout : n < 1 ∨ 100 < n
      · have Her := Lib.hid (HE2.out.trans (if_pos hout))
        have Hout := Lib.hid (HO1.out (by rw [Her.out]; decide))
        have hq : (decide (n < 1) || decide (100 < n)) = true := by simpa using hout
        clear hout HO1 HO2 HE2
        go_wp2_with fail
        refine (outside_any n 1 100 _).mono ?_
        rintro e w3 ⟨rfl, rfl⟩
        rw [hq]
        go_wp2_with fail
        go_ret2
        exact ⟨hbw2, none, 0, by rw [Hout.out, Her.out]; rfl, .inl Hout.out⟩
      · have Her := Lib.hid (HE2.out.trans (if_neg hout))
        have Hout := Lib.hid (HO2.out Her.out)
        have hq : (decide (n < 1) || decide (100 < n)) = false := by simpa using hout
        have hn1 : 1 ≤ n := by omega
        have hn2 : n ≤ 100 := by omega
        clear hout HO1 HO2 HE2
        go_wp2_with fail
        refine (outside_any n 1 100 _).mono ?_
        rintro e w3 ⟨rfl, rfl⟩
        rw [hq]
        clear hq
        have hP2 := hP1.below hb2
        have hR2 := hR1.below hb2
        have hX2 := hX.below hb2
        obtain ⟨pb, poff, ha, c0, c1, c2, c3, c4⟩ := hP2.1.paper hkl
        have hrd := hP2.2 ps[k] (List.getElem_mem hkl)
        have HRk := Lib.hid (HRow.out ps[k] (List.getElem_mem hkl))
        have HLx := rowL_length l bs rs ps[k]
        have Ha := Lib.hid ha
        rw [ha]
        clear ha
        generalize ps[k] = p at *
        rw [← Hxs.out] at HRk HLx
        obtain ⟨x1, x2, x3, au, tt, a1, n1, a2, n2⟩ := p
        obtain ⟨hr1, hr2, hr3⟩ := hrd
        unfold encPaper at HRk
        simp only at c0 c1 c2 c3 c4 hr1 hr2 hr3 HRk
        replace HLx := Lib.hid HLx
        have hk1 : (0 : Int) ≤ (k : Int) := by omega
        have hk2 : (k : Int) < (ps.length : Int) := by omega
        clear hP1 hR1 hX hP2 hb1 hb2
        go_wp2_with fail
        refine (HRk.out _ hX2 hR2 hr2).mono ?_
        rintro e w3 ⟨v3, rfl, hown3, hb3⟩
        obtain ⟨sa, sc, rfl, hsa, hbl3, _⟩ := hown3.sa
        have hbw3 := below_next hbw2 hb3
        have hz3 := hbw3.size
        have hB4 := Box.new w3 22 #[.slice sa xs.length sc]
        have hbw4 : Below w.heap.size w (w3.alloc (.cells #[.slice sa xs.length sc] 22)) := by (repeat' (first | exact Below.refl _ _ | assumption | refine Below.setCell ?_ ?_ _ | refine below_drewN ?_ _ | refine Below.drew ?_ | refine Below.alloc ?_ ?_ _ | (with_reducible refine Below.trans ?_ (Below.mono hb ?_)) | (with_reducible refine Below.trans ?_ (Below.mono hb0 ?_)) | (with_reducible refine Below.trans ?_ (Below.mono hb1 ?_)) | (with_reducible refine Below.trans ?_ (Below.mono hb2 ?_)) | (with_reducible refine Below.trans ?_ (Below.mono hb3 ?_)) | (with_reducible refine Below.trans ?_ (Below.mono hb4 ?_)) | (with_reducible refine Below.trans ?_ (Below.mono hb5 ?_)) | (with_reducible refine Below.trans ?_ (Below.mono hb6 ?_)) | (with_reducible refine Below.trans ?_ (Below.mono hb7 ?_)) | (with_reducible refine Below.trans ?_ (Below.mono hb8 ?_)) | (with_reducible refine Below.trans ?_ (Below.mono hb9 ?_)) | (with_reducible refine Below.trans ?_ (Below.mono hb10 ?_)) | (with_reducible refine Below.trans ?_ (Below.mono hb11 ?_)) | (with_reducible refine Below.trans ?_ (Below.mono hb12 ?_)) | (with_reducible refine Below.trans ?_ (Below.mono hb13 ?_)) | (with_reducible refine Below.trans ?_ (Below.mono hb14 ?_)) | (with_reducible refine Below.trans ?_ (Below.mono hb15 ?_)) | omega | (simp; done) | (simp; omega)))
        have hsa4 := hsa.alloc (.cells #[.slice sa xs.length sc] 22)
        have hR4 := hR2.below (below_next hb3 (Below.alloc (Below.refl w3.heap.size w3) (Nat.le_refl _) (.cells #[.slice sa xs.length sc] 22)))
        have hz4 : w3.heap.size < (w3.alloc (.cells #[.slice sa xs.length sc] 22)).heap.size := by simp
        clear hown3 hr1 hr2 hr3 c0 c1 c2 c3 c4 HRk hX2 hR2 hsa hb3 HRow
        go_wp2_with fail
        generalize w3.alloc (.cells #[.slice sa xs.length sc] 22) = W4 at *
        go_loopg [18, 50] xs.length (fun gk v i wr => ∃ k : Nat, i = .int .i64 k ∧ k ≤ xs.length ∧ Hid (gk = xs.length - k) ∧ Own W4.heap.size 3 wr v (posL xs k) ∧ Below W4.heap.size W4 wr)
        case atStart => exact ⟨0, rfl, by omega, rfl, Own.nil _ _ _, Below.refl _ _⟩
        obtain ⟨j, rfl, hj, hgj, hown, hb⟩ := hrel
        have hzr := hb.size
        have hlp := posL_length xs j
        have hLx : xs.length ≤ 19 := by have := HLx.out; omega
        by_cases hlt : j < xs.length
        · obtain ⟨b, off, ha, c0⟩ := (hsa4.below hb).intS hlt
          have HSt := Lib.hid (posL_step xs hlt)
          have Ha := Lib.hid ha
          rw [ha]
          clear ha
          generalize xs[j] = x at *
          obtain ⟨acc2, ha2⟩ : ∃ a, posL xs (j + 1) = a := ⟨_, rfl⟩
          rw [ha2] at HSt
          have HA2 := Lib.hid ha2
          clear ha2
          generalize posL xs j = acc at *
          have hj1 : (0 : Int) ≤ (j : Int) := by omega
          have hj2 : (j : Int) < (xs.length : Int) := by omega
          by_cases hpos : 0 < x
          · have HSt2 := Lib.hid (HSt.out.trans (if_pos hpos))
            have hd2 : decide (0 < x) = true := decide_eq_true hpos
            have hown1 := hown.alloc (.cells #[.int .i64 j] 3)
            have hbo := Box.new wr 3 #[.int .i64 j]
            have hba : Below W4.heap.size W4 (wr.alloc (.cells #[.int .i64 j] 3)) := by (repeat' (first | exact Below.refl _ _ | assumption | refine Below.setCell ?_ ?_ _ | refine below_drewN ?_ _ | refine Below.drew ?_ | refine Below.alloc ?_ ?_ _ | (with_reducible refine Below.trans ?_ (Below.mono hb ?_)) | (with_reducible refine Below.trans ?_ (Below.mono hb0 ?_)) | (with_reducible refine Below.trans ?_ (Below.mono hb1 ?_)) | (with_reducible refine Below.trans ?_ (Below.mono hb2 ?_)) | (with_reducible refine Below.trans ?_ (Below.mono hb3 ?_)) | (with_reducible refine Below.trans ?_ (Below.mono hb4 ?_)) | (with_reducible refine Below.trans ?_ (Below.mono hb5 ?_)) | (with_reducible refine Below.trans ?_ (Below.mono hb6 ?_)) | (with_reducible refine Below.trans ?_ (Below.mono hb7 ?_)) | (with_reducible refine Below.trans ?_ (Below.mono hb8 ?_)) | (with_reducible refine Below.trans ?_ (Below.mono hb9 ?_)) | (with_reducible refine Below.trans ?_ (Below.mono hb10 ?_)) | (with_reducible refine Below.trans ?_ (Below.mono hb11 ?_)) | (with_reducible refine Below.trans ?_ (Below.mono hb12 ?_)) | (with_reducible refine Below.trans ?_ (Below.mono hb13 ?_)) | (with_reducible refine Below.trans ?_ (Below.mono hb14 ?_)) | (with_reducible refine Below.trans ?_ (Below.mono hb15 ?_)) | omega | (simp; done) | (simp; omega)))
            clear hpos HSt
            go_wp2_with (at_builtin; refine wpList_append_lie (α := Int) rfl _ _ 22 rfl 3 8 (.int .i64 0) Tryz.underlying22 Tryz.infoIntR rfl _ acc rfl hown1 (j : Int) _ rfl hbo (by omega) (by omega) (by simp; omega) ?_; intro g9 cap9 w5 hown5 hg5 hat5)
            have hb5 := hba.grown hg5 (by simp; omega) (fun j hj => (hown.lt j hj).1)
            rw [← HSt2.out] at hown5
            rw [← Ha.out]
            (try go_wp2_with fail)
            go_roundg (xs.length - (j + 1))
            case measure => have := hgj.out; omega
            case rel => exact ⟨j + 1, by go_num, by omega, rfl, by rw [HA2.out]; exact hown5, hb5⟩
          · have HSt2 := Lib.hid (HSt.out.trans (if_neg hpos))
            have hd2 : decide (0 < x) = false := decide_eq_false hpos
            clear hpos HSt
            go_wp2_with fail
            rw [← Ha.out]
            go_roundg (xs.length - (j + 1))
            case measure => have := hgj.out; omega
            case rel => exact ⟨j + 1, by go_num, by omega, rfl, by rw [HA2.out, HSt2.out]; exact hown, hb⟩
        · obtain rfl : j = xs.length := by omega
          have hlt := hown.lt
          have hbxr := hB4.below hb
          have hsar := hsa4.below hb
          have hR5 := hR4.below hb
          have hbw5 := below_next hbw4 hb
          have HSS := Lib.hid (sortStableI_any W4.heap.size (posL xs xs.length) _ 78 #[.pointer (some ⟨w3.heap.size, 0, none⟩)] (cmpRow xs) wr (enters_of Tryz.func78 (by kernel_rfl) rfl)
            (fun gs hgs W x y hx hy hk => by
              have hl1 := hlt gs hgs
              obtain ⟨i, rfl, hi, _⟩ := (posL_mem xs x _).1 hx
              obtain ⟨q, rfl, hq, _⟩ := (posL_mem xs y _).1 hy
              exact bestClo2_any xs sa sc w3.heap.size i q W ((hbxr.kp hk (by omega)).cell 0) (hsar.kp hk (fun x hx _ e => by have := hbl3 x hx; omega)) hi hq (by omega)) hown (by omega))
          have HBL := Lib.hid (show isortI (cmpRow xs) (posL xs xs.length) = bestL xs from rfl)
          rw [HBL.out] at HSS
          have HLb := bestL_length xs
          have HMb := Lib.hid (bestL_mem xs)
          have HSn := Lib.hid (fun k h => bestK_snoc xs (rs.map (·.key)) (k := k) h)
          have HKl := Lib.hid (fun k => bestK_length xs (rs.map (·.key)) k)
          have HKm := Lib.hid (bestK_min xs (rs.map (·.key)) n.toNat)
          have HK0 := Lib.hid (show bestK xs (rs.map (·.key)) 0 = [] from rfl)
          have HKA := Lib.hid (fun q hq => keyAt_map rs (q := q) hq)
          obtain ⟨oa, oc, rfl, -, -, hoc⟩ := hown.sa
          have hpl : (posL xs xs.length).length = (bestL xs).length := by rw [← HBL.out, isortI_length]
          rw [hpl] at HSS hoc ⊢
          clear hpl HBL hown hsar hbxr hlt hlp
          go_wp2_with fail
          refine HSS.out.mono ?_
          rintro e W6 ⟨rfl, hown6, hk6⟩
          obtain ⟨oa', oc', he', hoa, -, -⟩ := hown6.sa
          cases he'
          have hb46 : Below W4.heap.size W4 W6 := belowKp hb hk6 (fun j hj => (hown6.lt j hj).1) hzr
          have hb6 := below_next hbw4 hb46
          have hR6 := hR4.below hb46
          generalize bestL xs = bl at *
          obtain ⟨m, hm⟩ : ∃ m, m = min n.toNat bl.length := ⟨_, rfl⟩
          rw [← hm] at HKm
          have hmin : (if (bl.length : Int) < n then (bl.length : Int) else n) = (m : Int) := by split <;> omega
          have hm1 : m ≤ bl.length := by omega
          have hm2 : m ≤ oc := by omega
          have hm3 : (0 : Int) ≤ (m : Int) := by omega
          have hm4 : (m : Int) ≤ (oc : Int) := by omega
          clear hm hb hk6 hzr hbw5 hR5 HSS hb46
          clear wr
          go_wp2_with fail
          go_loopg [21, 72] m (fun gk v i wx => ∃ k : Nat, i = .int .i64 k ∧ k ≤ m ∧ Hid (gk = m - k) ∧ Own W6.heap.size 9 wx v (bestK xs (rs.map (·.key)) k) ∧ Below W6.heap.size W6 wx)
          case atStart => exact ⟨0, rfl, by omega, rfl, by rw [HK0.out]; exact Own.nil _ _ _, Below.refl _ _⟩
          obtain ⟨i, rfl, hi, hgi, hown, hbx⟩ := hrel
          have hb7 := below_next hb6 hbx
          by_cases hlt : i < m
          · have hil : i < bl.length := by omega
            have hmem := (HMb.out _).1 (List.getElem_mem hil)
            have HSi := Lib.hid (HSn.out i hil)
            obtain ⟨cb, coff, hca, c0⟩ := (hoa.below hbx).intS hil
            have Hc := Lib.hid hca
            rw [hca]
            clear hca
            generalize bl[i] = bi at *
            obtain ⟨q, rfl, hqx, _⟩ := hmem
            have hql : q < rs.length := by have := HLx.out; omega
            have HKA := HKA.out q hql
            rw [HKA] at HSi
            obtain ⟨qb, qoff, hta, d0, d1⟩ := (hR6.below hbx).1.reader hql
            have Ha := Lib.hid hta
            rw [hta]
            clear hta HKA
            generalize rs[q] = r at *
            obtain ⟨y1, y2, y3, y4⟩ := r
            simp only at d0 d1 HSi
            have hkl : (bestK xs (rs.map (·.key)) i).length ≤ 1000 := by have := HKl.out i; have := HLx.out; omega
            obtain ⟨acc2, ha2⟩ : ∃ a, bestK xs (rs.map (·.key)) (i + 1) = a := ⟨_, rfl⟩
            rw [ha2] at HSi
            have HA2 := Lib.hid ha2
            clear ha2
            generalize bestK xs (rs.map (·.key)) i = acc at *
            have hq1 : (0 : Int) ≤ (q : Int) := by omega
            have hq2 : (q : Int) < (rs.length : Int) := by omega
            have hi1 : (0 : Int) ≤ (i : Int) := by omega
            have hi2 : (i : Int) < (m : Int) := by omega
            have hzr := hbx.size
            have hown1 := hown.alloc (.cells #[.string y1] 9)
            have hbo := Box.new wr 9 #[.string y1]
            have hbA : Below W6.heap.size W6 (wr.alloc (.cells #[.string y1] 9)) := by (repeat' (first | exact Below.refl _ _ | assumption | refine Below.setCell ?_ ?_ _ | refine below_drewN ?_ _ | refine Below.drew ?_ | refine Below.alloc ?_ ?_ _ | (with_reducible refine Below.trans ?_ (Below.mono hb ?_)) | (with_reducible refine Below.trans ?_ (Below.mono hb0 ?_)) | (with_reducible refine Below.trans ?_ (Below.mono hb1 ?_)) | (with_reducible refine Below.trans ?_ (Below.mono hb2 ?_)) | (with_reducible refine Below.trans ?_ (Below.mono hb3 ?_)) | (with_reducible refine Below.trans ?_ (Below.mono hb4 ?_)) | (with_reducible refine Below.trans ?_ (Below.mono hb5 ?_)) | (with_reducible refine Below.trans ?_ (Below.mono hb6 ?_)) | (with_reducible refine Below.trans ?_ (Below.mono hb7 ?_)) | (with_reducible refine Below.trans ?_ (Below.mono hb8 ?_)) | (with_reducible refine Below.trans ?_ (Below.mono hb9 ?_)) | (with_reducible refine Below.trans ?_ (Below.mono hb10 ?_)) | (with_reducible refine Below.trans ?_ (Below.mono hb11 ?_)) | (with_reducible refine Below.trans ?_ (Below.mono hb12 ?_)) | (with_reducible refine Below.trans ?_ (Below.mono hb13 ?_)) | (with_reducible refine Below.trans ?_ (Below.mono hb14 ?_)) | (with_reducible refine Below.trans ?_ (Below.mono hb15 ?_)) | omega | (simp; done) | (simp; omega)))
            have Hol := Lib.hid hown.lt
            go_wp2_with (at_builtin; refine wpList_append_lie (α := ByteArray) rfl _ _ 52 rfl 9 16 (.string ⟨#[]⟩) Tryz.underlying52 Tryz.infoString rfl _ acc rfl hown1 y1 _ rfl hbo (by omega) (by omega) (by simp; omega) ?_; intro g9 cap9 w5 hown5 hg5 hat5)
            have hb5 := hbA.grown hg5 (by simp; omega) (fun j hj => (Hol.out j hj).1)
            rw [← HSi.out] at hown5
            rw [← Ha.out, ← Hc.out]
            (try go_wp2_with fail)
            go_roundg (m - (i + 1))
            case measure => have := hgi.out; omega
            case rel => exact ⟨i + 1, by go_num, by omega, rfl, by rw [HA2.out]; exact hown5, hb5⟩
          · obtain rfl : i = m := by omega
            rw [HKm.out] at hown
            have Hfin := Lib.hid Hout.out
            obtain ⟨ea, ec, rfl, hea, _, _⟩ := hown.sa
            clear hown
            go_wp2_with fail
            go_ret2
            exact ⟨hb7, ea, ec, by rw [Hfin.out, Her.out] <;> rfl, by rw [Hfin.out]; exact hea⟩
end Go.Proofs.YtpgofjjcmldhpaaGreatDoor

/-! BestOf of the reference. -/
namespace Go.Proofs.YtpgofjjcmldhpaaGreatDoor
open Go.RowKit
set_option linter.unusedVariables false
set_option linter.unusedSimpArgs false

theorem pick_no {xs : List Int} {e : Nat → Bool} {j : Nat} (h : e j = false) : pickN xs e (j + 1) = pickN xs e j := by
  rw [pickN, if_neg (by simp [h])]
theorem pick_new {xs : List Int} {e : Nat → Bool} {j : Nat} (h : e j = true) (h2 : pickN xs e j < 0) : pickN xs e (j + 1) = j := by
  rw [pickN, if_pos ⟨h, .inl h2⟩]
theorem pick_more {xs : List Int} {e : Nat → Bool} {j q : Nat} (h : e j = true) (hq : pickN xs e j = q) (hql : q < xs.length) (hj : j < xs.length) (h2 : xs[q] < xs[j]) : pickN xs e (j + 1) = j := by
  rw [pickN, if_pos ⟨h, .inr (by rw [hq, Int.toNat_natCast, List.getD_eq_getElem?_getD, List.getD_eq_getElem?_getD, List.getElem?_eq_getElem hql, List.getElem?_eq_getElem hj]; exact h2)⟩]
theorem pick_less {xs : List Int} {e : Nat → Bool} {j q : Nat} (h : e j = true) (hq : pickN xs e j = q) (hql : q < xs.length) (hj : j < xs.length) (h2 : ¬ xs[q] < xs[j]) : pickN xs e (j + 1) = pickN xs e j := by
  rw [pickN, if_neg]
  rintro ⟨_, h3 | h3⟩
  · omega
  · rw [hq, Int.toNat_natCast, List.getD_eq_getElem?_getD, List.getD_eq_getElem?_getD, List.getElem?_eq_getElem hql, List.getElem?_eq_getElem hj] at h3
    exact h2 h3
theorem may_at (xs : List Int) (rs : List Reader) (out : List ByteArray) {j : Nat} (hj : j < xs.length) (hr : j < rs.length) : mayT xs (rs.map (·.key)) out j = (decide (0 < xs[j]) && !(out.any (fun y => decide (y = rs[j].key)))) := by
  unfold mayT
  rw [keyAt_map rs hr, List.getD_eq_getElem?_getD, List.getElem?_eq_getElem hj]; rfl

set_option maxRecDepth 100000 in
set_option maxHeartbeats 16000000 in
theorem bestOf_any (l : List Topic) (al : Option Addr) (capl : Nat) (ps : List Paper) (pa : Option Addr) (pc : Nat) (rs : List Reader) (ra : Option Addr) (rc : Nat) (bs : List Mark) (ba : Option Addr) (bc : Nat) (id : ByteArray) (n : Int) (w : World) (hl : SA w al l) (hP : PapersAt w pa ps) (hR : ReadersAt w ra rs) (hB : SA w ba bs)
    (hpl : ps.length ≤ 1000) (hrl : rs.length ≤ 19) (hrm : ∀ r ∈ rs, RSmall r) (hbl : bs.length ≤ 1000000) (hz : fieldE l ps rs bs = 0) (hnd : (rs.map (·.key)).Nodup) :
    Calls Tryz.prog 26 #[.slice al l.length capl, .slice pa ps.length pc, .slice ra rs.length rc, .slice ba bs.length bc, .string id, .int .i64 n] w (GivesBest (bestX l ps rs bs id n) (bestO l ps rs bs id n) w) := by
  have hb0 : Below w.heap.size w (w.alloc (.cells #[.string id] 9)) := by (repeat' (first | exact Below.refl _ _ | assumption | refine Below.setCell ?_ ?_ _ | refine below_drewN ?_ _ | refine Below.drew ?_ | refine Below.alloc ?_ ?_ _ | (with_reducible refine Below.trans ?_ (Below.mono hb ?_)) | (with_reducible refine Below.trans ?_ (Below.mono hb0 ?_)) | (with_reducible refine Below.trans ?_ (Below.mono hb1 ?_)) | (with_reducible refine Below.trans ?_ (Below.mono hb2 ?_)) | (with_reducible refine Below.trans ?_ (Below.mono hb3 ?_)) | (with_reducible refine Below.trans ?_ (Below.mono hb4 ?_)) | (with_reducible refine Below.trans ?_ (Below.mono hb5 ?_)) | (with_reducible refine Below.trans ?_ (Below.mono hb6 ?_)) | (with_reducible refine Below.trans ?_ (Below.mono hb7 ?_)) | (with_reducible refine Below.trans ?_ (Below.mono hb8 ?_)) | (with_reducible refine Below.trans ?_ (Below.mono hb9 ?_)) | (with_reducible refine Below.trans ?_ (Below.mono hb10 ?_)) | (with_reducible refine Below.trans ?_ (Below.mono hb11 ?_)) | (with_reducible refine Below.trans ?_ (Below.mono hb12 ?_)) | (with_reducible refine Below.trans ?_ (Below.mono hb13 ?_)) | (with_reducible refine Below.trans ?_ (Below.mono hb14 ?_)) | (with_reducible refine Below.trans ?_ (Below.mono hb15 ?_)) | omega | (simp; done) | (simp; omega)))
  have hBx := Box.new w 9 #[.string id]
  have hP0 := hP.below hb0
  have HW := Lib.hid (fun W h1 h2 h3 h4 => worthsOf_any l al capl ps pa pc rs ra rc bs ba bc W h1 h2 h3 h4 hpl (by omega) hrm hbl hz)
  have HI := Lib.hid (indexPaper_any ps pa pc 81 #[.pointer (some ⟨w.heap.size, 0, none⟩)] (fun p => decide (p.id = id)) _ (enters_of Tryz.func81 (by kernel_rfl) rfl) hP0.1 (by omega) (fun x hx W' hb' => bestOfClo1_any x w.heap.size id W' ((hBx.below hb').cell 0)))
  have HC := Lib.hid (idxI_cases (fun p : Paper => decide (p.id = id)) ps)
  have HX2 : Hid (bestX l ps rs bs id n = bestE ps id n) := by show _ = _; unfold bestX; rw [if_neg (by simpa using hz)]
  have HO1 : Hid (bestX l ps rs bs id n ≠ 0 → bestO l ps rs bs id n = []) := fun h => by unfold bestO; rw [if_neg h]
  have HO2 : Hid (bestX l ps rs bs id n = 0 → bestO l ps rs bs id n = bestK (bestR l ps rs bs id) (rs.map (·.key)) n.toNat) := fun h => by unfold bestO; rw [if_pos h]
  have HE1 : Hid (idxI (fun p : Paper => decide (p.id = id)) ps < 0 → bestX l ps rs bs id n = 8) := fun h => by rw [HX2.out]; unfold bestE; rw [if_pos h]
  have HE2 : Hid (¬ idxI (fun p : Paper => decide (p.id = id)) ps < 0 → bestX l ps rs bs id n = if n < 1 ∨ 100 < n then 1 else 0) := fun h => by rw [HX2.out]; unfold bestE; rw [if_neg h]
  have HWR : Hid (∀ k, idxI (fun p : Paper => decide (p.id = id)) ps = (k : Nat) → (worthsL l ps rs bs)[k]?.getD [] = bestR l ps rs bs id) := fun k hk => by unfold bestR; rw [hk]; rw [Int.toNat_natCast, List.getD_eq_getElem?_getD]
  have HWL : Hid (∀ k, idxI (fun p : Paper => decide (p.id = id)) ps = (k : Nat) → k < ps.length → (bestR l ps rs bs id).length = rs.length) := fun k hk h => by unfold bestR; rw [hk, Int.toNat_natCast, worths_get l ps rs bs h, rowL_length]
  have HWS : Hid ((worthsL l ps rs bs).length = ps.length) := by show _ = _; simp [worthsL]
  generalize bestX l ps rs bs id n = bx at *
  generalize bestO l ps rs bs id n = out at *
  generalize idxI (fun p : Paper => decide (p.id = id)) ps = r at *
  generalize bestR l ps rs bs id = xs at *
  generalize worthsL l ps rs bs = ws at *
  have hl0 := hl.below hb0
  have hR0 := hR.below hb0
  have hB0 := hB.below hb0
  clear hl hP hR hB hz HX2 hBx
  go_enter Tryz.func26, Tryz.ntmps26
  go_wp2_with fail
  refine HI.out.mono ?_
  rintro e W2 ⟨r', rfl, _, hb2, hr'⟩
  replace hr' := hr'.symm
  subst hr'
  have hbw2 := below_next hb0 hb2
  rcases HC.out with hneg | ⟨k, hk, hkl⟩
  · have hd : decide (r < 0) = true := decide_eq_true hneg
    have Her := Lib.hid (HE1.out hneg)
    have Hout := Lib.hid (HO1.out (by rw [Her.out]; decide))
    clear hneg HE1 HE2 HWR HO1 HO2
    go_wp2_with fail
    go_ret2
    exact ⟨hbw2, none, 0, by rw [Hout.out, Her.out]; rfl, .inl Hout.out⟩
  · have Hxs := Lib.hid (HWR.out k hk)
    have HLx := Lib.hid (HWL.out k hk hkl)
    replace HE2 := Lib.hid (HE2.out (by omega))
    subst hk
    have hd : decide ((k : Int) < 0) = false := decide_eq_false (by omega)
    clear HWR HE1 HC HI HWL
    by_cases hlo : n < 1
    · have Her := Lib.hid (HE2.out.trans (if_pos (.inl hlo)))
      have Hout := Lib.hid (HO1.out (by rw [Her.out]; decide))
      have hd1 : decide (n < 1) = true := decide_eq_true hlo
      clear hlo HO1 HO2 HE2
      go_wp2_with fail
      go_ret2
      exact ⟨hbw2, none, 0, by rw [Hout.out, Her.out]; rfl, .inl Hout.out⟩
    by_cases hhi : 100 < n
    · have Her := Lib.hid (HE2.out.trans (if_pos (.inr hhi)))
      have Hout := Lib.hid (HO1.out (by rw [Her.out]; decide))
      have hd1 : decide (n < 1) = false := decide_eq_false hlo
      have hd2 : decide (100 < n) = true := decide_eq_true hhi
      clear hlo hhi HO1 HO2 HE2
      go_wp2_with fail
      go_ret2
      exact ⟨hbw2, none, 0, by rw [Hout.out, Her.out]; rfl, .inl Hout.out⟩
    have Her := Lib.hid (HE2.out.trans (if_neg (by omega)))
    have Hout := Lib.hid (HO2.out Her.out)
    have hd1 : decide (n < 1) = false := decide_eq_false hlo
    have hd2 : decide (100 < n) = false := decide_eq_false hhi
    obtain ⟨m, rfl⟩ : ∃ m : Nat, n = m := ⟨n.toNat, by omega⟩
    rw [Int.toNat_natCast] at Hout
    have hm1 : 1 ≤ m := by omega
    have hm2 : m ≤ 100 := by omega
    clear hlo hhi HO1 HO2 HE2
    have HSn := Lib.hid (fun k h => bestK_snoc xs (rs.map (·.key)) (k := k) h)
    have HAll := Lib.hid (fun k h n hn => bestK_all xs (rs.map (·.key)) (k := k) h (n := n) hn)
    have HKl := Lib.hid (fun k => bestK_length xs (rs.map (·.key)) k)
    have HPb := Lib.hid (fun k => pick_best xs (rs.map (·.key)) (by rw [List.length_map]; exact HLx.out.symm) hnd k)
    have HK0 := Lib.hid (show bestK xs (rs.map (·.key)) 0 = [] from rfl)
    have HMb := Lib.hid (bestL_mem xs)
    have HLb := bestL_length xs
    have hl2 := hl0.below hb2
    have hP2 := hP0.below hb2
    have hR2 := hR0.below hb2
    have hB2 := hB0.below hb2
    have hk1 : (0 : Int) ≤ (k : Int) := by omega
    clear hl0 hP0 hR0 hB0 hb2 hnd
    go_wp2_with fail
    refine (HW.out _ hl2 hP2 hR2 hB2).mono ?_
    rintro e W3 ⟨v, rfl, ⟨rows, hown, hmap, hin⟩, hb3⟩
    have hbw3 := below_next hbw2 hb3
    have hR3 := hR2.below hb3
    have hrl2 : rows.length = ps.length := by have := congrArg List.length hmap; rw [List.length_map, HWS.out] at this; exact this
    obtain ⟨va, vc, rfl, hva, _, _⟩ := hown.sa
    have hkr : k < rows.length := by omega
    obtain ⟨b, off, ha, c0⟩ := hva.irow hkr
    have hrow := hin rows[k] (List.getElem_mem hkr)
    have hxr : rows[k].xs = xs := by
      rw [← Hxs.out, ← hmap, List.getElem?_map, List.getElem?_eq_getElem hkr]; rfl
    generalize rows[k] = row at *
    obtain ⟨rxs, sa, sc⟩ := row
    simp only at hxr c0
    subst hxr
    obtain ⟨hsa, _, _⟩ := hrow
    simp only at hsa
    rw [ha]
    have hk2 : (k : Int) < (rows.length : Int) := by omega
    clear hmap hin hva ha hl2 hP2 hR2 hB2 HW hb3 hown Hxs HWS
    go_wp2_with fail
    go_loopg [16] m (fun gk v wr => ∃ k : Nat, k ≤ m ∧ k ≤ (bestL rxs).length ∧ Hid (gk = m - k) ∧ Own W3.heap.size 9 wr v (bestK rxs (rs.map (·.key)) k) ∧ Below W3.heap.size W3 wr)
    case atStart => exact ⟨0, by omega, by omega, rfl, by rw [HK0.out]; exact Own.nil _ _ _, Below.refl _ _⟩
    obtain ⟨i, hi1, hi2, hgi, hown, hb⟩ := hrel
    have hbwr := below_next hbw3 hb
    have hkl3 := HKl.out i
    rw [Nat.min_eq_left hi2] at hkl3
    obtain ⟨oa, oc, rfl, hoa, _, _⟩ := hown.sa
    rw [hkl3]
    have hown' := hown
    rw [hkl3] at hown'
    by_cases hlt : i < m
    · have HPk := Lib.hid (HPb.out i)
      have HSi := Lib.hid (HSn.out i)
      have HAi := Lib.hid (fun h => HAll.out i h m hi1)
      rw [HLx.out] at HPk
      have HMt := Lib.hid (fun j hj hr => may_at rxs rs (bestK rxs (rs.map (·.key)) i) (j := j) hj hr)
      obtain ⟨ot, hot⟩ : ∃ o, bestK rxs (rs.map (·.key)) i = o := ⟨_, rfl⟩
      rw [hot] at HPk HMt HSi HAi hoa hown hown' hkl3
      clear hot
      have HP1 := Lib.hid (fun j => pick_no (xs := rxs) (e := mayT rxs (rs.map (·.key)) ot) (j := j))
      have HP2 := Lib.hid (fun j => pick_new (xs := rxs) (e := mayT rxs (rs.map (·.key)) ot) (j := j))
      have HP3 := Lib.hid (fun j q => pick_more (xs := rxs) (e := mayT rxs (rs.map (·.key)) ot) (j := j) (q := q))
      have HP4 := Lib.hid (fun j q => pick_less (xs := rxs) (e := mayT rxs (rs.map (·.key)) ot) (j := j) (q := q))
      have HPl := Lib.hid (fun j => pickN_low rxs (mayT rxs (rs.map (·.key)) ot) j)
      have HP0 := Lib.hid (show pickN rxs (mayT rxs (rs.map (·.key)) ot) 0 = -1 from rfl)
      generalize mayT rxs (rs.map (·.key)) ot = may at *
      have hd3 : decide ((i : Int) < (m : Int)) = true := by simp; omega
      have hR4 := hR3.below hb
      have hsa4 := hsa.below hb
      have Hkl3 := Lib.hid hkl3
      clear hkl3
      go_wp2_with fail
      rename World => wo
      go_loopg [17, 45] rs.length (fun gj v i wx => ∃ j : Nat, i = .int .i64 j ∧ j ≤ rs.length ∧ Hid (gj = rs.length - j) ∧ v = .int .i64 (pickN rxs may j) ∧ Below wo.heap.size wo wx)
      case atStart => exact ⟨0, rfl, by omega, rfl, by rw [HP0.out], Below.refl _ _⟩
      obtain ⟨j, rfl, hj, hgj, rfl, hbx⟩ := hrel
      have hbD0 := below_next hb hbx
      have hzx := hbx.size
      by_cases hjl : j < rs.length
      · obtain ⟨qb, qoff, hta, d0, d1⟩ := (hR4.below hbx).1.reader hjl
        have hjx : j < rxs.length := by rw [HLx.out]; exact hjl
        obtain ⟨rb, roff, hsb, e0⟩ := (hsa4.below hbx).intS hjx
        have HMj := Lib.hid (HMt.out j hjx hjl)
        have HP1j := Lib.hid (HP1.out j)
        have HP2j := Lib.hid (HP2.out j)
        have HP3j := Lib.hid (fun q h1 h2 h3 h4 => HP3.out j q h1 h2 h3 hjx h4)
        have HP4j := Lib.hid (fun q h1 h2 h3 h4 => HP4.out j q h1 h2 h3 hjx h4)
        obtain ⟨hp1, hp2⟩ := HPl.out j
        have Hia := Lib.hid (fun q (hq : q < rxs.length) => (hsa4.below hbx).intS hq)
        have Ha := Lib.hid hta
        have Hb := Lib.hid hsb
        rw [hta, hsb]
        clear hta
        generalize rs[j] = r at *
        obtain ⟨y1, y2, y3, y4⟩ := r
        simp only at d0 d1 HMj
        have hbD : Below wo.heap.size wo (wr.alloc (.cells #[.string y1, .slice y3 y2.length y4] 92)) := by (repeat' (first | exact Below.refl _ _ | assumption | refine Below.setCell ?_ ?_ _ | refine below_drewN ?_ _ | refine Below.drew ?_ | refine Below.alloc ?_ ?_ _ | (with_reducible refine Below.trans ?_ (Below.mono hb ?_)) | (with_reducible refine Below.trans ?_ (Below.mono hb0 ?_)) | (with_reducible refine Below.trans ?_ (Below.mono hb1 ?_)) | (with_reducible refine Below.trans ?_ (Below.mono hb2 ?_)) | (with_reducible refine Below.trans ?_ (Below.mono hb3 ?_)) | (with_reducible refine Below.trans ?_ (Below.mono hb4 ?_)) | (with_reducible refine Below.trans ?_ (Below.mono hb5 ?_)) | (with_reducible refine Below.trans ?_ (Below.mono hb6 ?_)) | (with_reducible refine Below.trans ?_ (Below.mono hb7 ?_)) | (with_reducible refine Below.trans ?_ (Below.mono hb8 ?_)) | (with_reducible refine Below.trans ?_ (Below.mono hb9 ?_)) | (with_reducible refine Below.trans ?_ (Below.mono hb10 ?_)) | (with_reducible refine Below.trans ?_ (Below.mono hb11 ?_)) | (with_reducible refine Below.trans ?_ (Below.mono hb12 ?_)) | (with_reducible refine Below.trans ?_ (Below.mono hb13 ?_)) | (with_reducible refine Below.trans ?_ (Below.mono hb14 ?_)) | (with_reducible refine Below.trans ?_ (Below.mono hb15 ?_)) | omega | (simp; done) | (simp; omega)))
        have hbE : Below wr.heap.size wr (wr.alloc (.cells #[.string y1, .slice y3 y2.length y4] 92)) := by (repeat' (first | exact Below.refl _ _ | assumption | refine Below.setCell ?_ ?_ _ | refine below_drewN ?_ _ | refine Below.drew ?_ | refine Below.alloc ?_ ?_ _ | (with_reducible refine Below.trans ?_ (Below.mono hb ?_)) | (with_reducible refine Below.trans ?_ (Below.mono hb0 ?_)) | (with_reducible refine Below.trans ?_ (Below.mono hb1 ?_)) | (with_reducible refine Below.trans ?_ (Below.mono hb2 ?_)) | (with_reducible refine Below.trans ?_ (Below.mono hb3 ?_)) | (with_reducible refine Below.trans ?_ (Below.mono hb4 ?_)) | (with_reducible refine Below.trans ?_ (Below.mono hb5 ?_)) | (with_reducible refine Below.trans ?_ (Below.mono hb6 ?_)) | (with_reducible refine Below.trans ?_ (Below.mono hb7 ?_)) | (with_reducible refine Below.trans ?_ (Below.mono hb8 ?_)) | (with_reducible refine Below.trans ?_ (Below.mono hb9 ?_)) | (with_reducible refine Below.trans ?_ (Below.mono hb10 ?_)) | (with_reducible refine Below.trans ?_ (Below.mono hb11 ?_)) | (with_reducible refine Below.trans ?_ (Below.mono hb12 ?_)) | (with_reducible refine Below.trans ?_ (Below.mono hb13 ?_)) | (with_reducible refine Below.trans ?_ (Below.mono hb14 ?_)) | (with_reducible refine Below.trans ?_ (Below.mono hb15 ?_)) | omega | (simp; done) | (simp; omega)))
        have hBr := (Box.new wr 92 #[.string y1, .slice y3 y2.length y4]).cell 0
        have e1 := cell_later hbE e0
        have HCn := Lib.hid (fun W (h : SA W oa ot) => contains_any ot oa oc y1 W h (by have := Hkl3.out; omega))
        rw [Hkl3.out] at HCn
        have hoD := ((hoa.below hbD).below (Below.refl _ _).drew)
        have hj1 : (0 : Int) ≤ (j : Int) := by omega
        have hj2 : (j : Int) < (rs.length : Int) := by omega
        have hj3 : (j : Int) < (rxs.length : Int) := by omega
        obtain ⟨pk, hpk⟩ : ∃ p, pickN rxs may j = p := ⟨_, rfl⟩
        rw [hpk] at HP1j HP2j HP3j HP4j hp1 hp2 ⊢
        clear hpk
        by_cases hpos : 0 < rxs[j]
        · cases hc : ot.any (fun y => decide (y = y1))
          · rw [hc] at HMj HCn
            have Hmay : Hid (may j = true) := by show _ = _; rw [HMj.out, decide_eq_true hpos]; rfl
            by_cases hneg : pk < 0
            · have HPn := Lib.hid (HP2j.out Hmay.out hneg)
              have hd4 : decide (0 < rxs[j]) = true := decide_eq_true hpos
              have hd5 : decide (pk < 0) = true := decide_eq_true hneg
              generalize rxs[j] = x at *
              clear hpos hneg HP1j HP2j HP3j HP4j Hia hc
              go_upto_region 13 with (fail)
              refine wp_region_held_drew (S := (fun wx => wx.cell? ⟨rb, roff + j, none⟩ = some (.int .i64 x) ∧ wx.cell? ⟨wr.heap.size, 0, none⟩ = some (.string y1))) (by kernel_rfl) ?hS (fun hHeld => ?_)
              case hS => exact ⟨e1, hBr⟩
              refine rtake (i := 0) (d := (some 50)) (v := ?_) rfl (by kernel_rfl) (by kernel_rfl) (by kernel_rfl) (by kernel_rfl) (fun _ _ _ h => h) (by kernel_rfl) (by assumption) ?_ ?_
              rotate_left 1
              · (intro wI hSI; (try dsimp only at hSI); go_simp; (try with_reducible rfl))
              simp only [Act.put, List.setIfInBounds_toArray, List.set_cons_zero, List.set_cons_succ]
              refine rtake (i := 1) (d := (some 51)) (v := ?_) rfl (by kernel_rfl) (by kernel_rfl) (by kernel_rfl) (by kernel_rfl) (fun _ _ _ h => h) (by kernel_rfl) (by assumption) ?_ ?_
              rotate_left 1
              · (intro wI hSI; (try dsimp only at hSI); go_simp; (try with_reducible rfl))
              simp only [Act.put, List.setIfInBounds_toArray, List.set_cons_zero, List.set_cons_succ]
              refine rtake (i := 2) (d := (some 52)) (v := ?_) rfl (by kernel_rfl) (by kernel_rfl) (by kernel_rfl) (by kernel_rfl) (fun _ _ _ h => h) (by kernel_rfl) (by assumption) ?_ ?_
              rotate_left 1
              · (intro wI hSI; (try dsimp only at hSI); go_simp; (try with_reducible rfl))
              simp only [Act.put, List.setIfInBounds_toArray, List.set_cons_zero, List.set_cons_succ]
              refine rtake (i := 3) (d := (some 53)) (v := ?_) rfl (by kernel_rfl) (by kernel_rfl) (by kernel_rfl) (by kernel_rfl) (fun _ _ _ h => h) (by kernel_rfl) (by assumption) ?_ ?_
              rotate_left 1
              · (intro wI hSI; (try dsimp only at hSI); go_simp; (try with_reducible rfl))
              simp only [Act.put, List.setIfInBounds_toArray, List.set_cons_zero, List.set_cons_succ]
              refine rtake (i := 4) (d := (some 54)) (v := ?_) rfl (by kernel_rfl) (by kernel_rfl) (by kernel_rfl) (by kernel_rfl) (fun _ _ _ h => h) (by kernel_rfl) (by assumption) ?_ ?_
              rotate_left 1
              · (intro wI hSI; (try dsimp only at hSI); go_simp; (try with_reducible rfl))
              simp only [Act.put, List.setIfInBounds_toArray, List.set_cons_zero, List.set_cons_succ]
              refine rtake (i := 5) (d := (some 55)) (v := ?_) rfl (by kernel_rfl) (by kernel_rfl) (by kernel_rfl) (by kernel_rfl) (fun _ _ _ h => h) (by kernel_rfl) (by assumption) ?_ ?_
              rotate_left 1
              · (intro wI hSI; (try dsimp only at hSI); go_simp; (try with_reducible rfl))
              simp only [Act.put, List.setIfInBounds_toArray, List.set_cons_zero, List.set_cons_succ]
              refine rtake (i := 6) (d := (some 56)) (v := ?_) rfl (by kernel_rfl) (by kernel_rfl) (by kernel_rfl) (by kernel_rfl) (fun _ _ _ h => h) (by kernel_rfl) (by assumption) ?_ ?_
              rotate_left 1
              · (intro wI hSI; (try dsimp only at hSI); go_simp; (try with_reducible rfl))
              simp only [Act.put, List.setIfInBounds_toArray, List.set_cons_zero, List.set_cons_succ]
              refine rtake (i := 7) (d := (some 57)) (v := ?_) rfl (by kernel_rfl) (by kernel_rfl) (by kernel_rfl) (by kernel_rfl) (fun _ _ _ h => h) (by kernel_rfl) (by assumption) ?_ ?_
              rotate_left 1
              · (intro wI hSI; (try dsimp only at hSI); go_simp; (try with_reducible rfl))
              simp only [Act.put, List.setIfInBounds_toArray, List.set_cons_zero, List.set_cons_succ]
              refine rtake (i := 8) (d := (some 58)) (v := ?_) rfl (by kernel_rfl) (by kernel_rfl) (by kernel_rfl) (by kernel_rfl) (fun _ _ _ h => h) (by kernel_rfl) (by assumption) ?_ ?_
              rotate_left 1
              · (intro wI hSI; (try dsimp only at hSI); go_simp; (try with_reducible rfl))
              simp only [Act.put, List.setIfInBounds_toArray, List.set_cons_zero, List.set_cons_succ]
              refine rcall (i := 9) (d := (some 59)) (by kernel_rfl) rfl (by kernel_rfl) (fun K hK => ?_)
              go_simp
              go_at_call 59; refine (HCn.out _ hoD).mono ?_; rintro e w3 ⟨rfl, rfl⟩
              refine hK.out _ _ ?hS (fun hHeld => ?_)
              case hS => exact hHeld
              clear hK K
              simp only [Act.put, List.setIfInBounds_toArray, List.set_cons_zero, List.set_cons_succ]
              refine rtake (i := 10) (d := (some 60)) (v := ?_) rfl (by kernel_rfl) (by kernel_rfl) (by kernel_rfl) (by kernel_rfl) (fun _ _ _ h => h) (by kernel_rfl) (by assumption) ?_ ?_
              rotate_left 1
              · (intro wI hSI; (try dsimp only at hSI); go_simp; (try with_reducible rfl))
              simp only [Act.put, List.setIfInBounds_toArray, List.set_cons_zero, List.set_cons_succ]
              refine rtake (i := 11) (d := (some 61)) (v := ?_) rfl (by kernel_rfl) (by kernel_rfl) (by kernel_rfl) (by kernel_rfl) (fun _ _ _ h => h) (by kernel_rfl) (by assumption) ?_ ?_
              rotate_left 1
              · (intro wI hSI; (try dsimp only at hSI); go_simp; (try with_reducible rfl))
              simp only [Act.put, List.setIfInBounds_toArray, List.set_cons_zero, List.set_cons_succ]
              refine rtake (i := 12) (d := (some 62)) (v := ?_) rfl (by kernel_rfl) (by kernel_rfl) (by kernel_rfl) (by kernel_rfl) (fun _ _ _ h => h) (by kernel_rfl) (by assumption) ?_ ?_
              rotate_left 1
              · (intro wI hSI; (try dsimp only at hSI); go_simp; (try with_reducible rfl))
              simp only [Act.put, List.setIfInBounds_toArray, List.set_cons_zero, List.set_cons_succ]
              refine rtake (i := 13) (d := (some 63)) (v := ?_) rfl (by kernel_rfl) (by kernel_rfl) (by kernel_rfl) (by kernel_rfl) (fun _ _ _ h => h) (by kernel_rfl) (by assumption) ?_ ?_
              rotate_left 1
              · (intro wI hSI; (try dsimp only at hSI); go_simp; (try with_reducible rfl))
              simp only [Act.put, List.setIfInBounds_toArray, List.set_cons_zero, List.set_cons_succ]
              refine rtake (i := 14) (d := (some 64)) (v := ?_) rfl (by kernel_rfl) (by kernel_rfl) (by kernel_rfl) (by kernel_rfl) (fun _ _ _ h => h) (by kernel_rfl) (by assumption) ?_ ?_
              rotate_left 1
              · (intro wI hSI; (try dsimp only at hSI); go_simp; (try with_reducible rfl))
              simp only [Act.put, List.setIfInBounds_toArray, List.set_cons_zero, List.set_cons_succ]
              refine rtake (i := 15) (d := (some 65)) (v := ?_) rfl (by kernel_rfl) (by kernel_rfl) (by kernel_rfl) (by kernel_rfl) (fun _ _ _ h => h) (by kernel_rfl) (by assumption) ?_ ?_
              rotate_left 1
              · (intro wI hSI; (try dsimp only at hSI); go_simp; (try with_reducible rfl))
              simp only [Act.put, List.setIfInBounds_toArray, List.set_cons_zero, List.set_cons_succ]
              refine rskip (i := 16) (d := (some 66)) rfl (by kernel_rfl) (by kernel_rfl) (by kernel_rfl) (by kernel_rfl) (fun _ _ _ h => h) (by kernel_rfl) (by assumption) ?_
              simp only [Act.put, List.setIfInBounds_toArray, List.set_cons_zero, List.set_cons_succ]
              refine rskip (i := 17) (d := (some 67)) rfl (by kernel_rfl) (by kernel_rfl) (by kernel_rfl) (by kernel_rfl) (fun _ _ _ h => h) (by kernel_rfl) (by assumption) ?_
              simp only [Act.put, List.setIfInBounds_toArray, List.set_cons_zero, List.set_cons_succ]
              refine rskip (i := 18) (d := (some 68)) rfl (by kernel_rfl) (by kernel_rfl) (by kernel_rfl) (by kernel_rfl) (fun _ _ _ h => h) (by kernel_rfl) (by assumption) ?_
              simp only [Act.put, List.setIfInBounds_toArray, List.set_cons_zero, List.set_cons_succ]
              refine rskip (i := 19) (d := (some 69)) rfl (by kernel_rfl) (by kernel_rfl) (by kernel_rfl) (by kernel_rfl) (fun _ _ _ h => h) (by kernel_rfl) (by assumption) ?_
              simp only [Act.put, List.setIfInBounds_toArray, List.set_cons_zero, List.set_cons_succ]
              refine rskip (i := 20) (d := (some 70)) rfl (by kernel_rfl) (by kernel_rfl) (by kernel_rfl) (by kernel_rfl) (fun _ _ _ h => h) (by kernel_rfl) (by assumption) ?_
              simp only [Act.put, List.setIfInBounds_toArray, List.set_cons_zero, List.set_cons_succ]
              refine rskip (i := 21) (d := (some 71)) rfl (by kernel_rfl) (by kernel_rfl) (by kernel_rfl) (by kernel_rfl) (fun _ _ _ h => h) (by kernel_rfl) (by assumption) ?_
              simp only [Act.put, List.setIfInBounds_toArray, List.set_cons_zero, List.set_cons_succ]
              refine rskip (i := 22) (d := (some 72)) rfl (by kernel_rfl) (by kernel_rfl) (by kernel_rfl) (by kernel_rfl) (fun _ _ _ h => h) (by kernel_rfl) (by assumption) ?_
              simp only [Act.put, List.setIfInBounds_toArray, List.set_cons_zero, List.set_cons_succ]
              refine rskip (i := 23) (d := (some 73)) rfl (by kernel_rfl) (by kernel_rfl) (by kernel_rfl) (by kernel_rfl) (fun _ _ _ h => h) (by kernel_rfl) (by assumption) ?_
              simp only [Act.put, List.setIfInBounds_toArray, List.set_cons_zero, List.set_cons_succ]
              refine rskip (i := 24) (d := (some 74)) rfl (by kernel_rfl) (by kernel_rfl) (by kernel_rfl) (by kernel_rfl) (fun _ _ _ h => h) (by kernel_rfl) (by assumption) ?_
              simp only [Act.put, List.setIfInBounds_toArray, List.set_cons_zero, List.set_cons_succ]
              refine rtake (i := 25) (d := (some 75)) (v := ?_) rfl (by kernel_rfl) (by kernel_rfl) (by kernel_rfl) (by kernel_rfl) (fun _ _ _ h => h) (by kernel_rfl) (by assumption) ?_ ?_
              rotate_left 1
              · (intro wI hSI; (try dsimp only at hSI); go_simp; (try with_reducible rfl))
              simp only [Act.put, List.setIfInBounds_toArray, List.set_cons_zero, List.set_cons_succ]
              refine rtake (i := 26) (d := (some 76)) (v := ?_) rfl (by kernel_rfl) (by kernel_rfl) (by kernel_rfl) (by kernel_rfl) (fun _ _ _ h => h) (by kernel_rfl) (by assumption) ?_ ?_
              rotate_left 1
              · (intro wI hSI; (try dsimp only at hSI); go_simp; (try with_reducible rfl))
              simp only [Act.put, List.setIfInBounds_toArray, List.set_cons_zero, List.set_cons_succ]
              refine wpAnyH_done (by kernel_rfl) ?_ _
              have Hend := Lib.hid (HPn.out)
              clear hHeld
              go_wp2_with fail
              rw [← Ha.out, ← Hb.out]
              go_roundg (rs.length - (j + 1))
              case measure => have := hgj.out; omega
              case rel => exact ⟨j + 1, by go_num, by omega, rfl, by rw [HPn.out], hbD.drew⟩
            · obtain ⟨q, rfl⟩ : ∃ q : Nat, pk = q := ⟨pk.toNat, by omega⟩
              have hqx : q < rxs.length := by omega
              obtain ⟨rb', roff', hsb', e2⟩ := Hia.out q hqx
              rw [hsb] at hsb'
              cases hsb'
              have e3 := cell_later hbE e2
              have HP3q := Lib.hid (fun h => HP3j.out q Hmay.out rfl hqx h)
              have HP4q := Lib.hid (fun h => HP4j.out q Hmay.out rfl hqx h)
              have hd4 : decide (0 < rxs[j]) = true := decide_eq_true hpos
              have hd5 : decide ((q : Int) < 0) = false := decide_eq_false (by omega)
              have hq1 : (0 : Int) ≤ (q : Int) := by omega
              have hq2 : (q : Int) < (rxs.length : Int) := by omega
              generalize rxs[j] = x at *
              generalize rxs[q] = z at *
              clear hpos hneg HP1j HP2j HP3j HP4j Hia hc
              by_cases hmore : z < x
              · have HPn := Lib.hid (HP3q.out hmore)
                have hd6 : decide (z < x) = true := decide_eq_true hmore
                clear hmore HP3q HP4q
                go_upto_region 13 with (fail)
                refine wp_region_held_drew (S := (fun wx => wx.cell? ⟨rb, roff + j, none⟩ = some (.int .i64 x) ∧ wx.cell? ⟨wr.heap.size, 0, none⟩ = some (.string y1) ∧ wx.cell? ⟨rb, roff + q, none⟩ = some (.int .i64 z))) (by kernel_rfl) ?hS (fun hHeld => ?_)
                case hS => exact ⟨e1, hBr, e3⟩
                refine rtake (i := 0) (d := (some 50)) (v := ?_) rfl (by kernel_rfl) (by kernel_rfl) (by kernel_rfl) (by kernel_rfl) (fun _ _ _ h => h) (by kernel_rfl) (by assumption) ?_ ?_
                rotate_left 1
                · (intro wI hSI; (try dsimp only at hSI); go_simp; (try with_reducible rfl))
                simp only [Act.put, List.setIfInBounds_toArray, List.set_cons_zero, List.set_cons_succ]
                refine rtake (i := 1) (d := (some 51)) (v := ?_) rfl (by kernel_rfl) (by kernel_rfl) (by kernel_rfl) (by kernel_rfl) (fun _ _ _ h => h) (by kernel_rfl) (by assumption) ?_ ?_
                rotate_left 1
                · (intro wI hSI; (try dsimp only at hSI); go_simp; (try with_reducible rfl))
                simp only [Act.put, List.setIfInBounds_toArray, List.set_cons_zero, List.set_cons_succ]
                refine rtake (i := 2) (d := (some 52)) (v := ?_) rfl (by kernel_rfl) (by kernel_rfl) (by kernel_rfl) (by kernel_rfl) (fun _ _ _ h => h) (by kernel_rfl) (by assumption) ?_ ?_
                rotate_left 1
                · (intro wI hSI; (try dsimp only at hSI); go_simp; (try with_reducible rfl))
                simp only [Act.put, List.setIfInBounds_toArray, List.set_cons_zero, List.set_cons_succ]
                refine rtake (i := 3) (d := (some 53)) (v := ?_) rfl (by kernel_rfl) (by kernel_rfl) (by kernel_rfl) (by kernel_rfl) (fun _ _ _ h => h) (by kernel_rfl) (by assumption) ?_ ?_
                rotate_left 1
                · (intro wI hSI; (try dsimp only at hSI); go_simp; (try with_reducible rfl))
                simp only [Act.put, List.setIfInBounds_toArray, List.set_cons_zero, List.set_cons_succ]
                refine rtake (i := 4) (d := (some 54)) (v := ?_) rfl (by kernel_rfl) (by kernel_rfl) (by kernel_rfl) (by kernel_rfl) (fun _ _ _ h => h) (by kernel_rfl) (by assumption) ?_ ?_
                rotate_left 1
                · (intro wI hSI; (try dsimp only at hSI); go_simp; (try with_reducible rfl))
                simp only [Act.put, List.setIfInBounds_toArray, List.set_cons_zero, List.set_cons_succ]
                refine rtake (i := 5) (d := (some 55)) (v := ?_) rfl (by kernel_rfl) (by kernel_rfl) (by kernel_rfl) (by kernel_rfl) (fun _ _ _ h => h) (by kernel_rfl) (by assumption) ?_ ?_
                rotate_left 1
                · (intro wI hSI; (try dsimp only at hSI); go_simp; (try with_reducible rfl))
                simp only [Act.put, List.setIfInBounds_toArray, List.set_cons_zero, List.set_cons_succ]
                refine rtake (i := 6) (d := (some 56)) (v := ?_) rfl (by kernel_rfl) (by kernel_rfl) (by kernel_rfl) (by kernel_rfl) (fun _ _ _ h => h) (by kernel_rfl) (by assumption) ?_ ?_
                rotate_left 1
                · (intro wI hSI; (try dsimp only at hSI); go_simp; (try with_reducible rfl))
                simp only [Act.put, List.setIfInBounds_toArray, List.set_cons_zero, List.set_cons_succ]
                refine rtake (i := 7) (d := (some 57)) (v := ?_) rfl (by kernel_rfl) (by kernel_rfl) (by kernel_rfl) (by kernel_rfl) (fun _ _ _ h => h) (by kernel_rfl) (by assumption) ?_ ?_
                rotate_left 1
                · (intro wI hSI; (try dsimp only at hSI); go_simp; (try with_reducible rfl))
                simp only [Act.put, List.setIfInBounds_toArray, List.set_cons_zero, List.set_cons_succ]
                refine rtake (i := 8) (d := (some 58)) (v := ?_) rfl (by kernel_rfl) (by kernel_rfl) (by kernel_rfl) (by kernel_rfl) (fun _ _ _ h => h) (by kernel_rfl) (by assumption) ?_ ?_
                rotate_left 1
                · (intro wI hSI; (try dsimp only at hSI); go_simp; (try with_reducible rfl))
                simp only [Act.put, List.setIfInBounds_toArray, List.set_cons_zero, List.set_cons_succ]
                refine rcall (i := 9) (d := (some 59)) (by kernel_rfl) rfl (by kernel_rfl) (fun K hK => ?_)
                go_simp
                go_at_call 59; refine (HCn.out _ hoD).mono ?_; rintro e w3 ⟨rfl, rfl⟩
                refine hK.out _ _ ?hS (fun hHeld => ?_)
                case hS => exact hHeld
                clear hK K
                simp only [Act.put, List.setIfInBounds_toArray, List.set_cons_zero, List.set_cons_succ]
                refine rtake (i := 10) (d := (some 60)) (v := ?_) rfl (by kernel_rfl) (by kernel_rfl) (by kernel_rfl) (by kernel_rfl) (fun _ _ _ h => h) (by kernel_rfl) (by assumption) ?_ ?_
                rotate_left 1
                · (intro wI hSI; (try dsimp only at hSI); go_simp; (try with_reducible rfl))
                simp only [Act.put, List.setIfInBounds_toArray, List.set_cons_zero, List.set_cons_succ]
                refine rtake (i := 11) (d := (some 61)) (v := ?_) rfl (by kernel_rfl) (by kernel_rfl) (by kernel_rfl) (by kernel_rfl) (fun _ _ _ h => h) (by kernel_rfl) (by assumption) ?_ ?_
                rotate_left 1
                · (intro wI hSI; (try dsimp only at hSI); go_simp; (try with_reducible rfl))
                simp only [Act.put, List.setIfInBounds_toArray, List.set_cons_zero, List.set_cons_succ]
                refine rtake (i := 12) (d := (some 62)) (v := ?_) rfl (by kernel_rfl) (by kernel_rfl) (by kernel_rfl) (by kernel_rfl) (fun _ _ _ h => h) (by kernel_rfl) (by assumption) ?_ ?_
                rotate_left 1
                · (intro wI hSI; (try dsimp only at hSI); go_simp; (try with_reducible rfl))
                simp only [Act.put, List.setIfInBounds_toArray, List.set_cons_zero, List.set_cons_succ]
                refine rtake (i := 13) (d := (some 63)) (v := ?_) rfl (by kernel_rfl) (by kernel_rfl) (by kernel_rfl) (by kernel_rfl) (fun _ _ _ h => h) (by kernel_rfl) (by assumption) ?_ ?_
                rotate_left 1
                · (intro wI hSI; (try dsimp only at hSI); go_simp; (try with_reducible rfl))
                simp only [Act.put, List.setIfInBounds_toArray, List.set_cons_zero, List.set_cons_succ]
                refine rtake (i := 14) (d := (some 64)) (v := ?_) rfl (by kernel_rfl) (by kernel_rfl) (by kernel_rfl) (by kernel_rfl) (fun _ _ _ h => h) (by kernel_rfl) (by assumption) ?_ ?_
                rotate_left 1
                · (intro wI hSI; (try dsimp only at hSI); go_simp; (try with_reducible rfl))
                simp only [Act.put, List.setIfInBounds_toArray, List.set_cons_zero, List.set_cons_succ]
                refine rtake (i := 15) (d := (some 65)) (v := ?_) rfl (by kernel_rfl) (by kernel_rfl) (by kernel_rfl) (by kernel_rfl) (fun _ _ _ h => h) (by kernel_rfl) (by assumption) ?_ ?_
                rotate_left 1
                · (intro wI hSI; (try dsimp only at hSI); go_simp; (try with_reducible rfl))
                simp only [Act.put, List.setIfInBounds_toArray, List.set_cons_zero, List.set_cons_succ]
                refine rtake (i := 16) (d := (some 66)) (v := ?_) rfl (by kernel_rfl) (by kernel_rfl) (by kernel_rfl) (by kernel_rfl) (fun _ _ _ h => h) (by kernel_rfl) (by assumption) ?_ ?_
                rotate_left 1
                · (intro wI hSI; (try dsimp only at hSI); go_simp; (try with_reducible rfl))
                simp only [Act.put, List.setIfInBounds_toArray, List.set_cons_zero, List.set_cons_succ]
                refine rtake (i := 17) (d := (some 67)) (v := ?_) rfl (by kernel_rfl) (by kernel_rfl) (by kernel_rfl) (by kernel_rfl) (fun _ _ _ h => h) (by kernel_rfl) (by assumption) ?_ ?_
                rotate_left 1
                · (intro wI hSI; (try dsimp only at hSI); go_simp; (try with_reducible rfl))
                simp only [Act.put, List.setIfInBounds_toArray, List.set_cons_zero, List.set_cons_succ]
                refine rtake (i := 18) (d := (some 68)) (v := ?_) rfl (by kernel_rfl) (by kernel_rfl) (by kernel_rfl) (by kernel_rfl) (fun _ _ _ h => h) (by kernel_rfl) (by assumption) ?_ ?_
                rotate_left 1
                · (intro wI hSI; (try dsimp only at hSI); go_simp; (try with_reducible rfl))
                simp only [Act.put, List.setIfInBounds_toArray, List.set_cons_zero, List.set_cons_succ]
                refine rtake (i := 19) (d := (some 69)) (v := ?_) rfl (by kernel_rfl) (by kernel_rfl) (by kernel_rfl) (by kernel_rfl) (fun _ _ _ h => h) (by kernel_rfl) (by assumption) ?_ ?_
                rotate_left 1
                · (intro wI hSI; (try dsimp only at hSI); go_simp; (try with_reducible rfl))
                simp only [Act.put, List.setIfInBounds_toArray, List.set_cons_zero, List.set_cons_succ]
                refine rtake (i := 20) (d := (some 70)) (v := ?_) rfl (by kernel_rfl) (by kernel_rfl) (by kernel_rfl) (by kernel_rfl) (fun _ _ _ h => h) (by kernel_rfl) (by assumption) ?_ ?_
                rotate_left 1
                · (intro wI hSI; (try dsimp only at hSI); go_simp; (try with_reducible rfl))
                simp only [Act.put, List.setIfInBounds_toArray, List.set_cons_zero, List.set_cons_succ]
                refine rtake (i := 21) (d := (some 71)) (v := ?_) rfl (by kernel_rfl) (by kernel_rfl) (by kernel_rfl) (by kernel_rfl) (fun _ _ _ h => h) (by kernel_rfl) (by assumption) ?_ ?_
                rotate_left 1
                · (intro wI hSI; (try dsimp only at hSI); go_simp; (try with_reducible rfl))
                simp only [Act.put, List.setIfInBounds_toArray, List.set_cons_zero, List.set_cons_succ]
                refine rtake (i := 22) (d := (some 72)) (v := ?_) rfl (by kernel_rfl) (by kernel_rfl) (by kernel_rfl) (by kernel_rfl) (fun _ _ _ h => h) (by kernel_rfl) (by assumption) ?_ ?_
                rotate_left 1
                · (intro wI hSI; (try dsimp only at hSI); go_simp; (try with_reducible rfl))
                simp only [Act.put, List.setIfInBounds_toArray, List.set_cons_zero, List.set_cons_succ]
                refine rtake (i := 23) (d := (some 73)) (v := ?_) rfl (by kernel_rfl) (by kernel_rfl) (by kernel_rfl) (by kernel_rfl) (fun _ _ _ h => h) (by kernel_rfl) (by assumption) ?_ ?_
                rotate_left 1
                · (intro wI hSI; (try dsimp only at hSI); go_simp; (try with_reducible rfl))
                simp only [Act.put, List.setIfInBounds_toArray, List.set_cons_zero, List.set_cons_succ]
                refine rtake (i := 24) (d := (some 74)) (v := ?_) rfl (by kernel_rfl) (by kernel_rfl) (by kernel_rfl) (by kernel_rfl) (fun _ _ _ h => h) (by kernel_rfl) (by assumption) ?_ ?_
                rotate_left 1
                · (intro wI hSI; (try dsimp only at hSI); go_simp; (try with_reducible rfl))
                simp only [Act.put, List.setIfInBounds_toArray, List.set_cons_zero, List.set_cons_succ]
                refine rtake (i := 25) (d := (some 75)) (v := ?_) rfl (by kernel_rfl) (by kernel_rfl) (by kernel_rfl) (by kernel_rfl) (fun _ _ _ h => h) (by kernel_rfl) (by assumption) ?_ ?_
                rotate_left 1
                · (intro wI hSI; (try dsimp only at hSI); go_simp; (try with_reducible rfl))
                simp only [Act.put, List.setIfInBounds_toArray, List.set_cons_zero, List.set_cons_succ]
                refine rtake (i := 26) (d := (some 76)) (v := ?_) rfl (by kernel_rfl) (by kernel_rfl) (by kernel_rfl) (by kernel_rfl) (fun _ _ _ h => h) (by kernel_rfl) (by assumption) ?_ ?_
                rotate_left 1
                · (intro wI hSI; (try dsimp only at hSI); go_simp; (try with_reducible rfl))
                simp only [Act.put, List.setIfInBounds_toArray, List.set_cons_zero, List.set_cons_succ]
                refine wpAnyH_done (by kernel_rfl) ?_ _
                have Hend := Lib.hid (HPn.out)
                clear hHeld
                go_wp2_with fail
                rw [← Ha.out, ← Hb.out]
                go_roundg (rs.length - (j + 1))
                case measure => have := hgj.out; omega
                case rel => exact ⟨j + 1, by go_num, by omega, rfl, by rw [HPn.out], hbD.drew⟩
              · have HPn := Lib.hid (HP4q.out (by omega))
                have hd6 : decide (z < x) = false := decide_eq_false hmore
                clear hmore HP3q HP4q
                go_upto_region 13 with (fail)
                refine wp_region_held_drew (S := (fun wx => wx.cell? ⟨rb, roff + j, none⟩ = some (.int .i64 x) ∧ wx.cell? ⟨wr.heap.size, 0, none⟩ = some (.string y1) ∧ wx.cell? ⟨rb, roff + q, none⟩ = some (.int .i64 z))) (by kernel_rfl) ?hS (fun hHeld => ?_)
                case hS => exact ⟨e1, hBr, e3⟩
                refine rtake (i := 0) (d := (some 50)) (v := ?_) rfl (by kernel_rfl) (by kernel_rfl) (by kernel_rfl) (by kernel_rfl) (fun _ _ _ h => h) (by kernel_rfl) (by assumption) ?_ ?_
                rotate_left 1
                · (intro wI hSI; (try dsimp only at hSI); go_simp; (try with_reducible rfl))
                simp only [Act.put, List.setIfInBounds_toArray, List.set_cons_zero, List.set_cons_succ]
                refine rtake (i := 1) (d := (some 51)) (v := ?_) rfl (by kernel_rfl) (by kernel_rfl) (by kernel_rfl) (by kernel_rfl) (fun _ _ _ h => h) (by kernel_rfl) (by assumption) ?_ ?_
                rotate_left 1
                · (intro wI hSI; (try dsimp only at hSI); go_simp; (try with_reducible rfl))
                simp only [Act.put, List.setIfInBounds_toArray, List.set_cons_zero, List.set_cons_succ]
                refine rtake (i := 2) (d := (some 52)) (v := ?_) rfl (by kernel_rfl) (by kernel_rfl) (by kernel_rfl) (by kernel_rfl) (fun _ _ _ h => h) (by kernel_rfl) (by assumption) ?_ ?_
                rotate_left 1
                · (intro wI hSI; (try dsimp only at hSI); go_simp; (try with_reducible rfl))
                simp only [Act.put, List.setIfInBounds_toArray, List.set_cons_zero, List.set_cons_succ]
                refine rtake (i := 3) (d := (some 53)) (v := ?_) rfl (by kernel_rfl) (by kernel_rfl) (by kernel_rfl) (by kernel_rfl) (fun _ _ _ h => h) (by kernel_rfl) (by assumption) ?_ ?_
                rotate_left 1
                · (intro wI hSI; (try dsimp only at hSI); go_simp; (try with_reducible rfl))
                simp only [Act.put, List.setIfInBounds_toArray, List.set_cons_zero, List.set_cons_succ]
                refine rtake (i := 4) (d := (some 54)) (v := ?_) rfl (by kernel_rfl) (by kernel_rfl) (by kernel_rfl) (by kernel_rfl) (fun _ _ _ h => h) (by kernel_rfl) (by assumption) ?_ ?_
                rotate_left 1
                · (intro wI hSI; (try dsimp only at hSI); go_simp; (try with_reducible rfl))
                simp only [Act.put, List.setIfInBounds_toArray, List.set_cons_zero, List.set_cons_succ]
                refine rtake (i := 5) (d := (some 55)) (v := ?_) rfl (by kernel_rfl) (by kernel_rfl) (by kernel_rfl) (by kernel_rfl) (fun _ _ _ h => h) (by kernel_rfl) (by assumption) ?_ ?_
                rotate_left 1
                · (intro wI hSI; (try dsimp only at hSI); go_simp; (try with_reducible rfl))
                simp only [Act.put, List.setIfInBounds_toArray, List.set_cons_zero, List.set_cons_succ]
                refine rtake (i := 6) (d := (some 56)) (v := ?_) rfl (by kernel_rfl) (by kernel_rfl) (by kernel_rfl) (by kernel_rfl) (fun _ _ _ h => h) (by kernel_rfl) (by assumption) ?_ ?_
                rotate_left 1
                · (intro wI hSI; (try dsimp only at hSI); go_simp; (try with_reducible rfl))
                simp only [Act.put, List.setIfInBounds_toArray, List.set_cons_zero, List.set_cons_succ]
                refine rtake (i := 7) (d := (some 57)) (v := ?_) rfl (by kernel_rfl) (by kernel_rfl) (by kernel_rfl) (by kernel_rfl) (fun _ _ _ h => h) (by kernel_rfl) (by assumption) ?_ ?_
                rotate_left 1
                · (intro wI hSI; (try dsimp only at hSI); go_simp; (try with_reducible rfl))
                simp only [Act.put, List.setIfInBounds_toArray, List.set_cons_zero, List.set_cons_succ]
                refine rtake (i := 8) (d := (some 58)) (v := ?_) rfl (by kernel_rfl) (by kernel_rfl) (by kernel_rfl) (by kernel_rfl) (fun _ _ _ h => h) (by kernel_rfl) (by assumption) ?_ ?_
                rotate_left 1
                · (intro wI hSI; (try dsimp only at hSI); go_simp; (try with_reducible rfl))
                simp only [Act.put, List.setIfInBounds_toArray, List.set_cons_zero, List.set_cons_succ]
                refine rcall (i := 9) (d := (some 59)) (by kernel_rfl) rfl (by kernel_rfl) (fun K hK => ?_)
                go_simp
                go_at_call 59; refine (HCn.out _ hoD).mono ?_; rintro e w3 ⟨rfl, rfl⟩
                refine hK.out _ _ ?hS (fun hHeld => ?_)
                case hS => exact hHeld
                clear hK K
                simp only [Act.put, List.setIfInBounds_toArray, List.set_cons_zero, List.set_cons_succ]
                refine rtake (i := 10) (d := (some 60)) (v := ?_) rfl (by kernel_rfl) (by kernel_rfl) (by kernel_rfl) (by kernel_rfl) (fun _ _ _ h => h) (by kernel_rfl) (by assumption) ?_ ?_
                rotate_left 1
                · (intro wI hSI; (try dsimp only at hSI); go_simp; (try with_reducible rfl))
                simp only [Act.put, List.setIfInBounds_toArray, List.set_cons_zero, List.set_cons_succ]
                refine rtake (i := 11) (d := (some 61)) (v := ?_) rfl (by kernel_rfl) (by kernel_rfl) (by kernel_rfl) (by kernel_rfl) (fun _ _ _ h => h) (by kernel_rfl) (by assumption) ?_ ?_
                rotate_left 1
                · (intro wI hSI; (try dsimp only at hSI); go_simp; (try with_reducible rfl))
                simp only [Act.put, List.setIfInBounds_toArray, List.set_cons_zero, List.set_cons_succ]
                refine rtake (i := 12) (d := (some 62)) (v := ?_) rfl (by kernel_rfl) (by kernel_rfl) (by kernel_rfl) (by kernel_rfl) (fun _ _ _ h => h) (by kernel_rfl) (by assumption) ?_ ?_
                rotate_left 1
                · (intro wI hSI; (try dsimp only at hSI); go_simp; (try with_reducible rfl))
                simp only [Act.put, List.setIfInBounds_toArray, List.set_cons_zero, List.set_cons_succ]
                refine rtake (i := 13) (d := (some 63)) (v := ?_) rfl (by kernel_rfl) (by kernel_rfl) (by kernel_rfl) (by kernel_rfl) (fun _ _ _ h => h) (by kernel_rfl) (by assumption) ?_ ?_
                rotate_left 1
                · (intro wI hSI; (try dsimp only at hSI); go_simp; (try with_reducible rfl))
                simp only [Act.put, List.setIfInBounds_toArray, List.set_cons_zero, List.set_cons_succ]
                refine rtake (i := 14) (d := (some 64)) (v := ?_) rfl (by kernel_rfl) (by kernel_rfl) (by kernel_rfl) (by kernel_rfl) (fun _ _ _ h => h) (by kernel_rfl) (by assumption) ?_ ?_
                rotate_left 1
                · (intro wI hSI; (try dsimp only at hSI); go_simp; (try with_reducible rfl))
                simp only [Act.put, List.setIfInBounds_toArray, List.set_cons_zero, List.set_cons_succ]
                refine rtake (i := 15) (d := (some 65)) (v := ?_) rfl (by kernel_rfl) (by kernel_rfl) (by kernel_rfl) (by kernel_rfl) (fun _ _ _ h => h) (by kernel_rfl) (by assumption) ?_ ?_
                rotate_left 1
                · (intro wI hSI; (try dsimp only at hSI); go_simp; (try with_reducible rfl))
                simp only [Act.put, List.setIfInBounds_toArray, List.set_cons_zero, List.set_cons_succ]
                refine rtake (i := 16) (d := (some 66)) (v := ?_) rfl (by kernel_rfl) (by kernel_rfl) (by kernel_rfl) (by kernel_rfl) (fun _ _ _ h => h) (by kernel_rfl) (by assumption) ?_ ?_
                rotate_left 1
                · (intro wI hSI; (try dsimp only at hSI); go_simp; (try with_reducible rfl))
                simp only [Act.put, List.setIfInBounds_toArray, List.set_cons_zero, List.set_cons_succ]
                refine rtake (i := 17) (d := (some 67)) (v := ?_) rfl (by kernel_rfl) (by kernel_rfl) (by kernel_rfl) (by kernel_rfl) (fun _ _ _ h => h) (by kernel_rfl) (by assumption) ?_ ?_
                rotate_left 1
                · (intro wI hSI; (try dsimp only at hSI); go_simp; (try with_reducible rfl))
                simp only [Act.put, List.setIfInBounds_toArray, List.set_cons_zero, List.set_cons_succ]
                refine rtake (i := 18) (d := (some 68)) (v := ?_) rfl (by kernel_rfl) (by kernel_rfl) (by kernel_rfl) (by kernel_rfl) (fun _ _ _ h => h) (by kernel_rfl) (by assumption) ?_ ?_
                rotate_left 1
                · (intro wI hSI; (try dsimp only at hSI); go_simp; (try with_reducible rfl))
                simp only [Act.put, List.setIfInBounds_toArray, List.set_cons_zero, List.set_cons_succ]
                refine rtake (i := 19) (d := (some 69)) (v := ?_) rfl (by kernel_rfl) (by kernel_rfl) (by kernel_rfl) (by kernel_rfl) (fun _ _ _ h => h) (by kernel_rfl) (by assumption) ?_ ?_
                rotate_left 1
                · (intro wI hSI; (try dsimp only at hSI); go_simp; (try with_reducible rfl))
                simp only [Act.put, List.setIfInBounds_toArray, List.set_cons_zero, List.set_cons_succ]
                refine rtake (i := 20) (d := (some 70)) (v := ?_) rfl (by kernel_rfl) (by kernel_rfl) (by kernel_rfl) (by kernel_rfl) (fun _ _ _ h => h) (by kernel_rfl) (by assumption) ?_ ?_
                rotate_left 1
                · (intro wI hSI; (try dsimp only at hSI); go_simp; (try with_reducible rfl))
                simp only [Act.put, List.setIfInBounds_toArray, List.set_cons_zero, List.set_cons_succ]
                refine rtake (i := 21) (d := (some 71)) (v := ?_) rfl (by kernel_rfl) (by kernel_rfl) (by kernel_rfl) (by kernel_rfl) (fun _ _ _ h => h) (by kernel_rfl) (by assumption) ?_ ?_
                rotate_left 1
                · (intro wI hSI; (try dsimp only at hSI); go_simp; (try with_reducible rfl))
                simp only [Act.put, List.setIfInBounds_toArray, List.set_cons_zero, List.set_cons_succ]
                refine rtake (i := 22) (d := (some 72)) (v := ?_) rfl (by kernel_rfl) (by kernel_rfl) (by kernel_rfl) (by kernel_rfl) (fun _ _ _ h => h) (by kernel_rfl) (by assumption) ?_ ?_
                rotate_left 1
                · (intro wI hSI; (try dsimp only at hSI); go_simp; (try with_reducible rfl))
                simp only [Act.put, List.setIfInBounds_toArray, List.set_cons_zero, List.set_cons_succ]
                refine rtake (i := 23) (d := (some 73)) (v := ?_) rfl (by kernel_rfl) (by kernel_rfl) (by kernel_rfl) (by kernel_rfl) (fun _ _ _ h => h) (by kernel_rfl) (by assumption) ?_ ?_
                rotate_left 1
                · (intro wI hSI; (try dsimp only at hSI); go_simp; (try with_reducible rfl))
                simp only [Act.put, List.setIfInBounds_toArray, List.set_cons_zero, List.set_cons_succ]
                refine rtake (i := 24) (d := (some 74)) (v := ?_) rfl (by kernel_rfl) (by kernel_rfl) (by kernel_rfl) (by kernel_rfl) (fun _ _ _ h => h) (by kernel_rfl) (by assumption) ?_ ?_
                rotate_left 1
                · (intro wI hSI; (try dsimp only at hSI); go_simp; (try with_reducible rfl))
                simp only [Act.put, List.setIfInBounds_toArray, List.set_cons_zero, List.set_cons_succ]
                refine rtake (i := 25) (d := (some 75)) (v := ?_) rfl (by kernel_rfl) (by kernel_rfl) (by kernel_rfl) (by kernel_rfl) (fun _ _ _ h => h) (by kernel_rfl) (by assumption) ?_ ?_
                rotate_left 1
                · (intro wI hSI; (try dsimp only at hSI); go_simp; (try with_reducible rfl))
                simp only [Act.put, List.setIfInBounds_toArray, List.set_cons_zero, List.set_cons_succ]
                refine rtake (i := 26) (d := (some 76)) (v := ?_) rfl (by kernel_rfl) (by kernel_rfl) (by kernel_rfl) (by kernel_rfl) (fun _ _ _ h => h) (by kernel_rfl) (by assumption) ?_ ?_
                rotate_left 1
                · (intro wI hSI; (try dsimp only at hSI); go_simp; (try with_reducible rfl))
                simp only [Act.put, List.setIfInBounds_toArray, List.set_cons_zero, List.set_cons_succ]
                refine wpAnyH_done (by kernel_rfl) ?_ _
                have Hend := Lib.hid (HPn.out)
                clear hHeld
                go_wp2_with fail
                rw [← Ha.out, ← Hb.out]
                go_roundg (rs.length - (j + 1))
                case measure => have := hgj.out; omega
                case rel => exact ⟨j + 1, by go_num, by omega, rfl, by rw [HPn.out], hbD.drew⟩
          · rw [hc] at HMj HCn
            have Hmay : Hid (may j = false) := by show _ = _; rw [HMj.out]; simp
            have HPn := Lib.hid (HP1j.out Hmay.out)
            have hd4 : decide (0 < rxs[j]) = true := decide_eq_true hpos
            generalize rxs[j] = x at *
            clear hpos HP1j HP2j HP3j HP4j Hia hc
            go_upto_region 13 with (fail)
            refine wp_region_held_drew (S := (fun wx => wx.cell? ⟨rb, roff + j, none⟩ = some (.int .i64 x) ∧ wx.cell? ⟨wr.heap.size, 0, none⟩ = some (.string y1))) (by kernel_rfl) ?hS (fun hHeld => ?_)
            case hS => exact ⟨e1, hBr⟩
            refine rtake (i := 0) (d := (some 50)) (v := ?_) rfl (by kernel_rfl) (by kernel_rfl) (by kernel_rfl) (by kernel_rfl) (fun _ _ _ h => h) (by kernel_rfl) (by assumption) ?_ ?_
            rotate_left 1
            · (intro wI hSI; (try dsimp only at hSI); go_simp; (try with_reducible rfl))
            simp only [Act.put, List.setIfInBounds_toArray, List.set_cons_zero, List.set_cons_succ]
            refine rtake (i := 1) (d := (some 51)) (v := ?_) rfl (by kernel_rfl) (by kernel_rfl) (by kernel_rfl) (by kernel_rfl) (fun _ _ _ h => h) (by kernel_rfl) (by assumption) ?_ ?_
            rotate_left 1
            · (intro wI hSI; (try dsimp only at hSI); go_simp; (try with_reducible rfl))
            simp only [Act.put, List.setIfInBounds_toArray, List.set_cons_zero, List.set_cons_succ]
            refine rtake (i := 2) (d := (some 52)) (v := ?_) rfl (by kernel_rfl) (by kernel_rfl) (by kernel_rfl) (by kernel_rfl) (fun _ _ _ h => h) (by kernel_rfl) (by assumption) ?_ ?_
            rotate_left 1
            · (intro wI hSI; (try dsimp only at hSI); go_simp; (try with_reducible rfl))
            simp only [Act.put, List.setIfInBounds_toArray, List.set_cons_zero, List.set_cons_succ]
            refine rtake (i := 3) (d := (some 53)) (v := ?_) rfl (by kernel_rfl) (by kernel_rfl) (by kernel_rfl) (by kernel_rfl) (fun _ _ _ h => h) (by kernel_rfl) (by assumption) ?_ ?_
            rotate_left 1
            · (intro wI hSI; (try dsimp only at hSI); go_simp; (try with_reducible rfl))
            simp only [Act.put, List.setIfInBounds_toArray, List.set_cons_zero, List.set_cons_succ]
            refine rtake (i := 4) (d := (some 54)) (v := ?_) rfl (by kernel_rfl) (by kernel_rfl) (by kernel_rfl) (by kernel_rfl) (fun _ _ _ h => h) (by kernel_rfl) (by assumption) ?_ ?_
            rotate_left 1
            · (intro wI hSI; (try dsimp only at hSI); go_simp; (try with_reducible rfl))
            simp only [Act.put, List.setIfInBounds_toArray, List.set_cons_zero, List.set_cons_succ]
            refine rtake (i := 5) (d := (some 55)) (v := ?_) rfl (by kernel_rfl) (by kernel_rfl) (by kernel_rfl) (by kernel_rfl) (fun _ _ _ h => h) (by kernel_rfl) (by assumption) ?_ ?_
            rotate_left 1
            · (intro wI hSI; (try dsimp only at hSI); go_simp; (try with_reducible rfl))
            simp only [Act.put, List.setIfInBounds_toArray, List.set_cons_zero, List.set_cons_succ]
            refine rtake (i := 6) (d := (some 56)) (v := ?_) rfl (by kernel_rfl) (by kernel_rfl) (by kernel_rfl) (by kernel_rfl) (fun _ _ _ h => h) (by kernel_rfl) (by assumption) ?_ ?_
            rotate_left 1
            · (intro wI hSI; (try dsimp only at hSI); go_simp; (try with_reducible rfl))
            simp only [Act.put, List.setIfInBounds_toArray, List.set_cons_zero, List.set_cons_succ]
            refine rtake (i := 7) (d := (some 57)) (v := ?_) rfl (by kernel_rfl) (by kernel_rfl) (by kernel_rfl) (by kernel_rfl) (fun _ _ _ h => h) (by kernel_rfl) (by assumption) ?_ ?_
            rotate_left 1
            · (intro wI hSI; (try dsimp only at hSI); go_simp; (try with_reducible rfl))
            simp only [Act.put, List.setIfInBounds_toArray, List.set_cons_zero, List.set_cons_succ]
            refine rtake (i := 8) (d := (some 58)) (v := ?_) rfl (by kernel_rfl) (by kernel_rfl) (by kernel_rfl) (by kernel_rfl) (fun _ _ _ h => h) (by kernel_rfl) (by assumption) ?_ ?_
            rotate_left 1
            · (intro wI hSI; (try dsimp only at hSI); go_simp; (try with_reducible rfl))
            simp only [Act.put, List.setIfInBounds_toArray, List.set_cons_zero, List.set_cons_succ]
            refine rcall (i := 9) (d := (some 59)) (by kernel_rfl) rfl (by kernel_rfl) (fun K hK => ?_)
            go_simp
            go_at_call 59; refine (HCn.out _ hoD).mono ?_; rintro e w3 ⟨rfl, rfl⟩
            refine hK.out _ _ ?hS (fun hHeld => ?_)
            case hS => exact hHeld
            clear hK K
            simp only [Act.put, List.setIfInBounds_toArray, List.set_cons_zero, List.set_cons_succ]
            refine rtake (i := 10) (d := (some 60)) (v := ?_) rfl (by kernel_rfl) (by kernel_rfl) (by kernel_rfl) (by kernel_rfl) (fun _ _ _ h => h) (by kernel_rfl) (by assumption) ?_ ?_
            rotate_left 1
            · (intro wI hSI; (try dsimp only at hSI); go_simp; (try with_reducible rfl))
            simp only [Act.put, List.setIfInBounds_toArray, List.set_cons_zero, List.set_cons_succ]
            refine rtake (i := 11) (d := (some 61)) (v := ?_) rfl (by kernel_rfl) (by kernel_rfl) (by kernel_rfl) (by kernel_rfl) (fun _ _ _ h => h) (by kernel_rfl) (by assumption) ?_ ?_
            rotate_left 1
            · (intro wI hSI; (try dsimp only at hSI); go_simp; (try with_reducible rfl))
            simp only [Act.put, List.setIfInBounds_toArray, List.set_cons_zero, List.set_cons_succ]
            refine rtake (i := 12) (d := (some 62)) (v := ?_) rfl (by kernel_rfl) (by kernel_rfl) (by kernel_rfl) (by kernel_rfl) (fun _ _ _ h => h) (by kernel_rfl) (by assumption) ?_ ?_
            rotate_left 1
            · (intro wI hSI; (try dsimp only at hSI); go_simp; (try with_reducible rfl))
            simp only [Act.put, List.setIfInBounds_toArray, List.set_cons_zero, List.set_cons_succ]
            refine rskip (i := 13) (d := (some 63)) rfl (by kernel_rfl) (by kernel_rfl) (by kernel_rfl) (by kernel_rfl) (fun _ _ _ h => h) (by kernel_rfl) (by assumption) ?_
            simp only [Act.put, List.setIfInBounds_toArray, List.set_cons_zero, List.set_cons_succ]
            refine rskip (i := 14) (d := (some 64)) rfl (by kernel_rfl) (by kernel_rfl) (by kernel_rfl) (by kernel_rfl) (fun _ _ _ h => h) (by kernel_rfl) (by assumption) ?_
            simp only [Act.put, List.setIfInBounds_toArray, List.set_cons_zero, List.set_cons_succ]
            refine rskip (i := 15) (d := (some 65)) rfl (by kernel_rfl) (by kernel_rfl) (by kernel_rfl) (by kernel_rfl) (fun _ _ _ h => h) (by kernel_rfl) (by assumption) ?_
            simp only [Act.put, List.setIfInBounds_toArray, List.set_cons_zero, List.set_cons_succ]
            refine rskip (i := 16) (d := (some 66)) rfl (by kernel_rfl) (by kernel_rfl) (by kernel_rfl) (by kernel_rfl) (fun _ _ _ h => h) (by kernel_rfl) (by assumption) ?_
            simp only [Act.put, List.setIfInBounds_toArray, List.set_cons_zero, List.set_cons_succ]
            refine rskip (i := 17) (d := (some 67)) rfl (by kernel_rfl) (by kernel_rfl) (by kernel_rfl) (by kernel_rfl) (fun _ _ _ h => h) (by kernel_rfl) (by assumption) ?_
            simp only [Act.put, List.setIfInBounds_toArray, List.set_cons_zero, List.set_cons_succ]
            refine rskip (i := 18) (d := (some 68)) rfl (by kernel_rfl) (by kernel_rfl) (by kernel_rfl) (by kernel_rfl) (fun _ _ _ h => h) (by kernel_rfl) (by assumption) ?_
            simp only [Act.put, List.setIfInBounds_toArray, List.set_cons_zero, List.set_cons_succ]
            refine rskip (i := 19) (d := (some 69)) rfl (by kernel_rfl) (by kernel_rfl) (by kernel_rfl) (by kernel_rfl) (fun _ _ _ h => h) (by kernel_rfl) (by assumption) ?_
            simp only [Act.put, List.setIfInBounds_toArray, List.set_cons_zero, List.set_cons_succ]
            refine rskip (i := 20) (d := (some 70)) rfl (by kernel_rfl) (by kernel_rfl) (by kernel_rfl) (by kernel_rfl) (fun _ _ _ h => h) (by kernel_rfl) (by assumption) ?_
            simp only [Act.put, List.setIfInBounds_toArray, List.set_cons_zero, List.set_cons_succ]
            refine rskip (i := 21) (d := (some 71)) rfl (by kernel_rfl) (by kernel_rfl) (by kernel_rfl) (by kernel_rfl) (fun _ _ _ h => h) (by kernel_rfl) (by assumption) ?_
            simp only [Act.put, List.setIfInBounds_toArray, List.set_cons_zero, List.set_cons_succ]
            refine rskip (i := 22) (d := (some 72)) rfl (by kernel_rfl) (by kernel_rfl) (by kernel_rfl) (by kernel_rfl) (fun _ _ _ h => h) (by kernel_rfl) (by assumption) ?_
            simp only [Act.put, List.setIfInBounds_toArray, List.set_cons_zero, List.set_cons_succ]
            refine rskip (i := 23) (d := (some 73)) rfl (by kernel_rfl) (by kernel_rfl) (by kernel_rfl) (by kernel_rfl) (fun _ _ _ h => h) (by kernel_rfl) (by assumption) ?_
            simp only [Act.put, List.setIfInBounds_toArray, List.set_cons_zero, List.set_cons_succ]
            refine rskip (i := 24) (d := (some 74)) rfl (by kernel_rfl) (by kernel_rfl) (by kernel_rfl) (by kernel_rfl) (fun _ _ _ h => h) (by kernel_rfl) (by assumption) ?_
            simp only [Act.put, List.setIfInBounds_toArray, List.set_cons_zero, List.set_cons_succ]
            refine rskip (i := 25) (d := (some 75)) rfl (by kernel_rfl) (by kernel_rfl) (by kernel_rfl) (by kernel_rfl) (fun _ _ _ h => h) (by kernel_rfl) (by assumption) ?_
            simp only [Act.put, List.setIfInBounds_toArray, List.set_cons_zero, List.set_cons_succ]
            refine rtake (i := 26) (d := (some 76)) (v := ?_) rfl (by kernel_rfl) (by kernel_rfl) (by kernel_rfl) (by kernel_rfl) (fun _ _ _ h => h) (by kernel_rfl) (by assumption) ?_ ?_
            rotate_left 1
            · (intro wI hSI; (try dsimp only at hSI); go_simp; (try with_reducible rfl))
            simp only [Act.put, List.setIfInBounds_toArray, List.set_cons_zero, List.set_cons_succ]
            refine wpAnyH_done (by kernel_rfl) ?_ _
            have Hend := Lib.hid (HPn.out)
            clear hHeld
            go_wp2_with fail
            rw [← Ha.out, ← Hb.out]
            go_roundg (rs.length - (j + 1))
            case measure => have := hgj.out; omega
            case rel => exact ⟨j + 1, by go_num, by omega, rfl, by rw [HPn.out], hbD.drew⟩
        · have Hmay : Hid (may j = false) := by show _ = _; rw [HMj.out, decide_eq_false hpos]; rfl
          have HPn := Lib.hid (HP1j.out Hmay.out)
          have hd4 : decide (0 < rxs[j]) = false := decide_eq_false hpos
          generalize rxs[j] = x at *
          clear hpos HP1j HP2j HP3j HP4j Hia HCn
          go_upto_region 13 with (fail)
          refine wp_region_held_drew (S := (fun wx => wx.cell? ⟨rb, roff + j, none⟩ = some (.int .i64 x) ∧ wx.cell? ⟨wr.heap.size, 0, none⟩ = some (.string y1))) (by kernel_rfl) ?hS (fun hHeld => ?_)
          case hS => exact ⟨e1, hBr⟩
          refine rtake (i := 0) (d := (some 50)) (v := ?_) rfl (by kernel_rfl) (by kernel_rfl) (by kernel_rfl) (by kernel_rfl) (fun _ _ _ h => h) (by kernel_rfl) (by assumption) ?_ ?_
          rotate_left 1
          · (intro wI hSI; (try dsimp only at hSI); go_simp; (try with_reducible rfl))
          simp only [Act.put, List.setIfInBounds_toArray, List.set_cons_zero, List.set_cons_succ]
          refine rtake (i := 1) (d := (some 51)) (v := ?_) rfl (by kernel_rfl) (by kernel_rfl) (by kernel_rfl) (by kernel_rfl) (fun _ _ _ h => h) (by kernel_rfl) (by assumption) ?_ ?_
          rotate_left 1
          · (intro wI hSI; (try dsimp only at hSI); go_simp; (try with_reducible rfl))
          simp only [Act.put, List.setIfInBounds_toArray, List.set_cons_zero, List.set_cons_succ]
          refine rtake (i := 2) (d := (some 52)) (v := ?_) rfl (by kernel_rfl) (by kernel_rfl) (by kernel_rfl) (by kernel_rfl) (fun _ _ _ h => h) (by kernel_rfl) (by assumption) ?_ ?_
          rotate_left 1
          · (intro wI hSI; (try dsimp only at hSI); go_simp; (try with_reducible rfl))
          simp only [Act.put, List.setIfInBounds_toArray, List.set_cons_zero, List.set_cons_succ]
          refine rtake (i := 3) (d := (some 53)) (v := ?_) rfl (by kernel_rfl) (by kernel_rfl) (by kernel_rfl) (by kernel_rfl) (fun _ _ _ h => h) (by kernel_rfl) (by assumption) ?_ ?_
          rotate_left 1
          · (intro wI hSI; (try dsimp only at hSI); go_simp; (try with_reducible rfl))
          simp only [Act.put, List.setIfInBounds_toArray, List.set_cons_zero, List.set_cons_succ]
          refine rtake (i := 4) (d := (some 54)) (v := ?_) rfl (by kernel_rfl) (by kernel_rfl) (by kernel_rfl) (by kernel_rfl) (fun _ _ _ h => h) (by kernel_rfl) (by assumption) ?_ ?_
          rotate_left 1
          · (intro wI hSI; (try dsimp only at hSI); go_simp; (try with_reducible rfl))
          simp only [Act.put, List.setIfInBounds_toArray, List.set_cons_zero, List.set_cons_succ]
          refine rtake (i := 5) (d := (some 55)) (v := ?_) rfl (by kernel_rfl) (by kernel_rfl) (by kernel_rfl) (by kernel_rfl) (fun _ _ _ h => h) (by kernel_rfl) (by assumption) ?_ ?_
          rotate_left 1
          · (intro wI hSI; (try dsimp only at hSI); go_simp; (try with_reducible rfl))
          simp only [Act.put, List.setIfInBounds_toArray, List.set_cons_zero, List.set_cons_succ]
          refine rskip (i := 6) (d := (some 56)) rfl (by kernel_rfl) (by kernel_rfl) (by kernel_rfl) (by kernel_rfl) (fun _ _ _ h => h) (by kernel_rfl) (by assumption) ?_
          simp only [Act.put, List.setIfInBounds_toArray, List.set_cons_zero, List.set_cons_succ]
          refine rskip (i := 7) (d := (some 57)) rfl (by kernel_rfl) (by kernel_rfl) (by kernel_rfl) (by kernel_rfl) (fun _ _ _ h => h) (by kernel_rfl) (by assumption) ?_
          simp only [Act.put, List.setIfInBounds_toArray, List.set_cons_zero, List.set_cons_succ]
          refine rskip (i := 8) (d := (some 58)) rfl (by kernel_rfl) (by kernel_rfl) (by kernel_rfl) (by kernel_rfl) (fun _ _ _ h => h) (by kernel_rfl) (by assumption) ?_
          simp only [Act.put, List.setIfInBounds_toArray, List.set_cons_zero, List.set_cons_succ]
          refine rskip (i := 9) (d := (some 59)) rfl (by kernel_rfl) (by kernel_rfl) (by kernel_rfl) (by kernel_rfl) (fun _ _ _ h => h) (by kernel_rfl) (by assumption) ?_
          simp only [Act.put, List.setIfInBounds_toArray, List.set_cons_zero, List.set_cons_succ]
          refine rskip (i := 10) (d := (some 60)) rfl (by kernel_rfl) (by kernel_rfl) (by kernel_rfl) (by kernel_rfl) (fun _ _ _ h => h) (by kernel_rfl) (by assumption) ?_
          simp only [Act.put, List.setIfInBounds_toArray, List.set_cons_zero, List.set_cons_succ]
          refine rtake (i := 11) (d := (some 61)) (v := ?_) rfl (by kernel_rfl) (by kernel_rfl) (by kernel_rfl) (by kernel_rfl) (fun _ _ _ h => h) (by kernel_rfl) (by assumption) ?_ ?_
          rotate_left 1
          · (intro wI hSI; (try dsimp only at hSI); go_simp; (try with_reducible rfl))
          simp only [Act.put, List.setIfInBounds_toArray, List.set_cons_zero, List.set_cons_succ]
          refine rtake (i := 12) (d := (some 62)) (v := ?_) rfl (by kernel_rfl) (by kernel_rfl) (by kernel_rfl) (by kernel_rfl) (fun _ _ _ h => h) (by kernel_rfl) (by assumption) ?_ ?_
          rotate_left 1
          · (intro wI hSI; (try dsimp only at hSI); go_simp; (try with_reducible rfl))
          simp only [Act.put, List.setIfInBounds_toArray, List.set_cons_zero, List.set_cons_succ]
          refine rskip (i := 13) (d := (some 63)) rfl (by kernel_rfl) (by kernel_rfl) (by kernel_rfl) (by kernel_rfl) (fun _ _ _ h => h) (by kernel_rfl) (by assumption) ?_
          simp only [Act.put, List.setIfInBounds_toArray, List.set_cons_zero, List.set_cons_succ]
          refine rskip (i := 14) (d := (some 64)) rfl (by kernel_rfl) (by kernel_rfl) (by kernel_rfl) (by kernel_rfl) (fun _ _ _ h => h) (by kernel_rfl) (by assumption) ?_
          simp only [Act.put, List.setIfInBounds_toArray, List.set_cons_zero, List.set_cons_succ]
          refine rskip (i := 15) (d := (some 65)) rfl (by kernel_rfl) (by kernel_rfl) (by kernel_rfl) (by kernel_rfl) (fun _ _ _ h => h) (by kernel_rfl) (by assumption) ?_
          simp only [Act.put, List.setIfInBounds_toArray, List.set_cons_zero, List.set_cons_succ]
          refine rskip (i := 16) (d := (some 66)) rfl (by kernel_rfl) (by kernel_rfl) (by kernel_rfl) (by kernel_rfl) (fun _ _ _ h => h) (by kernel_rfl) (by assumption) ?_
          simp only [Act.put, List.setIfInBounds_toArray, List.set_cons_zero, List.set_cons_succ]
          refine rskip (i := 17) (d := (some 67)) rfl (by kernel_rfl) (by kernel_rfl) (by kernel_rfl) (by kernel_rfl) (fun _ _ _ h => h) (by kernel_rfl) (by assumption) ?_
          simp only [Act.put, List.setIfInBounds_toArray, List.set_cons_zero, List.set_cons_succ]
          refine rskip (i := 18) (d := (some 68)) rfl (by kernel_rfl) (by kernel_rfl) (by kernel_rfl) (by kernel_rfl) (fun _ _ _ h => h) (by kernel_rfl) (by assumption) ?_
          simp only [Act.put, List.setIfInBounds_toArray, List.set_cons_zero, List.set_cons_succ]
          refine rskip (i := 19) (d := (some 69)) rfl (by kernel_rfl) (by kernel_rfl) (by kernel_rfl) (by kernel_rfl) (fun _ _ _ h => h) (by kernel_rfl) (by assumption) ?_
          simp only [Act.put, List.setIfInBounds_toArray, List.set_cons_zero, List.set_cons_succ]
          refine rskip (i := 20) (d := (some 70)) rfl (by kernel_rfl) (by kernel_rfl) (by kernel_rfl) (by kernel_rfl) (fun _ _ _ h => h) (by kernel_rfl) (by assumption) ?_
          simp only [Act.put, List.setIfInBounds_toArray, List.set_cons_zero, List.set_cons_succ]
          refine rskip (i := 21) (d := (some 71)) rfl (by kernel_rfl) (by kernel_rfl) (by kernel_rfl) (by kernel_rfl) (fun _ _ _ h => h) (by kernel_rfl) (by assumption) ?_
          simp only [Act.put, List.setIfInBounds_toArray, List.set_cons_zero, List.set_cons_succ]
          refine rskip (i := 22) (d := (some 72)) rfl (by kernel_rfl) (by kernel_rfl) (by kernel_rfl) (by kernel_rfl) (fun _ _ _ h => h) (by kernel_rfl) (by assumption) ?_
          simp only [Act.put, List.setIfInBounds_toArray, List.set_cons_zero, List.set_cons_succ]
          refine rskip (i := 23) (d := (some 73)) rfl (by kernel_rfl) (by kernel_rfl) (by kernel_rfl) (by kernel_rfl) (fun _ _ _ h => h) (by kernel_rfl) (by assumption) ?_
          simp only [Act.put, List.setIfInBounds_toArray, List.set_cons_zero, List.set_cons_succ]
          refine rskip (i := 24) (d := (some 74)) rfl (by kernel_rfl) (by kernel_rfl) (by kernel_rfl) (by kernel_rfl) (fun _ _ _ h => h) (by kernel_rfl) (by assumption) ?_
          simp only [Act.put, List.setIfInBounds_toArray, List.set_cons_zero, List.set_cons_succ]
          refine rskip (i := 25) (d := (some 75)) rfl (by kernel_rfl) (by kernel_rfl) (by kernel_rfl) (by kernel_rfl) (fun _ _ _ h => h) (by kernel_rfl) (by assumption) ?_
          simp only [Act.put, List.setIfInBounds_toArray, List.set_cons_zero, List.set_cons_succ]
          refine rtake (i := 26) (d := (some 76)) (v := ?_) rfl (by kernel_rfl) (by kernel_rfl) (by kernel_rfl) (by kernel_rfl) (fun _ _ _ h => h) (by kernel_rfl) (by assumption) ?_ ?_
          rotate_left 1
          · (intro wI hSI; (try dsimp only at hSI); go_simp; (try with_reducible rfl))
          simp only [Act.put, List.setIfInBounds_toArray, List.set_cons_zero, List.set_cons_succ]
          refine wpAnyH_done (by kernel_rfl) ?_ _
          have Hend := Lib.hid (HPn.out)
          clear hHeld
          go_wp2_with fail
          rw [← Ha.out, ← Hb.out]
          go_roundg (rs.length - (j + 1))
          case measure => have := hgj.out; omega
          case rel => exact ⟨j + 1, by go_num, by omega, rfl, by rw [HPn.out], hbD.drew⟩
      · obtain rfl : j = rs.length := by omega
        have hbw5 := below_next hbwr hbx
        have hoX := hoa.below hbx
        clear hjl hgj hj HP1 HP2 HP3 HP4 HPl HP0 HMt
        by_cases hlb : i < (bestL rxs).length
        · have hmem := (HMb.out _).1 (List.getElem_mem hlb)
          have HSi2 := Lib.hid (HSi.out hlb)
          have HPk2 := Lib.hid (HPk.out.trans (dif_pos hlb))
          generalize (bestL rxs)[i] = bi at *
          obtain ⟨q, rfl, hqx, _⟩ := hmem
          have hql : q < rs.length := by rw [← HLx.out]; exact hqx
          obtain ⟨qb, qoff, hta, d0, d1⟩ := (hR4.below hbx).1.reader hql
          have HKA := keyAt_map rs hql
          rw [HKA] at HSi2
          have Ha := Lib.hid hta
          rw [HPk2.out, hta]
          clear hta HKA HPk HSi HAi
          generalize rs[q] = r at *
          obtain ⟨y1, y2, y3, y4⟩ := r
          simp only at d0 d1 HSi2
          have hd6 : decide ((q : Int) < 0) = false := decide_eq_false (by omega)
          have hq1 : (0 : Int) ≤ (q : Int) := by omega
          have hq2 : (q : Int) < (rs.length : Int) := by omega
          have hown1 := (hown'.below hbx).alloc (.cells #[.string y1] 9)
          have hbo := Box.new wr 9 #[.string y1]
          have hbA : Below W3.heap.size W3 (wr.alloc (.cells #[.string y1] 9)) := by have := hbD0.size; (repeat' (first | exact Below.refl _ _ | assumption | refine Below.setCell ?_ ?_ _ | refine below_drewN ?_ _ | refine Below.drew ?_ | refine Below.alloc ?_ ?_ _ | (with_reducible refine Below.trans ?_ (Below.mono hb ?_)) | (with_reducible refine Below.trans ?_ (Below.mono hb0 ?_)) | (with_reducible refine Below.trans ?_ (Below.mono hb1 ?_)) | (with_reducible refine Below.trans ?_ (Below.mono hb2 ?_)) | (with_reducible refine Below.trans ?_ (Below.mono hb3 ?_)) | (with_reducible refine Below.trans ?_ (Below.mono hb4 ?_)) | (with_reducible refine Below.trans ?_ (Below.mono hb5 ?_)) | (with_reducible refine Below.trans ?_ (Below.mono hb6 ?_)) | (with_reducible refine Below.trans ?_ (Below.mono hb7 ?_)) | (with_reducible refine Below.trans ?_ (Below.mono hb8 ?_)) | (with_reducible refine Below.trans ?_ (Below.mono hb9 ?_)) | (with_reducible refine Below.trans ?_ (Below.mono hb10 ?_)) | (with_reducible refine Below.trans ?_ (Below.mono hb11 ?_)) | (with_reducible refine Below.trans ?_ (Below.mono hb12 ?_)) | (with_reducible refine Below.trans ?_ (Below.mono hb13 ?_)) | (with_reducible refine Below.trans ?_ (Below.mono hb14 ?_)) | (with_reducible refine Below.trans ?_ (Below.mono hb15 ?_)) | omega | (simp; done) | (simp; omega)))
          have hzD := hbD0.size
          have Hol := Lib.hid hown'.lt
          have hot2 : ot.length ≤ 19 := by have := Hkl3.out; have := HLx.out; omega
          go_wp2_with (at_builtin; refine wpList_append_lie (α := ByteArray) rfl _ _ 52 rfl 9 16 (.string ⟨#[]⟩) Tryz.underlying52 Tryz.infoString rfl _ ot rfl hown1 y1 _ rfl hbo (by omega) (by omega) (by simp; omega) ?_; intro g9 cap9 w5 hown5 hg5 hat5)
          have hb5 := hbA.grown hg5 (by simp; omega) (fun j hj => (Hol.out j hj).1)
          rw [← HSi2.out] at hown5
          rw [← Ha.out]
          (try go_wp2_with fail)
          go_roundg (m - (i + 1))
          case measure => have := hgi.out; omega
          case rel => exact ⟨i + 1, by omega, by omega, rfl, hown5, hb5⟩
        · have Hfin := Lib.hid (Hout.out.trans (HAi.out hlb).symm)
          have HPk2 := Lib.hid (HPk.out.trans (dif_neg hlb))
          rw [HPk2.out]
          have hd6 : decide ((-1 : Int) < 0) = true := by decide
          clear HPk HSi HAi hlb
          go_wp2_with fail
          go_ret2
          exact ⟨hbw5, oa, oc, by rw [Hfin.out, Her.out, Hkl3.out] <;> rfl, by rw [Hfin.out]; exact hoX⟩
    · obtain rfl : i = m := by omega
      have hd3 : decide ((i : Int) < (i : Int)) = false := by simp
      have Hkl3 := Lib.hid hkl3
      clear hkl3 HKl HPb HSn HAll
      go_wp2_with fail
      go_ret2
      exact ⟨hbwr, oa, oc, by rw [Hout.out, Her.out, Hkl3.out] <;> rfl, by rw [Hout.out]; exact hoa⟩
end Go.Proofs.YtpgofjjcmldhpaaGreatDoor

/-! Rows of numbers that read alike are equal. -/
namespace Go.Proofs.YtpgofjjcmldhpaaGreatDoor
open Go.RowKit
set_option linter.unusedVariables false
set_option linter.unusedSimpArgs false

set_option maxRecDepth 100000 in
set_option maxHeartbeats 4000000 in
theorem equalInt_any (l : List Int) (a a2 : Option Addr) (cap cap2 : Nat) (w : World) (h : SA w a l) (h2 : SA w a2 l) (hlen : l.length ≤ 1000000000) :
    Calls Tryz.prog 29 #[.slice a l.length cap, .slice a2 l.length cap2] w (Draws (.bool true) w) := by
  have hq0 : ((l.length : Int) != (l.length : Int)) = false := by simp
  go_enter Tryz.func29, Tryz.ntmps29
  go_wp2_with fail
  go_loopg [13] l.length (fun gk i wr => ∃ k : Nat, i = .int .i64 k ∧ k ≤ l.length ∧ Hid (gk = l.length - k) ∧ ∃ n, wr = w.drewN n)
  case atStart => exact ⟨0, rfl, by omega, rfl, 0, rfl⟩
  case round =>
    obtain ⟨k, rfl, hk, hgk, n, rfl⟩ := hrel
    by_cases hlt : k < l.length
    · obtain ⟨b, off, ha, c0⟩ := h.intS hlt
      obtain ⟨b', off', ha', d0⟩ := h2.intS hlt
      rw [ha, ha']
      generalize l[k] = x at *
      have hk1 : (0 : Int) ≤ (k : Int) := by omega
      have hk2 : (k : Int) < (l.length : Int) := by omega
      go_wp2_with fail
      go_quiet (fail)
      go_wp2_with fail
      rw [← ha, ← ha']
      go_roundg (l.length - (k + 1))
      case measure => have := hgk.out; omega
      case rel => exact ⟨k + 1, by go_num, by omega, rfl, _, rfl⟩
    · go_wp2_with fail
      go_ret
      exact ⟨rfl, _, rfl⟩
set_option maxRecDepth 100000 in
set_option maxHeartbeats 4000000 in
theorem equalRows_any (s t : List IRow) (a a2 : Option Addr) (cap cap2 : Nat) (w : World) (h : SA w a s) (h2 : SA w a2 t) (hs : ∀ r ∈ s, SA w r.a r.xs ∧ r.xs.length ≤ 1000) (ht : ∀ r ∈ t, SA w r.a r.xs) (hm : s.map (·.xs) = t.map (·.xs)) (hlen : s.length ≤ 1000000) :
    Calls Tryz.prog 27 #[.slice a s.length cap, .slice a2 t.length cap2, .func (.func 29) #[] #[]] w (Gives (.bool true) w) := by
  have hst : t.length = s.length := by have := congrArg List.length hm; simpa using this.symm
  have HX := Lib.hid (fun k (h1 : k < s.length) (h2 : k < t.length) => show s[k].xs = t[k].xs by
    have := congrArg (fun (z : List (List Int)) => z[k]?) hm
    simpa [List.getElem?_map, List.getElem?_eq_getElem h1, List.getElem?_eq_getElem h2] using this)
  have Hst := Lib.hid hst
  rw [hst]
  clear hst hm
  have eg := enters_of Tryz.func29 (by kernel_rfl) rfl
  have hq0 : ((s.length : Int) != (s.length : Int)) = false := by simp
  go_enter Tryz.func27, Tryz.ntmps27
  go_wp2_with fail
  go_loopg [17] s.length (fun gk i wr => ∃ k : Nat, i = .int .i64 k ∧ k ≤ s.length ∧ Hid (gk = s.length - k) ∧ Below w.heap.size w wr)
  case atStart => exact ⟨0, rfl, by omega, rfl, Below.refl _ _⟩
  case round =>
    obtain ⟨k, rfl, hk, hgk, hb⟩ := hrel
    by_cases hlt : k < s.length
    · have hlt2 : k < t.length := by rw [Hst.out]; exact hlt
      obtain ⟨b, off, ha, c0⟩ := (h.below hb).irow hlt
      obtain ⟨b', off', ha', d0⟩ := (h2.below hb).irow hlt2
      have hr1 := hs s[k] (List.getElem_mem hlt)
      have hr2 := ht t[k] (List.getElem_mem hlt2)
      have hx := HX.out k hlt hlt2
      have Ha := Lib.hid ha
      have Ha' := Lib.hid ha'
      rw [ha, ha']
      clear ha ha'
      generalize s[k] = r1 at *
      generalize t[k] = r2 at *
      clear hlt2
      obtain ⟨x, xa, xc⟩ := r1
      obtain ⟨y, ya, yc⟩ := r2
      simp only at hx c0 d0 hr1 hr2
      subst hx
      have HE := Lib.hid (equalInt_any x xa ya xc yc wr (hr1.1.below hb) (hr2.below hb) (by have := hr1.2; omega))
      have hk1 : (0 : Int) ≤ (k : Int) := by omega
      have hk2 : (k : Int) < (s.length : Int) := by omega
      go_wp2_with fail
      refine HE.out.mono ?_
      rintro e w1 ⟨rfl, n, rfl⟩
      go_wp2_with fail
      rw [← Ha.out, ← Ha'.out]
      go_roundg (s.length - (k + 1))
      case measure => have := hgk.out; omega
      case rel => exact ⟨k + 1, by go_num, by omega, rfl, below_drewN hb n⟩
    · go_wp2_with fail
      go_ret
      exact ⟨rfl, hb⟩
end Go.Proofs.YtpgofjjcmldhpaaGreatDoor
