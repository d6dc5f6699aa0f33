/- Texts: headings and sections. -/
import Derived.Test.YtlpknpjfmacemaaGreatDoorLine2
namespace Go.Proofs.YtlpknpjfmacemaaGreatDoor
open Go.RowKit
set_option linter.unusedVariables false
set_option linter.unusedSimpArgs false

/-- So many numbers signs stand at the beginning. -/
theorem head_at : ∀ (l : List UInt8) (k : Nat), k ≤ l.length → (∀ j, j < k → l[j]? = some 35) → l[k]? ≠ some 35 → (l.takeWhile (· == 35)).length = k ∧ l.dropWhile (· == 35) = l.drop k
  | [], k, h, _, _ => by
    obtain rfl : k = 0 := by simpa using h
    exact ⟨rfl, rfl⟩
  | x :: r, 0, _, _, h => by
    have hx : (x == 35) = false := by
      rw [Bool.eq_false_iff]
      intro e
      exact h (by rw [List.getElem?_cons_zero, eq_of_beq e])
    rw [List.takeWhile_cons, List.dropWhile_cons, hx]
    exact ⟨rfl, rfl⟩
  | x :: r, k + 1, h, h1, h2 => by
    have hx : (x == 35) = true := by
      have := h1 0 (by omega)
      rw [List.getElem?_cons_zero] at this
      rw [Option.some.inj this]; rfl
    have ih := head_at r k (by simpa using h) (fun j hj => by have := h1 (j + 1) (by omega); rwa [List.getElem?_cons_succ] at this) (by rwa [List.getElem?_cons_succ] at h2)
    rw [List.takeWhile_cons, List.dropWhile_cons, hx]
    exact ⟨by simp [ih.1], by simp [ih.2]⟩
/-- What begins a section, by how many number signs stand at the beginning. -/
def headK (l : List UInt8) (k : Nat) : Nat × List UInt8 :=
  if k < 1 ∨ 4 < k ∨ l[k]? ≠ some 32 ∨ blankL 32 (l.drop k) = true then (0, []) else (k, Lib.trimB (l.drop k) 32)
theorem headE_at {l : List UInt8} {k : Nat} (h : k ≤ l.length) (h1 : ∀ j, j < k → l[j]? = some 35) (h2 : l[k]? ≠ some 35) : headE l = headK l k := by
  obtain ⟨e1, e2⟩ := head_at l k h h1 h2
  unfold headE headK
  rw [e1, e2, List.head?_drop]
def titleB (l : List UInt8) : ByteArray := ⟨(headE l).2.toArray⟩
set_option maxRecDepth 100000 in
set_option maxHeartbeats 8000000 in
theorem heading_any (s : ByteArray) (w : World) (hs : s.size ≤ 100000) : Calls Tryz.prog 132 #[.string s] w (Gives (.tuple #[.int .i64 (((headE s.data.toList).1 : Nat) : Int), .string (titleB s.data.toList)]) w) := by
  have Hres : Hid (∀ k, headE s.data.toList = headK s.data.toList k → (titleB s.data.toList = ⟨(headK s.data.toList k).2.toArray⟩ ∧ (headE s.data.toList).1 = (headK s.data.toList k).1)) := fun k h => ⟨by unfold titleB; rw [h], by rw [h]⟩
  have Hat : Hid (∀ k, k ≤ s.size → (∀ j, j < k → s.data.toList[j]? = some 35) → s.data.toList[k]? ≠ some 35 → headE s.data.toList = headK s.data.toList k) := fun k h h1 h2 => headE_at (by simpa using h) h1 h2
  have Hget : Hid (∀ k (h : k < s.size), s.data.toList[k]? = some s[k]) := fun k h => by rw [List.getElem?_eq_getElem (by simpa using h)]; rfl
  have Hout : Hid (∀ k, ¬ k < s.size → s.data.toList[k]? = none) := fun k h => List.getElem?_eq_none (by simpa using h)
  generalize titleB s.data.toList = tt at *
  generalize headE s.data.toList = he at *
  go_enter Tryz.func132, Tryz.ntmps132
  go_wp2_with fail
  go_loopg [2] s.size (fun gk i wr => ∃ k : Nat, i = .int .i64 k ∧ k ≤ s.size ∧ Hid (gk = s.size - k) ∧ Hid (∀ j, j < k → s.data.toList[j]? = some 35) ∧ Hid (w = wr))
  case atStart => exact ⟨0, rfl, by omega, rfl, fun j hj => (by omega), rfl⟩
  obtain ⟨k, rfl, hk, hgk, hall, hw⟩ := hrel
  obtain rfl := hw.out
  have hk1 : (0 : Int) ≤ (k : Int) := by omega
  by_cases hlt : k < s.size
  · have hk2 : (k : Int) < (s.size : Int) := by omega
    have Hg := Lib.hid (Hget.out k hlt)
    by_cases h35 : s[k] = 35
    · have hc : s[k].toNat = 35 := by rw [h35]; rfl
      rw [h35] at Hg
      clear h35
      go_wp2_with fail
      go_roundg (s.size - (k + 1))
      case measure => have := hgk.out; omega
      case rel => exact ⟨k + 1, by go_num, by omega, rfl, fun j hj => if e : j = k then (by rw [e]; exact Hg.out) else hall.out j (by omega), rfl⟩
    · have hH := Hat.out k hk hall.out (by rw [Hg.out]; exact fun e => h35 (Option.some.inj e))
      obtain ⟨r1, r2⟩ := Hres.out k hH
      unfold headK at r1 r2
      rw [Hg.out] at r1 r2
      have hc35 : ((s[k].toNat : Int) == 35) = false := by
        rw [beq_eq_false_iff_ne]
        intro e
        exact h35 (UInt8.toNat_inj.1 (by show s[k].toNat = 35; omega))
      have hne : ((k : Int) == (s.size : Int)) = false := by rw [beq_eq_false_iff_ne]; omega
      by_cases h32 : s[k] = 32
      · have hc : s[k].toNat = 32 := by rw [h32]; rfl
        have hc32 : ((s[k].toNat : Int) != 32) = false := by rw [hc]; rfl
        have hne32 : ¬ (some s[k] ≠ some (32 : UInt8)) := by rw [h32]; simp
        clear h35
        by_cases h1 : k < 1
        · have hd : decide ((k : Int) < 1) = true := by simp; omega
          rw [if_pos (.inl h1)] at r1 r2
          have R1 := Lib.hid r1
          have R2 := Lib.hid r2
          clear r1 r2 hH h32 hc32
          go_wp2_with fail
          go_ret2
          exact ⟨by rw [R1.out, R2.out] <;> rfl, Below.refl _ _⟩
        · have hd : decide ((k : Int) < 1) = false := by simp; omega
          by_cases h4 : 4 < k
          · have hd4 : decide ((4 : Int) < (k : Int)) = true := by simp; omega
            rw [if_pos (.inr (.inl h4))] at r1 r2
            have R1 := Lib.hid r1
            have R2 := Lib.hid r2
            clear r1 r2 hH h32 hc32
            go_wp2_with fail
            go_ret2
            exact ⟨by rw [R1.out, R2.out] <;> rfl, Below.refl _ _⟩
          · have hd4 : decide ((4 : Int) < (k : Int)) = false := by simp; omega
            have hdr : (s.extract k s.size).data.toList = s.data.toList.drop k := Lib.extract_to_end ..
            have hsz : (s.extract k s.size).size ≤ 100000 := by rw [ByteArray.size_extract]; omega
            have HTe := Lib.hid (trim_blank (s.extract k s.size))
            have HT := Lib.hid (fun W => trim1_any (s.extract k s.size) W (by omega))
            rw [hdr] at HTe HT
            have hk3 : (k : Int) ≤ (s.size : Int) := by omega
            cases hbl : blankL 32 (s.data.toList.drop k)
            · rw [hbl] at HTe
              rw [if_neg (by rw [hbl]; simp only [not_or, Bool.false_eq_true, not_false_eq_true, and_true]; exact ⟨h1, h4, hne32⟩)] at r1 r2
              have R1 := Lib.hid r1
              have R2 := Lib.hid r2
              generalize (⟨(Lib.trimB (s.data.toList.drop k) 32).toArray⟩ : ByteArray) = t at *
              have hTe := HTe.out
              clear r1 r2 hH h32 hdr hbl hsz
              go_wp2_with fail
              refine (HT.out _).mono ?_
              rintro e w2 ⟨rfl, n2, rfl⟩
              go_wp2_with fail
              go_ret2
              exact ⟨by rw [R1.out, R2.out] <;> rfl, below_drewN (Below.refl _ _) n2⟩
            · rw [hbl] at HTe
              rw [if_pos (.inr (.inr (.inr hbl)))] at r1 r2
              have R1 := Lib.hid r1
              have R2 := Lib.hid r2
              generalize (⟨(Lib.trimB (s.data.toList.drop k) 32).toArray⟩ : ByteArray) = t at *
              have hTe := HTe.out
              clear r1 r2 hH h32 hdr hbl hsz
              go_wp2_with fail
              refine (HT.out _).mono ?_
              rintro e w2 ⟨rfl, n2, rfl⟩
              go_wp2_with fail
              go_ret2
              exact ⟨by rw [R1.out, R2.out] <;> rfl, below_drewN (Below.refl _ _) n2⟩
      · have hc32 : ((s[k].toNat : Int) != 32) = true := by
          rw [bne_iff_ne]
          intro e
          exact h32 (UInt8.toNat_inj.1 (by show s[k].toNat = 32; omega))
        rw [if_pos (.inr (.inr (.inl (fun e => h32 (Option.some.inj e)))))] at r1 r2
        have R1 := Lib.hid r1
        have R2 := Lib.hid r2
        clear r1 r2 hH h32 h35
        by_cases h1 : k < 1
        · have hd : decide ((k : Int) < 1) = true := by simp; omega
          go_wp2_with fail
          go_ret2
          exact ⟨by rw [R1.out, R2.out] <;> rfl, Below.refl _ _⟩
        · have hd : decide ((k : Int) < 1) = false := by simp; omega
          by_cases h4 : 4 < k
          · have hd4 : decide ((4 : Int) < (k : Int)) = true := by simp; omega
            go_wp2_with fail
            go_ret2
            exact ⟨by rw [R1.out, R2.out] <;> rfl, Below.refl _ _⟩
          · have hd4 : decide ((4 : Int) < (k : Int)) = false := by simp; omega
            go_wp2_with fail
            go_ret2
            exact ⟨by rw [R1.out, R2.out] <;> rfl, Below.refl _ _⟩
  · have hno := Hout.out k hlt
    have hH := Hat.out k hk hall.out (by rw [hno]; simp)
    obtain ⟨r1, r2⟩ := Hres.out k hH
    unfold headK at r1 r2
    rw [hno, if_pos (.inr (.inr (.inl (by simp))))] at r1 r2
    have R1 := Lib.hid r1
    have R2 := Lib.hid r2
    obtain rfl : k = s.size := by omega
    have hd0 : ¬ ((s.size : Int) < (s.size : Int)) := by omega
    clear r1 r2 hH hno
    by_cases h1 : s.size < 1
    · have hd : decide ((s.size : Int) < 1) = true := by simp; omega
      go_wp2_with fail
      go_ret2
      exact ⟨by rw [R1.out, R2.out] <;> rfl, Below.refl _ _⟩
    · have hd : decide ((s.size : Int) < 1) = false := by simp; omega
      by_cases h4 : 4 < s.size
      · have hd4 : decide ((4 : Int) < (s.size : Int)) = true := by simp; omega
        go_wp2_with fail
        go_ret2
        exact ⟨by rw [R1.out, R2.out] <;> rfl, Below.refl _ _⟩
      · have hd4 : decide ((4 : Int) < (s.size : Int)) = false := by simp; omega
        go_wp2_with fail
        go_ret2
        exact ⟨by rw [R1.out, R2.out] <;> rfl, Below.refl _ _⟩
theorem take_drop_len (l : List UInt8) : (l.takeWhile (· == 35)).length + (l.dropWhile (· == 35)).length = l.length := by
  have := congrArg List.length (List.takeWhile_append_dropWhile (p := (· == 35)) (l := l))
  rwa [List.length_append] at this
theorem pre_head (d : List UInt8) : Lib.hasPrefix d [32] = decide (d.head? = some 32) := by
  unfold Lib.hasPrefix
  cases d with
  | nil => rfl
  | cons x r =>
    rw [List.head?_cons, Bool.eq_iff_iff]
    simp [List.isPrefixOf]
    exact ⟨fun e => e.symm, fun e => e.symm⟩
set_option maxRecDepth 100000 in
set_option maxHeartbeats 8000000 in
theorem headOf_any (s : ByteArray) (w : World) (hE : Env w) (hs : s.size ≤ 100000) : Calls Tryz.prog 75 #[.string s] w (Gives (.tuple #[.int .i64 (((headE s.data.toList).1 : Nat) : Int), .string (titleB s.data.toList)]) w) := by
  have HL := Lib.hid (Tryz.strings_TrimLeft_one s 35 (by decide) w)
  have hlen := take_drop_len s.data.toList
  have hsl : s.data.toList.length = s.size := by simp
  have Hres : Hid (headE s.data.toList = if (s.data.toList.takeWhile (· == 35)).length < 1 ∨ 4 < (s.data.toList.takeWhile (· == 35)).length ∨ (s.data.toList.dropWhile (· == 35)).head? ≠ some 32 ∨ blankL 32 (s.data.toList.dropWhile (· == 35)) = true then (0, []) else ((s.data.toList.takeWhile (· == 35)).length, Lib.trimB (s.data.toList.dropWhile (· == 35)) 32)) := rfl
  have Hti : Hid (titleB s.data.toList = ⟨(headE s.data.toList).2.toArray⟩) := rfl
  unfold Lib.trimLeftB at HL
  generalize titleB s.data.toList = tt at *
  generalize headE s.data.toList = he at *
  generalize (s.data.toList.takeWhile (· == 35)).length = n at *
  generalize s.data.toList.dropWhile (· == 35) = d at *
  have hdt : (⟨d.toArray⟩ : ByteArray).data.toList = d := by simp
  have hds : (⟨d.toArray⟩ : ByteArray).size = d.length := by show d.toArray.size = _; simp
  have HP := Lib.hid (fun W => Tryz.strings_HasPrefix ⟨d.toArray⟩ ⟨#[32]⟩ W)
  have HSq := Lib.hid (squeezed_any ⟨d.toArray⟩ w hE (by omega))
  have HT := Lib.hid (fun W => trim1_any ⟨d.toArray⟩ W (by omega))
  rw [hdt] at HP HSq HT
  rw [show (⟨#[32]⟩ : ByteArray).data.toList = [32] from rfl, pre_head] at HP
  have hw : IntKind.i64.wrap ((s.size : Int) - ((⟨d.toArray⟩ : ByteArray).size : Int)) = (n : Int) := by rw [IntWalk.i64_in _ (by omega)]; omega
  generalize (⟨d.toArray⟩ : ByteArray) = t at *
  have hnb : n ≤ 100000 := by omega
  clear hlen hsl hds hdt
  by_cases h1 : n < 1
  · rw [if_pos (.inl h1)] at Hres
    have hd : decide ((n : Int) < 1) = true := by simp; omega
    have hH := Hres.out
    subst hH
    clear Hres h1
    go_enter Tryz.func75, Tryz.ntmps75
    go_wp2_with fail
    refine HL.out.mono ?_
    rintro e w1 ⟨rfl, rfl⟩
    go_wp2_with fail
    go_ret2
    exact ⟨by rw [Hti.out] <;> rfl, Below.refl _ _⟩
  have hd : decide ((n : Int) < 1) = false := by simp; omega
  by_cases h4 : 4 < n
  · rw [if_pos (.inr (.inl h4))] at Hres
    have hd4 : decide ((4 : Int) < (n : Int)) = true := by simp; omega
    have hH := Hres.out
    subst hH
    clear Hres h1 h4
    go_enter Tryz.func75, Tryz.ntmps75
    go_wp2_with fail
    refine HL.out.mono ?_
    rintro e w1 ⟨rfl, rfl⟩
    go_wp2_with fail
    go_ret2
    exact ⟨by rw [Hti.out] <;> rfl, Below.refl _ _⟩
  have hd4 : decide ((4 : Int) < (n : Int)) = false := by simp; omega
  by_cases h32 : d.head? = some 32
  · rw [decide_eq_true h32] at HP
    cases hbl : blankL 32 d
    · rw [hbl] at HSq
      rw [if_neg (by rw [hbl]; simp only [not_or, Bool.false_eq_true, not_false_eq_true, and_true]; exact ⟨h1, h4, fun e => e h32⟩)] at Hres
      have hH := Hres.out
      subst hH
      clear Hres h1 h4 h32 hbl
      go_enter Tryz.func75, Tryz.ntmps75
      go_wp2_with fail
      refine HL.out.mono ?_
      rintro e w1 ⟨rfl, rfl⟩
      go_wp2_with fail
      refine (HP.out _).mono ?_
      rintro e w2 ⟨rfl, rfl⟩
      go_wp2_with fail
      refine HSq.out.mono ?_
      rintro e w3 ⟨u, rfl, hu, hb3⟩
      have hue := (isEmpty_size u).trans hu
      clear hu
      go_wp2_with fail
      refine (HT.out _).mono ?_
      rintro e w4 ⟨rfl, n4, rfl⟩
      go_wp2_with fail
      go_ret2
      exact ⟨by rw [Hti.out] <;> rfl, below_drewN hb3 n4⟩
    · rw [hbl] at HSq
      rw [if_pos (.inr (.inr (.inr hbl)))] at Hres
      have hH := Hres.out
      subst hH
      clear Hres h1 h4 h32 hbl
      go_enter Tryz.func75, Tryz.ntmps75
      go_wp2_with fail
      refine HL.out.mono ?_
      rintro e w1 ⟨rfl, rfl⟩
      go_wp2_with fail
      refine (HP.out _).mono ?_
      rintro e w2 ⟨rfl, rfl⟩
      go_wp2_with fail
      refine HSq.out.mono ?_
      rintro e w3 ⟨u, rfl, hu, hb3⟩
      have hue := (isEmpty_size u).trans hu
      clear hu
      go_wp2_with fail
      go_ret2
      exact ⟨by rw [Hti.out] <;> rfl, hb3⟩
  · rw [decide_eq_false h32] at HP
    rw [if_pos (.inr (.inr (.inl h32)))] at Hres
    have hH := Hres.out
    subst hH
    clear Hres h1 h4 h32
    go_enter Tryz.func75, Tryz.ntmps75
    go_wp2_with fail
    refine HL.out.mono ?_
    rintro e w1 ⟨rfl, rfl⟩
    go_wp2_with fail
    refine (HP.out _).mono ?_
    rintro e w2 ⟨rfl, rfl⟩
    go_wp2_with fail
    go_ret2
    exact ⟨by rw [Hti.out] <;> rfl, Below.refl _ _⟩
end Go.Proofs.YtlpknpjfmacemaaGreatDoor
