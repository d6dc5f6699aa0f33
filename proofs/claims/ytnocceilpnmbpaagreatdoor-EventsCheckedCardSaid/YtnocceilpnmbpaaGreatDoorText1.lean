/- Strings that are plain, and texts: of the program and of the reference. -/
import Derived.Test.YtnocceilpnmbpaaGreatDoorEnv
import Derived.Lib.ConvBytes
namespace Go.Proofs.YtnocceilpnmbpaaGreatDoor
open Go.RowKit
set_option linter.unusedVariables false
set_option linter.unusedSimpArgs false

/-- No control bytes (but line feeds, if they may be there). -/
def ctrlN (feeds : Bool) (n : Nat) : Bool := (decide (n < 32) && !(feeds && decide (n = 10))) || decide (n = 127)
def ctrlTo (feeds : Bool) (s : ByteArray) (i : Nat) : Prop := ∀ j, (h : j < s.size) → j < i → ctrlN feeds s[j].toNat = false
instance (feeds : Bool) (s : ByteArray) (i : Nat) : Decidable (ctrlTo feeds s i) := by unfold ctrlTo; infer_instance
def formB (feeds : Bool) (s : ByteArray) : Bool := decide (ctrlTo feeds s s.size) && Lib.validD s.data.toList
def plainB (s : ByteArray) : Bool := formB false s && (decide (Lib.trimB s.data.toList 32 = s.data.toList) && !Lib.contains s.data.toList [32, 32])
theorem ctrlTo_succ {feeds : Bool} {s : ByteArray} {i : Nat} (h : i < s.size) : ctrlTo feeds s (i + 1) ↔ ctrlTo feeds s i ∧ ctrlN feeds s[i].toNat = false := by
  constructor
  · intro h1
    exact ⟨fun j hj hl => h1 j hj (by omega), h1 i h (by omega)⟩
  · rintro ⟨h1, h2⟩ j hj hl
    by_cases e : j = i
    · subst e; exact h2
    · exact h1 j hj (by omega)

def textB (s : ByteArray) : Bool := formB true s && (decide (s.size = 0) || Lib.hasSuffix s.data.toList [10])

theorem trim1_any (s : ByteArray) (w : World) (hs : s.size ≤ 9223372036854775807) :
    Calls Tryz.prog 91 #[.string s, .string ⟨#[32]⟩] w (Draws (.string ⟨(Lib.trimB s.data.toList 32).toArray⟩) w) :=
  (Tryz.strings_Trim_one s 32 (by decide) w hs).mono fun e w' ⟨h1, h2⟩ => ⟨h1, by rcases h2 with h2 | h2; exact ⟨0, h2⟩; exact ⟨1, h2⟩⟩
theorem trim_beq (s : ByteArray) (l : List UInt8) : ((⟨l.toArray⟩ : ByteArray).toList == s.toList) = decide (l = s.data.toList) := by
  rw [ByteArray.toList_eq, ByteArray.toList_eq, Bool.eq_iff_iff, beq_iff_eq, decide_eq_true_eq]
theorem isEmpty_size (s : ByteArray) : s.toList.isEmpty = decide (s.size = 0) := by
  rw [ByteArray.toList_eq, Bool.eq_iff_iff, List.isEmpty_iff, decide_eq_true_eq, ← List.length_eq_zero_iff, Array.length_toList]
  rfl



set_option maxRecDepth 100000 in
set_option maxHeartbeats 4000000 in
theorem isPlain_any (s : ByteArray) (w : World) (hE : Env w) (hs : s.size ≤ 1000000000) :
    Calls Tryz.prog 141 #[.string s] w (Gives (.bool (plainB s)) w) := by
  go_enter Tryz.func141, Tryz.ntmps141
  go_wp2_with fail
  go_loopg [3] s.size (fun gk i wr => ∃ k : Nat, i = .int .i64 k ∧ k ≤ s.size ∧ Hid (gk = s.size - k) ∧ Hid (ctrlTo false s k) ∧ Hid (w = wr))
  case atStart => exact ⟨0, rfl, by omega, rfl, fun j _ h => by omega, rfl⟩
  case round =>
    obtain ⟨k, rfl, hk, hgk, hok, hw⟩ := hrel
    obtain rfl := hw.out
    by_cases hlt : k < s.size
    · have HS := Lib.hid (ctrlTo_succ (feeds := false) hlt)
      have hfin : ctrlN false s[k].toNat = true → plainB s = false := fun hn => by
        have : decide (ctrlTo false s s.size) = false := decide_eq_false (fun h3 => by rw [h3 k hlt hlt] at hn; cases hn)
        simp [plainB, textB, formB, this]
      have Hfin := Lib.hid hfin
      clear hfin
      generalize hc : s[k].toNat = c at *
      go_wp2_with fail
      all_goals first
        | (go_roundg (s.size - (k + 1))
           case measure => have := hgk.out; omega
           case rel => exact ⟨k + 1, by go_num, by omega, rfl, HS.out.2 ⟨hok, by go_light; unfold ctrlN; simp at *; omega⟩, rfl⟩)
        | (go_ret
           exact ⟨by rw [Hfin.out (by go_light; unfold ctrlN; simp at *; omega)]; rfl, Below.refl _ _⟩)
    · obtain rfl : k = s.size := by omega
      have h3 : decide (ctrlTo false s s.size) = true := decide_eq_true hok.out
      have hfin : plainB s = (Lib.validD s.data.toList && (decide (Lib.trimB s.data.toList 32 = s.data.toList) && !Lib.contains s.data.toList [32, 32])) := by
        simp only [plainB, textB, formB, h3, Bool.true_and, Bool.and_assoc]
      have Hfin := Lib.hid hfin
      clear hfin h3
      have HV := Lib.hid (valid_any s w hE (by omega))
      go_wp2_with fail
      refine HV.out.mono ?_
      rintro e w1 ⟨rfl, hb1⟩
      cases hv : Lib.validD s.data.toList
      · rw [hv] at Hfin
        go_wp2_with fail
        go_ret
        exact ⟨by rw [Hfin.out]; rfl, hb1⟩
      · rw [hv] at Hfin
        go_wp2_with fail
        refine (trim1_any s w1 (by omega)).mono ?_
        rintro e w2 ⟨rfl, n2, rfl⟩
        have htr : s.toList = s.data.toList := by rw [ByteArray.toList_eq]
        generalize Lib.trimB s.data.toList 32 = tr at *
        by_cases ht : tr = s.data.toList
        · rw [decide_eq_true ht] at Hfin
          obtain rfl : tr = s.toList := by rw [htr, ht]
          clear htr ht
          go_wp2_with fail
          refine (containsS_any s ⟨#[32, 32]⟩ _ ((hE.below hb1).drewN _) (by omega)).mono ?_
          rintro e w3 ⟨rfl, rfl⟩
          go_wp2_with fail
          go_ret
          exact ⟨by rw [Hfin.out]; simp, below_drewN hb1 _⟩
        · rw [decide_eq_false ht] at Hfin
          have ht2 : ¬ tr = s.toList := by rw [htr]; exact ht
          clear htr ht
          go_wp2_with fail
          go_ret
          exact ⟨by rw [Hfin.out]; rfl, below_drewN hb1 _⟩
set_option maxRecDepth 100000 in
set_option maxHeartbeats 4000000 in
theorem wellFormed_any (s : ByteArray) (feeds : Bool) (w : World) (hE : Env w) (hs : s.size ≤ 1000000000) :
    Calls Tryz.prog 142 #[.string s, .bool feeds] w (Gives (.bool (formB feeds s)) w) := by
  have hcv := Lib.run_convert_string_bytes (P := Tryz.prog) w 9 118 5 s (u := .string) Tryz.underlying9 Tryz.underlying118 Tryz.underlying5
  have hbb : Below w.heap.size w (Lib.bytesWorld w 5 s) := ⟨rfl, rfl, rfl, by rw [Lib.bytesWorld_size]; omega, fun k hk => Lib.bytesWorld_at_old w _ s k hk⟩
  have hcb : ∀ k, (h : k < s.size) → (Lib.bytesWorld w 5 s).cell? ⟨w.heap.size, k, none⟩ = some (.int .u8 s[k].toNat) := fun k h => by
    rw [Lib.bytesWorld_cell w _ s k h, List.getD_eq_getElem?_getD, List.getElem?_eq_getElem (by simpa using h)]; rfl
  have Hcb := Lib.hid hcb
  clear hcb
  generalize Lib.bytesWorld w 5 s = wb at *
  generalize grownCap w s.size 0 5 = cp at *
  go_enter Tryz.func142, Tryz.ntmps142
  go_wp2_with fail
  go_loopg [10] s.size (fun gk i wr => ∃ k : Nat, i = .int .i64 k ∧ k ≤ s.size ∧ Hid (gk = s.size - k) ∧ Hid (ctrlTo feeds s k) ∧ Hid (wb = wr))
  case atStart => exact ⟨0, rfl, by omega, rfl, fun j _ h => by omega, rfl⟩
  case round =>
    obtain ⟨k, rfl, hk, hgk, hok, hw⟩ := hrel
    obtain rfl := hw.out
    clear hcv
    by_cases hlt : k < s.size
    · have HS := Lib.hid (ctrlTo_succ (feeds := feeds) hlt)
      have hfin : ctrlN feeds s[k].toNat = true → formB feeds s = false := fun hn => by
        have : decide (ctrlTo feeds s s.size) = false := decide_eq_false (fun h3 => by rw [h3 k hlt hlt] at hn; cases hn)
        simp [formB, this]
      have Hfin := Lib.hid hfin
      have hck := Hcb.out k hlt
      clear hfin
      generalize hc : s[k].toNat = c at *
      cases feeds
      all_goals
        go_wp2_with fail
        all_goals first
          | (go_roundg (s.size - (k + 1))
             case measure => have := hgk.out; omega
             case rel => exact ⟨k + 1, by go_num, by omega, rfl, HS.out.2 ⟨hok, by go_light; unfold ctrlN; simp at *; omega⟩, rfl⟩)
          | (go_ret
             exact ⟨by rw [Hfin.out (by go_light; unfold ctrlN; simp at *; omega)]; rfl, hbb⟩)
    · obtain rfl : k = s.size := by omega
      have h3 : decide (ctrlTo feeds s s.size) = true := decide_eq_true hok.out
      have hfin : formB feeds s = Lib.validD s.data.toList := by simp only [formB, h3, Bool.true_and]
      have Hfin := Lib.hid hfin
      clear hfin h3
      go_wp2_with fail
      refine (valid_any s _ (hE.below hbb) (by omega)).mono ?_
      rintro e w1 ⟨rfl, hb1⟩
      go_wp2_with fail
      go_ret
      exact ⟨by rw [Hfin.out]; rfl, below_next hbb hb1⟩
set_option maxHeartbeats 4000000 in
theorem plainOf_any (s : ByteArray) (w : World) (hE : Env w) (hs : s.size ≤ 1000000000) :
    Calls Tryz.prog 102 #[.string s] w (Gives (.bool (plainB s)) w) := by
  have HF := Lib.hid (wellFormed_any s false w hE hs)
  have Hfin := Lib.hid (show plainB s = (formB false s && (decide (Lib.trimB s.data.toList 32 = s.data.toList) && !Lib.contains s.data.toList [32, 32])) from rfl)
  go_enter Tryz.func102, Tryz.ntmps102
  go_wp2_with fail
  refine HF.out.mono ?_
  rintro e w1 ⟨rfl, hb1⟩
  cases hv : formB false s
  · rw [hv] at Hfin
    go_wp2_with fail
    go_ret
    exact ⟨by rw [Hfin.out]; rfl, hb1⟩
  · rw [hv] at Hfin
    go_wp2_with fail
    refine (trim1_any s w1 (by omega)).mono ?_
    rintro e w2 ⟨rfl, n2, rfl⟩
    have htr : s.toList = s.data.toList := by rw [ByteArray.toList_eq]
    generalize Lib.trimB s.data.toList 32 = tr at *
    by_cases ht : tr = s.data.toList
    · rw [decide_eq_true ht] at Hfin
      obtain rfl : tr = s.toList := by rw [htr, ht]
      clear htr ht
      go_wp2_with fail
      refine (containsS_any s ⟨#[32, 32]⟩ _ ((hE.below hb1).drewN _) (by omega)).mono ?_
      rintro e w3 ⟨rfl, rfl⟩
      go_wp2_with fail
      go_ret
      exact ⟨by rw [Hfin.out]; simp, below_drewN hb1 _⟩
    · rw [decide_eq_false ht] at Hfin
      have ht2 : ¬ tr = s.toList := by rw [htr]; exact ht
      clear htr ht
      go_wp2_with fail
      go_ret
      exact ⟨by rw [Hfin.out]; rfl, below_drewN hb1 _⟩
end Go.Proofs.YtnocceilpnmbpaaGreatDoor
