/- Texts: faults, lines, pieces. -/
import Derived.Test.YthajoedabjfaaaaGreatDoorLineP
import Derived.Test.YthajoedabjfaaaaGreatDoorWord2
import Derived.Test.YthajoedabjfaaaaGreatDoorDelStr
import Derived.Test.YthajoedabjfaaaaGreatDoorText1
import Derived.Test.YthajoedabjfaaaaGreatDoorAppAll
import Derived.Test.YthajoedabjfaaaaGreatDoorStrs
namespace Go.Proofs.YthajoedabjfaaaaGreatDoor
open Go.RowKit
set_option linter.unusedVariables false
set_option linter.unusedSimpArgs false

def bodyE (s : ByteArray) : Int := if 20000 < s.size then 2 else if textB s = true then 0 else 3
set_option maxHeartbeats 2000000 in
theorem textFault_any (s : ByteArray) (w : World) (hE : Env w) (hs : s.size ≤ 1000000000) : Calls Tryz.prog 32 #[.string s] w (Gives (.int .i64 (bodyE s)) w) := by
  have HT := Lib.hid (isText_any s w hE hs)
  have HV : Hid (bodyE s = if 20000 < s.size then 2 else if textB s = true then 0 else 3) := rfl
  generalize bodyE s = v at *
  by_cases h : 20000 < s.size
  · rw [if_pos h] at HV
    have hd : decide ((20000 : Int) < (s.size : Int)) = true := by simp; omega
    clear h
    go_enter Tryz.func32, Tryz.ntmps32
    go_wp2_with fail
    go_ret
    exact ⟨by rw [HV.out] <;> rfl, Below.refl _ _⟩
  · rw [if_neg h] at HV
    have hd : decide ((20000 : Int) < (s.size : Int)) = false := by simp; omega
    clear h
    cases ht : textB s <;> rw [ht] at HT HV
    all_goals
      go_enter Tryz.func32, Tryz.ntmps32
      go_wp2_with fail
      refine HT.out.mono ?_
      rintro e w1 ⟨rfl, hb1⟩
      go_wp2_with fail
      go_ret
      exact ⟨by rw [HV.out] <;> rfl, hb1⟩
set_option maxHeartbeats 2000000 in
theorem bodyFault_any (s : ByteArray) (w : World) (hE : Env w) (hs : s.size ≤ 1000000000) : Calls Tryz.prog 45 #[.string s] w (Gives (.int .i64 (bodyE s)) w) := by
  have HT := Lib.hid (textOf_any s w hE hs)
  have HV : Hid (bodyE s = if 20000 < s.size then 2 else if textB s = true then 0 else 3) := rfl
  generalize bodyE s = v at *
  by_cases h : 20000 < s.size
  · rw [if_pos h] at HV
    have hd : decide ((20000 : Int) < (s.size : Int)) = true := by simp; omega
    clear h
    go_enter Tryz.func45, Tryz.ntmps45
    go_wp2_with fail
    go_ret
    exact ⟨by rw [HV.out] <;> rfl, Below.refl _ _⟩
  · rw [if_neg h] at HV
    have hd : decide ((20000 : Int) < (s.size : Int)) = false := by simp; omega
    clear h
    cases ht : textB s <;> rw [ht] at HT HV
    all_goals
      go_enter Tryz.func45, Tryz.ntmps45
      go_wp2_with fail
      refine HT.out.mono ?_
      rintro e w1 ⟨rfl, hb1⟩
      go_wp2_with fail
      go_ret
      exact ⟨by rw [HV.out] <;> rfl, hb1⟩
theorem split_any (c : UInt8) (s : ByteArray) (w : World) (hE : Env w) (hs : s.size ≤ 100000000) :
    Calls Tryz.prog 117 #[.string s, .string ⟨#[c]⟩] w (fun e w' => ∃ b, e = .returned (.slice (some ⟨b, 0, none⟩) (cutB c s).length (cutB c s).length) ∧ Own w.heap.size 9 w' (.slice (some ⟨b, 0, none⟩) (cutB c s).length (cutB c s).length) (cutB c s) ∧ Below w.heap.size w w') := by
  obtain ⟨-, m, hm⟩ := hE
  refine (Tryz.strings_Split s ⟨#[c]⟩ m w (by omega) hm (Nat.le_refl 1)).mono ?_
  rintro e w' ⟨rfl, rfl⟩
  have hlen : (cutB c s).length = Lib.countB s ⟨#[c]⟩ + 1 := by rw [← splitB_cut]; exact Lib.splitB_all ⟨#[c]⟩ (Nat.le_refl 1) 0 _ s rfl
  have hl2 : (cutB c s).length ≤ 100000000 + 1 := by
    unfold cutB; rw [List.length_map]
    have := cutL_length c s.data.toList
    have h3 : s.data.toList.length = s.size := by simp
    omega
  rw [splitB_cut, ← hlen]
  refine ⟨_, rfl, ?_, (Below.refl _ _).alloc (Nat.le_refl _) _⟩
  have hb := Box.new w 9 ((cutB c s).map Value.string).toArray
  have hX := Own.ofBox (base := w.heap.size) (l := cutB c s) hb (by rw [strs_flat]) (Nat.le_refl _) (by omega)
  exact hX
theorem cutB_len (c : UInt8) (s : ByteArray) : (cutB c s).length ≤ s.size + 1 := by
  unfold cutB; rw [List.length_map]
  have := cutL_length c s.data.toList
  have h3 : s.data.toList.length = s.size := by simp
  omega
theorem cutB_sizes (c : UInt8) (s : ByteArray) : ∀ x ∈ cutB c s, x.size ≤ s.size := by
  intro x hx
  unfold cutB at hx
  obtain ⟨l, hl, rfl⟩ := List.mem_map.1 hx
  have := cutL_sizes c s.data.toList l hl
  have h3 : s.data.toList.length = s.size := by simp
  show l.toArray.size ≤ _
  simp
  omega
/-- The pieces of a line that are not empty. -/
theorem cutB_squeeze (s : ByteArray) : ((cutB 32 s).filter (fun x => !decide (x.size = 0))).map (·.data.toList) = squeezeL s.data.toList := by
  unfold cutB squeezeL
  rw [List.filter_map, List.map_map]
  have e1 : ((fun x : ByteArray => x.data.toList) ∘ fun l : List UInt8 => (⟨l.toArray⟩ : ByteArray)) = id := by funext l; simp
  rw [e1, List.map_id]
  congr 1
  funext l
  show (!decide ((⟨l.toArray⟩ : ByteArray).size = 0)) = !l.isEmpty
  congr 1
  rw [Bool.eq_iff_iff, decide_eq_true_eq, List.isEmpty_iff]
  show l.toArray.size = 0 ↔ _
  simp
end Go.Proofs.YthajoedabjfaaaaGreatDoor
