/- Texts: faults, lines, pieces. -/
import Derived.Test.YtlpknpjfmacemaaGreatDoorLineP
import Derived.Test.YtlpknpjfmacemaaGreatDoorWord2
import Derived.Test.YtlpknpjfmacemaaGreatDoorDelStr
import Derived.Test.YtlpknpjfmacemaaGreatDoorText1
import Derived.Test.YtlpknpjfmacemaaGreatDoorAppAll
import Derived.Test.YtlpknpjfmacemaaGreatDoorStrs
namespace Go.Proofs.YtlpknpjfmacemaaGreatDoor
open Go.RowKit
set_option linter.unusedVariables false
set_option linter.unusedSimpArgs false

def bodyE (s : ByteArray) : Int := if 20000 < s.size then 2 else if textB s = true then 0 else 3
set_option maxHeartbeats 2000000 in
theorem textFault_any (s : ByteArray) (w : World) (hE : Env w) (hs : s.size ≤ 1000000000) : Calls Tryz.prog 64 #[.string s] w (Gives (.int .i64 (bodyE s)) w) := by
  have HT := Lib.hid (isText_any s w hE hs)
  have HV : Hid (bodyE s = if 20000 < s.size then 2 else if textB s = true then 0 else 3) := rfl
  generalize bodyE s = v at *
  by_cases h : 20000 < s.size
  · rw [if_pos h] at HV
    have hd : decide ((20000 : Int) < (s.size : Int)) = true := by simp; omega
    clear h
    go_enter Tryz.func64, Tryz.ntmps64
    go_wp2_with fail
    go_ret
    exact ⟨by rw [HV.out] <;> rfl, Below.refl _ _⟩
  · rw [if_neg h] at HV
    have hd : decide ((20000 : Int) < (s.size : Int)) = false := by simp; omega
    clear h
    cases ht : textB s <;> rw [ht] at HT HV
    all_goals
      go_enter Tryz.func64, Tryz.ntmps64
      go_wp2_with fail
      refine HT.out.mono ?_
      rintro e w1 ⟨rfl, hb1⟩
      go_wp2_with fail
      go_ret
      exact ⟨by rw [HV.out] <;> rfl, hb1⟩
set_option maxHeartbeats 2000000 in
theorem bodyFault_any (s : ByteArray) (w : World) (hE : Env w) (hs : s.size ≤ 1000000000) : Calls Tryz.prog 16 #[.string s] w (Gives (.int .i64 (bodyE s)) w) := by
  have HT := Lib.hid (textOf_any s w hE hs)
  have HV : Hid (bodyE s = if 20000 < s.size then 2 else if textB s = true then 0 else 3) := rfl
  generalize bodyE s = v at *
  by_cases h : 20000 < s.size
  · rw [if_pos h] at HV
    have hd : decide ((20000 : Int) < (s.size : Int)) = true := by simp; omega
    clear h
    go_enter Tryz.func16, Tryz.ntmps16
    go_wp2_with fail
    go_ret
    exact ⟨by rw [HV.out] <;> rfl, Below.refl _ _⟩
  · rw [if_neg h] at HV
    have hd : decide ((20000 : Int) < (s.size : Int)) = false := by simp; omega
    clear h
    cases ht : textB s <;> rw [ht] at HT HV
    all_goals
      go_enter Tryz.func16, Tryz.ntmps16
      go_wp2_with fail
      refine HT.out.mono ?_
      rintro e w1 ⟨rfl, hb1⟩
      go_wp2_with fail
      go_ret
      exact ⟨by rw [HV.out] <;> rfl, hb1⟩
theorem split_any (c : UInt8) (s : ByteArray) (w : World) (hE : Env w) (hs : s.size ≤ 100000000) :
    Calls Tryz.prog 131 #[.string s, .string ⟨#[c]⟩] w (fun e w' => ∃ b, e = .returned (.slice (some ⟨b, 0, none⟩) (cutB c s).length (cutB c s).length) ∧ Own w.heap.size 9 w' (.slice (some ⟨b, 0, none⟩) (cutB c s).length (cutB c s).length) (cutB c s) ∧ Below w.heap.size w w') := by
  obtain ⟨-, m, hm⟩ := hE
  refine (Tryz.strings_Split s ⟨#[c]⟩ m w (by omega) hm (Nat.le_refl 1)).mono ?_
  rintro e w' ⟨rfl, rfl⟩
  have hlen : (cutB c s).length = Lib.countB s ⟨#[c]⟩ + 1 := by rw [← splitB_cut]; exact Lib.splitB_all ⟨#[c]⟩ (Nat.le_refl 1) 0 _ s rfl
  have hl2 : (cutB c s).length ≤ 100000000 + 1 := by
    unfold cutB; rw [List.length_map]
    have := cutL_length c s.data.toList
    have h3 : s.data.toList.length = s.size := by simp
    omega
  rw [splitB_cut, ← hlen]
  refine ⟨_, rfl, ?_, (Below.refl _ _).alloc (Nat.le_refl _) _⟩
  have hb := Box.new w 9 ((cutB c s).map Value.string).toArray
  have hX := Own.ofBox (base := w.heap.size) (l := cutB c s) hb (by rw [strs_flat]) (Nat.le_refl _) (by omega)
  exact hX
set_option maxHeartbeats 1000000 in
theorem sqClo_any (x : ByteArray) (w : World) : Calls Tryz.prog 135 #[.string x] w (Gives (.bool (decide (x.size = 0))) w) := by
  have HE := isEmpty_size x
  cases hd : decide (x.size = 0)
  all_goals
    rw [hd] at HE
    go_enter Tryz.func135, Tryz.ntmps135
    go_wp2_with fail
    go_ret
    exact ⟨rfl, Below.refl _ _⟩
theorem cutB_len (c : UInt8) (s : ByteArray) : (cutB c s).length ≤ s.size + 1 := by
  unfold cutB; rw [List.length_map]
  have := cutL_length c s.data.toList
  have h3 : s.data.toList.length = s.size := by simp
  omega
theorem cutB_sizes (c : UInt8) (s : ByteArray) : ∀ x ∈ cutB c s, x.size ≤ s.size := by
  intro x hx
  unfold cutB at hx
  obtain ⟨l, hl, rfl⟩ := List.mem_map.1 hx
  have := cutL_sizes c s.data.toList l hl
  have h3 : s.data.toList.length = s.size := by simp
  show l.toArray.size ≤ _
  simp
  omega
/-- The pieces of a line that are not empty. -/
theorem cutB_squeeze (s : ByteArray) : ((cutB 32 s).filter (fun x => !decide (x.size = 0))).map (·.data.toList) = squeezeL s.data.toList := by
  unfold cutB squeezeL
  rw [List.filter_map, List.map_map]
  have e1 : ((fun x : ByteArray => x.data.toList) ∘ fun l : List UInt8 => (⟨l.toArray⟩ : ByteArray)) = id := by funext l; simp
  rw [e1, List.map_id]
  congr 1
  funext l
  show (!decide ((⟨l.toArray⟩ : ByteArray).size = 0)) = !l.isEmpty
  congr 1
  rw [Bool.eq_iff_iff, decide_eq_true_eq, List.isEmpty_iff]
  show l.toArray.size = 0 ↔ _
  simp
set_option maxRecDepth 100000 in
set_option maxHeartbeats 4000000 in
theorem squeezed_any (s : ByteArray) (w : World) (hE : Env w) (hs : s.size ≤ 100000) :
    Calls Tryz.prog 74 #[.string s] w (fun e w' => ∃ t : ByteArray, e = .returned (.string t) ∧ decide (t.size = 0) = blankL 32 s.data.toList ∧ Below w.heap.size w w') := by
  have HS := Lib.hid (split_any 32 s w hE (by omega))
  have HD := Lib.hid (fun base v W (h : Own base 9 W v (cutB 32 s)) => deleteStr_any base (cutB 32 s) v 135 #[] (fun x => decide (x.size = 0)) W h (by have := cutB_len 32 s; omega) (enters_of Tryz.func135 (by kernel_rfl) rfl) (fun W' x _ _ => sqClo_any x W'))
  have Hsq := Lib.hid (cutB_squeeze s)
  have Hbl := Lib.hid (squeeze_blank s.data.toList)
  have Hsz : Hid (∀ x ∈ (cutB 32 s).filter (fun x => !decide (x.size = 0)), x.size ≤ 100000) := fun x hx => by have := cutB_sizes 32 s x (List.mem_filter.1 hx).1; omega
  have Hfl : Hid (((cutB 32 s).filter (fun x => !decide (x.size = 0))).length ≤ 100001) := by
    have h1 := List.length_filter_le (fun x : ByteArray => !decide (x.size = 0)) (cutB 32 s)
    have h2 := cutB_len 32 s
    show _ ≤ _
    omega
  generalize cutB 32 s = l at *
  generalize l.filter (fun x => !decide (x.size = 0)) = f at *
  have HJ : Hid (∀ (a : Option Addr) (cap : Nat) (W : World), SA W a f → f.length ≤ cap → Calls Tryz.prog 93 #[.slice a f.length cap, .string ⟨#[32]⟩] W (fun e w' => ∃ t : ByteArray, e = .returned (.string t) ∧ decide (t.size = 0) = blankL 32 s.data.toList ∧ Below W.heap.size W w')) := fun a cap W hsa hcap => by
    by_cases hf : f = []
    · subst hf
      refine (Tryz.strings_Join_none a cap ⟨#[32]⟩ W).mono ?_
      rintro e w' ⟨rfl, rfl⟩
      refine ⟨⟨#[]⟩, rfl, ?_, Below.refl _ _⟩
      rw [← Hbl.out, ← Hsq.out]; rfl
    · rcases hsa with h | ⟨b, off, rfl, ha⟩
      · exact absurd h hf
      · refine (Tryz.strings_Join b off cap f ⟨#[32]⟩ W (fun j x hx => ?_) (ha.lt hf) (by have := Hfl.out; omega) hcap ?_).mono ?_
        · have := ha j 0 x hx (by decide)
          rw [show off + (j * Cel.k ByteArray + 0) = off + j by show off + (j * 1 + 0) = _; omega] at this
          exact this
        · have h1 := join_bd [32] 100000 (f.map (·.data.toList)) (fun x hx => by obtain ⟨y, hy, rfl⟩ := List.mem_map.1 hx; have := Hsz.out y hy; simpa using this)
          rw [List.length_map] at h1
          have h2 := Hfl.out
          have h3 : f.length * (100000 + [(32 : UInt8)].length) ≤ 100001 * 100001 := Nat.mul_le_mul h2 (by decide)
          show (Lib.join (f.map (·.data.toList)) [32]).length ≤ _
          omega
        · rintro e w' ⟨rfl, hb⟩
          refine ⟨_, rfl, ?_, hb⟩
          rw [← Hbl.out, ← Hsq.out, Bool.eq_iff_iff, decide_eq_true_eq, List.isEmpty_iff]
          show (Lib.join (f.map (·.data.toList)) [32]).toArray.size = 0 ↔ Lib.join (f.map (·.data.toList)) [32] = []
          simp
  go_enter Tryz.func74, Tryz.ntmps74
  go_wp2_with fail
  refine HS.out.mono ?_
  rintro e w1 ⟨b, rfl, hown1, hb1⟩
  have HD1 := Lib.hid (HD.out _ _ _ hown1)
  have hbb := hown1.lt b rfl
  clear HS HD
  go_wp2_with fail
  refine HD1.out.mono ?_
  rintro e w2 ⟨a, cap, rfl, hsa, hcap, hk⟩
  have hb2 : Below w.heap.size w w2 := belowKp hb1 hk (fun k hk => (show b = k by simpa [Value.ownBlock] using hk) ▸ hbb.1) hb1.size
  clear HD1
  go_wp2_with fail
  refine (HJ.out a cap _ hsa hcap).mono ?_
  rintro e w3 ⟨t, rfl, ht, hb3⟩
  have Ht := Lib.hid ht
  clear ht
  go_wp2_with fail
  go_ret
  exact ⟨t, rfl, Ht.out, below_next hb2 hb3⟩
end Go.Proofs.YtlpknpjfmacemaaGreatDoor
