/- Keys: kit.IsKey of the program, KeyOf of the reference. -/
import Derived.Test.YtnocceilpnmbpaaGreatDoorBase
import Derived.Test.YtnocceilpnmbpaaGreatDoorShelf
import Derived.Shelf.Strings.SlTrimAscii
namespace Go.Proofs.YtnocceilpnmbpaaGreatDoor
open Go.RowKit
set_option linter.unusedVariables false

/-- Byte n may stand at place j of a key. -/
def okN (j n : Nat) : Prop := (97 ≤ n ∧ n ≤ 122) ∨ (0 < j ∧ ((48 ≤ n ∧ n ≤ 57) ∨ n = 45 ∨ n = 95))
instance (j n : Nat) : Decidable (okN j n) := by unfold okN; infer_instance
/-- All bytes before place i may stand there. -/
def okTo (s : ByteArray) (i : Nat) : Prop := ∀ j, (h : j < s.size) → j < i → okN j s[j].toNat
instance (s : ByteArray) (i : Nat) : Decidable (okTo s i) := by unfold okTo; infer_instance
/-- A string is a key. -/
def keyB (s : ByteArray) : Bool := decide (1 ≤ s.size ∧ s.size ≤ 40 ∧ okTo s s.size)

theorem okTo_succ {s : ByteArray} {i : Nat} (h : i < s.size) : okTo s (i + 1) ↔ okTo s i ∧ okN i s[i].toNat := by
  constructor
  · intro h1
    exact ⟨fun j hj hl => h1 j hj (by omega), h1 i h (by omega)⟩
  · rintro ⟨h1, h2⟩ j hj hl
    by_cases e : j = i
    · subst e; exact h2
    · exact h1 j hj (by omega)

set_option maxHeartbeats 2000000 in
theorem isKey_any (s : ByteArray) (w : World) (hs : s.size ≤ 9223372036854775807) :
    Calls Tryz.prog 57 #[.string s] w (fun e w' => e = .returned (.bool (keyB s)) ∧ w = w') := by
  go_enter Tryz.func57, Tryz.ntmps57
  go_wp2_with fail
  go_loopg [3] s.size (fun gk i wr => ∃ k : Nat, i = .int .i64 k ∧ k ≤ s.size ∧ gk = s.size - k ∧ Hid (okTo s k) ∧ Hid (w = wr))
  case atStart => exact ⟨0, rfl, by omega, by omega, fun j _ h => by omega, rfl⟩
  case round =>
    obtain ⟨k, rfl, hk, hgk, hok, hw⟩ := hrel
    have HG := Lib.hid hgk
    clear hgk
    by_cases hlt : k < s.size
    · have HS := Lib.hid (okTo_succ hlt)
      have hfin : ¬ okN k s[k].toNat → keyB s = false := fun hn => by
        unfold keyB
        rw [decide_eq_false]
        rintro ⟨_, _, h3⟩
        exact hn (h3 k hlt hlt)
      have Hfin := Lib.hid hfin
      clear hfin
      generalize hc : s[k].toNat = c at *
      go_wp2_with fail
      all_goals first
        | (go_roundg (s.size - (k + 1))
           case measure => have := HG.out; omega
           case rel => exact ⟨k + 1, by go_num, by omega, rfl, HS.out.2 ⟨hok, by go_light; unfold okN; first | omega | (simp at *; omega)⟩, hw⟩)
        | (go_ret
           refine ⟨?_, hw⟩
           rw [Hfin.out (by go_light; unfold okN; first | omega | (simp at *; omega))]
           rfl)
    · obtain rfl : k = s.size := by omega
      have hfin : keyB s = (decide (1 ≤ s.size) && decide (s.size ≤ 40)) := by
        have h3 : okTo s s.size := hok
        unfold keyB
        simp [h3]
      have Hfin := Lib.hid hfin
      clear hfin
      by_cases h0 : s.size = 0
      · have hlen : s.toList.length = s.size := by rw [ByteArray.toList_eq]; rfl
        have he1 : s.toList = [] := List.eq_nil_of_length_eq_zero (by omega)
        clear hlen
        go_wp2_with fail
        go_ret
        refine ⟨?_, hw⟩
        rw [Hfin.out]
        simp [h0]
      · have hlen : s.toList.length = s.size := by rw [ByteArray.toList_eq]; rfl
        have he1 : s.toList ≠ [] := fun h => by rw [h] at hlen; exact h0 hlen.symm
        clear hlen
        have he2 : s.toList.isEmpty = false := by simpa using he1
        by_cases h4 : s.size ≤ 40
        · go_wp2_with fail
          go_ret
          refine ⟨?_, hw⟩
          rw [Hfin.out]
          simp [h4]
          omega
        · go_wp2_with fail
          go_ret
          refine ⟨?_, hw⟩
          rw [Hfin.out, decide_eq_false h4]
          simp
          omega

/-- All bytes of a string are in a set. -/
def allIn (s : ByteArray) (cs : List UInt8) : Bool := s.data.toList.all (fun c => cs.contains c)

theorem dropWhile_nil {p : UInt8 → Bool} (l : List UInt8) : l.dropWhile p = [] ↔ l.all p = true := by
  induction l with
  | nil => simp
  | cons x r ih => by_cases h : p x = true <;> simp [h, ih]
theorem trimS_nil (l cs : List UInt8) : Lib.trimS l cs = [] ↔ l.all (fun c => cs.contains c) = true := by
  unfold Lib.trimS Lib.trimLeftS Lib.trimRightS
  rw [dropWhile_nil, List.all_reverse]
  constructor
  · intro h
    have h2 : (l.reverse.dropWhile (fun c => cs.contains c)) = [] := by
      rcases hd : l.reverse.dropWhile (fun c => cs.contains c) with _ | ⟨x, r⟩
      · rfl
      · have hx := List.head?_dropWhile_not (fun c => cs.contains c) l.reverse
        rw [hd] at hx h
        simp at hx h
        exact absurd h.1 (by simp [hx])
    rw [dropWhile_nil, List.all_reverse] at h2
    exact h2
  · intro h
    have h2 : l.reverse.dropWhile (fun c => cs.contains c) = [] := by rw [dropWhile_nil, List.all_reverse]; exact h
    rw [h2]; rfl

set_option maxHeartbeats 1000000 in
theorem made_any (s cs : ByteArray) (w : World) (hs : s.size ≤ 9223372036854775807) (hcs : cs.size < 4294967281) (hascii : ∀ (j : Nat) b, cs.data.toList[j]? = some b → b.toNat < 128) :
    Calls Tryz.prog 100 #[.string s, .string cs] w (fun e w' => e = .returned (.bool (allIn s cs.data.toList)) ∧ Below w.heap.size w w') := by
  have hcon := Lib.hid (fun w => Any.strings_Trim_laid Tryz.lays160 (by kernel_rfl) s cs w hs hcs hascii)
  have hv : allIn s cs.data.toList = (Lib.trimS s.data.toList cs.data.toList).isEmpty := by
    rw [Bool.eq_iff_iff, List.isEmpty_iff, trimS_nil]; rfl
  rw [hv]
  clear hv
  generalize Lib.trimS s.data.toList cs.data.toList = r at *
  go_enter Tryz.func100, Tryz.ntmps100
  go_wp2_with fail
  refine (hcon.out _).mono ?_
  rintro e w1 ⟨rfl, hb⟩
  go_wp2_with fail
  go_ret
  refine ⟨?_, hb⟩
  cases r <;> simp

/-- The sets of KeyOf. -/
def keySet : ByteArray := ⟨#[97, 98, 99, 100, 101, 102, 103, 104, 105, 106, 107, 108, 109, 110, 111, 112, 113, 114, 115, 116, 117, 118, 119, 120, 121, 122, 48, 49, 50, 51, 52, 53, 54, 55, 56, 57, 45, 95]⟩
def smallSet : ByteArray := ⟨#[97, 98, 99, 100, 101, 102, 103, 104, 105, 106, 107, 108, 109, 110, 111, 112, 113, 114, 115, 116, 117, 118, 119, 120, 121, 122]⟩

theorem keySet_iff : ∀ c : UInt8, keySet.data.toList.contains c = decide (okN 1 c.toNat) := by
  intro c
  have h : ∀ n : Fin 256, keySet.data.toList.contains (UInt8.ofNat n.val) = decide (okN 1 (UInt8.ofNat n.val).toNat) := by decide +kernel
  have := h ⟨c.toNat, c.toNat_lt⟩
  simpa using this
theorem smallSet_iff : ∀ c : UInt8, smallSet.data.toList.contains c = decide (okN 0 c.toNat) := by
  intro c
  have h : ∀ n : Fin 256, smallSet.data.toList.contains (UInt8.ofNat n.val) = decide (okN 0 (UInt8.ofNat n.val).toNat) := by decide +kernel
  have := h ⟨c.toNat, c.toNat_lt⟩
  simpa using this

theorem allIn_iff (s : ByteArray) (cs : List UInt8) : allIn s cs = true ↔ ∀ j, (h : j < s.size) → cs.contains s[j] = true := by
  unfold allIn
  rw [List.all_eq_true]
  constructor
  · intro h j hj
    exact h _ (by show s[j] ∈ s.data.toList; exact Array.mem_toList_iff.2 (Array.getElem_mem hj))
  · intro h x hx
    obtain ⟨j, hj, rfl⟩ := List.mem_iff_getElem.1 hx
    exact h j (by simpa using hj)

/-- A key, as KeyOf asks. -/
theorem keyB_sets (s : ByteArray) (h1 : 1 ≤ s.size) (h2 : s.size ≤ 40) : keyB s = (allIn s keySet.data.toList && allIn (s.extract 0 1) smallSet.data.toList) := by
  rw [Bool.eq_iff_iff, Bool.and_eq_true, allIn_iff, allIn_iff]
  unfold keyB
  rw [decide_eq_true_eq]
  have hx : (s.extract 0 1).size = 1 := by simp; omega
  have h0 : ∀ (j : Nat) (h : j < (s.extract 0 1).size), (s.extract 0 1)[j] = s[0] := by
    intro j hj
    have : j = 0 := by omega
    subst this
    simp [ByteArray.getElem_extract]
  constructor
  · rintro ⟨_, _, hk⟩
    refine ⟨fun j hj => ?_, fun j hj => ?_⟩
    · rw [keySet_iff, decide_eq_true_eq]
      have := hk j hj hj
      unfold okN at *
      omega
    · rw [h0 j hj, smallSet_iff, decide_eq_true_eq]
      have := hk 0 (by omega) (by omega)
      unfold okN at *
      omega
  · rintro ⟨hA, hB⟩
    refine ⟨h1, h2, fun j hj _ => ?_⟩
    have a1 := hA j hj
    rw [keySet_iff, decide_eq_true_eq] at a1
    by_cases hj0 : j = 0
    · subst hj0
      have b1 := hB 0 (by omega)
      rw [h0 0 (by omega), smallSet_iff, decide_eq_true_eq] at b1
      exact b1
    · unfold okN at *
      omega

theorem ascii_keySet : ∀ (j : Nat) b, keySet.data.toList[j]? = some b → b.toNat < 128 := ascii_of_all (by decide)
theorem ascii_smallSet : ∀ (j : Nat) b, smallSet.data.toList[j]? = some b → b.toNat < 128 := ascii_of_all (by decide)

set_option maxHeartbeats 1000000 in
theorem keyOf_any (s : ByteArray) (w : World) (hs : s.size ≤ 9223372036854775807) :
    Calls Tryz.prog 64 #[.string s] w (fun e w' => e = .returned (.bool (keyB s)) ∧ Below w.heap.size w w') := by
  by_cases h1 : 1 ≤ s.size
  · by_cases h2 : s.size ≤ 40
    · have hv := keyB_sets s h1 h2
      have hA := made_any s keySet
      have hB := made_any (s.extract 0 1) smallSet
      have HA := Lib.hid (fun w => made_any s keySet w hs (by decide) ascii_keySet)
      have HB := Lib.hid (fun w => made_any (s.extract 0 1) smallSet w (by simp; omega) (by decide) ascii_smallSet)
      rw [hv]
      clear hv hA hB
      generalize allIn s keySet.data.toList = x at *
      generalize allIn (s.extract 0 1) smallSet.data.toList = y at *
      unfold keySet at HA
      unfold smallSet at HB
      cases x
      · go_enter Tryz.func64, Tryz.ntmps64
        go_wp2_with fail
        refine (HA.out _).mono ?_
        rintro e w1 ⟨rfl, hb⟩
        go_wp2_with fail
        go_ret
        exact ⟨by simp, hb⟩
      · go_enter Tryz.func64, Tryz.ntmps64
        go_wp2_with fail
        refine (HA.out _).mono ?_
        rintro e w1 ⟨rfl, hb⟩
        go_wp2_with fail
        refine (HB.out _).mono ?_
        rintro e w2 ⟨rfl, hb2⟩
        go_wp2_with fail
        go_ret
        exact ⟨by simp, below_next hb hb2⟩
    · have hv : keyB s = false := by simp [keyB, h2]
      rw [hv]
      have hd : decide ((s.size : Int) ≤ 40) = false := by simp; omega
      go_enter Tryz.func64, Tryz.ntmps64
      go_wp2_with fail
      go_ret
      exact ⟨by simp, Below.refl _ _⟩
  · have hv : keyB s = false := by simp [keyB, h1]
    rw [hv]
    have hd : decide ((1 : Int) ≤ (s.size : Int)) = false := by simp; omega
    go_enter Tryz.func64, Tryz.ntmps64
    go_wp2_with fail
    go_ret
    exact ⟨by simp, Below.refl _ _⟩
end Go.Proofs.YtnocceilpnmbpaaGreatDoor
