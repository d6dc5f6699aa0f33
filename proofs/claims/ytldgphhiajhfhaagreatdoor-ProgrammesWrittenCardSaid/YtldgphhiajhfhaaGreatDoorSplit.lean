/- Strings cut at one byte: Split, Lines, Words, CutPrefix, Contains. -/
import Derived.Test.YtldgphhiajhfhaaGreatDoorLineP
import Derived.Test.YtldgphhiajhfhaaGreatDoorStream
import Derived.Test.YtldgphhiajhfhaaGreatDoorList
import Derived.Test.YtldgphhiajhfhaaGreatDoorStrs
import Derived.Test.YtldgphhiajhfhaaGreatDoorShelf
import Derived.Test.YtldgphhiajhfhaaGreatDoorAppAll
namespace Go.Proofs.YtldgphhiajhfhaaGreatDoor
open Go.RowKit
set_option linter.unusedVariables false
set_option linter.unusedSimpArgs false

/-- Some number in bytealg.MaxLen. -/
def EnvM (w : World) : Prop := ∃ m : Int, w.cell? ⟨0, 0, none⟩ = some (.int .i64 m)
theorem EnvM.lt {w : World} (h : EnvM w) : 0 < w.heap.size := by obtain ⟨m, h⟩ := h; exact World.block_lt_of_cell? w _ h
theorem EnvM.keep {w w' : World} (h : EnvM w) (hk : w'.heap[0]? = w.heap[0]?) : EnvM w' := by
 obtain ⟨m, h⟩ := h
 exact ⟨m, by rw [World.cell?_of_block (w := w) hk]; exact h⟩
theorem EnvM.below {w w' : World} (h : EnvM w) (hb : Below w.heap.size w w') : EnvM w' := h.keep (hb.block _ h.lt)
theorem EnvM.stp {S : Nat} {w w' : World} (h : EnvM w) (hb : Stp S w w') (hS : 0 ≠ S) : EnvM w' := h.keep (hb.block _ h.lt hS)
theorem EnvM.kp {n : Nat} {w w' : World} (h : EnvM w) (hb : Below n w w') (hn : 0 < n) : EnvM w' := h.keep (hb.block _ hn)
theorem cutC_len (c : UInt8) (s : ByteArray) : (cutB c s).length ≤ s.size + 1 := by
 unfold cutB; rw [List.length_map]
 have := cutL_length c s.data.toList
 have h3 : s.data.toList.length = s.size := by simp
 omega
theorem cutC_pos (c : UInt8) (s : ByteArray) : 0 < (cutB c s).length := by
 unfold cutB; rw [List.length_map]
 cases h : s.data.toList with
 | nil => exact Nat.one_pos
 | cons x r =>
  unfold cutL
  split
  ·
   exact Nat.succ_pos _
  ·
   split <;> exact Nat.succ_pos _
theorem cutC_sizes (c : UInt8) (s : ByteArray) : ∀ x ∈ cutB c s, x.size ≤ s.size := by
 intro x hx
 unfold cutB at hx
 obtain ⟨l, hl, rfl⟩ := List.mem_map.1 hx
 have := cutL_sizes c s.data.toList l hl
 have h3 : s.data.toList.length = s.size := by simp
 show l.toArray.size ≤ _
 simp
 omega
theorem splitM_any (c : UInt8) (s : ByteArray) (w : World) (hE : EnvM w) (hs : s.size ≤ 100000000) :
  Calls Tryz.prog 45 #[.string s, .string ⟨#[c]⟩] w (fun e w' => ∃ b, e = .returned (.slice (some ⟨b, 0, none⟩) (cutB c s).length (cutB c s).length) ∧ Own w.heap.size 9 w' (.slice (some ⟨b, 0, none⟩) (cutB c s).length (cutB c s).length) (cutB c s) ∧ Below w.heap.size w w') := by
 obtain ⟨m, hm⟩ := hE
 refine (Tryz.strings_Split s ⟨#[c]⟩ m w (by omega) hm (Nat.le_refl 1)).mono ?_
 rintro e w' ⟨rfl, rfl⟩
 have hlen : (cutB c s).length = Lib.countB s ⟨#[c]⟩ + 1 := by rw [← splitB_cut]; exact Lib.splitB_all ⟨#[c]⟩ (Nat.le_refl 1) 0 _ s rfl
 have hl2 := cutC_len c s
 rw [splitB_cut, ← hlen]
 refine ⟨_, rfl, ?_, (Below.refl _ _).alloc (Nat.le_refl _) _⟩
 have hb := Box.new w 9 ((cutB c s).map Value.string).toArray
 have hX := Own.ofBox (base := w.heap.size) (l := cutB c s) hb (by rw [strs_flat]) (Nat.le_refl _) (by omega)
 exact hX
/-- The last piece, and the pieces before it. -/
def lastB (l : List ByteArray) : ByteArray := l.getD (l.length - 1) ⟨#[]⟩
set_option maxHeartbeats 2000000 in
theorem lines_any (s : ByteArray) (w : World) (hE : EnvM w) (hs : s.size ≤ 10000000) :
  Calls Tryz.prog 33 #[.string s] w (fun e w' => ∃ a c, e = .returned (.tuple #[.slice a (if (lastB (cutB 10 s)).size = 0 then (cutB 10 s).length - 1 else (cutB 10 s).length) c, .bool (decide ((lastB (cutB 10 s)).size = 0))]) ∧ SA w' a (cutB 10 s) ∧ (if (lastB (cutB 10 s)).size = 0 then (cutB 10 s).length - 1 else (cutB 10 s).length) ≤ c ∧ Below w.heap.size w w') := by
 have HS := Lib.hid (splitM_any 10 s w hE (by omega))
 have hp := cutC_pos 10 s
 have hlc := cutC_len 10 s
 generalize cutB 10 s = l at *
 obtain ⟨n, hn⟩ : ∃ n, l.length = n + 1 := ⟨l.length - 1, by omega⟩
 obtain ⟨x, hx⟩ : ∃ x, l[n]? = some x := ⟨l[n]'(by omega), List.getElem?_eq_getElem _⟩
 have hlast : lastB l = x := by unfold lastB; rw [show l.length - 1 = n from by omega, List.getD_eq_getElem?_getD, hx]; rfl
 have HC : Hid (∀ W gb, SA W (some ⟨gb, 0, none⟩) l → W.cell? ⟨gb, n, none⟩ = some (.string x)) := fun W gb h => by
  obtain ⟨gb', go, e, c⟩ := h.str (i := n) (by omega)
  cases e
  rw [show l[n]'(by omega) = x from Option.some.inj ((List.getElem?_eq_getElem _).symm.trans hx), Nat.zero_add] at c
  exact c
 rw [hlast, hn]
 rw [hn] at HS
 have hn10 : n ≤ 10000000 := by omega
 obtain ⟨m, hm⟩ : ∃ m, m = (if x.size = 0 then n + 1 - 1 else n + 1) := ⟨_, rfl⟩
 obtain ⟨d, hd⟩ : ∃ d, d = decide (x.size = 0) := ⟨_, rfl⟩
 rw [← hm, ← hd]
 have Hm := Lib.hid hm
 have Hd := Lib.hid hd
 clear hn hlast hp hlc hx hm hd
 go_enter Tryz.func33, Tryz.ntmps33
 go_wp2_with fail
 refine HS.out.mono ?_
 rintro e w1 ⟨b, rfl, hown, hb1⟩
 have hsa : SA w1 (some ⟨b, 0, none⟩) l := by
  obtain ⟨a', c', he, h, -, -⟩ := hown.form
  simp only [Value.slice.injEq] at he
  obtain ⟨rfl, -, -⟩ := he
  exact h
 have e0 := HC.out _ _ hsa
 clear hown HS HC
 have hw1 : IntKind.i64.wrap (((n + 1 : Nat) : Int) - 1) = (n : Int) := by rw [IntWalk.i64_in _ (by omega)]; omega
 have hi0 : (0 : Int) ≤ (n : Int) := by omega
 have hi2 : (n : Int) < ((n + 1 : Nat) : Int) := by omega
 by_cases h0 : x.size = 0
 ·
  obtain rfl : x = ⟨#[]⟩ := by
   obtain ⟨d⟩ := x
   have : d.size = 0 := h0
   rw [Array.eq_empty_of_size_eq_zero this]
  have hm := Hm.out
  have hd := Hd.out
  rw [if_pos h0] at hm
  rw [decide_eq_true h0] at hd
  subst hm hd
  clear h0 Hm Hd
  go_wp2_with fail
  go_ret2
  exact ⟨_, _, rfl, hsa, by omega, hb1⟩
 ·
  have e1 : ¬ x.toList = [] := fun e => h0 (by
   have e2 : x = ⟨#[]⟩ := toList_inj.1 (by rw [e, ByteArray.toList_eq])
   rw [e2]; rfl)
  have e2 : x.toList.isEmpty = false := by simpa using e1
  have hm := Hm.out
  have hd := Hd.out
  rw [if_neg h0] at hm
  rw [decide_eq_false h0] at hd
  subst hm hd
  clear h0 Hm Hd
  go_wp2_with fail
  go_ret2
  exact ⟨_, _, rfl, hsa, by omega, hb1⟩
set_option maxHeartbeats 1000000 in
theorem wordsK_any (s : ByteArray) (w : World) (hE : EnvM w) (hs : s.size ≤ 10000000) :
  Calls Tryz.prog 36 #[.string s] w (fun e w' => ∃ a c, e = .returned (.tuple #[.slice a (cutB 32 s).length c, .bool (!(cutB 32 s).any (fun y => decide (y = ⟨#[]⟩)))]) ∧ SA w' a (cutB 32 s) ∧ (∀ x, a = some x → w.heap.size ≤ x.block) ∧ Below w.heap.size w w') := by
 have HS := Lib.hid (splitM_any 32 s w hE (by omega))
 have hlc := cutC_len 32 s
 generalize cutB 32 s = l at *
 have HC := Lib.hid (fun a c W (h : SA W a l) => contains_any l a c ⟨#[]⟩ W h (by omega))
 generalize l.any (fun y => decide (y = ⟨#[]⟩)) = r at *
 go_enter Tryz.func36, Tryz.ntmps36
 go_wp2_with fail
 refine HS.out.mono ?_
 rintro e w1 ⟨b, rfl, hown, hb1⟩
 have hsa : SA w1 (some ⟨b, 0, none⟩) l := by
  obtain ⟨a', c', he, h, -, -⟩ := hown.form
  simp only [Value.slice.injEq] at he
  obtain ⟨rfl, -, -⟩ := he
  exact h
 have hlo : w.heap.size ≤ b := (hown.lt b rfl).1
 clear hown HS
 go_wp2_with fail
 refine (HC.out _ _ _ hsa).mono ?_
 rintro e w2 ⟨rfl, rfl⟩
 go_wp2_with fail
 go_ret2
 exact ⟨_, _, rfl, hsa, (fun x hx => by cases hx; exact hlo), hb1⟩
/-- A line that begins with two blanks; what comes behind them; a blank in a string. -/
def pre2 (s : ByteArray) : Bool := Lib.hasPrefix s.data.toList [32, 32]
def rest2 (s : ByteArray) : ByteArray := ⟨(Lib.trimPrefix s.data.toList [32, 32]).toArray⟩
def has32 (s : ByteArray) : Bool := decide (0 ≤ Lib.indexByte s.data.toList 32)
theorem cut2_any (s : ByteArray) (w : World) : Calls Tryz.prog 34 #[.string s, .string ⟨#[32, 32]⟩] w (fun e w' => e = .returned (.tuple #[.string (rest2 s), .bool (pre2 s)]) ∧ w = w') :=
 (Tryz.strings_CutPrefix s ⟨#[32, 32]⟩ w).mono fun e w' ⟨h1, h2⟩ => ⟨h1, h2.symm⟩
theorem has32_any (s : ByteArray) (w : World) : Calls Tryz.prog 35 #[.string s, .string ⟨#[32]⟩] w (fun e w' => e = .returned (.bool (has32 s)) ∧ w = w') :=
 (Tryz.strings_Contains_one s 32 w).mono fun e w' ⟨h1, h2⟩ => ⟨h1, h2.symm⟩
theorem rest2_size (s : ByteArray) : (rest2 s).size ≤ s.size := by
 unfold rest2 Lib.trimPrefix
 show (List.toArray _).size ≤ _
 rw [List.size_toArray, show s.size = s.data.toList.length from by show s.data.size = _; simp]
 split
 ·
  rw [List.length_drop]; omega
 ·
  exact Nat.le_refl _
end Go.Proofs.YtldgphhiajhfhaaGreatDoor
