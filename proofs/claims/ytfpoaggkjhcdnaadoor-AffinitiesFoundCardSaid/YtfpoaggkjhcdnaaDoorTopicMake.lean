/- The makers of topics: h06one, TopicKey, RightForest; slices.Clone of topics. -/
import Derived.Test.YtfpoaggkjhcdnaaDoorTopic2
import Derived.Test.YtfpoaggkjhcdnaaDoorStream
import Derived.Shelf.SlicesE.Clone
namespace Go.Proofs.YtfpoaggkjhcdnaaDoor
open Go.RowKit
set_option linter.unusedVariables false

/-- A block of known cells reads as a list. -/
theorem Box.arr {α : Type} [Cel α] {w : World} {b : Nat} {T : TypeId} {vs : Array Value} (h : Box w b T vs) (l : List α) (hv : vs.toList = l.flatMap Cel.cells) : ArrAt w b 0 l := fun i j x hx hj => by
  rw [Nat.zero_add, h.cell, ← flat_get l i j x hx hj, ← hv]
  simp
theorem Box.sa {α : Type} [Cel α] {w : World} {b : Nat} {T : TypeId} {vs : Array Value} (h : Box w b T vs) (l : List α) (hv : vs.toList = l.flatMap Cel.cells) : SA w (some ⟨b, 0, none⟩) l := .inr ⟨b, 0, rfl, h.arr l hv⟩
theorem ArrAt.take {α : Type} [Cel α] {w : World} {b off : Nat} {l : List α} (h : ArrAt w b off l) (n : Nat) : ArrAt w b off (l.take n) := fun i j x hx hj => by
  refine h i j x ?_ hj
  rw [List.getElem?_take] at hx
  split at hx
  · exact hx
  · cases hx

/-- A short string is made. -/
def SomeStr (S : Nat) (B : Int) (w : World) (e : Ending) (w' : World) : Prop :=
  ∃ x : ByteArray, x.size ≤ 1000 ∧ e = .returned (.string x) ∧ Stp S w w' ∧ Strm S (B + 1) w'

set_option maxHeartbeats 400000 in
theorem one_any (S : Nat) (B : Int) (b n cap T : Nat) (vs : Array Value) (w : World) (hs : Strm S B w) (hB : B ≤ 1000000000) (hbox : Box w b T vs) (hbS : b ≠ S) (hn : vs.size = n) (hl1 : 1 ≤ n) (hl2 : n ≤ 1000)
    (hc : ∀ v ∈ vs.toList, ∃ s : ByteArray, v = .string s ∧ s.size ≤ 1000) :
    Calls Tryd.prog 34 #[.pointer (some ⟨S, 0, none⟩), .slice (some ⟨b, 0, none⟩) n cap] w (SomeStr S B w) := by
  have Hc := Lib.hid hc
  clear hc
  go_enter Tryd.func34, Tryd.ntmps34
  go_wp2_with fail
  refine (next_any S B _ _ hs hB (by omega) (by omega)).mono ?_
  rintro e w' ⟨r, ⟨hr, hr2⟩, rfl, h1, h2⟩
  obtain ⟨i, rfl⟩ := Int.eq_ofNat_of_zero_le hr
  have hi : i < n := by omega
  obtain ⟨s, hs1, hs2⟩ := Hc.out vs[i] (by simp)
  have hc : w'.cell? ⟨b, i, none⟩ = some (.string s) := by rw [(hbox.stp h1 hbS).cell i, Array.getElem?_eq_getElem (by omega), hs1]
  clear hs1
  go_wp2_with fail
  go_ret
  exact ⟨_, hs2, rfl, h1, h2⟩

set_option maxHeartbeats 400000 in
theorem topicKey_any (S : Nat) (B : Int) (w : World) (hs : Strm S B w) (hB : B ≤ 1000000000) :
    Calls Tryd.prog 6 #[.pointer (some ⟨S, 0, none⟩)] w (SomeStr S B w) := by
  have hS := hs.lt
  go_enter Tryd.func6, Tryd.ntmps6
  go_wp2_with fail
  refine (one_any S B _ 8 8 9 _ _ (hs.alloc _) hB (Box.new _ _ _) (by omega) rfl (by omega) (by omega) (by simp; decide)).mono ?_
  rintro e w1 ⟨x, hx, rfl, h1, s1⟩
  go_wp2_with fail
  go_ret
  exact ⟨x, hx, rfl, ((Stp.refl S w).alloc _).trans h1, s1⟩

/-- A forest is made. -/
def SomeForest (S : Nat) (B : Int) (n : Nat) (w : World) (e : Ending) (w' : World) : Prop :=
  ∃ (a : Option Addr) (cap : Nat) (l : List Topic), e = .returned (.slice a l.length cap) ∧ l.length ≤ n ∧ l.length ≤ cap ∧ SmallT l ∧ SA w' a l ∧ (a = none ∨ ∃ b off, a = some ⟨b, off, none⟩ ∧ b ≠ S) ∧ Stp S w w' ∧ Strm S B w'

theorem smallT_cons {l : List Topic} {k v : ByteArray} (hk : k.size ≤ 1000) (hv : v.size ≤ 1000) (h : SmallT l) : SmallT ((k, v) :: l) := fun t ht => by
  rcases List.mem_cons.1 ht with rfl | ht
  · exact ⟨by show k.size ≤ _; omega, by show v.size ≤ _; omega⟩
  · exact h t ht
theorem smallT_nil : SmallT [] := fun t ht => by cases ht
theorem SmallT.take {l : List Topic} (h : SmallT l) (n : Nat) : SmallT (l.take n) := fun t ht => h t (List.mem_of_mem_take ht)

end Go.Proofs.YtfpoaggkjhcdnaaDoor
