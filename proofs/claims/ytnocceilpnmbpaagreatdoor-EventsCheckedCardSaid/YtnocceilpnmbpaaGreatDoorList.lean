/- Lists in memory, first errors, orders of keys; lists that a call makes. -/
import Derived.Test.YtnocceilpnmbpaaGreatDoorArr
import Derived.Test.YtnocceilpnmbpaaGreatDoorMap
import Derived.Test.YtnocceilpnmbpaaGreatDoorStream
import Derived.Test.YtnocceilpnmbpaaGreatDoorShelf
namespace Go.Proofs.YtnocceilpnmbpaaGreatDoor
open Go.RowKit
set_option linter.unusedVariables false
set_option linter.unusedSimpArgs false

theorem contains_any (l : List ByteArray) (a : Option Addr) (cap : Nat) (x : ByteArray) (w : World) (h : SA w a l) (hlen : l.length ≤ 1000000000) :
  Calls Tryz.prog 69 #[.slice a l.length cap, .string x] w (fun e w' => e = .returned (.bool (l.any (fun y => decide (y = x)))) ∧ w = w') := by
 rcases h with rfl | ⟨b, off, rfl, h⟩
 ·
  exact (Tryz.slices_Contains_string_empty a cap x w).mono fun e w' ⟨h1, h2⟩ => ⟨h1, h2.symm⟩
 ·
  refine (Tryz.slices_Contains_string b off l.length cap l x w (Nat.le_refl _) (by omega) ?_).mono fun e w' ⟨h1, h2⟩ => ⟨?_, h2.symm⟩
  ·
   intro j hj
   have := h j 0 l[j] (List.getElem?_eq_getElem hj) (by decide)
   rw [show off + (j * Cel.k ByteArray + 0) = off + j from by show off + (j * 1 + 0) = _; omega] at this
   rw [this, List.getD_eq_getElem?_getD, List.getElem?_eq_getElem hj]
   rfl
  ·
   rw [h1]
   congr 2
   rw [Bool.eq_iff_iff, Lib.containsS_iff, List.take_length]
   simp
theorem find_drop {α : Type} (p : α → Bool) (l : List α) (k : Nat) (hk : k < l.length) (h : p l[k] = false) : (l.drop k).find? p = (l.drop (k + 1)).find? p := by
 rw [List.drop_eq_getElem_cons hk, List.find?_cons, h]
theorem find_drop_yes {α : Type} (p : α → Bool) (l : List α) (k : Nat) (hk : k < l.length) (h : p l[k] = true) : (l.drop k).find? p = some l[k] := by
 rw [List.drop_eq_getElem_cons hk, List.find?_cons, h]
theorem Tryz.infoString : (Tryz.prog.info? 9).map (fun i => (i.zero, i.size, i.bytes)) = some (some (.string ⟨#[]⟩), 1, 16) := by kernel_rfl
/-- The first of n errors that is not 0. -/
def firstErr (f : Nat → Int) : Nat → Int
 | 0 => 0
 | n + 1 => if firstErr f n ≠ 0 then firstErr f n else f n
theorem firstErr_zero {f : Nat → Int} {n : Nat} (h : ∀ j, j < n → f j = 0) : firstErr f n = 0 := by
 induction n with
 | zero => rfl
 | succ n ih => rw [firstErr, ih (fun j hj => h j (by omega))]; simp [h n (by omega)]
theorem firstErr_at {f : Nat → Int} {n k : Nat} (hk : k < n) (h : ∀ j, j < k → f j = 0) (he : f k ≠ 0) : firstErr f n = f k := by
 induction n with
 | zero => omega
 | succ n ih =>
  rw [firstErr]
  by_cases hkn : k = n
  ·
   subst hkn
   rw [firstErr_zero h]; simp
  ·
   rw [ih (by omega)]; simp [he]
theorem zeros_succ {f : Nat → Int} {k : Nat} (h : ∀ j, j < k → f j = 0) (h' : f k = 0) : ∀ j, j < k + 1 → f j = 0 := fun j hj => by
 by_cases hjk : j = k
 ·
  subst hjk; exact h'
 ·
  exact h j (by omega)
/-- The first error of a list of errors. -/
def firstOf : List Int → Int
 | [] => 0
 | x :: r => if x ≠ 0 then x else firstOf r
/-- a ≤ b, byte by byte. -/
def leB (a b : ByteArray) : Bool := Op.bytesLess a.toList b.toList || a.toList == b.toList
theorem toList_empty {s : ByteArray} : s.toList.isEmpty = true ↔ s = ⟨#[]⟩ := by
 rw [List.isEmpty_iff]
 constructor
 ·
  intro h; exact toList_inj.1 (h.trans (by rw [ByteArray.toList_eq]))
 ·
  rintro rfl; rw [ByteArray.toList_eq]
/-- A list has a string. -/
def hasS (ls : List ByteArray) (x : ByteArray) : Bool := ls.any (fun y => decide (y = x))
theorem SA.str {w : World} {a : Option Addr} {l : List ByteArray} (h : SA w a l) {i : Nat} (hi : i < l.length) :
  ∃ b off, a = some ⟨b, off, none⟩ ∧ w.cell? ⟨b, off + i, none⟩ = some (.string l[i]) := by
 obtain ⟨b, off, ha, hc⟩ := h.at hi
 refine ⟨b, off, ha, ?_⟩
 have := hc 0 (by decide)
 rw [show off + (i * Cel.k ByteArray + 0) = off + i from by show off + (i * 1 + 0) = _; omega] at this
 exact this
/-- A skill: its topic, its weight. -/
abbrev Skill := ByteArray × Int
instance : Cel Skill := ⟨2, fun t => [.string t.1, .int .i64 t.2], fun _ => rfl, by decide, by simp [Value.oneCell']⟩
theorem SA.skill {w : World} {a : Option Addr} {l : List Skill} (h : SA w a l) {i : Nat} (hi : i < l.length) :
  ∃ b off, a = some ⟨b, off, none⟩ ∧ w.cell? ⟨b, off + i * 2, none⟩ = some (.string l[i].1) ∧ w.cell? ⟨b, off + i * 2 + 1, none⟩ = some (.int .i64 l[i].2) := by
 obtain ⟨b, off, ha, hc⟩ := h.at hi
 exact ⟨b, off, ha, hc 0 (by decide), hc 1 (by decide)⟩
/-- The key at k is not greater than the one before it. -/
def ordB (ks : List ByteArray) (k : Nat) : Bool :=
 match k with
 | 0 => false
 | p + 1 => leB (ks.getD (p + 1) ⟨#[]⟩) (ks.getD p ⟨#[]⟩)
theorem ordB_at {ks : List ByteArray} {k p : Nat} {x y : ByteArray} (hk : k = p + 1) (hx : ks[k]? = some x) (hy : ks[p]? = some y) : ordB ks k = leB x y := by
 subst hk
 show leB (ks.getD (p + 1) _) (ks.getD p _) = _
 rw [List.getD_eq_getElem?_getD, List.getD_eq_getElem?_getD, hx, hy]
 rfl
theorem firstErr_is {f : Nat → Int} {n k : Nat} {e : Int} (hk : k < n) (h : ∀ j, j < k → f j = 0) (he : f k = e) (h0 : e ≠ 0) : firstErr f n = e := by
 rw [firstErr_at hk h (by rw [he]; exact h0), he]
theorem firstErr_all {f : Nat → Int} {n : Nat} (h : firstErr f n = 0) : ∀ j, j < n → f j = 0 := by
 induction n with
 | zero => intro j hj; omega
 | succ n ih =>
  rw [firstErr] at h
  by_cases h1 : firstErr f n = 0
  ·
   rw [if_neg (by simp [h1])] at h
   exact zeros_succ (ih h1) h
  ·
   rw [if_pos h1] at h; exact absurd h h1
/-- A list is returned and an error. -/
def GivesList {α : Type} [Cel α] (l : List α) (er : Int) (w : World) (e : Ending) (w' : World) : Prop :=
 Below w.heap.size w w' ∧ ∃ a len cap, e = .returned (.tuple #[.slice a len cap, .int .i64 er]) ∧ len ≤ 1000000000 ∧ (er = 0 → len = l.length ∧ SA w' a l)
/-- A block of known cells reads as a list. -/
theorem Box.arr {α : Type} [Cel α] {w : World} {b : Nat} {T : TypeId} {vs : Array Value} (h : Box w b T vs) (l : List α) (hv : vs.toList = l.flatMap Cel.cells) : ArrAt w b 0 l := fun i j x hx hj => by
 rw [Nat.zero_add, h.cell, ← flat_get l i j x hx hj, ← hv]
 simp
theorem Box.sa {α : Type} [Cel α] {w : World} {b : Nat} {T : TypeId} {vs : Array Value} (h : Box w b T vs) (l : List α) (hv : vs.toList = l.flatMap Cel.cells) : SA w (some ⟨b, 0, none⟩) l := .inr ⟨b, 0, rfl, h.arr l hv⟩
theorem ArrAt.take {α : Type} [Cel α] {w : World} {b off : Nat} {l : List α} (h : ArrAt w b off l) (n : Nat) : ArrAt w b off (l.take n) := fun i j x hx hj => by
 refine h i j x ?_ hj
 rw [List.getElem?_take] at hx
 split at hx
 ·
  exact hx
 ·
  cases hx
/-- A short string is made. -/
def SomeStr (S : Nat) (B : Int) (w : World) (e : Ending) (w' : World) : Prop :=
 ∃ x : ByteArray, x.size ≤ 1000 ∧ e = .returned (.string x) ∧ Stp S w w' ∧ Strm S (B + 1) w'
set_option maxHeartbeats 400000 in
theorem one_any (S : Nat) (B : Int) (b n cap T : Nat) (vs : Array Value) (w : World) (hs : Strm S B w) (hB : B ≤ 1000000000) (hbox : Box w b T vs) (hbS : b ≠ S) (hn : vs.size = n) (hl1 : 1 ≤ n) (hl2 : n ≤ 1000)
  (hc : ∀ v ∈ vs.toList, ∃ s : ByteArray, v = .string s ∧ s.size ≤ 1000) :
  Calls Tryz.prog 40 #[.pointer (some ⟨S, 0, none⟩), .slice (some ⟨b, 0, none⟩) n cap] w (SomeStr S B w) := by
 have Hc := Lib.hid hc
 clear hc
 go_enter Tryz.func40, Tryz.ntmps40
 go_wp2_with fail
 refine (next_any S B _ _ hs hB (by omega) (by omega)).mono ?_
 rintro e w' ⟨r, ⟨hr, hr2⟩, rfl, h1, h2⟩
 obtain ⟨i, rfl⟩ := Int.eq_ofNat_of_zero_le hr
 have hi : i < n := by omega
 obtain ⟨s, hs1, hs2⟩ := Hc.out vs[i] (by simp)
 have hc : w'.cell? ⟨b, i, none⟩ = some (.string s) := by rw [(hbox.stp h1 hbS).cell i, Array.getElem?_eq_getElem (by omega), hs1]
 clear hs1
 go_wp2_with fail
 go_ret
 exact ⟨_, hs2, rfl, h1, h2⟩
theorem Own.stp {α : Type} [Cel α] {w w' : World} {base S : Nat} {E : TypeId} {v : Value} {l : List α} (h : Own base E w v l) (k : Stp S w w') (hS : S < base) : Own base E w' v l :=
 h.same fun b hb => k.block b (h.lt b hb).2 (by have := (h.lt b hb).1; omega)
theorem Own.setOther {α : Type} [Cel α] {w : World} {base : Nat} {E : TypeId} {v : Value} {l : List α} (h : Own base E w v l) {p : Addr} (hp : ∀ b, v.ownBlock = some b → b ≠ p.block) (u : Value) : Own base E (w.setCell p u) v l :=
 h.same fun b hb => Below.heap_setCell _ _ _ _ (hp b hb)
theorem Own.form {α : Type} [Cel α] {w : World} {base : Nat} {E : TypeId} {v : Value} {l : List α} (h : Own base E w v l) : ∃ a cap, v = .slice a l.length cap ∧ SA w a l ∧ (a = none ∨ ∃ b, a = some ⟨b, 0, none⟩ ∧ base ≤ b ∧ b < w.heap.size) ∧ l.length ≤ cap := by
 obtain ⟨a, cap, rfl, h1, h2, h3⟩ := h.sa
 refine ⟨a, cap, rfl, h1, ?_, h3⟩
 obtain ⟨_, k⟩ := h
 rcases k with ⟨k, _⟩ | ⟨g, cap', cur, he, r1, r2, _⟩
 ·
  simp at k; exact .inl k.1
 ·
  simp at he
  obtain ⟨rfl, -⟩ := he
  exact .inr ⟨g, rfl, h2 _ rfl⟩
theorem Strm.keepS {S : Nat} {B : Int} {w w' : World} (h : Strm S B w) (hk : ∀ k, k ≤ S → w'.heap[k]? = w.heap[k]?) : Strm S B w' := by
 obtain ⟨a, len, cap, zs, k, h1, h2, h3, h4⟩ := h
 exact ⟨a, len, cap, zs, k, by rw [hk S (Nat.le_refl _)]; exact h1, h2, h3, h4.keep fun j hj => hk j (by omega)⟩
theorem Strm.grown {S : Nat} {B : Int} {w w' : World} {row : Option Nat} (h : Strm S B w) (hg : w.grownBy w' row) (hr : ∀ k, row = some k → S < k) : Strm S B w' :=
 h.keepS fun k hk => hg.block k (by have := h.lt; omega) (fun e => by have := hr k e.symm; omega)
theorem Strm.belowB {S base : Nat} {B : Int} {w w' : World} (h : Strm S B w) (hb : Below base w w') (hS : S < base) : Strm S B w' := h.keepS fun k hk => hb.block k (by omega)
theorem Stp.belowB {S base : Nat} {w0 w w' : World} (h : Stp S w0 w) (hb : Below base w w') (hB : w0.heap.size ≤ base) : Stp S w0 w' :=
 ⟨hb.os.trans h.os, hb.tape.trans h.tape, hb.output.trans h.output, Nat.le_trans h.size hb.size, fun k hk hs => (hb.block k (by omega)).trans (h.block k hk hs)⟩
theorem Box.grown {w w' : World} {b : Nat} {T : TypeId} {vs : Array Value} {row : Option Nat} (h : Box w b T vs) (k : w.grownBy w' row) (hne : some b ≠ row) : Box w' b T vs := h.same (k.block _ h.lt hne)
theorem Stp.grown {S : Nat} {w0 w w' : World} {row : Option Nat} (h : Stp S w0 w) (hg : w.grownBy w' row) (hr : ∀ k, row = some k → k = S ∨ w0.heap.size ≤ k) : Stp S w0 w' :=
 ⟨hg.os.trans h.os, hg.tape.trans h.tape, hg.output.trans h.output, Nat.le_trans h.size hg.size, fun k hk hs => by
  rw [hg.block k (Nat.lt_of_lt_of_le hk h.size) (fun e => by rcases hr k e.symm with h1 | h1 <;> omega)]; exact h.block k hk hs⟩
theorem Own.box {α : Type} [Cel α] {w : World} {base : Nat} {E : TypeId} {g n cap : Nat} {l : List α} (h : Own base E w (.slice (some ⟨g, 0, none⟩) n cap) l) : ∃ cur, Box w g E cur := by
 obtain ⟨h1, h2⟩ := h
 rcases h2 with ⟨h2, _⟩ | ⟨g', cap', cur, he, r1, r2, _⟩
 ·
  cases h2
 ·
  cases he; exact ⟨cur, r2⟩
theorem flat_set {α : Type} [Cel α] (l : List α) (i j : Nat) (y : α) (u : Value) (hi : i < l.length) (hj : j < Cel.k α) (hy : Cel.cells y = (Cel.cells l[i]).set j u) : (l.set i y).flatMap Cel.cells = (l.flatMap Cel.cells).set (i * Cel.k α + j) u := by
 induction l generalizing i with
 | nil => simp at hi
 | cons x r ih =>
  cases i with
  | zero =>
   simp only [List.set_cons_zero, List.flatMap_cons]
   rw [List.set_append_left _ _ (by rw [Cel.len]; omega), hy]
   simp
  | succ i =>
   simp only [List.set_cons_succ, List.flatMap_cons]
   have e : (i + 1) * Cel.k α + j = Cel.k α + (i * Cel.k α + j) := by rw [Nat.add_mul]; omega
   rw [List.set_append_right _ _ (by rw [Cel.len]; omega), Cel.len, e, Nat.add_sub_cancel_left, ih i (by simpa using hi) (by simpa using hy)]
/-- A store into a slice of one's own. -/
theorem Own.put {α : Type} [Cel α] {w : World} {base : Nat} {E : TypeId} {g n cap : Nat} {l : List α} (h : Own base E w (.slice (some ⟨g, 0, none⟩) n cap) l) (i j : Nat) (y : α) (u : Value) (hi : i < l.length) (hj : j < Cel.k α) (hy : Cel.cells y = (Cel.cells l[i]).set j u) :
  Own base E (w.setCell ⟨g, i * Cel.k α + j, none⟩ u) (.slice (some ⟨g, 0, none⟩) n cap) (l.set i y) := by
 obtain ⟨h1, h2⟩ := h
 unfold Own
 rw [List.length_set, flat_set l i j y u hi hj hy]
 refine ⟨by rw [List.length_set]; exact h1, ?_⟩
 rcases h2 with ⟨h2, _⟩ | ⟨g', cap', cur, he, r1, r2, r3, r4, r5, r6⟩
 ·
  cases h2
 ·
  cases he
  refine .inr ⟨g, cap, cur.setIfInBounds (i * Cel.k α + j) u, rfl, r1, ?_, r3, r4, by simpa using r5, ?_⟩
  ·
   exact (show Box w g E cur from r2).set _ _
  ·
   rw [← r6]
   simp [List.take_set]
end Go.Proofs.YtnocceilpnmbpaaGreatDoor
