/- Forms of texts: what is wrong with one. -/
import Derived.Test.YthajoedabjfaaaaGreatDoorLine1
import Derived.Test.YthajoedabjfaaaaGreatDoorOutside
namespace Go.Proofs.YthajoedabjfaaaaGreatDoor
open Go.RowKit
set_option linter.unusedVariables false
set_option linter.unusedSimpArgs false

/-- A form as it lies in memory. -/
structure Frm where
  least : Int
  most : Int
  lines : Int
  must : List ByteArray
  a : Option Addr
  c : Nat
  deep : Int
def encForm (f : Frm) : Value := .agg #[.int .i64 f.least, .int .i64 f.most, .int .i64 f.lines, .slice f.a f.must.length f.c, .int .i64 f.deep]
def mustBad (s : ByteArray) : Bool := decide (s.size = 0) || (!plainB s || (decide (60 < s.size) || !decide (lowS s = s)))
def mustE (l : List ByteArray) (i : Nat) : Int :=
  match l[i]? with
  | none => 0
  | some s => if mustBad s = true then 3 else if (l.take i).any (fun y => decide (y = s)) = true then 6 else 0
theorem mustE_at {l : List ByteArray} {i : Nat} (h : i < l.length) : mustE l i = if mustBad l[i] = true then 3 else if (l.take i).any (fun y => decide (y = l[i])) = true then 6 else 0 := by
  unfold mustE; rw [List.getElem?_eq_getElem h]
def numBad (f : Frm) : Bool := decide (f.least < 0 ∨ f.most < f.least ∨ 20000 < f.most ∨ f.lines < 0 ∨ 20000 < f.lines ∨ f.deep < 1 ∨ 4 < f.deep)
def formE (f : Frm) : Int := if numBad f = true then 1 else if 20 < f.must.length then 2 else firstErr (mustE f.must) f.must.length
theorem low_beq (s : ByteArray) : ((lowS s).toList == s.toList) = decide (lowS s = s) := by
  rw [ByteArray.toList_eq, ByteArray.toList_eq, Bool.eq_iff_iff, beq_iff_eq, decide_eq_true_eq]
  constructor
  · intro h
    have : (lowS s).data = s.data := Array.toList_inj.1 h
    cases hl : lowS s; cases hs : s; simp_all
  · intro h; rw [h]
theorem SA.takeW {α : Type} [Cel α] {w : World} {a : Option Addr} {l : List α} (h : SA w a l) (n : Nat) : SA w a (l.take n) := by
  rcases h with rfl | ⟨b, off, rfl, h⟩
  · exact .inl (by simp)
  · exact .inr ⟨b, off, rfl, h.take n⟩
end Go.Proofs.YthajoedabjfaaaaGreatDoor
