/- Papers: how they lie in memory; what is wrong with one. -/
import Derived.Test.YtdkenbnfelekgaaDoorText1
import Derived.Test.YtdkenbnfelekgaaDoorList
namespace Go.Proofs.YtdkenbnfelekgaaDoor
open Go.RowKit
set_option linter.unusedVariables false
set_option linter.unusedSimpArgs false

/-- A paper, and where its lists lie. -/
structure Paper where
  id : ByteArray
  track : ByteArray
  title : ByteArray
  authors : List ByteArray
  topics : List ByteArray
  a1 : Option Addr
  c1 : Nat
  a2 : Option Addr
  c2 : Nat
instance : Cel Paper := ⟨5, fun p => [.string p.id, .string p.track, .string p.title, .slice p.a1 p.authors.length p.c1, .slice p.a2 p.topics.length p.c2], fun _ => rfl, by decide, by simp [Value.oneCell']⟩
def Paper.agg (p : Paper) : Value := .agg #[.string p.id, .string p.track, .string p.title, .slice p.a1 p.authors.length p.c1, .slice p.a2 p.topics.length p.c2]
def Paper.cells (p : Paper) : Array Value := #[.string p.id, .string p.track, .string p.title, .slice p.a1 p.authors.length p.c1, .slice p.a2 p.topics.length p.c2]
/-- Its lists are there. -/
def PRd (w : World) (p : Paper) : Prop := SA w p.a1 p.authors ∧ SA w p.a2 p.topics ∧ p.authors.length ≤ p.c1
theorem PRd.below {w w' : World} {p : Paper} (h : PRd w p) (hb : Below w.heap.size w w') : PRd w' p := ⟨h.1.below hb, h.2.1.below hb, h.2.2⟩
/-- Sizes. -/
def PSmall (p : Paper) : Prop := p.id.size ≤ 1000 ∧ p.track.size ≤ 1000 ∧ p.title.size ≤ 1000 ∧ p.authors.length ≤ 1000 ∧ p.topics.length ≤ 1000 ∧ (∀ x ∈ p.authors, x.size ≤ 1000) ∧ ∀ x ∈ p.topics, x.size ≤ 1000

/-- The first error of keys that must rise. -/
def riseE (ks : List ByteArray) (i : Nat) : Int :=
  match ks[i]? with
  | none => 0
  | some x => if keyB x = false then 5 else if ordB ks i then 7 else 0
def riseFault (ks : List ByteArray) : Int := firstErr (riseE ks) ks.length
def authE (ks : List ByteArray) (i : Nat) : Int :=
  match ks[i]? with
  | none => 0
  | some x => if keyB x = false then 5 else if (ks.take i).any (fun y => decide (y = x)) then 6 else 0
def paperFault (p : Paper) : Int :=
  if (keyB p.id && keyB p.track) = false then 5
  else if 200 < p.title.size then 2
  else if (decide (p.title.size ≠ 0) && plainB p.title) = false then 3
  else if p.authors.length = 0 then 8
  else if 20 < p.authors.length then 2
  else if firstErr (authE p.authors) p.authors.length ≠ 0 then firstErr (authE p.authors) p.authors.length
  else if 100 < p.topics.length then 2
  else riseFault p.topics
def papersE (ps : List Paper) (i : Nat) : Int :=
  match ps[i]? with
  | none => 0
  | some p => if paperFault p ≠ 0 then paperFault p else if ordB (ps.map (·.id)) i then 7 else 0
def papersFault (ps : List Paper) : Int := if 400 < ps.length then 2 else firstErr (papersE ps) ps.length
end Go.Proofs.YtdkenbnfelekgaaDoor
