/-
  NARROWER THAN 'FOR EVERY INPUT', by the rows' own cells (each row's printed sentence says how): MarksAgree: laid · PeopleStrict: laid · PapersStrong: laid · PapersOrdered: laid · PlacesRange: laid · MarksUnbiased: laid.
  DERIVED. THE GIVEN ROWS OF THIS SEAT. 6 by the template 'for every input the law returns true; each argument reads behind the call as it read before'; 0 by the template 'total and deterministic' (their statements: YtaoomkkhpianlaaGreatDoorTotals.lean).
  GIVEN WITH THE SEED: the statements are not yours to turn. If you find one false, say at which input.
  Laid BY PROGRAM, IN A SANDBOX (cutbox-rows.mjs): the forced cells as the released guide's own fill.sh prints them over the translation a69624dbeb9cc878… (all of the seat's roots in one cut). By AI agents, Wed Nov 11 2026. No macro, syntax, notation, axiom, sorry.
-/
import Derived.Test.YtaoomkkhpianlaaGreatDoorChecked
import GoSem.PinnedTables
import GoSem.Claim
import GoSem.ClaimJoined
import GoSem.ClaimMapViews
import Derived.JoinedTies
import Derived.KernelRfl
namespace Go.Proofs.YtaoomkkhpianlaaGreatDoor
/- THE CELL 'sum', in the pinned program and in every row, IS THE sha256 OF THE DUMP (.gsa) THAT YtaoomkkhpianlaaGreatDoorProg.lean LOADS. Nothing in Lean hashes anything: it is a label: what it is worth is what the hold of that sum in a sandbox is worth. -/
noncomputable def Tryz.pinned : Pinned := { name := "ytaoomkkhpianlaagreatdoor", sum := "a69624dbeb9cc8786b392c5929a6daa2470e578218d18fcd6d228587a341e824", checked := Tryz.checked }
namespace Rows
def none {H : Type} : Left H := { results := [], args := [] }

/- WHAT THE LISTED PACKAGE-LEVEL VARIABLES READ AS WHEN THE CALL BEGINS. Each datum BY PROGRAM (the guide's laid-datum.mjs) off the statement by which the dump's own 'gosem.cut.vars' lays the variable. In a bare row this is a premise. The card (YtaoomkkhpianlaaGreatDoorCards.lean) ties it to the program's text. -/
def laid_unicode_utf8_acceptRanges {H : Type} : DataW H := .agg [.agg [.lit (.int .u8 128), .lit (.int .u8 191)], .agg [.lit (.int .u8 160), .lit (.int .u8 191)], .agg [.lit (.int .u8 128), .lit (.int .u8 159)], .agg [.lit (.int .u8 144), .lit (.int .u8 191)], .agg [.lit (.int .u8 128), .lit (.int .u8 143)], .agg [.lit (.int .u8 0), .lit (.int .u8 0)], .agg [.lit (.int .u8 0), .lit (.int .u8 0)], .agg [.lit (.int .u8 0), .lit (.int .u8 0)], .agg [.lit (.int .u8 0), .lit (.int .u8 0)], .agg [.lit (.int .u8 0), .lit (.int .u8 0)], .agg [.lit (.int .u8 0), .lit (.int .u8 0)], .agg [.lit (.int .u8 0), .lit (.int .u8 0)], .agg [.lit (.int .u8 0), .lit (.int .u8 0)], .agg [.lit (.int .u8 0), .lit (.int .u8 0)], .agg [.lit (.int .u8 0), .lit (.int .u8 0)], .agg [.lit (.int .u8 0), .lit (.int .u8 0)]]
/-- One of Go's own tables, pinned by name: the form's constant. -/
def laid_unicode_utf8_first : DataW Unit := Go.Pinned.utf8First

/-- 'committeelaw1.MarksAgree': WHATEVER THE INPUT: true; the input reads as it did. -/
def marksAgreeSpec : ChangeSpec := { name := "marksAgree", fn := fun _ => fun
  | [d] => { results := [.lit (.bool true)], args := [d] }
  | _ => none }
def marksAgreeRow : OpenClaim := { program := "ytaoomkkhpianlaagreatdoor", sum := "a69624dbeb9cc8786b392c5929a6daa2470e578218d18fcd6d228587a341e824", func := "rebuttal/committeelaw1.MarksAgree", spec := "marksAgree", inPlace := ["internal/bytealg.abigen_runtime_cmpstring", "internal/bytealg.IndexByteString", "internal/bytealg.IndexString"], unfollowed := true, recurses := true, named := ["unicode/utf8.first", "unicode/utf8.acceptRanges", "internal/bytealg.MaxLen"], plainKeys := false, apart := false, laid := [("unicode/utf8.acceptRanges", laid_unicode_utf8_acceptRanges), ("unicode/utf8.first", laid_unicode_utf8_first)] }
def MarksAgreeSaid : Prop := marksAgreeRow.holds Tryz.pinned (OpenSpec.ofChange marksAgreeSpec)

/-- ITS FALSE NEIGHBOUR: 'it returns false'. Refute it at one input. -/
def marksAgreeWrong : ChangeSpec := { name := "marksAgree", fn := fun _ => fun
  | [d] => { results := [.lit (.bool false)], args := [d] }
  | _ => none }
def MarksAgreeWrongFalsely : Prop := marksAgreeRow.holds Tryz.pinned (OpenSpec.ofChange marksAgreeWrong)

/-- 'committeelaw1.PeopleStrict': WHATEVER THE INPUT: true; the input reads as it did. -/
def peopleStrictSpec : ChangeSpec := { name := "peopleStrict", fn := fun _ => fun
  | [d] => { results := [.lit (.bool true)], args := [d] }
  | _ => none }
def peopleStrictRow : OpenClaim := { program := "ytaoomkkhpianlaagreatdoor", sum := "a69624dbeb9cc8786b392c5929a6daa2470e578218d18fcd6d228587a341e824", func := "rebuttal/committeelaw1.PeopleStrict", spec := "peopleStrict", inPlace := ["internal/bytealg.abigen_runtime_cmpstring", "internal/bytealg.IndexByteString", "internal/bytealg.IndexString"], unfollowed := true, recurses := true, named := ["unicode/utf8.first", "unicode/utf8.acceptRanges", "internal/bytealg.MaxLen"], plainKeys := false, apart := false, laid := [("unicode/utf8.acceptRanges", laid_unicode_utf8_acceptRanges), ("unicode/utf8.first", laid_unicode_utf8_first)] }
def PeopleStrictSaid : Prop := peopleStrictRow.holds Tryz.pinned (OpenSpec.ofChange peopleStrictSpec)

/-- ITS FALSE NEIGHBOUR: 'it returns false'. Refute it at one input. -/
def peopleStrictWrong : ChangeSpec := { name := "peopleStrict", fn := fun _ => fun
  | [d] => { results := [.lit (.bool false)], args := [d] }
  | _ => none }
def PeopleStrictWrongFalsely : Prop := peopleStrictRow.holds Tryz.pinned (OpenSpec.ofChange peopleStrictWrong)

/-- 'committeelaw1.PapersStrong': WHATEVER THE INPUT: true; the input reads as it did. -/
def papersStrongSpec : ChangeSpec := { name := "papersStrong", fn := fun _ => fun
  | [d] => { results := [.lit (.bool true)], args := [d] }
  | _ => none }
def papersStrongRow : OpenClaim := { program := "ytaoomkkhpianlaagreatdoor", sum := "a69624dbeb9cc8786b392c5929a6daa2470e578218d18fcd6d228587a341e824", func := "rebuttal/committeelaw1.PapersStrong", spec := "papersStrong", inPlace := ["internal/bytealg.abigen_runtime_cmpstring", "internal/bytealg.IndexByteString", "internal/bytealg.IndexString"], unfollowed := true, recurses := true, named := ["unicode/utf8.first", "unicode/utf8.acceptRanges", "internal/bytealg.MaxLen"], plainKeys := false, apart := false, laid := [("unicode/utf8.acceptRanges", laid_unicode_utf8_acceptRanges), ("unicode/utf8.first", laid_unicode_utf8_first)] }
def PapersStrongSaid : Prop := papersStrongRow.holds Tryz.pinned (OpenSpec.ofChange papersStrongSpec)

/-- ITS FALSE NEIGHBOUR: 'it returns false'. Refute it at one input. -/
def papersStrongWrong : ChangeSpec := { name := "papersStrong", fn := fun _ => fun
  | [d] => { results := [.lit (.bool false)], args := [d] }
  | _ => none }
def PapersStrongWrongFalsely : Prop := papersStrongRow.holds Tryz.pinned (OpenSpec.ofChange papersStrongWrong)

/-- 'committeelaw1.PapersOrdered': WHATEVER THE INPUT: true; the input reads as it did. -/
def papersOrderedSpec : ChangeSpec := { name := "papersOrdered", fn := fun _ => fun
  | [d] => { results := [.lit (.bool true)], args := [d] }
  | _ => none }
def papersOrderedRow : OpenClaim := { program := "ytaoomkkhpianlaagreatdoor", sum := "a69624dbeb9cc8786b392c5929a6daa2470e578218d18fcd6d228587a341e824", func := "rebuttal/committeelaw1.PapersOrdered", spec := "papersOrdered", inPlace := ["internal/bytealg.abigen_runtime_cmpstring", "internal/bytealg.IndexByteString", "internal/bytealg.IndexString"], unfollowed := true, recurses := true, named := ["unicode/utf8.first", "unicode/utf8.acceptRanges", "internal/bytealg.MaxLen"], plainKeys := false, apart := false, laid := [("unicode/utf8.acceptRanges", laid_unicode_utf8_acceptRanges), ("unicode/utf8.first", laid_unicode_utf8_first)] }
def PapersOrderedSaid : Prop := papersOrderedRow.holds Tryz.pinned (OpenSpec.ofChange papersOrderedSpec)

/-- ITS FALSE NEIGHBOUR: 'it returns false'. Refute it at one input. -/
def papersOrderedWrong : ChangeSpec := { name := "papersOrdered", fn := fun _ => fun
  | [d] => { results := [.lit (.bool false)], args := [d] }
  | _ => none }
def PapersOrderedWrongFalsely : Prop := papersOrderedRow.holds Tryz.pinned (OpenSpec.ofChange papersOrderedWrong)

/-- 'committeelaw1.PlacesRange': WHATEVER THE INPUT: true; the input reads as it did. -/
def placesRangeSpec : ChangeSpec := { name := "placesRange", fn := fun _ => fun
  | [d] => { results := [.lit (.bool true)], args := [d] }
  | _ => none }
def placesRangeRow : OpenClaim := { program := "ytaoomkkhpianlaagreatdoor", sum := "a69624dbeb9cc8786b392c5929a6daa2470e578218d18fcd6d228587a341e824", func := "rebuttal/committeelaw1.PlacesRange", spec := "placesRange", inPlace := ["internal/bytealg.abigen_runtime_cmpstring", "internal/bytealg.IndexByteString", "internal/bytealg.IndexString"], unfollowed := true, recurses := true, named := ["unicode/utf8.first", "unicode/utf8.acceptRanges", "internal/bytealg.MaxLen"], plainKeys := false, apart := false, laid := [("unicode/utf8.acceptRanges", laid_unicode_utf8_acceptRanges), ("unicode/utf8.first", laid_unicode_utf8_first)] }
def PlacesRangeSaid : Prop := placesRangeRow.holds Tryz.pinned (OpenSpec.ofChange placesRangeSpec)

/-- ITS FALSE NEIGHBOUR: 'it returns false'. Refute it at one input. -/
def placesRangeWrong : ChangeSpec := { name := "placesRange", fn := fun _ => fun
  | [d] => { results := [.lit (.bool false)], args := [d] }
  | _ => none }
def PlacesRangeWrongFalsely : Prop := placesRangeRow.holds Tryz.pinned (OpenSpec.ofChange placesRangeWrong)

/-- 'committeelaw1.MarksUnbiased': WHATEVER THE INPUT: true; the input reads as it did. -/
def marksUnbiasedSpec : ChangeSpec := { name := "marksUnbiased", fn := fun _ => fun
  | [d] => { results := [.lit (.bool true)], args := [d] }
  | _ => none }
def marksUnbiasedRow : OpenClaim := { program := "ytaoomkkhpianlaagreatdoor", sum := "a69624dbeb9cc8786b392c5929a6daa2470e578218d18fcd6d228587a341e824", func := "rebuttal/committeelaw1.MarksUnbiased", spec := "marksUnbiased", inPlace := ["internal/bytealg.abigen_runtime_cmpstring", "math/bits.Sub64", "internal/bytealg.IndexByteString", "internal/bytealg.IndexString"], unfollowed := true, recurses := true, named := ["math/bits.divideError", "math/bits.overflowError", "unicode/utf8.first", "unicode/utf8.acceptRanges", "internal/bytealg.MaxLen"], plainKeys := false, apart := false, laid := [("unicode/utf8.acceptRanges", laid_unicode_utf8_acceptRanges), ("unicode/utf8.first", laid_unicode_utf8_first)] }
def MarksUnbiasedSaid : Prop := marksUnbiasedRow.holds Tryz.pinned (OpenSpec.ofChange marksUnbiasedSpec)

/-- ITS FALSE NEIGHBOUR: 'it returns false'. Refute it at one input. -/
def marksUnbiasedWrong : ChangeSpec := { name := "marksUnbiased", fn := fun _ => fun
  | [d] => { results := [.lit (.bool false)], args := [d] }
  | _ => none }
def MarksUnbiasedWrongFalsely : Prop := marksUnbiasedRow.holds Tryz.pinned (OpenSpec.ofChange marksUnbiasedWrong)

/- THE SECOND FORM. 'bulk': how many values and letters a reading holds, each counted each time it is reached (what is shared counts as often as it is met; a slice's spare places count too). A statement '..UptoSaid' is the law's where the arguments, and the package variables that the reading takes, are together of bulk at most 1048576: NARROWER than '..Said'. Prove '..Said' where nothing that the law and all that it calls make is longer than what came in: it says more and counts as full. Else prove '..UptoSaid'. A law counts once. -/
mutual
def uptoBulk {H : Type} : DataW H → Nat
  | .lit (.string bytes) => bytes.length + 1
  | .lit _ => 1
  | .nil => 1
  | .ptr d => uptoBulk d + 1
  | .slice elems spare => uptoBulkAll elems + uptoBulkAll spare + 1
  | .agg parts => uptoBulkAll parts + 1
  | .iface _ d => uptoBulk d + 1
  | .map entries => uptoBulkEntries entries + 1
  | .held _ => 1
def uptoBulkAll {H : Type} : List (DataW H) → Nat
  | [] => 0
  | d :: r => uptoBulk d + uptoBulkAll r
def uptoBulkEntries {H : Type} : List (Lit × DataW H) → Nat
  | [] => 0
  | x :: r => uptoBulkEntry x + uptoBulkEntries r
def uptoBulkEntry {H : Type} : Lit × DataW H → Nat
  | (.string bytes, d) => bytes.length + uptoBulk d + 1
  | (_, d) => uptoBulk d + 1
 end
def uptoSmall : (H : Type) → List (DataW H) → Bool := fun _ ds => decide (uptoBulkAll ds ≤ 1048576)
def OpenSpec.upto (s : _root_.Go.ChangeSpec) : _root_.Go.OpenSpec := { _root_.Go.OpenSpec.ofChange s with cond := some uptoSmall }

/-- 'committeelaw1.MarksAgree', WHERE WHAT IT READS IS OF BULK AT MOST 1048576: true; the input reads as it did. -/
def marksAgreeUptoRow : OpenClaim := { program := "ytaoomkkhpianlaagreatdoor", sum := "a69624dbeb9cc8786b392c5929a6daa2470e578218d18fcd6d228587a341e824", func := "rebuttal/committeelaw1.MarksAgree", spec := "marksAgree", inPlace := ["internal/bytealg.abigen_runtime_cmpstring", "internal/bytealg.IndexByteString", "internal/bytealg.IndexString"], unfollowed := true, recurses := true, named := ["unicode/utf8.first", "unicode/utf8.acceptRanges", "internal/bytealg.MaxLen"], plainKeys := false, apart := false, laid := [("unicode/utf8.acceptRanges", laid_unicode_utf8_acceptRanges), ("unicode/utf8.first", laid_unicode_utf8_first)], narrowed := true }
def MarksAgreeUptoSaid : Prop := marksAgreeUptoRow.holds Tryz.pinned (OpenSpec.upto marksAgreeSpec)

/-- 'committeelaw1.PeopleStrict', WHERE WHAT IT READS IS OF BULK AT MOST 1048576: true; the input reads as it did. -/
def peopleStrictUptoRow : OpenClaim := { program := "ytaoomkkhpianlaagreatdoor", sum := "a69624dbeb9cc8786b392c5929a6daa2470e578218d18fcd6d228587a341e824", func := "rebuttal/committeelaw1.PeopleStrict", spec := "peopleStrict", inPlace := ["internal/bytealg.abigen_runtime_cmpstring", "internal/bytealg.IndexByteString", "internal/bytealg.IndexString"], unfollowed := true, recurses := true, named := ["unicode/utf8.first", "unicode/utf8.acceptRanges", "internal/bytealg.MaxLen"], plainKeys := false, apart := false, laid := [("unicode/utf8.acceptRanges", laid_unicode_utf8_acceptRanges), ("unicode/utf8.first", laid_unicode_utf8_first)], narrowed := true }
def PeopleStrictUptoSaid : Prop := peopleStrictUptoRow.holds Tryz.pinned (OpenSpec.upto peopleStrictSpec)

/-- 'committeelaw1.PapersStrong', WHERE WHAT IT READS IS OF BULK AT MOST 1048576: true; the input reads as it did. -/
def papersStrongUptoRow : OpenClaim := { program := "ytaoomkkhpianlaagreatdoor", sum := "a69624dbeb9cc8786b392c5929a6daa2470e578218d18fcd6d228587a341e824", func := "rebuttal/committeelaw1.PapersStrong", spec := "papersStrong", inPlace := ["internal/bytealg.abigen_runtime_cmpstring", "internal/bytealg.IndexByteString", "internal/bytealg.IndexString"], unfollowed := true, recurses := true, named := ["unicode/utf8.first", "unicode/utf8.acceptRanges", "internal/bytealg.MaxLen"], plainKeys := false, apart := false, laid := [("unicode/utf8.acceptRanges", laid_unicode_utf8_acceptRanges), ("unicode/utf8.first", laid_unicode_utf8_first)], narrowed := true }
def PapersStrongUptoSaid : Prop := papersStrongUptoRow.holds Tryz.pinned (OpenSpec.upto papersStrongSpec)

/-- 'committeelaw1.PapersOrdered', WHERE WHAT IT READS IS OF BULK AT MOST 1048576: true; the input reads as it did. -/
def papersOrderedUptoRow : OpenClaim := { program := "ytaoomkkhpianlaagreatdoor", sum := "a69624dbeb9cc8786b392c5929a6daa2470e578218d18fcd6d228587a341e824", func := "rebuttal/committeelaw1.PapersOrdered", spec := "papersOrdered", inPlace := ["internal/bytealg.abigen_runtime_cmpstring", "internal/bytealg.IndexByteString", "internal/bytealg.IndexString"], unfollowed := true, recurses := true, named := ["unicode/utf8.first", "unicode/utf8.acceptRanges", "internal/bytealg.MaxLen"], plainKeys := false, apart := false, laid := [("unicode/utf8.acceptRanges", laid_unicode_utf8_acceptRanges), ("unicode/utf8.first", laid_unicode_utf8_first)], narrowed := true }
def PapersOrderedUptoSaid : Prop := papersOrderedUptoRow.holds Tryz.pinned (OpenSpec.upto papersOrderedSpec)

/-- 'committeelaw1.PlacesRange', WHERE WHAT IT READS IS OF BULK AT MOST 1048576: true; the input reads as it did. -/
def placesRangeUptoRow : OpenClaim := { program := "ytaoomkkhpianlaagreatdoor", sum := "a69624dbeb9cc8786b392c5929a6daa2470e578218d18fcd6d228587a341e824", func := "rebuttal/committeelaw1.PlacesRange", spec := "placesRange", inPlace := ["internal/bytealg.abigen_runtime_cmpstring", "internal/bytealg.IndexByteString", "internal/bytealg.IndexString"], unfollowed := true, recurses := true, named := ["unicode/utf8.first", "unicode/utf8.acceptRanges", "internal/bytealg.MaxLen"], plainKeys := false, apart := false, laid := [("unicode/utf8.acceptRanges", laid_unicode_utf8_acceptRanges), ("unicode/utf8.first", laid_unicode_utf8_first)], narrowed := true }
def PlacesRangeUptoSaid : Prop := placesRangeUptoRow.holds Tryz.pinned (OpenSpec.upto placesRangeSpec)

/-- 'committeelaw1.MarksUnbiased', WHERE WHAT IT READS IS OF BULK AT MOST 1048576: true; the input reads as it did. -/
def marksUnbiasedUptoRow : OpenClaim := { program := "ytaoomkkhpianlaagreatdoor", sum := "a69624dbeb9cc8786b392c5929a6daa2470e578218d18fcd6d228587a341e824", func := "rebuttal/committeelaw1.MarksUnbiased", spec := "marksUnbiased", inPlace := ["internal/bytealg.abigen_runtime_cmpstring", "math/bits.Sub64", "internal/bytealg.IndexByteString", "internal/bytealg.IndexString"], unfollowed := true, recurses := true, named := ["math/bits.divideError", "math/bits.overflowError", "unicode/utf8.first", "unicode/utf8.acceptRanges", "internal/bytealg.MaxLen"], plainKeys := false, apart := false, laid := [("unicode/utf8.acceptRanges", laid_unicode_utf8_acceptRanges), ("unicode/utf8.first", laid_unicode_utf8_first)], narrowed := true }
def MarksUnbiasedUptoSaid : Prop := marksUnbiasedUptoRow.holds Tryz.pinned (OpenSpec.upto marksUnbiasedSpec)

end Rows
end Go.Proofs.YtaoomkkhpianlaaGreatDoor
