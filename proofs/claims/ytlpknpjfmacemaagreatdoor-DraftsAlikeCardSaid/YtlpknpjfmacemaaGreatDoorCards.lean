/-
  DERIVED. GIVEN WITH THE SEED: THE CARDS: each row of YtlpknpjfmacemaaGreatDoorRows.lean that lists a variable, with what it lists TIED to the program's text (the seventh form; the later family's looks); each row that meets fmt, with fmt's text TOLD by the authors' own Lean function (tested against real Go, not proved from fmt's source: count such statements apart). THE CARD IS WHAT COUNTS. Prove the row's statement (the work); the ties are given (YtlpknpjfmacemaaGreatDoorTie.lean); close each card by the builder's one call (the guide's Derived/Test/ToyasCard.lean, 'card_holds'). Laid BY PROGRAM, IN A SANDBOX (cutbox-door.mjs). By AI agents, Wed Nov 11 2026. No macro, syntax, notation, axiom, sorry.
-/
import Derived.Test.YtlpknpjfmacemaaGreatDoorRows
import GoSem.ClaimSeven
namespace Go.Proofs.YtlpknpjfmacemaaGreatDoor
namespace Rows

/-- THE TIED CARD OF 'committeelaw1.TextsFit'. -/
def textsFitCard : Claim7 := { stood := { row := textsFitRow, standIns := [], harness := (true, "42844b0af4a0f26e98e606eb42e6c046e256fbdd32f16db6dce7007e1c2f0d4f"), looks := false }, kinds := [], alts := [], laidByText := true, laidKinds := [.data, .pinned], laidTests := true, laidLooks := .later }
def TextsFitCardSaid : Prop := Claim7.holds Tryz.pinned (.plain (OpenSpec.ofChange textsFitSpec)) textsFitCard

/-- THE TIED CARD OF 'committeelaw1.DraftsAlike'. -/
def draftsAlikeCard : Claim7 := { stood := { row := draftsAlikeRow, standIns := [], harness := (true, "42844b0af4a0f26e98e606eb42e6c046e256fbdd32f16db6dce7007e1c2f0d4f"), looks := false }, kinds := [], alts := [], laidByText := true, laidKinds := [.data, .pinned], laidTests := true, laidLooks := .later }
def DraftsAlikeCardSaid : Prop := Claim7.holds Tryz.pinned (.plain (OpenSpec.ofChange draftsAlikeSpec)) draftsAlikeCard

/-- THE TIED CARD OF 'committeelaw1.AuthorsFound'. -/
def authorsFoundCard : Claim7 := { stood := { row := authorsFoundRow, standIns := [], harness := (true, "42844b0af4a0f26e98e606eb42e6c046e256fbdd32f16db6dce7007e1c2f0d4f"), looks := false }, kinds := [], alts := [], laidByText := true, laidKinds := [.data, .pinned], laidTests := true, laidLooks := .later }
def AuthorsFoundCardSaid : Prop := Claim7.holds Tryz.pinned (.plain (OpenSpec.ofChange authorsFoundSpec)) authorsFoundCard

/-- THE SECOND FORM's CARD OF 'committeelaw1.TextsFit'. -/
def textsFitUptoCard : Claim7 := { stood := { row := textsFitUptoRow, standIns := [], harness := (true, "42844b0af4a0f26e98e606eb42e6c046e256fbdd32f16db6dce7007e1c2f0d4f"), looks := false }, kinds := [], alts := [], laidByText := true, laidKinds := [.data, .pinned], laidTests := true, laidLooks := .later }
def TextsFitUptoCardSaid : Prop := Claim7.holds Tryz.pinned (.plain (OpenSpec.upto textsFitSpec)) textsFitUptoCard

/-- THE SECOND FORM's CARD OF 'committeelaw1.DraftsAlike'. -/
def draftsAlikeUptoCard : Claim7 := { stood := { row := draftsAlikeUptoRow, standIns := [], harness := (true, "42844b0af4a0f26e98e606eb42e6c046e256fbdd32f16db6dce7007e1c2f0d4f"), looks := false }, kinds := [], alts := [], laidByText := true, laidKinds := [.data, .pinned], laidTests := true, laidLooks := .later }
def DraftsAlikeUptoCardSaid : Prop := Claim7.holds Tryz.pinned (.plain (OpenSpec.upto draftsAlikeSpec)) draftsAlikeUptoCard

/-- THE SECOND FORM's CARD OF 'committeelaw1.AuthorsFound'. -/
def authorsFoundUptoCard : Claim7 := { stood := { row := authorsFoundUptoRow, standIns := [], harness := (true, "42844b0af4a0f26e98e606eb42e6c046e256fbdd32f16db6dce7007e1c2f0d4f"), looks := false }, kinds := [], alts := [], laidByText := true, laidKinds := [.data, .pinned], laidTests := true, laidLooks := .later }
def AuthorsFoundUptoCardSaid : Prop := Claim7.holds Tryz.pinned (.plain (OpenSpec.upto authorsFoundSpec)) authorsFoundUptoCard
end Rows
end Go.Proofs.YtlpknpjfmacemaaGreatDoor
