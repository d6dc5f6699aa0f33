/- The makers AnyMarks, MarkPaper, MarkPerson. -/
import Derived.Test.YtcjcdbhobehlpaaGreatDoorMakeMark
namespace Go.Proofs.YtcjcdbhobehlpaaGreatDoor
open Go.RowKit
set_option linter.unusedVariables false
set_option linter.unusedSimpArgs false

end Go.Proofs.YtcjcdbhobehlpaaGreatDoor
