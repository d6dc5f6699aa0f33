/- Fractions of the reference in lowest terms. -/
import Derived.Test.YtcjcdbhobehlpaaGreatDoorLow
import Derived.Deep.RegionHeld3
namespace Go.Proofs.YtcjcdbhobehlpaaGreatDoor
open Go.RowKit
set_option linter.unusedVariables false

end Go.Proofs.YtcjcdbhobehlpaaGreatDoor
