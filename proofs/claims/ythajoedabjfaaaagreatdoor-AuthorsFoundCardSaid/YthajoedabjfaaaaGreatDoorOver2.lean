/- The part of a text's words that lies in runs: the program. -/
import Derived.Test.YthajoedabjfaaaaGreatDoorOverP
import Derived.Test.YthajoedabjfaaaaGreatDoorLow
import Derived.Test.YthajoedabjfaaaaGreatDoorReg
import Derived.Test.YthajoedabjfaaaaGreatDoorList
namespace Go.Proofs.YthajoedabjfaaaaGreatDoor
open Go.RowKit
set_option linter.unusedVariables false
set_option linter.unusedSimpArgs false


end Go.Proofs.YthajoedabjfaaaaGreatDoor
