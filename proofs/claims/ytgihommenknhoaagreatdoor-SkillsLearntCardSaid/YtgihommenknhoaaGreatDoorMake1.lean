/- Makers of lists: some strings; skills; wanted topics. -/
import Derived.Test.YtgihommenknhoaaGreatDoorMakeList
import Derived.Test.YtgihommenknhoaaGreatDoorTopicMake
import Derived.Test.YtgihommenknhoaaGreatDoorSkill6
namespace Go.Proofs.YtgihommenknhoaaGreatDoor
open Go.RowKit
set_option linter.unusedVariables false
set_option linter.unusedSimpArgs false





end Go.Proofs.YtgihommenknhoaaGreatDoor
