/- Fractions as texts, of the reference. No conditions. -/
import Derived.Test.YtanpmbiblibgfaaGreatDoorFmtS
import Derived.Test.YtanpmbiblibgfaaGreatDoorGb
import Derived.Deep.Cut
namespace Go.Proofs.YtanpmbiblibgfaaGreatDoor
open Go.RowKit Go.Lib
set_option linter.unusedVariables false

end Go.Proofs.YtanpmbiblibgfaaGreatDoor
