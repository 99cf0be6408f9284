/- The walks of SuperPuts and SuperBack. -/
import Derived.Test.YtocioaondjgceaaGreatDoorSup5
set_option linter.unusedVariables false
set_option linter.unusedSimpArgs false
namespace Go.Proofs.YtocioaondjgceaaGreatDoor
open Go.RowKit

end Go.Proofs.YtocioaondjgceaaGreatDoor
