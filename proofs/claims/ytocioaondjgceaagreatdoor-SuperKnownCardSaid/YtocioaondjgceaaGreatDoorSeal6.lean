/- Sealed texts: the reference's Seal, Open. -/
import Derived.Test.YtocioaondjgceaaGreatDoorSeal3
set_option linter.unusedVariables false
set_option linter.unusedSimpArgs false
namespace Go.Proofs.YtocioaondjgceaaGreatDoor
open Go.RowKit

end Go.Proofs.YtocioaondjgceaaGreatDoor
