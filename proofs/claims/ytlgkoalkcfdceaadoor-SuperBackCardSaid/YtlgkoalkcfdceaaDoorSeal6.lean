/- Sealed texts: the reference's Seal, Open. -/
import Derived.Test.YtlgkoalkcfdceaaDoorSeal3
set_option linter.unusedVariables false
set_option linter.unusedSimpArgs false
namespace Go.Proofs.YtlgkoalkcfdceaaDoor
open Go.RowKit

end Go.Proofs.YtlgkoalkcfdceaaDoor
