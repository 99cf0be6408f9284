/- A small tactic: a chain of worlds, each one of which leaves what was there, leaves it altogether. -/
import Derived.Test.YtiabomfkmfokeaaDoorBase
namespace Go.Proofs.YtiabomfkmfokeaaDoor
macro "upd" : tactic => `(tactic| repeat (first | exact Upd.refl _ _ | refine Upd.alloc ?_ _ | refine Upd.drew ?_ | refine Upd.trans ?_ (by assumption) (fun _ _ f => f)))
end Go.Proofs.YtiabomfkmfokeaaDoor
