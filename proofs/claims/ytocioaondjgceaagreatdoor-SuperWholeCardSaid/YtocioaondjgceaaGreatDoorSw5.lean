/- SuperWhole's walk in the law's order. -/
import Derived.Test.YtocioaondjgceaaGreatDoorSw4
namespace Go.Proofs.YtocioaondjgceaaGreatDoor
open Go.RowKit

theorem walk_SuperWhole' (v : Option Addr) (cp : Nat) (l : List STry) (w : World) (h : TriesAt w w.heap.size v l) :
    Calls Tryz.prog 4 #[.slice v l.length cp] w fun e w' => e = .returned (.bool true) ∧ Upd (fun i => w.heap.size ≤ i) w w' := walk_SuperWhole w v cp l h

end Go.Proofs.YtocioaondjgceaaGreatDoor
