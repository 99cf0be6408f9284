/- Chapter 12: SpansPlays' walk in the law's order. -/
import Derived.Test.YtoblihckojnffaaSpY
namespace Go.Proofs.Ytoblihckojnffaa
open Go.RowKit

theorem walk_SpansPlays' (n : Int) (v : Option Addr) (cp : Nat) (l : List SAct) (w : World) (_h0 : -9223372036854775808 ≤ n) (_h1 : n ≤ 9223372036854775807) (h : SActsAt w w.heap.size v l) :
    Calls Try.prog 3 #[.int .i64 n, .slice v l.length cp] w fun e w' => e = .returned (.bool true) ∧ Upd (fun i => w.heap.size ≤ i) w w' :=
  (walk_SpansPlays w n h).mono fun _ _ ⟨e1, u⟩ => ⟨e1, u.mono (fun _ _ f => f.elim)⟩

end Go.Proofs.Ytoblihckojnffaa
