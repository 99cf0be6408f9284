/- Chapter 12: SpansFair's walk in the law's order. -/
import Derived.Test.YtoblihckojnffaaSpR
namespace Go.Proofs.Ytoblihckojnffaa
open Go.RowKit

theorem walk_SpansFair' (n : Int) (v : Option Addr) (cp : Nat) (l : List SAct) (w : World) (h0 : 0 ≤ n) (h1 : n ≤ 255) (h : SActsAt w w.heap.size v l) :
    Calls Try.prog 4 #[.int .u8 n, .slice v l.length cp] w fun e w' => e = .returned (.bool true) ∧ Upd (fun i => w.heap.size ≤ i) w w' := by
  obtain ⟨n, rfl⟩ := Int.eq_ofNat_of_zero_le h0
  exact (walk_SpansFair w n (by omega) h).mono fun e w' ⟨e1, u⟩ => ⟨e1, u.mono (fun _ _ f => f.elim)⟩

end Go.Proofs.Ytoblihckojnffaa
