/- Chapter 13: AllocBack's walk in the law's order. -/
import Derived.Test.YtieohjibccjliaaAlR
namespace Go.Proofs.Ytieohjibccjliaa
open Go.RowKit

theorem walk_AllocBack' (f m : Int) (v : Option Addr) (cp : Nat) (l : List AAct) (w : World) (h0 : 0 ≤ f) (h1 : f ≤ 255) (h2 : 0 ≤ m) (h3 : m ≤ 65535) (h : AActsAt w w.heap.size v l) :
    Calls Try.prog 7 #[.int .u8 f, .int .u16 m, .slice v l.length cp] w fun e w' => e = .returned (.bool true) ∧ Upd (fun i => w.heap.size ≤ i) w w' := by
  obtain ⟨f, rfl⟩ := Int.eq_ofNat_of_zero_le h0
  obtain ⟨m, rfl⟩ := Int.eq_ofNat_of_zero_le h2
  exact (walk_AllocBack w f m (by omega) (by omega) h).mono fun e w' ⟨e1, u⟩ => ⟨e1, u.mono (fun _ _ f => f.elim)⟩

end Go.Proofs.Ytieohjibccjliaa
