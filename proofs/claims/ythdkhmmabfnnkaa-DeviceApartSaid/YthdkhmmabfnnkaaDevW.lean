/- Chapter 10: the walks in the laws' order. -/
import Derived.Test.YthdkhmmabfnnkaaDevL6
import Derived.Test.YthdkhmmabfnnkaaDevOpen
namespace Go.Proofs.Ythdkhmmabfnnkaa
open Go.RowKit

theorem walk_DevicePlays' (n : Int) (v : Option Addr) (cp : Nat) (l : List DAct) (w : World) (_h0 : -9223372036854775808 ≤ n) (_h1 : n ≤ 9223372036854775807) (h : ActsAt w w.heap.size v l) :
    Calls Try.prog 5 #[.int .i64 n, .slice v l.length cp] w fun e w' => e = .returned (.bool true) ∧ Upd (fun i => w.heap.size ≤ i) w w' := walk_DevicePlays w n v cp l h
theorem walk_DeviceTorn' (v : Option Addr) (cp : Nat) (l : List DAct) (ad1 : Option Addr) (cp1 : Nat) (ks1 : List Int) (ad2 : Option Addr) (cp2 : Nat) (ks2 : List Int) (w : World) (h : ActsAt w w.heap.size v l) (hn1 : NumsAt w w.heap.size ad1 ks1) (hn2 : NumsAt w w.heap.size ad2 ks2) :
    Calls Try.prog 3 #[.slice v l.length cp, .slice ad1 ks1.length cp1, .slice ad2 ks2.length cp2] w fun e w' => e = .returned (.bool true) ∧ Upd (fun i => w.heap.size ≤ i) w w' :=
  walk_DeviceTorn w v cp l ad1 cp1 ks1 ad2 cp2 ks2 h hn1 hn2
theorem walk_DeviceApart' (v : Option Addr) (cp : Nat) (l : List DAct) (x : Int) (s : List UInt8) (w : World) (h : ActsAt w w.heap.size v l) (h0 : 0 ≤ x) (h1 : x ≤ 65535) (hsl : s.length ≤ 9223372036854775807) :
    Calls Try.prog 4 #[.slice v l.length cp, .int .u16 x, .string ⟨s.toArray⟩] w fun e w' => e = .returned (.bool true) ∧ Upd (fun i => w.heap.size ≤ i) w w' := by
  obtain ⟨n, rfl⟩ := Int.eq_ofNat_of_zero_le h0
  exact walk_DeviceApart w v cp l n s h (by omega) hsl

end Go.Proofs.Ythdkhmmabfnnkaa
