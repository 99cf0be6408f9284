/- Sealed and stamped texts: what the code does. -/
import Derived.Test.YtocioaondjgceaaGreatDoorCodecP
import Derived.Test.YtocioaondjgceaaGreatDoorSeal1
import Derived.Test.YtocioaondjgceaaGreatDoorShelf
set_option linter.unusedVariables false
set_option linter.unusedSimpArgs false
namespace Go.Proofs.YtocioaondjgceaaGreatDoor
open Go.RowKit

/-- A string, and the old memory as it was. -/
def StrR (res : List UInt8) (w : World) (e : Ending) (w' : World) : Prop := e = .returned (.string ⟨res.toArray⟩) ∧ Upd (fun _ => False) w w'
/-- A string and a number. -/
def StrE (res : List UInt8 × Int) (w : World) (e : Ending) (w' : World) : Prop := e = .returned (.tuple #[.string ⟨res.1.toArray⟩, .int .i64 res.2]) ∧ Upd (fun _ => False) w w'
/-- Two strings and a number. -/
def Str2E (res : List UInt8 × List UInt8 × Int) (w : World) (e : Ending) (w' : World) : Prop := e = .returned (.tuple #[.string ⟨res.1.toArray⟩, .string ⟨res.2.1.toArray⟩, .int .i64 res.2.2]) ∧ Upd (fun _ => False) w w'

namespace Sl
def close (s : List UInt8) : List UInt8 × Int := if 65535 < s.length then ([], 3) else (be 2 s.length ++ s ++ be 4 (Crc.sum (be 2 s.length ++ s)), 0)
def openS (s : List UInt8) : List UInt8 × List UInt8 × Int :=
  if s.length < 6 then ([], [], 10) else if s.length < 6 + ofBe (s.take 2) then ([], [], 10)
  else if Crc.sum (s.take (2 + ofBe (s.take 2))) ≠ ofBe ((s.drop (2 + ofBe (s.take 2))).take 4) then ([], [], 9)
  else ((s.drop 2).take (ofBe (s.take 2)), s.drop (6 + ofBe (s.take 2)), 0)
def pad (s : List UInt8) (n : Int) : List UInt8 × Int := if n < 1 ∨ 65536 < n then ([], 2) else (s ++ List.replicate ((n - s.length % n) % n).toNat 0, 0)
def stamp (g i : Nat) (s : List UInt8) (n : Int) : List UInt8 × Int :=
  if n < 26 ∨ 65536 < n then ([], 2) else if 65535 < s.length ∨ n - 26 < s.length then ([], 3)
  else (be 8 g ++ be 4 i ++ be 2 s.length ++ s ++ List.replicate (n - 26 - s.length).toNat 0 ++ (be 4 i ++ be 8 g), 0)
end Sl

theorem rep0 (c : Nat) (w : World) (hc : c ≤ 1000000000) : Calls Tryz.prog 28 #[.string ⟨#[0]⟩, .int .i64 c] w (StrR (List.replicate c 0) w) := by
  refine (Tryz.strings_Repeat ⟨#[0]⟩ c w (by omega) (by show 1 * c ≤ _; omega)).mono ?_
  rintro e w' ⟨rfl, hb⟩
  refine ⟨?_, (Upd.of_below hb).mono (fun i hi h => by omega)⟩
  have : Lib.repeatL (⟨#[0]⟩ : ByteArray).data.toList c = List.replicate c 0 := by
    show Lib.repeatL [0] c = _
    clear hc hb
    induction c with
    | zero => rfl
    | succ c ih => rw [List.replicate_succ, ← ih]; rfl
  rw [this]
theorem noughts_1 (ci : Int) (c : Nat) (w : World) (hci : ci = c) (hc : c ≤ 1000000000) : Calls Tryz.prog 100 #[.int .i64 ci] w (StrR (List.replicate c 0) w) := by
  subst hci
  have hR := fun w => rep0 c w hc
  have HR := Lib.hid hR
  clear hR
  go_enter Tryz.func100, Tryz.ntmps100
  go_wp2_with (fail)
  refine (HR.out _).mono ?_
  rintro e w1 ⟨rfl, u1⟩
  go_wp2
  go_ret
  exact ⟨rfl, u1⟩
theorem noughts_0 (w : World) : Calls Tryz.prog 80 #[] w fun e w' => e = .returned (.func (.func 100) #[] #[]) ∧ w = w' := by
  have hmf : ∀ (fn : Fn) (first cap : Array Value) (w : World), (Instr.makeFunc fn first cap).run Tryz.prog w = .ok (.func fn first cap) w := fun _ _ _ _ => rfl
  go_enter Tryz.func80, Tryz.ntmps80
  go_wp2
  go_ret
  exact ⟨rfl, rfl⟩

end Go.Proofs.YtocioaondjgceaaGreatDoor
