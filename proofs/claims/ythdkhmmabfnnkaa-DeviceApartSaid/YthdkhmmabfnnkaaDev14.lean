/- Chapter 10: DeviceKnown's plain facts. -/
import Derived.Test.YthdkhmmabfnnkaaDev13
set_option linter.unusedVariables false
set_option linter.unusedSimpArgs false
namespace Go.Proofs.Ythdkhmmabfnnkaa
open Go.RowKit Go.Maps

def knownX : List UInt8 := List.replicate 128 120
def known1 : List Dv.Cel := (writeE someD 0 knownX).1
def known2 : List Dv.Cel := (writeE known1 511 []).1
def known3 : List Dv.Cel := (writeE known2 3 [99]).1
def known4 : List Dv.Cel := Dv.settleF (fun _ => 128) 0 known3
theorem kw_512 : writeE someD 512 [120] = (someD, 2) := by decide +kernel
theorem kw_m1 : writeE someD (-1) [120] = (someD, 2) := by decide +kernel
theorem kw_129 : writeE someD 0 (List.replicate 129 120) = (someD, 3) := by decide +kernel
theorem kw_128 : (writeE someD 0 knownX).2 = 0 := by decide +kernel
theorem kw_511 : (writeE known1 511 []).2 = 0 := by decide +kernel
theorem kw_wait : waitsN known2 = 3 := by decide +kernel
theorem kr_512 : readE known4 512 = ([], 2) := by decide +kernel
theorem ks_3 : sureS known4 3 = Dv.full [99] := by decide +kernel
theorem kw_wait4 : waitsN known4 = 0 := by decide +kernel
theorem ks_512 : sureS known4 512 = [] := by decide +kernel
theorem kl_4 : known4.length = 512 := by decide +kernel

theorem rep_x (c : Nat) (w : World) (hc : c ≤ 1000000000) : Calls Try.prog 25 #[.string ⟨#[120]⟩, .int .i64 c] w (StrR (List.replicate c 120) w) := by
  refine (Try.strings_Repeat ⟨#[120]⟩ c w (by omega) (by show 1 * c ≤ _; omega)).mono ?_
  rintro e w' ⟨rfl, hb⟩
  refine ⟨?_, (Upd.of_below hb).mono (fun i hi h => by omega)⟩
  have : Lib.repeatL (⟨#[120]⟩ : ByteArray).data.toList c = List.replicate c 120 := by
    show Lib.repeatL [120] c = _
    clear hc hb
    induction c with
    | zero => rfl
    | succ c ih => rw [List.replicate_succ, ← ih]; rfl
  rw [this]
theorem left_two (w : World) (g : Nat) (x y : Int) (hg : w.cell? ⟨g, 0, none⟩ = some (.int .i64 x)) (hy : w.cell? ⟨g, 1, none⟩ = some (.int .i64 y)) : Calls Try.prog 24 #[.slice (some ⟨g, 0, none⟩) 2 2] w (StrR (leftL [x, y]) w) :=
  law_left (ks := [x, y]) (by simp) (fun j hj => by
    rcases Nat.lt_or_ge j 1 with h | h
    · obtain rfl : j = 0 := by omega
      exact ⟨_, rfl, hg⟩
    · obtain rfl : j = 1 := by simp at hj; omega
      exact ⟨_, rfl, hy⟩) (fun g' e => by cases e; exact World.block_lt_of_cell? _ _ hg)

end Go.Proofs.Ythdkhmmabfnnkaa
