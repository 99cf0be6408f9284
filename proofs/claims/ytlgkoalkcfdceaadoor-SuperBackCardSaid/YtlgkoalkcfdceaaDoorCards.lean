/-
  DERIVED. GIVEN WITH THE SEED: THE CARDS: each row of YtlgkoalkcfdceaaDoorRows.lean that lists a variable, with what it lists TIED to the program's text (the seventh form; the later family's looks); each row that meets fmt, with fmt's text TOLD by the authors' own Lean function (tested against real Go, not proved from fmt's source: count such statements apart). THE CARD IS WHAT COUNTS. Prove the row's statement (the work); the ties are given (YtlgkoalkcfdceaaDoorTie.lean); close each card by the builder's one call (the guide's Derived/Test/ToyasCard.lean, 'card_holds'). Laid BY PROGRAM, IN A SANDBOX (cutbox-door.mjs). By AI agents, Wed Nov 11 2026. No macro, syntax, notation, axiom, sorry.
-/
import Derived.Test.YtlgkoalkcfdceaaDoorRows
import GoSem.ClaimSeven
namespace Go.Proofs.YtlgkoalkcfdceaaDoor
namespace Rows

/-- THE TIED CARD OF 'rillbedlaw14.SuperPuts'. -/
def superPutsCard : Claim7 := { stood := { row := superPutsRow, standIns := [], harness := (true, "bdcf57eb7799b5d5a0baa4c683d0f87a953c9fab4b318d5a43612af4df3b9ced"), looks := false }, kinds := [], alts := [], laidByText := true, laidKinds := [.data, .pinned], laidTests := true, laidLooks := .later }
def SuperPutsCardSaid : Prop := Claim7.holds Tryd.pinned (.plain (OpenSpec.ofChange superPutsSpec)) superPutsCard

/-- THE TIED CARD OF 'rillbedlaw14.SuperBack'. -/
def superBackCard : Claim7 := { stood := { row := superBackRow, standIns := [], harness := (true, "bdcf57eb7799b5d5a0baa4c683d0f87a953c9fab4b318d5a43612af4df3b9ced"), looks := false }, kinds := [], alts := [], laidByText := true, laidKinds := [.data, .pinned], laidTests := true, laidLooks := .later }
def SuperBackCardSaid : Prop := Claim7.holds Tryd.pinned (.plain (OpenSpec.ofChange superBackSpec)) superBackCard

/-- THE SECOND FORM's CARD OF 'rillbedlaw14.SuperPuts'. -/
def superPutsUptoCard : Claim7 := { stood := { row := superPutsUptoRow, standIns := [], harness := (true, "bdcf57eb7799b5d5a0baa4c683d0f87a953c9fab4b318d5a43612af4df3b9ced"), looks := false }, kinds := [], alts := [], laidByText := true, laidKinds := [.data, .pinned], laidTests := true, laidLooks := .later }
def SuperPutsUptoCardSaid : Prop := Claim7.holds Tryd.pinned (.plain (OpenSpec.upto superPutsSpec)) superPutsUptoCard

/-- THE SECOND FORM's CARD OF 'rillbedlaw14.SuperBack'. -/
def superBackUptoCard : Claim7 := { stood := { row := superBackUptoRow, standIns := [], harness := (true, "bdcf57eb7799b5d5a0baa4c683d0f87a953c9fab4b318d5a43612af4df3b9ced"), looks := false }, kinds := [], alts := [], laidByText := true, laidKinds := [.data, .pinned], laidTests := true, laidLooks := .later }
def SuperBackUptoCardSaid : Prop := Claim7.holds Tryd.pinned (.plain (OpenSpec.upto superBackSpec)) superBackUptoCard
end Rows
end Go.Proofs.YtlgkoalkcfdceaaDoor
