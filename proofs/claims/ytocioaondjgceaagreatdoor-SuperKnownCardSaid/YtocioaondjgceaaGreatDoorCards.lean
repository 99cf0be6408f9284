/-
  DERIVED. GIVEN WITH THE SEED: THE CARDS: each row of YtocioaondjgceaaGreatDoorRows.lean that lists a variable, with what it lists TIED to the program's text (the seventh form; the later family's looks); each row that meets fmt, with fmt's text TOLD by the authors' own Lean function (tested against real Go, not proved from fmt's source: count such statements apart). THE CARD IS WHAT COUNTS. Prove the row's statement (the work); the ties are given (YtocioaondjgceaaGreatDoorTie.lean); close each card by the builder's one call (the guide's Derived/Test/ToyasCard.lean, 'card_holds'). Laid BY PROGRAM, IN A SANDBOX (cutbox-door.mjs). By AI agents, Wed Nov 11 2026. No macro, syntax, notation, axiom, sorry.
-/
import Derived.Test.YtocioaondjgceaaGreatDoorRows
import GoSem.ClaimSeven
namespace Go.Proofs.YtocioaondjgceaaGreatDoor
namespace Rows

/-- THE TIED CARD OF 'rillbedlaw14.SuperKnown'. -/
def superKnownCard : Claim7 := { stood := { row := superKnownRow, standIns := [], harness := (true, "96420575eb8ed11c04b88bfb33d04155e5268697347c51a2c08b638a45bab514"), looks := false }, kinds := [], alts := [], laidByText := true, laidKinds := [.data, .pinned], laidTests := true, laidLooks := .later }
def SuperKnownCardSaid : Prop := Claim7.holds Tryz.pinned (.plain (OpenSpec.ofChange superKnownSpec)) superKnownCard

/-- THE TIED CARD OF 'rillbedlaw14.SuperWhole'. -/
def superWholeCard : Claim7 := { stood := { row := superWholeRow, standIns := [], harness := (true, "96420575eb8ed11c04b88bfb33d04155e5268697347c51a2c08b638a45bab514"), looks := false }, kinds := [], alts := [], laidByText := true, laidKinds := [.data, .pinned], laidTests := true, laidLooks := .later }
def SuperWholeCardSaid : Prop := Claim7.holds Tryz.pinned (.plain (OpenSpec.ofChange superWholeSpec)) superWholeCard

/-- THE TIED CARD OF 'rillbedlaw14.SuperChooses'. -/
def superChoosesCard : Claim7 := { stood := { row := superChoosesRow, standIns := [], harness := (true, "96420575eb8ed11c04b88bfb33d04155e5268697347c51a2c08b638a45bab514"), looks := false }, kinds := [], alts := [], laidByText := true, laidKinds := [.data, .pinned], laidTests := true, laidLooks := .later }
def SuperChoosesCardSaid : Prop := Claim7.holds Tryz.pinned (.plain (OpenSpec.ofChange superChoosesSpec)) superChoosesCard

/-- THE SECOND FORM's CARD OF 'rillbedlaw14.SuperKnown'. -/
def superKnownUptoCard : Claim7 := { stood := { row := superKnownUptoRow, standIns := [], harness := (true, "96420575eb8ed11c04b88bfb33d04155e5268697347c51a2c08b638a45bab514"), looks := false }, kinds := [], alts := [], laidByText := true, laidKinds := [.data, .pinned], laidTests := true, laidLooks := .later }
def SuperKnownUptoCardSaid : Prop := Claim7.holds Tryz.pinned (.plain (OpenSpec.upto superKnownSpec)) superKnownUptoCard

/-- THE SECOND FORM's CARD OF 'rillbedlaw14.SuperWhole'. -/
def superWholeUptoCard : Claim7 := { stood := { row := superWholeUptoRow, standIns := [], harness := (true, "96420575eb8ed11c04b88bfb33d04155e5268697347c51a2c08b638a45bab514"), looks := false }, kinds := [], alts := [], laidByText := true, laidKinds := [.data, .pinned], laidTests := true, laidLooks := .later }
def SuperWholeUptoCardSaid : Prop := Claim7.holds Tryz.pinned (.plain (OpenSpec.upto superWholeSpec)) superWholeUptoCard

/-- THE SECOND FORM's CARD OF 'rillbedlaw14.SuperChooses'. -/
def superChoosesUptoCard : Claim7 := { stood := { row := superChoosesUptoRow, standIns := [], harness := (true, "96420575eb8ed11c04b88bfb33d04155e5268697347c51a2c08b638a45bab514"), looks := false }, kinds := [], alts := [], laidByText := true, laidKinds := [.data, .pinned], laidTests := true, laidLooks := .later }
def SuperChoosesUptoCardSaid : Prop := Claim7.holds Tryz.pinned (.plain (OpenSpec.upto superChoosesSpec)) superChoosesUptoCard
end Rows
end Go.Proofs.YtocioaondjgceaaGreatDoor
