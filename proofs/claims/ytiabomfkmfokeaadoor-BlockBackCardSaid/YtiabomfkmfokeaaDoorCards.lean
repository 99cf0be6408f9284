/-
  DERIVED. GIVEN WITH THE SEED: THE CARDS: each row of YtiabomfkmfokeaaDoorRows.lean that lists a variable, with what it lists TIED to the program's text (the seventh form; the later family's looks); each row that meets fmt, with fmt's text TOLD by the authors' own Lean function (tested against real Go, not proved from fmt's source: count such statements apart). THE CARD IS WHAT COUNTS. Prove the row's statement (the work); the ties are given (YtiabomfkmfokeaaDoorTie.lean); close each card by the builder's one call (the guide's Derived/Test/ToyasCard.lean, 'card_holds'). Laid BY PROGRAM, IN A SANDBOX (cutbox-door.mjs). By AI agents, Wed Nov 11 2026. No macro, syntax, notation, axiom, sorry.
-/
import Derived.Test.YtiabomfkmfokeaaDoorRows
import GoSem.ClaimSeven
namespace Go.Proofs.YtiabomfkmfokeaaDoor
namespace Rows

/-- THE TIED CARD OF 'rillbedlaw08.BlockPuts'. -/
def blockPutsCard : Claim7 := { stood := { row := blockPutsRow, standIns := [], harness := (true, "0001d3029f34806e5372cc63c9704f313d9fe0fa2b07a00130d925fca02e2735"), looks := false }, kinds := [], alts := [], laidByText := true, laidKinds := [.data, .pinned], laidTests := true, laidLooks := .later }
def BlockPutsCardSaid : Prop := Claim7.holds Tryd.pinned (.plain (OpenSpec.ofChange blockPutsSpec)) blockPutsCard

/-- THE TIED CARD OF 'rillbedlaw08.BlockApplies'. -/
def blockAppliesCard : Claim7 := { stood := { row := blockAppliesRow, standIns := [], harness := (true, "0001d3029f34806e5372cc63c9704f313d9fe0fa2b07a00130d925fca02e2735"), looks := false }, kinds := [], alts := [], laidByText := true, laidKinds := [.data, .pinned], laidTests := true, laidLooks := .later }
def BlockAppliesCardSaid : Prop := Claim7.holds Tryd.pinned (.plain (OpenSpec.ofChange blockAppliesSpec)) blockAppliesCard

/-- THE TIED CARD OF 'rillbedlaw08.BlockBack'. -/
def blockBackCard : Claim7 := { stood := { row := blockBackRow, standIns := [], harness := (true, "0001d3029f34806e5372cc63c9704f313d9fe0fa2b07a00130d925fca02e2735"), looks := false }, kinds := [], alts := [], laidByText := true, laidKinds := [.data, .pinned], laidTests := true, laidLooks := .later }
def BlockBackCardSaid : Prop := Claim7.holds Tryd.pinned (.plain (OpenSpec.ofChange blockBackSpec)) blockBackCard

/-- THE TIED CARD OF 'rillbedlaw08.BlockTells'. -/
def blockTellsCard : Claim7 := { stood := { row := blockTellsRow, standIns := [], harness := (true, "0001d3029f34806e5372cc63c9704f313d9fe0fa2b07a00130d925fca02e2735"), looks := false }, kinds := [], alts := [], laidByText := true, laidKinds := [.data, .pinned], laidTests := true, laidLooks := .later }
def BlockTellsCardSaid : Prop := Claim7.holds Tryd.pinned (.plain (OpenSpec.ofChange blockTellsSpec)) blockTellsCard

/-- THE TIED CARD OF 'rillbedlaw08.BlockSplices'. -/
def blockSplicesCard : Claim7 := { stood := { row := blockSplicesRow, standIns := [], harness := (true, "0001d3029f34806e5372cc63c9704f313d9fe0fa2b07a00130d925fca02e2735"), looks := false }, kinds := [], alts := [], laidByText := true, laidKinds := [.data, .pinned], laidTests := true, laidLooks := .later }
def BlockSplicesCardSaid : Prop := Claim7.holds Tryd.pinned (.plain (OpenSpec.ofChange blockSplicesSpec)) blockSplicesCard

/-- THE TIED CARD OF 'rillbedlaw08.BlockKnown'. -/
def blockKnownCard : Claim7 := { stood := { row := blockKnownRow, standIns := [], harness := (true, "0001d3029f34806e5372cc63c9704f313d9fe0fa2b07a00130d925fca02e2735"), looks := false }, kinds := [], alts := [], laidByText := true, laidKinds := [.data, .pinned], laidTests := true, laidLooks := .later }
def BlockKnownCardSaid : Prop := Claim7.holds Tryd.pinned (.plain (OpenSpec.ofChange blockKnownSpec)) blockKnownCard

/-- THE SECOND FORM's CARD OF 'rillbedlaw08.BlockPuts'. -/
def blockPutsUptoCard : Claim7 := { stood := { row := blockPutsUptoRow, standIns := [], harness := (true, "0001d3029f34806e5372cc63c9704f313d9fe0fa2b07a00130d925fca02e2735"), looks := false }, kinds := [], alts := [], laidByText := true, laidKinds := [.data, .pinned], laidTests := true, laidLooks := .later }
def BlockPutsUptoCardSaid : Prop := Claim7.holds Tryd.pinned (.plain (OpenSpec.upto blockPutsSpec)) blockPutsUptoCard

/-- THE SECOND FORM's CARD OF 'rillbedlaw08.BlockApplies'. -/
def blockAppliesUptoCard : Claim7 := { stood := { row := blockAppliesUptoRow, standIns := [], harness := (true, "0001d3029f34806e5372cc63c9704f313d9fe0fa2b07a00130d925fca02e2735"), looks := false }, kinds := [], alts := [], laidByText := true, laidKinds := [.data, .pinned], laidTests := true, laidLooks := .later }
def BlockAppliesUptoCardSaid : Prop := Claim7.holds Tryd.pinned (.plain (OpenSpec.upto blockAppliesSpec)) blockAppliesUptoCard

/-- THE SECOND FORM's CARD OF 'rillbedlaw08.BlockBack'. -/
def blockBackUptoCard : Claim7 := { stood := { row := blockBackUptoRow, standIns := [], harness := (true, "0001d3029f34806e5372cc63c9704f313d9fe0fa2b07a00130d925fca02e2735"), looks := false }, kinds := [], alts := [], laidByText := true, laidKinds := [.data, .pinned], laidTests := true, laidLooks := .later }
def BlockBackUptoCardSaid : Prop := Claim7.holds Tryd.pinned (.plain (OpenSpec.upto blockBackSpec)) blockBackUptoCard

/-- THE SECOND FORM's CARD OF 'rillbedlaw08.BlockTells'. -/
def blockTellsUptoCard : Claim7 := { stood := { row := blockTellsUptoRow, standIns := [], harness := (true, "0001d3029f34806e5372cc63c9704f313d9fe0fa2b07a00130d925fca02e2735"), looks := false }, kinds := [], alts := [], laidByText := true, laidKinds := [.data, .pinned], laidTests := true, laidLooks := .later }
def BlockTellsUptoCardSaid : Prop := Claim7.holds Tryd.pinned (.plain (OpenSpec.upto blockTellsSpec)) blockTellsUptoCard

/-- THE SECOND FORM's CARD OF 'rillbedlaw08.BlockSplices'. -/
def blockSplicesUptoCard : Claim7 := { stood := { row := blockSplicesUptoRow, standIns := [], harness := (true, "0001d3029f34806e5372cc63c9704f313d9fe0fa2b07a00130d925fca02e2735"), looks := false }, kinds := [], alts := [], laidByText := true, laidKinds := [.data, .pinned], laidTests := true, laidLooks := .later }
def BlockSplicesUptoCardSaid : Prop := Claim7.holds Tryd.pinned (.plain (OpenSpec.upto blockSplicesSpec)) blockSplicesUptoCard

/-- THE SECOND FORM's CARD OF 'rillbedlaw08.BlockKnown'. -/
def blockKnownUptoCard : Claim7 := { stood := { row := blockKnownUptoRow, standIns := [], harness := (true, "0001d3029f34806e5372cc63c9704f313d9fe0fa2b07a00130d925fca02e2735"), looks := false }, kinds := [], alts := [], laidByText := true, laidKinds := [.data, .pinned], laidTests := true, laidLooks := .later }
def BlockKnownUptoCardSaid : Prop := Claim7.holds Tryd.pinned (.plain (OpenSpec.upto blockKnownSpec)) blockKnownUptoCard
end Rows
end Go.Proofs.YtiabomfkmfokeaaDoor
