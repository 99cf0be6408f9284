/-
  DERIVED. GIVEN WITH THE SEED: THE CARDS: each row of YtfkmoooeaijndaaDoorRows.lean that lists a variable, with what it lists TIED to the program's text (the seventh form; the later family's looks); each row that meets fmt, with fmt's text TOLD by the authors' own Lean function (tested against real Go, not proved from fmt's source: count such statements apart). THE CARD IS WHAT COUNTS. Prove the row's statement (the work); the ties are given (YtfkmoooeaijndaaDoorTie.lean); close each card by the builder's one call (the guide's Derived/Test/ToyasCard.lean, 'card_holds'). Laid BY PROGRAM, IN A SANDBOX (cutbox-door.mjs). By AI agents, Wed Nov 11 2026. No macro, syntax, notation, axiom, sorry.
-/
import Derived.Test.YtfkmoooeaijndaaDoorRows
import GoSem.ClaimSeven
namespace Go.Proofs.YtfkmoooeaijndaaDoor
namespace Rows

/-- THE TIED CARD OF 'rillbedlaw04.SealTells'. -/
def sealTellsCard : Claim7 := { stood := { row := sealTellsRow, standIns := [], harness := (true, "ed0d8a7131c7f37074996449fb34d29bcdaba39829c05658beb1977c4b944d14"), looks := false }, kinds := [], alts := [], laidByText := true, laidKinds := [.data, .data, .pinned], laidTests := true, laidLooks := .later }
def SealTellsCardSaid : Prop := Claim7.holds Tryd.pinned (.plain (OpenSpec.ofChange sealTellsSpec)) sealTellsCard

/-- THE TIED CARD OF 'rillbedlaw04.SealStamps'. -/
def sealStampsCard : Claim7 := { stood := { row := sealStampsRow, standIns := [], harness := (true, "ed0d8a7131c7f37074996449fb34d29bcdaba39829c05658beb1977c4b944d14"), looks := false }, kinds := [], alts := [], laidByText := true, laidKinds := [.data, .data, .pinned], laidTests := true, laidLooks := .later }
def SealStampsCardSaid : Prop := Claim7.holds Tryd.pinned (.plain (OpenSpec.ofChange sealStampsSpec)) sealStampsCard

/-- THE TIED CARD OF 'rillbedlaw04.SealLong'. -/
def sealLongCard : Claim7 := { stood := { row := sealLongRow, standIns := [], harness := (true, "ed0d8a7131c7f37074996449fb34d29bcdaba39829c05658beb1977c4b944d14"), looks := false }, kinds := [], alts := [], laidByText := true, laidKinds := [.data, .data, .pinned], laidTests := true, laidLooks := .later }
def SealLongCardSaid : Prop := Claim7.holds Tryd.pinned (.plain (OpenSpec.ofChange sealLongSpec)) sealLongCard

/-- THE TIED CARD OF 'rillbedlaw04.SealBack'. -/
def sealBackCard : Claim7 := { stood := { row := sealBackRow, standIns := [], harness := (true, "ed0d8a7131c7f37074996449fb34d29bcdaba39829c05658beb1977c4b944d14"), looks := false }, kinds := [], alts := [], laidByText := true, laidKinds := [.data, .data, .pinned], laidTests := true, laidLooks := .later }
def SealBackCardSaid : Prop := Claim7.holds Tryd.pinned (.plain (OpenSpec.ofChange sealBackSpec)) sealBackCard

/-- THE TIED CARD OF 'rillbedlaw04.SealOnce'. -/
def sealOnceCard : Claim7 := { stood := { row := sealOnceRow, standIns := [], harness := (true, "ed0d8a7131c7f37074996449fb34d29bcdaba39829c05658beb1977c4b944d14"), looks := false }, kinds := [], alts := [], laidByText := true, laidKinds := [.data, .data, .pinned], laidTests := true, laidLooks := .later }
def SealOnceCardSaid : Prop := Claim7.holds Tryd.pinned (.plain (OpenSpec.ofChange sealOnceSpec)) sealOnceCard

/-- THE TIED CARD OF 'rillbedlaw04.SealTorn'. -/
def sealTornCard : Claim7 := { stood := { row := sealTornRow, standIns := [], harness := (true, "ed0d8a7131c7f37074996449fb34d29bcdaba39829c05658beb1977c4b944d14"), looks := false }, kinds := [], alts := [], laidByText := true, laidKinds := [.data, .data, .pinned], laidTests := true, laidLooks := .later }
def SealTornCardSaid : Prop := Claim7.holds Tryd.pinned (.plain (OpenSpec.ofChange sealTornSpec)) sealTornCard

/-- THE TIED CARD OF 'rillbedlaw04.SealKnown'. -/
def sealKnownCard : Claim7 := { stood := { row := sealKnownRow, standIns := [], harness := (true, "ed0d8a7131c7f37074996449fb34d29bcdaba39829c05658beb1977c4b944d14"), looks := false }, kinds := [], alts := [], laidByText := true, laidKinds := [.data, .data, .pinned], laidTests := true, laidLooks := .later }
def SealKnownCardSaid : Prop := Claim7.holds Tryd.pinned (.plain (OpenSpec.ofChange sealKnownSpec)) sealKnownCard

/-- THE SECOND FORM's CARD OF 'rillbedlaw04.SealTells'. -/
def sealTellsUptoCard : Claim7 := { stood := { row := sealTellsUptoRow, standIns := [], harness := (true, "ed0d8a7131c7f37074996449fb34d29bcdaba39829c05658beb1977c4b944d14"), looks := false }, kinds := [], alts := [], laidByText := true, laidKinds := [.data, .data, .pinned], laidTests := true, laidLooks := .later }
def SealTellsUptoCardSaid : Prop := Claim7.holds Tryd.pinned (.plain (OpenSpec.upto sealTellsSpec)) sealTellsUptoCard

/-- THE SECOND FORM's CARD OF 'rillbedlaw04.SealStamps'. -/
def sealStampsUptoCard : Claim7 := { stood := { row := sealStampsUptoRow, standIns := [], harness := (true, "ed0d8a7131c7f37074996449fb34d29bcdaba39829c05658beb1977c4b944d14"), looks := false }, kinds := [], alts := [], laidByText := true, laidKinds := [.data, .data, .pinned], laidTests := true, laidLooks := .later }
def SealStampsUptoCardSaid : Prop := Claim7.holds Tryd.pinned (.plain (OpenSpec.upto sealStampsSpec)) sealStampsUptoCard

/-- THE SECOND FORM's CARD OF 'rillbedlaw04.SealLong'. -/
def sealLongUptoCard : Claim7 := { stood := { row := sealLongUptoRow, standIns := [], harness := (true, "ed0d8a7131c7f37074996449fb34d29bcdaba39829c05658beb1977c4b944d14"), looks := false }, kinds := [], alts := [], laidByText := true, laidKinds := [.data, .data, .pinned], laidTests := true, laidLooks := .later }
def SealLongUptoCardSaid : Prop := Claim7.holds Tryd.pinned (.plain (OpenSpec.upto sealLongSpec)) sealLongUptoCard

/-- THE SECOND FORM's CARD OF 'rillbedlaw04.SealBack'. -/
def sealBackUptoCard : Claim7 := { stood := { row := sealBackUptoRow, standIns := [], harness := (true, "ed0d8a7131c7f37074996449fb34d29bcdaba39829c05658beb1977c4b944d14"), looks := false }, kinds := [], alts := [], laidByText := true, laidKinds := [.data, .data, .pinned], laidTests := true, laidLooks := .later }
def SealBackUptoCardSaid : Prop := Claim7.holds Tryd.pinned (.plain (OpenSpec.upto sealBackSpec)) sealBackUptoCard

/-- THE SECOND FORM's CARD OF 'rillbedlaw04.SealOnce'. -/
def sealOnceUptoCard : Claim7 := { stood := { row := sealOnceUptoRow, standIns := [], harness := (true, "ed0d8a7131c7f37074996449fb34d29bcdaba39829c05658beb1977c4b944d14"), looks := false }, kinds := [], alts := [], laidByText := true, laidKinds := [.data, .data, .pinned], laidTests := true, laidLooks := .later }
def SealOnceUptoCardSaid : Prop := Claim7.holds Tryd.pinned (.plain (OpenSpec.upto sealOnceSpec)) sealOnceUptoCard

/-- THE SECOND FORM's CARD OF 'rillbedlaw04.SealTorn'. -/
def sealTornUptoCard : Claim7 := { stood := { row := sealTornUptoRow, standIns := [], harness := (true, "ed0d8a7131c7f37074996449fb34d29bcdaba39829c05658beb1977c4b944d14"), looks := false }, kinds := [], alts := [], laidByText := true, laidKinds := [.data, .data, .pinned], laidTests := true, laidLooks := .later }
def SealTornUptoCardSaid : Prop := Claim7.holds Tryd.pinned (.plain (OpenSpec.upto sealTornSpec)) sealTornUptoCard

/-- THE SECOND FORM's CARD OF 'rillbedlaw04.SealKnown'. -/
def sealKnownUptoCard : Claim7 := { stood := { row := sealKnownUptoRow, standIns := [], harness := (true, "ed0d8a7131c7f37074996449fb34d29bcdaba39829c05658beb1977c4b944d14"), looks := false }, kinds := [], alts := [], laidByText := true, laidKinds := [.data, .data, .pinned], laidTests := true, laidLooks := .later }
def SealKnownUptoCardSaid : Prop := Claim7.holds Tryd.pinned (.plain (OpenSpec.upto sealKnownSpec)) sealKnownUptoCard
end Rows
end Go.Proofs.YtfkmoooeaijndaaDoor
