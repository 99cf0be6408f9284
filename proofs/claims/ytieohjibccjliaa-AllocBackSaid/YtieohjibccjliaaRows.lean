/-
  No cell of these rows narrows 'for every input' (looked for: loops, veiled, ifaces, maps, wideKeys, modest, calm, conditions, laid).
  DERIVED. THE GIVEN ROWS OF THIS SEAT. 5 by the template 'for every input the law returns true; each argument reads behind the call as it read before'; 0 by the template 'total and deterministic' (their statements: YtieohjibccjliaaTotals.lean).
  GIVEN WITH THE SEED: the statements are not yours to turn. If you find one false, say at which input.
  Laid BY PROGRAM, IN A SANDBOX (cutbox-rows.mjs): the forced cells as the released guide's own fill.sh prints them over the translation 367d22bd3009643e… (all of the seat's roots in one cut). By AI agents, Wed Nov 11 2026. No macro, syntax, notation, axiom, sorry.
-/
import Derived.Test.YtieohjibccjliaaChecked
import GoSem.Claim
import GoSem.ClaimJoined
import GoSem.ClaimMapViews
import Derived.JoinedTies
import Derived.KernelRfl
namespace Go.Proofs.Ytieohjibccjliaa
/- THE CELL 'sum', in the pinned program and in every row, IS THE sha256 OF THE DUMP (.gsa) THAT YtieohjibccjliaaProg.lean LOADS. Nothing in Lean hashes anything: it is a label: what it is worth is what the hold of that sum in a sandbox is worth. -/
noncomputable def Try.pinned : Pinned := { name := "ytieohjibccjliaa", sum := "367d22bd3009643e8b66829e3e397e3f4f8f80fc27f6f6639b8e730c4433e0cc", checked := Try.checked }
namespace Rows
def none {H : Type} : Left H := { results := [], args := [] }

/-- 'rillbedlaw13.AllocParts': WHATEVER THE INPUT: true; the input reads as it did. -/
def allocPartsSpec : ChangeSpec := { name := "allocParts", fn := fun _ => fun
  | [d1, d2, d3] => { results := [.lit (.bool true)], args := [d1, d2, d3] }
  | _ => none }
def allocPartsRow : OpenClaim := { program := "ytieohjibccjliaa", sum := "367d22bd3009643e8b66829e3e397e3f4f8f80fc27f6f6639b8e730c4433e0cc", func := "rillbed/rillbedlaw13.AllocParts", spec := "allocParts", inPlace := ["slices.overlaps[rillbed/api.Extent]"], unfollowed := true, recurses := true, apart := false }
def AllocPartsSaid : Prop := allocPartsRow.holds Try.pinned (OpenSpec.ofChange allocPartsSpec)

/-- ITS FALSE NEIGHBOUR: 'it returns false'. Refute it at one input. -/
def allocPartsWrong : ChangeSpec := { name := "allocParts", fn := fun _ => fun
  | [d1, d2, d3] => { results := [.lit (.bool false)], args := [d1, d2, d3] }
  | _ => none }
def AllocPartsWrongFalsely : Prop := allocPartsRow.holds Try.pinned (OpenSpec.ofChange allocPartsWrong)

/-- 'rillbedlaw13.AllocLoads': WHATEVER THE INPUT: true; the input reads as it did. -/
def allocLoadsSpec : ChangeSpec := { name := "allocLoads", fn := fun _ => fun
  | [d1, d2, d3] => { results := [.lit (.bool true)], args := [d1, d2, d3] }
  | _ => none }
def allocLoadsRow : OpenClaim := { program := "ytieohjibccjliaa", sum := "367d22bd3009643e8b66829e3e397e3f4f8f80fc27f6f6639b8e730c4433e0cc", func := "rillbed/rillbedlaw13.AllocLoads", spec := "allocLoads", inPlace := ["slices.overlaps[rillbed/api.Extent]"], unfollowed := true, recurses := true, apart := false }
def AllocLoadsSaid : Prop := allocLoadsRow.holds Try.pinned (OpenSpec.ofChange allocLoadsSpec)

/-- ITS FALSE NEIGHBOUR: 'it returns false'. Refute it at one input. -/
def allocLoadsWrong : ChangeSpec := { name := "allocLoads", fn := fun _ => fun
  | [d1, d2, d3] => { results := [.lit (.bool false)], args := [d1, d2, d3] }
  | _ => none }
def AllocLoadsWrongFalsely : Prop := allocLoadsRow.holds Try.pinned (OpenSpec.ofChange allocLoadsWrong)

/-- 'rillbedlaw13.AllocPlays': WHATEVER THE INPUT: true; the input reads as it did. -/
def allocPlaysSpec : ChangeSpec := { name := "allocPlays", fn := fun _ => fun
  | [d1, d2, d3] => { results := [.lit (.bool true)], args := [d1, d2, d3] }
  | _ => none }
def allocPlaysRow : OpenClaim := { program := "ytieohjibccjliaa", sum := "367d22bd3009643e8b66829e3e397e3f4f8f80fc27f6f6639b8e730c4433e0cc", func := "rillbed/rillbedlaw13.AllocPlays", spec := "allocPlays", inPlace := ["slices.overlaps[rillbed/api.Extent]"], unfollowed := true, recurses := true, apart := false }
def AllocPlaysSaid : Prop := allocPlaysRow.holds Try.pinned (OpenSpec.ofChange allocPlaysSpec)

/-- ITS FALSE NEIGHBOUR: 'it returns false'. Refute it at one input. -/
def allocPlaysWrong : ChangeSpec := { name := "allocPlays", fn := fun _ => fun
  | [d1, d2, d3] => { results := [.lit (.bool false)], args := [d1, d2, d3] }
  | _ => none }
def AllocPlaysWrongFalsely : Prop := allocPlaysRow.holds Try.pinned (OpenSpec.ofChange allocPlaysWrong)

/-- 'rillbedlaw13.AllocKnown': WHATEVER THE INPUT: true; the input reads as it did. -/
def allocKnownSpec : ChangeSpec := { name := "allocKnown", fn := fun _ => fun
  | [] => { results := [.lit (.bool true)], args := [] }
  | _ => none }
def allocKnownRow : OpenClaim := { program := "ytieohjibccjliaa", sum := "367d22bd3009643e8b66829e3e397e3f4f8f80fc27f6f6639b8e730c4433e0cc", func := "rillbed/rillbedlaw13.AllocKnown", spec := "allocKnown", inPlace := ["slices.overlaps[rillbed/api.Extent]"], unfollowed := true, recurses := true, apart := false }
def AllocKnownSaid : Prop := allocKnownRow.holds Try.pinned (OpenSpec.ofChange allocKnownSpec)

/-- ITS FALSE NEIGHBOUR: 'it returns false'. Refute it at one input. -/
def allocKnownWrong : ChangeSpec := { name := "allocKnown", fn := fun _ => fun
  | [] => { results := [.lit (.bool false)], args := [] }
  | _ => none }
def AllocKnownWrongFalsely : Prop := allocKnownRow.holds Try.pinned (OpenSpec.ofChange allocKnownWrong)

/-- 'rillbedlaw13.AllocBack': WHATEVER THE INPUT: true; the input reads as it did. -/
def allocBackSpec : ChangeSpec := { name := "allocBack", fn := fun _ => fun
  | [d1, d2, d3] => { results := [.lit (.bool true)], args := [d1, d2, d3] }
  | _ => none }
def allocBackRow : OpenClaim := { program := "ytieohjibccjliaa", sum := "367d22bd3009643e8b66829e3e397e3f4f8f80fc27f6f6639b8e730c4433e0cc", func := "rillbed/rillbedlaw13.AllocBack", spec := "allocBack", inPlace := ["slices.overlaps[rillbed/api.Extent]"], unfollowed := true, recurses := true, apart := false }
def AllocBackSaid : Prop := allocBackRow.holds Try.pinned (OpenSpec.ofChange allocBackSpec)

/-- ITS FALSE NEIGHBOUR: 'it returns false'. Refute it at one input. -/
def allocBackWrong : ChangeSpec := { name := "allocBack", fn := fun _ => fun
  | [d1, d2, d3] => { results := [.lit (.bool false)], args := [d1, d2, d3] }
  | _ => none }
def AllocBackWrongFalsely : Prop := allocBackRow.holds Try.pinned (OpenSpec.ofChange allocBackWrong)

/- THE SECOND FORM. 'bulk': how many values and letters a reading holds, each counted each time it is reached (what is shared counts as often as it is met; a slice's spare places count too). A statement '..UptoSaid' is the law's where the arguments, and the package variables that the reading takes, are together of bulk at most 1048576: NARROWER than '..Said'. Prove '..Said' where nothing that the law and all that it calls make is longer than what came in: it says more and counts as full. Else prove '..UptoSaid'. A law counts once. -/
mutual
def uptoBulk {H : Type} : DataW H → Nat
  | .lit (.string bytes) => bytes.length + 1
  | .lit _ => 1
  | .nil => 1
  | .ptr d => uptoBulk d + 1
  | .slice elems spare => uptoBulkAll elems + uptoBulkAll spare + 1
  | .agg parts => uptoBulkAll parts + 1
  | .iface _ d => uptoBulk d + 1
  | .map entries => uptoBulkEntries entries + 1
  | .held _ => 1
def uptoBulkAll {H : Type} : List (DataW H) → Nat
  | [] => 0
  | d :: r => uptoBulk d + uptoBulkAll r
def uptoBulkEntries {H : Type} : List (Lit × DataW H) → Nat
  | [] => 0
  | x :: r => uptoBulkEntry x + uptoBulkEntries r
def uptoBulkEntry {H : Type} : Lit × DataW H → Nat
  | (.string bytes, d) => bytes.length + uptoBulk d + 1
  | (_, d) => uptoBulk d + 1
 end
def uptoSmall : (H : Type) → List (DataW H) → Bool := fun _ ds => decide (uptoBulkAll ds ≤ 1048576)
def OpenSpec.upto (s : _root_.Go.ChangeSpec) : _root_.Go.OpenSpec := { _root_.Go.OpenSpec.ofChange s with cond := some uptoSmall }

/-- 'rillbedlaw13.AllocParts', WHERE WHAT IT READS IS OF BULK AT MOST 1048576: true; the input reads as it did. -/
def allocPartsUptoRow : OpenClaim := { program := "ytieohjibccjliaa", sum := "367d22bd3009643e8b66829e3e397e3f4f8f80fc27f6f6639b8e730c4433e0cc", func := "rillbed/rillbedlaw13.AllocParts", spec := "allocParts", inPlace := ["slices.overlaps[rillbed/api.Extent]"], unfollowed := true, recurses := true, apart := false, narrowed := true }
def AllocPartsUptoSaid : Prop := allocPartsUptoRow.holds Try.pinned (OpenSpec.upto allocPartsSpec)

/-- 'rillbedlaw13.AllocLoads', WHERE WHAT IT READS IS OF BULK AT MOST 1048576: true; the input reads as it did. -/
def allocLoadsUptoRow : OpenClaim := { program := "ytieohjibccjliaa", sum := "367d22bd3009643e8b66829e3e397e3f4f8f80fc27f6f6639b8e730c4433e0cc", func := "rillbed/rillbedlaw13.AllocLoads", spec := "allocLoads", inPlace := ["slices.overlaps[rillbed/api.Extent]"], unfollowed := true, recurses := true, apart := false, narrowed := true }
def AllocLoadsUptoSaid : Prop := allocLoadsUptoRow.holds Try.pinned (OpenSpec.upto allocLoadsSpec)

/-- 'rillbedlaw13.AllocPlays', WHERE WHAT IT READS IS OF BULK AT MOST 1048576: true; the input reads as it did. -/
def allocPlaysUptoRow : OpenClaim := { program := "ytieohjibccjliaa", sum := "367d22bd3009643e8b66829e3e397e3f4f8f80fc27f6f6639b8e730c4433e0cc", func := "rillbed/rillbedlaw13.AllocPlays", spec := "allocPlays", inPlace := ["slices.overlaps[rillbed/api.Extent]"], unfollowed := true, recurses := true, apart := false, narrowed := true }
def AllocPlaysUptoSaid : Prop := allocPlaysUptoRow.holds Try.pinned (OpenSpec.upto allocPlaysSpec)

/-- 'rillbedlaw13.AllocKnown', WHERE WHAT IT READS IS OF BULK AT MOST 1048576: true; the input reads as it did. -/
def allocKnownUptoRow : OpenClaim := { program := "ytieohjibccjliaa", sum := "367d22bd3009643e8b66829e3e397e3f4f8f80fc27f6f6639b8e730c4433e0cc", func := "rillbed/rillbedlaw13.AllocKnown", spec := "allocKnown", inPlace := ["slices.overlaps[rillbed/api.Extent]"], unfollowed := true, recurses := true, apart := false, narrowed := true }
def AllocKnownUptoSaid : Prop := allocKnownUptoRow.holds Try.pinned (OpenSpec.upto allocKnownSpec)

/-- 'rillbedlaw13.AllocBack', WHERE WHAT IT READS IS OF BULK AT MOST 1048576: true; the input reads as it did. -/
def allocBackUptoRow : OpenClaim := { program := "ytieohjibccjliaa", sum := "367d22bd3009643e8b66829e3e397e3f4f8f80fc27f6f6639b8e730c4433e0cc", func := "rillbed/rillbedlaw13.AllocBack", spec := "allocBack", inPlace := ["slices.overlaps[rillbed/api.Extent]"], unfollowed := true, recurses := true, apart := false, narrowed := true }
def AllocBackUptoSaid : Prop := allocBackUptoRow.holds Try.pinned (OpenSpec.upto allocBackSpec)

end Rows
end Go.Proofs.Ytieohjibccjliaa
