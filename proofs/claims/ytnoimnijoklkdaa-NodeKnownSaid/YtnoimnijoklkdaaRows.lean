/-
  No cell of these rows narrows 'for every input' (looked for: loops, veiled, ifaces, maps, wideKeys, modest, calm, conditions, laid).
  DERIVED. THE GIVEN ROWS OF THIS SEAT. 5 by the template 'for every input the law returns true; each argument reads behind the call as it read before'; 0 by the template 'total and deterministic' (their statements: YtnoimnijoklkdaaTotals.lean).
  GIVEN WITH THE SEED: the statements are not yours to turn. If you find one false, say at which input.
  Laid BY PROGRAM, IN A SANDBOX (cutbox-rows.mjs): the forced cells as the released guide's own fill.sh prints them over the translation 3de0f9bf45ac5cd5… (all of the seat's roots in one cut). By AI agents, Wed Nov 11 2026. No macro, syntax, notation, axiom, sorry.
-/
import Derived.Test.YtnoimnijoklkdaaChecked
import GoSem.Claim
import GoSem.ClaimJoined
import GoSem.ClaimMapViews
import Derived.JoinedTies
import Derived.KernelRfl
namespace Go.Proofs.Ytnoimnijoklkdaa
/- THE CELL 'sum', in the pinned program and in every row, IS THE sha256 OF THE DUMP (.gsa) THAT YtnoimnijoklkdaaProg.lean LOADS. Nothing in Lean hashes anything: it is a label: what it is worth is what the hold of that sum in a sandbox is worth. -/
noncomputable def Try.pinned : Pinned := { name := "ytnoimnijoklkdaa", sum := "3de0f9bf45ac5cd566bc4933dd4282404dc5c9f00eccd98b3324e597a8acd995", checked := Try.checked }
namespace Rows
def none {H : Type} : Left H := { results := [], args := [] }

/-- 'rillbedlaw18.NodeTakes': WHATEVER THE INPUT: true; the input reads as it did. -/
def nodeTakesSpec : ChangeSpec := { name := "nodeTakes", fn := fun _ => fun
  | [d] => { results := [.lit (.bool true)], args := [d] }
  | _ => none }
def nodeTakesRow : OpenClaim := { program := "ytnoimnijoklkdaa", sum := "3de0f9bf45ac5cd566bc4933dd4282404dc5c9f00eccd98b3324e597a8acd995", func := "rillbed/rillbedlaw18.NodeTakes", spec := "nodeTakes", inPlace := ["math.Float64frombits"], unfollowed := true, recurses := true, apart := false }
def NodeTakesSaid : Prop := nodeTakesRow.holds Try.pinned (OpenSpec.ofChange nodeTakesSpec)

/-- ITS FALSE NEIGHBOUR: 'it returns false'. Refute it at one input. -/
def nodeTakesWrong : ChangeSpec := { name := "nodeTakes", fn := fun _ => fun
  | [d] => { results := [.lit (.bool false)], args := [d] }
  | _ => none }
def NodeTakesWrongFalsely : Prop := nodeTakesRow.holds Try.pinned (OpenSpec.ofChange nodeTakesWrong)

/-- 'rillbedlaw18.NodeBack': WHATEVER THE INPUT: true; the input reads as it did. -/
def nodeBackSpec : ChangeSpec := { name := "nodeBack", fn := fun _ => fun
  | [d1, d2, d3] => { results := [.lit (.bool true)], args := [d1, d2, d3] }
  | _ => none }
def nodeBackRow : OpenClaim := { program := "ytnoimnijoklkdaa", sum := "3de0f9bf45ac5cd566bc4933dd4282404dc5c9f00eccd98b3324e597a8acd995", func := "rillbed/rillbedlaw18.NodeBack", spec := "nodeBack", inPlace := ["math.Float64frombits"], unfollowed := true, recurses := true, apart := false }
def NodeBackSaid : Prop := nodeBackRow.holds Try.pinned (OpenSpec.ofChange nodeBackSpec)

/-- ITS FALSE NEIGHBOUR: 'it returns false'. Refute it at one input. -/
def nodeBackWrong : ChangeSpec := { name := "nodeBack", fn := fun _ => fun
  | [d1, d2, d3] => { results := [.lit (.bool false)], args := [d1, d2, d3] }
  | _ => none }
def NodeBackWrongFalsely : Prop := nodeBackRow.holds Try.pinned (OpenSpec.ofChange nodeBackWrong)

/-- 'rillbedlaw18.NodeRules': WHATEVER THE INPUT: true; the input reads as it did. -/
def nodeRulesSpec : ChangeSpec := { name := "nodeRules", fn := fun _ => fun
  | [d1, d2, d3] => { results := [.lit (.bool true)], args := [d1, d2, d3] }
  | _ => none }
def nodeRulesRow : OpenClaim := { program := "ytnoimnijoklkdaa", sum := "3de0f9bf45ac5cd566bc4933dd4282404dc5c9f00eccd98b3324e597a8acd995", func := "rillbed/rillbedlaw18.NodeRules", spec := "nodeRules", inPlace := ["math.Float64frombits"], unfollowed := true, recurses := true, apart := false }
def NodeRulesSaid : Prop := nodeRulesRow.holds Try.pinned (OpenSpec.ofChange nodeRulesSpec)

/-- ITS FALSE NEIGHBOUR: 'it returns false'. Refute it at one input. -/
def nodeRulesWrong : ChangeSpec := { name := "nodeRules", fn := fun _ => fun
  | [d1, d2, d3] => { results := [.lit (.bool false)], args := [d1, d2, d3] }
  | _ => none }
def NodeRulesWrongFalsely : Prop := nodeRulesRow.holds Try.pinned (OpenSpec.ofChange nodeRulesWrong)

/-- 'rillbedlaw18.NodeSpans': WHATEVER THE INPUT: true; the input reads as it did. -/
def nodeSpansSpec : ChangeSpec := { name := "nodeSpans", fn := fun _ => fun
  | [d1, d2] => { results := [.lit (.bool true)], args := [d1, d2] }
  | _ => none }
def nodeSpansRow : OpenClaim := { program := "ytnoimnijoklkdaa", sum := "3de0f9bf45ac5cd566bc4933dd4282404dc5c9f00eccd98b3324e597a8acd995", func := "rillbed/rillbedlaw18.NodeSpans", spec := "nodeSpans", inPlace := ["math.Float64frombits"], unfollowed := true, recurses := true, apart := false }
def NodeSpansSaid : Prop := nodeSpansRow.holds Try.pinned (OpenSpec.ofChange nodeSpansSpec)

/-- ITS FALSE NEIGHBOUR: 'it returns false'. Refute it at one input. -/
def nodeSpansWrong : ChangeSpec := { name := "nodeSpans", fn := fun _ => fun
  | [d1, d2] => { results := [.lit (.bool false)], args := [d1, d2] }
  | _ => none }
def NodeSpansWrongFalsely : Prop := nodeSpansRow.holds Try.pinned (OpenSpec.ofChange nodeSpansWrong)

/-- 'rillbedlaw18.NodeKnown': WHATEVER THE INPUT: true; the input reads as it did. -/
def nodeKnownSpec : ChangeSpec := { name := "nodeKnown", fn := fun _ => fun
  | [] => { results := [.lit (.bool true)], args := [] }
  | _ => none }
def nodeKnownRow : OpenClaim := { program := "ytnoimnijoklkdaa", sum := "3de0f9bf45ac5cd566bc4933dd4282404dc5c9f00eccd98b3324e597a8acd995", func := "rillbed/rillbedlaw18.NodeKnown", spec := "nodeKnown", inPlace := ["math.Float64frombits", "internal/abi.NoEscape", "internal/bytealg.MakeNoZero"], unfollowed := true, recurses := true, apart := false }
def NodeKnownSaid : Prop := nodeKnownRow.holds Try.pinned (OpenSpec.ofChange nodeKnownSpec)

/-- ITS FALSE NEIGHBOUR: 'it returns false'. Refute it at one input. -/
def nodeKnownWrong : ChangeSpec := { name := "nodeKnown", fn := fun _ => fun
  | [] => { results := [.lit (.bool false)], args := [] }
  | _ => none }
def NodeKnownWrongFalsely : Prop := nodeKnownRow.holds Try.pinned (OpenSpec.ofChange nodeKnownWrong)

/- THE SECOND FORM. 'bulk': how many values and letters a reading holds, each counted each time it is reached (what is shared counts as often as it is met; a slice's spare places count too). A statement '..UptoSaid' is the law's where the arguments, and the package variables that the reading takes, are together of bulk at most 1048576: NARROWER than '..Said'. Prove '..Said' where nothing that the law and all that it calls make is longer than what came in: it says more and counts as full. Else prove '..UptoSaid'. A law counts once. -/
mutual
def uptoBulk {H : Type} : DataW H → Nat
  | .lit (.string bytes) => bytes.length + 1
  | .lit _ => 1
  | .nil => 1
  | .ptr d => uptoBulk d + 1
  | .slice elems spare => uptoBulkAll elems + uptoBulkAll spare + 1
  | .agg parts => uptoBulkAll parts + 1
  | .iface _ d => uptoBulk d + 1
  | .map entries => uptoBulkEntries entries + 1
  | .held _ => 1
def uptoBulkAll {H : Type} : List (DataW H) → Nat
  | [] => 0
  | d :: r => uptoBulk d + uptoBulkAll r
def uptoBulkEntries {H : Type} : List (Lit × DataW H) → Nat
  | [] => 0
  | x :: r => uptoBulkEntry x + uptoBulkEntries r
def uptoBulkEntry {H : Type} : Lit × DataW H → Nat
  | (.string bytes, d) => bytes.length + uptoBulk d + 1
  | (_, d) => uptoBulk d + 1
 end
def uptoSmall : (H : Type) → List (DataW H) → Bool := fun _ ds => decide (uptoBulkAll ds ≤ 1048576)
def OpenSpec.upto (s : _root_.Go.ChangeSpec) : _root_.Go.OpenSpec := { _root_.Go.OpenSpec.ofChange s with cond := some uptoSmall }

/-- 'rillbedlaw18.NodeTakes', WHERE WHAT IT READS IS OF BULK AT MOST 1048576: true; the input reads as it did. -/
def nodeTakesUptoRow : OpenClaim := { program := "ytnoimnijoklkdaa", sum := "3de0f9bf45ac5cd566bc4933dd4282404dc5c9f00eccd98b3324e597a8acd995", func := "rillbed/rillbedlaw18.NodeTakes", spec := "nodeTakes", inPlace := ["math.Float64frombits"], unfollowed := true, recurses := true, apart := false, narrowed := true }
def NodeTakesUptoSaid : Prop := nodeTakesUptoRow.holds Try.pinned (OpenSpec.upto nodeTakesSpec)

/-- 'rillbedlaw18.NodeBack', WHERE WHAT IT READS IS OF BULK AT MOST 1048576: true; the input reads as it did. -/
def nodeBackUptoRow : OpenClaim := { program := "ytnoimnijoklkdaa", sum := "3de0f9bf45ac5cd566bc4933dd4282404dc5c9f00eccd98b3324e597a8acd995", func := "rillbed/rillbedlaw18.NodeBack", spec := "nodeBack", inPlace := ["math.Float64frombits"], unfollowed := true, recurses := true, apart := false, narrowed := true }
def NodeBackUptoSaid : Prop := nodeBackUptoRow.holds Try.pinned (OpenSpec.upto nodeBackSpec)

/-- 'rillbedlaw18.NodeRules', WHERE WHAT IT READS IS OF BULK AT MOST 1048576: true; the input reads as it did. -/
def nodeRulesUptoRow : OpenClaim := { program := "ytnoimnijoklkdaa", sum := "3de0f9bf45ac5cd566bc4933dd4282404dc5c9f00eccd98b3324e597a8acd995", func := "rillbed/rillbedlaw18.NodeRules", spec := "nodeRules", inPlace := ["math.Float64frombits"], unfollowed := true, recurses := true, apart := false, narrowed := true }
def NodeRulesUptoSaid : Prop := nodeRulesUptoRow.holds Try.pinned (OpenSpec.upto nodeRulesSpec)

/-- 'rillbedlaw18.NodeSpans', WHERE WHAT IT READS IS OF BULK AT MOST 1048576: true; the input reads as it did. -/
def nodeSpansUptoRow : OpenClaim := { program := "ytnoimnijoklkdaa", sum := "3de0f9bf45ac5cd566bc4933dd4282404dc5c9f00eccd98b3324e597a8acd995", func := "rillbed/rillbedlaw18.NodeSpans", spec := "nodeSpans", inPlace := ["math.Float64frombits"], unfollowed := true, recurses := true, apart := false, narrowed := true }
def NodeSpansUptoSaid : Prop := nodeSpansUptoRow.holds Try.pinned (OpenSpec.upto nodeSpansSpec)

/-- 'rillbedlaw18.NodeKnown', WHERE WHAT IT READS IS OF BULK AT MOST 1048576: true; the input reads as it did. -/
def nodeKnownUptoRow : OpenClaim := { program := "ytnoimnijoklkdaa", sum := "3de0f9bf45ac5cd566bc4933dd4282404dc5c9f00eccd98b3324e597a8acd995", func := "rillbed/rillbedlaw18.NodeKnown", spec := "nodeKnown", inPlace := ["math.Float64frombits", "internal/abi.NoEscape", "internal/bytealg.MakeNoZero"], unfollowed := true, recurses := true, apart := false, narrowed := true }
def NodeKnownUptoSaid : Prop := nodeKnownUptoRow.holds Try.pinned (OpenSpec.upto nodeKnownSpec)

end Rows
end Go.Proofs.Ytnoimnijoklkdaa
