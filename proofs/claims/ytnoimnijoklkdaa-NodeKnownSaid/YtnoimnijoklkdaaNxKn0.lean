/- NodeKnown: the long node's texts. -/
import Derived.Test.YtnoimnijoklkdaaNxKn1
set_option linter.unusedVariables false
set_option linter.unusedSimpArgs false
namespace Go.Proofs.Ytnoimnijoklkdaa.Px
open Go.RowKit Go.Proofs.YtnoimnijoklkdaaW.PrintWords Go.Proofs.YtnoimnijoklkdaaW.PrintLast

def ms13 : List S59 := List.replicate 13 mX
def ms12 : List S59 := ms13.take 12
set_option maxRecDepth 100000 in
theorem chk13 : chkN false [] [] [1] ms13 = 0 := by decide +kernel
set_option maxRecDepth 100000 in
theorem chk12 : chkN false [] [] [1] ms12 = 0 := by decide +kernel
theorem tr13 : textR false [] [] [1] ms13 = (textN false [] [] [1] ms13, 0) := by unfold textR; rw [if_neg (by rw [chk13]; decide)]
theorem tr12 : textR false [] [] [1] ms12 = (textN false [] [] [1] ms12, 0) := by unfold textR; rw [if_neg (by rw [chk12]; decide)]
set_option maxRecDepth 100000 in
theorem len13 : (textN false [] [] [1] ms13).length = 1475 := by decide +kernel
set_option maxRecDepth 100000 in
theorem len12 : (textN false [] [] [1] ms12).length = 1362 := by decide +kernel
set_option maxRecDepth 100000 in
theorem ok13 : okSz [] [] [1] ms13 := by decide +kernel
set_option maxRecDepth 100000 in
theorem ok12 : okSz [] [] [1] ms12 := by decide +kernel
theorem put_long : node_Put.f false [] [] [1] ms13 = some (⟨#[]⟩, 3) := by
  unfold node_Put.f node_text.f
  rw [if_pos ok13, Option.bind_some, tr13]
  dsimp only
  rw [if_pos rfl, size_list, len13]
  rfl
theorem size_long : node_Size.f false [] [] [1] ms13 = some 1475 := by
  unfold node_Size.f node_text.f
  rw [if_pos ok13, Option.bind_some, tr13]
  dsimp only
  rw [size_list, len13]
  rfl
theorem put_12 : node_Put.f false [] [] [1] ms12 = some (⟨(textN false [] [] [1] ms12).toArray⟩, 0) := by
  unfold node_Put.f node_text.f
  rw [if_pos ok12, Option.bind_some, tr12]
  dsimp only
  rw [if_pos rfl, size_list, len12]
  rfl
theorem u_12 : ((⟨(textN false [] [] [1] ms12).toArray⟩ : ByteArray).size : Int) = 1362 := by rw [size_list, len12]; rfl
theorem size_12 : node_Size.f false [] [] [1] ms12 = some 1362 := by
  unfold node_Size.f node_text.f
  rw [if_pos ok12, Option.bind_some, tr12]
  dsimp only
  rw [size_list, len12]
  rfl
theorem tk_y : tkN repY.data.toList = (zN, 3) := by
  unfold tkN
  rw [if_pos (by rw [← Lib.size_eq]; decide +kernel)]
theorem fails_y : rillbedlaw18_fails.f 40 repY 3 = some true := by
  unfold rillbedlaw18_fails.f
  rw [show node_Take.f repY = some ((tkN repY.data.toList).1.f0, (tkN repY.data.toList).1.f1, (tkN repY.data.toList).1.f2, (tkN repY.data.toList).1.f3, (tkN repY.data.toList).1.f4, (tkN repY.data.toList).2) from rfl, tk_y, Option.bind_some]
  decide +kernel
end Go.Proofs.Ytnoimnijoklkdaa.Px
