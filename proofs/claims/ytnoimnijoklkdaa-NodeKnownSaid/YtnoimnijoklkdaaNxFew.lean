/- few: it answers; what it says. -/
import Derived.Test.YtnoimnijoklkdaaPx27
import Derived.Test.YtnoimnijoklkdaaPx13
import Derived.Test.YtnoimnijoklkdaaNxChk
set_option linter.unusedVariables false
set_option linter.unusedSimpArgs false
namespace Go.Proofs.Ytnoimnijoklkdaa.Px
open Go.RowKit Go.Proofs.YtnoimnijoklkdaaW.PrintWords Go.Proofs.YtnoimnijoklkdaaW.PrintLast

def okM (m : S59) : Prop := m.f1.size ≤ 300 ∧ m.f2.size ≤ 300 ∧ m.f3.size ≤ 300
def okE (m : S75) : Prop := m.f0.size ≤ 300 ∧ m.f1.size ≤ 300
/-- What few lets in. -/
def Few (es : List S75) (ps : List ByteArray) (ks : List Int) (ms : List S59) : Prop :=
  es.length ≤ 100 ∧ ps.length ≤ 100 ∧ ks.length ≤ 100 ∧ ms.length ≤ 100 ∧ (∀ x ∈ es, okE x) ∧ (∀ x ∈ ps, x.size ≤ 300) ∧ (∀ x ∈ ms, okM x)
theorem Few.sz {es : List S75} {ps : List ByteArray} {ks : List Int} {ms : List S59} (h : Few es ps ks ms) : okSz es ps ks ms := by
  obtain ⟨h1, h2, h3, h4, h5, h6, h7⟩ := h
  exact ⟨by omega, by omega, by omega, by omega, fun m hm => by have := (h7 m hm).2.2; omega⟩
set_option maxRecDepth 100000 in
theorem works30 : rillbedlaw18_works.f 30 = some true := by decide +kernel
theorem works_true (k : Nat) (hk : 30 ≤ k) : rillbedlaw18_works.f k = some true := by
  obtain ⟨d, rfl⟩ : ∃ d, k = 30 + d := ⟨k - 30, by omega⟩
  clear hk
  induction d with
  | zero => exact works30
  | succ d ih => exact rillbedlaw18_works.mono _ _ ih
end Go.Proofs.Ytnoimnijoklkdaa.Px
