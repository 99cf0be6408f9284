/- few: it answers; what it says. -/
import Derived.Test.YtnoimnijoklkdaaPx27
import Derived.Test.YtnoimnijoklkdaaPx13
import Derived.Test.YtnoimnijoklkdaaNxChk
set_option linter.unusedVariables false
set_option linter.unusedSimpArgs false
namespace Go.Proofs.Ytnoimnijoklkdaa.Px
open Go.RowKit Go.Proofs.YtnoimnijoklkdaaW.PrintWords Go.Proofs.YtnoimnijoklkdaaW.PrintLast

def okM (m : S59) : Prop := m.f1.size ≤ 300 ∧ m.f2.size ≤ 300 ∧ m.f3.size ≤ 300
def okE (m : S75) : Prop := m.f0.size ≤ 300 ∧ m.f1.size ≤ 300
/-- What few lets in. -/
def Few (es : List S75) (ps : List ByteArray) (ks : List Int) (ms : List S59) : Prop :=
  es.length ≤ 100 ∧ ps.length ≤ 100 ∧ ks.length ≤ 100 ∧ ms.length ≤ 100 ∧ (∀ x ∈ es, okE x) ∧ (∀ x ∈ ps, x.size ≤ 300) ∧ (∀ x ∈ ms, okM x)
theorem w64_next (i : Nat) (h : i ≤ 1000) : wrap64 ((i : Int) + 1) = ((i + 1 : Nat) : Int) := by unfold wrap64; omega
theorem rd75_get (l : List S75) (i : Nat) (hi : i < l.length) : rd_T75 l (i : Int) = l[i] := by
  unfold rd_T75; rw [Int.toNat_natCast, List.getD_eq_getElem?_getD, List.getElem?_eq_getElem hi]; rfl
theorem rdS_get (l : List ByteArray) (i : Nat) (hi : i < l.length) : rdOf ByteArray.empty l (i : Int) = l[i] := by
  unfold rdOf; rw [Int.toNat_natCast, List.getD_eq_getElem?_getD, List.getElem?_eq_getElem hi]; rfl

theorem few_l2 (lf : Bool) (es : List S75) (ps : List ByteArray) (ks : List Int) (ms : List S59) (hn : ms.length ≤ 100) : ∀ (g k i : Nat), i + g = ms.length → g < k →
    ∃ b, rillbedlaw18_few.l2 k (i : Int) lf es ps ks ms = some b ∧ (b = true → ∀ j, i ≤ j → (h : j < ms.length) → okM ms[j]) := by
  intro g
  induction g with
  | zero =>
    intro k i hi hk
    obtain ⟨k, rfl⟩ : ∃ m, k = m + 1 := ⟨k - 1, by omega⟩
    exact ⟨true, by rw [rillbedlaw18_few.l2, if_neg (by omega)], fun _ j h1 h2 => by omega⟩
  | succ g ih =>
    intro k i hi hk
    obtain ⟨k, rfl⟩ : ∃ m, k = m + 1 := ⟨k - 1, by omega⟩
    have hil : i < ms.length := by omega
    rw [rillbedlaw18_few.l2, if_pos (by omega), if_pos (by omega), rd59_get ms i hil]
    split
    · exact ⟨false, rfl, fun h => by cases h⟩
    · split
      · exact ⟨false, rfl, fun h => by cases h⟩
      · split
        · exact ⟨false, rfl, fun h => by cases h⟩
        · rename_i h1 h2 h3
          rw [w64_next i (by omega)]
          obtain ⟨b, hb, hs⟩ := ih k (i + 1) (by omega) (by omega)
          refine ⟨b, hb, fun ht j h4 h5 => ?_⟩
          by_cases hj : j = i
          · subst hj; exact ⟨by omega, by omega, by omega⟩
          · exact hs ht j (by omega) h5
theorem few_l1 (lf : Bool) (es : List S75) (ps : List ByteArray) (ks : List Int) (ms : List S59) (hn : ms.length ≤ 100) (hp : ps.length ≤ 100) : ∀ (g k i : Nat), i + g = ps.length → g + 110 < k →
    ∃ b, rillbedlaw18_few.l1 k (i : Int) lf es ps ks ms = some b ∧ (b = true → (∀ j, i ≤ j → (h : j < ps.length) → ps[j].size ≤ 300) ∧ (∀ j, 0 ≤ j → (h : j < ms.length) → okM ms[j])) := by
  intro g
  induction g with
  | zero =>
    intro k i hi hk
    obtain ⟨k, rfl⟩ : ∃ m, k = m + 1 := ⟨k - 1, by omega⟩
    obtain ⟨b, hb, hs⟩ := few_l2 lf es ps ks ms hn ms.length k 0 (by omega) (by omega)
    exact ⟨b, by rw [rillbedlaw18_few.l1, if_neg (by omega)]; exact hb, fun ht => ⟨fun j h1 h2 => by omega, hs ht⟩⟩
  | succ g ih =>
    intro k i hi hk
    obtain ⟨k, rfl⟩ : ∃ m, k = m + 1 := ⟨k - 1, by omega⟩
    have hil : i < ps.length := by omega
    rw [rillbedlaw18_few.l1, if_pos (by omega), if_pos (by omega), rdS_get ps i hil]
    split
    · exact ⟨false, rfl, fun h => by cases h⟩
    · rename_i h1
      rw [w64_next i (by omega)]
      obtain ⟨b, hb, hs⟩ := ih k (i + 1) (by omega) (by omega)
      refine ⟨b, hb, fun ht => ⟨fun j h4 h5 => ?_, (hs ht).2⟩⟩
      by_cases hj : j = i
      · subst hj; omega
      · exact (hs ht).1 j (by omega) h5
theorem few_l0 (lf : Bool) (es : List S75) (ps : List ByteArray) (ks : List Int) (ms : List S59) (hn : ms.length ≤ 100) (hp : ps.length ≤ 100) (he : es.length ≤ 100) : ∀ (g k i : Nat), i + g = es.length → g + 220 < k →
    ∃ b, rillbedlaw18_few.l0 k (i : Int) lf es ps ks ms = some b ∧ (b = true → (∀ j, i ≤ j → (h : j < es.length) → okE es[j]) ∧ (∀ j, 0 ≤ j → (h : j < ps.length) → ps[j].size ≤ 300) ∧ (∀ j, 0 ≤ j → (h : j < ms.length) → okM ms[j])) := by
  intro g
  induction g with
  | zero =>
    intro k i hi hk
    obtain ⟨k, rfl⟩ : ∃ m, k = m + 1 := ⟨k - 1, by omega⟩
    obtain ⟨b, hb, hs⟩ := few_l1 lf es ps ks ms hn hp ps.length k 0 (by omega) (by omega)
    exact ⟨b, by rw [rillbedlaw18_few.l0, if_neg (by omega)]; exact hb, fun ht => ⟨fun j h1 h2 => by omega, hs ht⟩⟩
  | succ g ih =>
    intro k i hi hk
    obtain ⟨k, rfl⟩ : ∃ m, k = m + 1 := ⟨k - 1, by omega⟩
    have hil : i < es.length := by omega
    rw [rillbedlaw18_few.l0, if_pos (by omega), if_pos (by omega), rd75_get es i hil]
    split
    · exact ⟨false, rfl, fun h => by cases h⟩
    · split
      · exact ⟨false, rfl, fun h => by cases h⟩
      · rename_i h1 h2
        rw [w64_next i (by omega)]
        obtain ⟨b, hb, hs⟩ := ih k (i + 1) (by omega) (by omega)
        refine ⟨b, hb, fun ht => ⟨fun j h4 h5 => ?_, (hs ht).2⟩⟩
        by_cases hj : j = i
        · subst hj; exact ⟨by omega, by omega⟩
        · exact (hs ht).1 j (by omega) h5
theorem few_spec (lf : Bool) (es : List S75) (ps : List ByteArray) (ks : List Int) (ms : List S59) (k : Nat) (hk : 400 < k) : ∃ b, rillbedlaw18_few.f k lf es ps ks ms = some b ∧ (b = true → Few es ps ks ms) := by
  obtain ⟨k, rfl⟩ : ∃ m, k = m + 1 := ⟨k - 1, by omega⟩
  unfold rillbedlaw18_few.f
  have hj : rillbedlaw18_few.j0 (k + 1) true lf es ps ks ms = some false := by rw [rillbedlaw18_few.j0, if_pos rfl]
  split
  · exact ⟨false, hj, fun h => by cases h⟩
  · split
    · exact ⟨false, hj, fun h => by cases h⟩
    · split
      · exact ⟨false, hj, fun h => by cases h⟩
      · rename_i h1 h2 h3
        by_cases h4 : (ms.length : Int) > 100
        · rw [decide_eq_true h4]; exact ⟨false, hj, fun h => by cases h⟩
        · rw [decide_eq_false h4, rillbedlaw18_few.j0, if_neg (by decide)]
          obtain ⟨b, hb, hs⟩ := few_l0 lf es ps ks ms (by omega) (by omega) (by omega) es.length k 0 (by omega) (by omega)
          refine ⟨b, hb, fun ht => ?_⟩
          obtain ⟨s1, s2, s3⟩ := hs ht
          refine ⟨by omega, by omega, by omega, by omega, fun x hx => ?_, fun x hx => ?_, fun x hx => ?_⟩
          · obtain ⟨j, hj, rfl⟩ := List.getElem_of_mem hx; exact s1 j (Nat.zero_le _) hj
          · obtain ⟨j, hj, rfl⟩ := List.getElem_of_mem hx; exact s2 j (Nat.zero_le _) hj
          · obtain ⟨j, hj, rfl⟩ := List.getElem_of_mem hx; exact s3 j (Nat.zero_le _) hj
theorem Few.sz {es : List S75} {ps : List ByteArray} {ks : List Int} {ms : List S59} (h : Few es ps ks ms) : okSz es ps ks ms := by
  obtain ⟨h1, h2, h3, h4, h5, h6, h7⟩ := h
  exact ⟨by omega, by omega, by omega, by omega, fun m hm => by have := (h7 m hm).2.2; omega⟩
set_option maxRecDepth 100000 in
theorem works30 : rillbedlaw18_works.f 30 = some true := by decide +kernel
theorem works_true (k : Nat) (hk : 30 ≤ k) : rillbedlaw18_works.f k = some true := by
  obtain ⟨d, rfl⟩ : ∃ d, k = 30 + d := ⟨k - 30, by omega⟩
  clear hk
  induction d with
  | zero => exact works30
  | succ d ih => exact rillbedlaw18_works.mono _ _ ih
end Go.Proofs.Ytnoimnijoklkdaa.Px
