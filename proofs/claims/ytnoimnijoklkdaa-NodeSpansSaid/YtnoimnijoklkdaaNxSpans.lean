/- The plain law of NodeSpans. -/
import Derived.Test.YtnoimnijoklkdaaNxFew
import Derived.Test.YtnoimnijoklkdaaPx33
set_option linter.unusedVariables false
set_option linter.unusedSimpArgs false
namespace Go.Proofs.Ytnoimnijoklkdaa.Px
open Go.RowKit Go.Proofs.YtnoimnijoklkdaaW.PrintWords Go.Proofs.YtnoimnijoklkdaaW.PrintLast

theorem bl_trans : ∀ {a b c : List UInt8}, Op.bytesLess a b = true → Op.bytesLess b c = true → Op.bytesLess a c = true
  | _, [], _, h, _ => by unfold Op.bytesLess at h; cases h
  | _, _ :: _, [], _, k => by unfold Op.bytesLess at k; cases k
  | [], _ :: _, _ :: _, _, _ => rfl
  | a :: x, b :: y, c :: z, h, k => by
    unfold Op.bytesLess at h k ⊢
    simp only [Bool.or_eq_true, Bool.and_eq_true, decide_eq_true_eq, beq_iff_eq, UInt8.lt_iff_toNat_lt] at h k ⊢
    rcases h with h | ⟨rfl, h⟩
    · rcases k with k | ⟨rfl, k⟩
      · exact .inl (by omega)
      · exact .inl h
    · rcases k with k | ⟨rfl, k⟩
      · exact .inl k
      · exact .inr ⟨rfl, bl_trans h k⟩
theorem bl_nil (l : List UInt8) : Op.bytesLess l [] = false := by cases l <;> rfl

/-- What pivots of a node that may be keep. -/
def Piv (ps : List ByteArray) : Prop := ∀ i, i < ps.length → (rdS ps i).size ≠ 0 ∧ (0 < i → Op.bytesLess (rdS ps (i - 1)).toList (rdS ps i).toList = true)
theorem chk_piv {es : List S75} {ps : List ByteArray} {ks : List Int} {ms : List S59} (h : chkN false es ps ks ms = 0) : ps.length + 1 = ks.length ∧ Piv ps := by
  unfold chkN at h
  rw [if_neg (by decide)] at h
  split at h
  · cases h
  · rename_i h1
    split at h
    · cases h
    · rename_i h2
      refine ⟨by omega, fun i hi => ?_⟩
      have h3 := List.any_eq_false.1 (by simpa using h2 : (List.range ps.length).any (pivBad ps) = false) i (List.mem_range.2 hi)
      unfold pivBad lessB at h3
      simp only [Bool.or_eq_true, Bool.and_eq_true, decide_eq_true_eq, Bool.not_eq_true', not_or, not_and, Bool.not_eq_false] at h3
      exact ⟨h3.1, h3.2.2⟩
theorem piv_mono {ps : List ByteArray} (hp : Piv ps) (k : List UInt8) : ∀ (d i : Nat), i + d < ps.length → Op.bytesLess k (rdS ps i).toList = true → Op.bytesLess k (rdS ps (i + d)).toList = true
  | 0, _, _, h => h
  | d + 1, i, hi, h => bl_trans (piv_mono hp k d i (by omega) h) ((hp (i + (d + 1)) hi).2 (by omega))

/-- How many pivots are at most a key. -/
def Cut (ps : List ByteArray) (k : List UInt8) (c n : Nat) : Prop := (∀ t, t < c → Op.bytesLess k (rdS ps t).toList = false) ∧ ∀ t, c ≤ t → t < n → Op.bytesLess k (rdS ps t).toList = true
theorem kid_l0 (lf : Bool) (es : List S75) (ps : List ByteArray) (ks : List Int) (ms : List S59) (x : ByteArray) (hp : Piv ps) (hn : ps.length ≤ 900) : ∀ (g k i c : Nat), i + g = ps.length → g < k → c ≤ i → Cut ps x.toList c i →
    ∃ c', c' ≤ ps.length ∧ node_Kid.l0 k x (c : Int) (ps.length : Int) (i : Int) lf es ps ks ms = some (c' : Int) ∧ Cut ps x.toList c' ps.length := by
  intro g
  induction g with
  | zero =>
    intro k i c hi hk hc hcut
    obtain ⟨k, rfl⟩ : ∃ m, k = m + 1 := ⟨k - 1, by omega⟩
    obtain rfl : i = ps.length := by omega
    exact ⟨c, hc, by rw [node_Kid.l0, if_neg (by omega)], hcut⟩
  | succ g ih =>
    intro k i c hi hk hc hcut
    obtain ⟨k, rfl⟩ : ∃ m, k = m + 1 := ⟨k - 1, by omega⟩
    rw [node_Kid.l0, if_pos (by omega), if_pos (by omega), if_pos (by omega), w64_next i (by omega), w64_next c (by omega)]
    have hr : rdOf ByteArray.empty ps (i : Int) = rdS ps i := rfl
    rw [hr]
    by_cases hl : Op.bytesLess x.toList (rdS ps i).toList = true
    · rw [if_pos hl]
      refine ih k (i + 1) c (by omega) (by omega) (by omega) ⟨hcut.1, fun t h1 h2 => ?_⟩
      by_cases ht : t = i
      · subst ht; exact hl
      · exact hcut.2 t h1 (by omega)
    · rw [if_neg hl]
      have hci : c = i := by
        rcases Nat.lt_or_ge c i with h | h
        · exfalso
          have h1 := hcut.2 c (Nat.le_refl _) h
          have h2 := piv_mono hp x.toList (i - c) c (by omega) h1
          rw [show c + (i - c) = i by omega] at h2
          exact hl h2
        · omega
      subst hci
      refine ih k (c + 1) (c + 1) (by omega) (by omega) (by omega) ⟨fun t ht => ?_, fun t h1 h2 => by omega⟩
      by_cases h : t = c
      · subst h; simpa using hl
      · exact hcut.1 t (by omega)
theorem kid_spec (es : List S75) (ps : List ByteArray) (ks : List Int) (ms : List S59) (x : ByteArray) (hp : Piv ps) (hn : ps.length ≤ 900) (k : Nat) (hk : ps.length < k) :
    ∃ c, c ≤ ps.length ∧ node_Kid.f k false es ps ks ms x = some (c : Int) ∧ Cut ps x.toList c ps.length := by
  unfold node_Kid.f
  rw [if_neg (by decide)]
  exact kid_l0 false es ps ks ms x hp hn ps.length k 0 0 (by omega) hk (Nat.le_refl _) ⟨fun t h => by omega, fun t h1 h2 => by omega⟩

def loP (ps : List ByteArray) (i : Nat) : ByteArray := if i = 0 then ⟨#[]⟩ else rdS ps (i - 1)
def hiP (ps : List ByteArray) (i : Nat) : ByteArray := if i < ps.length then rdS ps i else ⟨#[]⟩
theorem span_spec {es : List S75} {ps : List ByteArray} {ks : List Int} {ms : List S59} (hz : okSz es ps ks ms) (hc : chkN false es ps ks ms = 0) (hl : ps.length + 1 = ks.length) (i : Nat) (hi : i < ks.length) (k : Nat) (hk : 0 < k) :
    node_Span.f k false es ps ks ms (i : Int) ⟨#[]⟩ ⟨#[]⟩ = some (loP ps i, hiP ps i) := by
  obtain ⟨k, rfl⟩ : ∃ m, k = m + 1 := ⟨k - 1, by omega⟩
  have hn := hz.2.1
  unfold node_Span.f node_Check.f
  rw [if_neg (by decide), if_pos hz, Option.bind_some, hc, if_pos rfl, if_neg (by omega), decide_eq_false (by omega), node_Span.j0, if_neg (by decide)]
  unfold loP hiP
  by_cases h0 : i = 0
  · subst h0
    rw [if_neg (by decide), if_pos rfl]
    by_cases h1 : 0 < ps.length
    · rw [if_pos (by omega), if_pos (by omega), if_pos h1]; rfl
    · rw [if_neg (by omega), if_neg h1]
  · have hw : wrap64 ((i : Int) - 1) = ((i - 1 : Nat) : Int) := by unfold wrap64; omega
    rw [if_pos (by omega), hw, if_pos (by omega), if_pos (by omega), if_neg h0]
    by_cases h1 : i < ps.length
    · rw [if_pos (by omega), if_pos (by omega), if_pos h1]; rfl
    · rw [if_neg (by omega), if_neg h1]; rfl
theorem rd_ne {ps : List ByteArray} (hp : Piv ps) {i : Nat} (hi : i < ps.length) : (rdS ps i).toList ≠ [] := by
  intro h
  have := (hp i hi).1
  rw [Lib.toList_data] at h
  exact this (by rw [Lib.size_eq, h]; rfl)
theorem nilB : (⟨#[]⟩ : ByteArray).toList = [] := by rw [Lib.toList_data]
theorem within_spec {ps : List ByteArray} (hp : Piv ps) (x : ByteArray) {c : Nat} (hc : c ≤ ps.length) (hcut : Cut ps x.toList c ps.length) (i : Nat) (hi : i ≤ ps.length) :
    rillbedlaw18_within.f x (loP ps i) (hiP ps i) = some (((c : Int)) == (i : Int)) := by
  unfold rillbedlaw18_within.f
  rcases Nat.lt_trichotomy i c with h | h | h
  · have e : ((c : Int) == (i : Int)) = false := by simp; omega
    rw [e]
    split
    · rfl
    · have hh : hiP ps i = rdS ps i := by unfold hiP; rw [if_pos (by omega)]
      rw [hh, if_neg (rd_ne hp (by omega)), hcut.1 i h]
  · subst h
    have e : ((i : Int) == (i : Int)) = true := by simp
    rw [e]
    have h1 : Op.bytesLess x.toList (loP ps i).toList = false := by
      unfold loP
      split
      · rw [nilB, bl_nil]
      · exact hcut.1 (i - 1) (by omega)
    rw [if_neg (by rw [h1]; decide)]
    unfold hiP
    by_cases h2 : i < ps.length
    · rw [if_pos h2, if_neg (rd_ne hp h2), hcut.2 i (Nat.le_refl _) h2]
    · rw [if_neg h2, if_pos nilB]
  · have e : ((c : Int) == (i : Int)) = false := by simp; omega
    rw [e]
    have h1 : Op.bytesLess x.toList (loP ps i).toList = true := by
      unfold loP
      rw [if_neg (by omega)]
      exact hcut.2 (i - 1) (by omega) (by omega)
    rw [if_pos h1]
theorem last_spec {ps : List ByteArray} (hp : Piv ps) {n : Nat} (hl : ps.length + 1 = n) (hn : n ≤ 1000) (i : Nat) (hi : i < n) : (((hiP ps i).toList == ([] : List UInt8)) != ((i : Int) == wrap64 ((n : Int) - 1))) = false := by
  have hw : wrap64 ((n : Int) - 1) = (ps.length : Int) := by unfold wrap64; omega
  rw [hw]
  unfold hiP
  by_cases h : i < ps.length
  · rw [if_pos h]
    have e1 : ((rdS ps i).toList == ([] : List UInt8)) = false := beq_eq_false_iff_ne.2 (rd_ne hp h)
    have e2 : ((i : Int) == (ps.length : Int)) = false := by simp; omega
    rw [e1, e2]; rfl
  · rw [if_neg h, nilB]
    have e2 : ((i : Int) == (ps.length : Int)) = true := by simp; omega
    rw [e2]; rfl
theorem spans_l0 {es : List S75} {ps : List ByteArray} {ks : List Int} {ms : List S59} (hz : okSz es ps ks ms) (hc : chkN false es ps ks ms = 0) (hl : ps.length + 1 = ks.length) (hp : Piv ps) (hn : ks.length ≤ 100) (x : ByteArray) : ∀ (g k i : Nat), i + g = ks.length → g + 200 < k →
    rillbedlaw18_NodeSpans.l0 k x (loP ps i) (i : Int) false es ps ks ms = some true := by
  intro g
  induction g with
  | zero =>
    intro k i hi hk
    obtain ⟨k, rfl⟩ : ∃ m, k = m + 1 := ⟨k - 1, by omega⟩
    rw [rillbedlaw18_NodeSpans.l0, if_neg (by omega), works_true k (by omega)]; rfl
  | succ g ih =>
    intro k i hi hk
    obtain ⟨k, rfl⟩ : ∃ m, k = m + 1 := ⟨k - 1, by omega⟩
    obtain ⟨c, hcl, hkid, hcut⟩ := kid_spec es ps ks ms x hp (by omega) k (by omega)
    rw [rillbedlaw18_NodeSpans.l0, if_pos (by omega), span_spec hz hc hl i (by omega) k (by omega), Option.bind_some]
    dsimp only
    rw [if_pos rfl, within_spec hp x hcl hcut i (by omega), Option.bind_some, hkid, Option.bind_some, if_neg (by simp), last_spec hp hl (by omega) i (by omega), if_neg (by decide), w64_next i (by omega)]
    have hlo : hiP ps i = loP ps (i + 1) ∨ i + 1 = ks.length := by
      by_cases h : i < ps.length
      · left; unfold hiP loP; rw [if_pos h, if_neg (by omega)]; rfl
      · right; omega
    rcases hlo with h | h
    · rw [h]; exact ih k (i + 1) (by omega) (by omega)
    · obtain ⟨k, rfl⟩ : ∃ m, k = m + 1 := ⟨k - 1, by omega⟩
      rw [rillbedlaw18_NodeSpans.l0, if_neg (by omega), works_true k (by omega)]; rfl
theorem spans_true (lf : Bool) (es : List S75) (ps : List ByteArray) (ks : List Int) (ms : List S59) (x : ByteArray) : rillbedlaw18_NodeSpans.f 1000 lf es ps ks ms x = some true := by
  obtain ⟨b, hb, hs⟩ := few_spec lf es ps ks ms 1000 (by decide)
  have hj : ∀ K, 40 ≤ K → rillbedlaw18_NodeSpans.j0 (K + 1) x true lf es ps ks ms = some true := fun K hK => by rw [rillbedlaw18_NodeSpans.j0, if_pos rfl, works_true K (by omega)]; rfl
  unfold rillbedlaw18_NodeSpans.f
  rw [hb, Option.bind_some]
  split
  · rename_i hbt
    have hf := hs hbt
    split
    · exact hj 999 (by decide)
    · split
      · exact hj 999 (by decide)
      · rename_i hlf
        obtain rfl : lf = false := by simpa using hlf
        unfold node_Check.f
        rw [if_pos hf.sz, Option.bind_some]
        by_cases hc : chkN false es ps ks ms = 0
        · obtain ⟨hl, hp⟩ := chk_piv hc
          rw [hc, show ((0 : Int) != 0) = false from rfl, show (1000 : Nat) = 999 + 1 from rfl, rillbedlaw18_NodeSpans.j0, if_neg (by decide)]
          exact spans_l0 hf.sz hc hl hp (by have := hf.2.2.1; omega) x ks.length 999 0 (by omega) (by have := hf.2.2.1; omega)
        · rw [show (chkN false es ps ks ms != 0) = true by simp [hc]]
          exact hj 999 (by decide)
  · exact hj 999 (by decide)
end Go.Proofs.Ytnoimnijoklkdaa.Px
