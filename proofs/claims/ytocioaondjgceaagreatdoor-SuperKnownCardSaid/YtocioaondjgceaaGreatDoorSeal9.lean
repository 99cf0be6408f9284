/- Stamped texts: what the code tells is what the reference tells. -/
import Derived.Test.YtocioaondjgceaaGreatDoorSeal8
set_option linter.unusedVariables false
set_option linter.unusedSimpArgs false
namespace Go.Proofs.YtocioaondjgceaaGreatDoor
open Go.RowKit

theorem snoc_of_pos (a : List UInt8) (h : a ≠ []) : ∃ i x, a = i ++ [x] := by
  rcases List.eq_nil_or_concat a with rfl | ⟨i, x, rfl⟩
  · exact absurd rfl h
  · exact ⟨i, x, by simp⟩
theorem ofBe_inj : ∀ (n : Nat) (a b : List UInt8), a.length = n → b.length = n → ofBe a = ofBe b → a = b := by
  intro n
  induction n with
  | zero => intro a b ha hb _; rw [List.eq_nil_of_length_eq_zero ha, List.eq_nil_of_length_eq_zero hb]
  | succ n ih =>
    intro a b ha hb h
    obtain ⟨i, x, rfl⟩ := snoc_of_pos a (by intro e; subst e; simp at ha)
    obtain ⟨j, y, rfl⟩ := snoc_of_pos b (by intro e; subst e; simp at hb)
    rw [ofBe_snoc, ofBe_snoc] at h
    have hx := x.toNat_lt
    have hy := y.toNat_lt
    have h1 : x = y := UInt8.toNat_inj.1 (by omega)
    have h2 : ofBe i = ofBe j := by omega
    rw [ih i j (by simp at ha; omega) (by simp at hb; omega) h2, h1]
theorem dropWhile_nil (p : UInt8 → Bool) (l : List UInt8) : l.dropWhile p = [] ↔ ∀ x ∈ l, p x = true := by
  induction l with
  | nil => simp
  | cons a l ih =>
    by_cases h : p a = true
    · rw [List.dropWhile_cons_of_pos h, ih]; simp [h]
    · rw [List.dropWhile_cons_of_neg h]; simp [h]
theorem trimB_nil_iff (R : List UInt8) : Lib.trimB R 0 = [] ↔ ∀ x ∈ R, x = 0 := by
  unfold Lib.trimB Lib.trimLeftB Lib.trimRightB
  constructor
  · intro h x hx
    have h1 := (dropWhile_nil _ _).1 h
    have h2 : R.reverse.dropWhile (· == (0 : UInt8)) = [] := by
      have hd := List.head?_dropWhile_not (fun x : UInt8 => x == 0) R.reverse
      cases he : R.reverse.dropWhile (· == (0 : UInt8)) with
      | nil => rfl
      | cons y l =>
        rw [he] at hd
        have := h1 y (by rw [List.mem_reverse, he]; simp)
        simp at hd this
        exact absurd this hd
    have := (dropWhile_nil _ _).1 h2 x (by simpa using hx)
    simpa using this
  · intro h
    have h2 : R.reverse.dropWhile (· == (0 : UInt8)) = [] := (dropWhile_nil _ _).2 (fun x hx => by simpa using h x (by simpa using hx))
    rw [h2]; rfl
theorem drop_zero_iff (s : List UInt8) (a b : Nat) (hb : b ≤ s.length) : (∀ x ∈ (s.take b).drop a, x = 0) ↔ ∀ j, a ≤ j → j < b → s.getD j 0 = 0 := by
  constructor
  · intro h j h1 h2
    have hm : s[j]'(by omega) ∈ (s.take b).drop a := by
      rw [List.mem_iff_getElem]
      refine ⟨j - a, by rw [List.length_drop, List.length_take]; omega, ?_⟩
      rw [List.getElem_drop, List.getElem_take]
      congr 1; omega
    rw [List.getD, List.getElem?_eq_getElem (by omega)]
    exact h _ hm
  · intro h x hx
    obtain ⟨i, hi, rfl⟩ := List.mem_iff_getElem.1 hx
    rw [List.length_drop, List.length_take] at hi
    have := h (a + i) (by omega) (by omega)
    rw [List.getD, List.getElem?_eq_getElem (by omega)] at this
    rw [List.getElem_drop, List.getElem_take]
    exact this

theorem unstamp_eq (s : List UInt8) : Sl.unstampC s = Sl.unstampR s := by
  unfold Sl.unstampC Sl.unstampR
  by_cases h1 : s.length < 26
  · rw [if_pos h1, if_pos h1]
  rw [if_neg h1, if_neg h1]
  by_cases h2 : 65536 < s.length
  · rw [if_pos h2, if_pos h2]
  rw [if_neg h2, if_neg h2]
  obtain ⟨n, hn⟩ : ∃ n, n = s.length := ⟨_, rfl⟩
  rw [← hn]
  have hH : (s.take (n - 12)).length = n - 12 := by rw [List.length_take]; omega
  rw [rU64_ok (s.take (n - 12)) (by omega), rU32_ok ((s.take (n - 12)).drop 8) (by rw [List.length_drop]; omega), rU32_ok (s.drop (n - 12)) (by rw [List.length_drop]; omega), rU64_ok ((s.drop (n - 12)).drop 4) (by rw [List.length_drop, List.length_drop]; omega)]
  dsimp only
  have a1 : (s.take (n - 12)).take 8 = s.take 8 := by rw [List.take_take]; congr 1; omega
  have a2 : ((s.take (n - 12)).drop 8).take 4 = (s.drop 8).take 4 := by rw [List.drop_take, List.take_take]; congr 1; omega
  have a3 : ((s.drop (n - 12)).drop 4).take 8 = s.drop (n - 8) := by
    rw [List.drop_drop, show n - 12 + 4 = n - 8 by omega, List.take_of_length_le (by rw [List.length_drop]; omega)]
  rw [a1, a2, a3]
  have a4 : ((s.take (n - 12)).drop 12).take 2 = (s.drop 12).take 2 := by rw [List.drop_take, List.take_take]; congr 1; omega
  obtain ⟨k, hk⟩ : ∃ k, k = ofBe ((s.drop 12).take 2) := ⟨_, rfl⟩
  rw [← hk]
  by_cases hle : n - 26 < k
  · rw [rText_torn ((s.take (n - 12)).drop 12) (by rw [List.length_drop]; omega) (by rw [a4, ← hk, List.length_drop]; omega)]
    unfold Sl.parts
    rw [if_pos (by right; right; left; decide), if_pos (by right; right; left; exact hle)]
  · rw [rText_ok ((s.take (n - 12)).drop 12) (by rw [a4, ← hk, List.length_drop]; omega), a4, ← hk]
    dsimp only
    have a5 : ((s.take (n - 12)).drop 12).drop (2 + k) = (s.take (n - 12)).drop (14 + k) := by rw [List.drop_drop]; congr 1; omega
    have a6 : (((s.take (n - 12)).drop 12).drop 2).take k = (s.drop 14).take k := by
      rw [List.drop_drop, List.drop_take, List.take_take]; congr 1; omega
    rw [a5, a6]
    unfold Sl.parts
    have e1 : ofBe ((s.drop (n - 12)).take 4) ≠ ofBe ((s.drop 8).take 4) ↔ (s.drop 8).take 4 ≠ (s.drop (n - 12)).take 4 := by
      refine not_congr ⟨fun h => (ofBe_inj 4 _ _ (by rw [List.length_take, List.length_drop]; omega) (by rw [List.length_take, List.length_drop]; omega) h).symm, fun h => by rw [h]⟩
    have e2 : ofBe (s.drop (n - 8)) ≠ ofBe (s.take 8) ↔ s.take 8 ≠ s.drop (n - 8) := by
      refine not_congr ⟨fun h => (ofBe_inj 8 _ _ (by rw [List.length_drop]; omega) (by rw [List.length_take]; omega) h).symm, fun h => by rw [h]⟩
    have e3 : Lib.trimB ((s.take (n - 12)).drop (14 + k)) 0 ≠ [] ↔ ¬ ∀ j, 14 + k ≤ j → j < n - 12 → s.getD j 0 = 0 := by
      rw [← drop_zero_iff s (14 + k) (n - 12) (by omega), ← trimB_nil_iff]
    by_cases hc : ofBe ((s.drop (n - 12)).take 4) ≠ ofBe ((s.drop 8).take 4) ∨ ofBe (s.drop (n - 8)) ≠ ofBe (s.take 8) ∨ (0 : Int) ≠ 0 ∨ Lib.trimB ((s.take (n - 12)).drop (14 + k)) 0 ≠ []
    · rw [if_pos hc, if_pos]
      rcases hc with h | h | h | h
      · exact Or.inr (Or.inl (e1.1 h))
      · exact Or.inl (e2.1 h)
      · exact absurd rfl h
      · exact Or.inr (Or.inr (Or.inr (e3.1 h)))
    · rw [if_neg hc, if_neg]
      rintro (h | h | h | h)
      · exact hc (Or.inr (Or.inl (e2.2 h)))
      · exact hc (Or.inl (e1.2 h))
      · exact hle h
      · exact hc (Or.inr (Or.inr (Or.inr (e3.2 h))))

end Go.Proofs.YtocioaondjgceaaGreatDoor
