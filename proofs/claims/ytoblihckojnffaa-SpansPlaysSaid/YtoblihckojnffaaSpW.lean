/- Both sets side by side: each call answers alike. -/
import Derived.Test.YtoblihckojnffaaSpV
set_option linter.unusedVariables false
set_option linter.unusedSimpArgs false
namespace Go.Proofs.Ytoblihckojnffaa
open Go.RowKit Go.Shelf
set_option maxRecDepth 100000

theorem k_give {w0 w : World} {b : Nat} {n : Int} {l : List Ex} (h : New0 w0 w b n l) (hok : SpOk n l) (a : Int) : Calls Try.prog 17 #[.pointer (some ⟨b, 0, none⟩), .int .i64 a] w fun e w' => e = .returned (.int .i64 (giveA n l a).2) ∧ New0 w0 w' b n (giveA n l a).1 ∧ Keeps w w' := by
  obtain ⟨v, row, h1, h2⟩ := h.at_
  exact (sp_Give h1 hok a).mono fun e w' ⟨he, hp⟩ => ⟨he, h.next (P := fun _ => True) h2 hp, hp.keeps h1⟩
theorem k_fill {w0 w : World} {b : Nat} {n : Int} {l : List Ex} (h : New0 w0 w b n l) (hok : SpOk n l) (f t : Int) : Calls Try.prog 18 #[.pointer (some ⟨b, 0, none⟩), .int .i64 f, .int .i64 t] w fun e w' => e = .returned (.int .i64 (fillA n l f t).2) ∧ New0 w0 w' b n (fillA n l f t).1 ∧ Keeps w w' := by
  obtain ⟨v, row, h1, h2⟩ := h.at_
  exact (sp_Fill h1 hok f t).mono fun e w' ⟨he, hp⟩ => ⟨he, h.next (P := fun _ => True) h2 hp, hp.keeps h1⟩
theorem k_take {w0 w : World} {b : Nat} {n : Int} {l : List Ex} (h : New0 w0 w b n l) (hok : SpOk n l) (k : Int) : Calls Try.prog 19 #[.pointer (some ⟨b, 0, none⟩), .int .i64 k] w fun e w' => ∃ v row, e = .returned (.tuple #[v, .int .i64 (takeA l k).2.1]) ∧ IntsAt w' v row (takeA l k).1 ∧ (∀ g, row = some g → w.heap.size ≤ g) ∧ New0 w0 w' b n (takeA l k).2.2 ∧ Keeps w w' := by
  obtain ⟨v, row, h1, h2⟩ := h.at_
  refine (sp_Take h1 hok k).mono fun e w' ⟨vt, he, ho, hp⟩ => ?_
  obtain ⟨i1, i2⟩ := IntsAt.of_owns ho
  exact ⟨vt, _, he, i1, fun g e => i2 g e, h.next (P := fun _ => True) h2 hp, hp.keeps h1⟩
theorem k_copy {w0 w : World} {b : Nat} {n : Int} {l : List Ex} (h : New0 w0 w b n l) (hok : SpOk n l) : Calls Try.prog 20 #[.pointer (some ⟨b, 0, none⟩)] w fun e w' => ∃ b', e = .returned (.pointer (some ⟨b', 0, none⟩)) ∧ New0 w0 w' b' n l ∧ Upd (fun _ => False) w w' := by
  obtain ⟨v, row, h1, h2⟩ := h.at_
  exact (sp_Copy h1 hok).mono fun e w' ⟨b', row', v', e1, e2, e3, e4, e5⟩ => ⟨b', e1, ⟨h.upd.trans e5 (fun _ _ f => f), by have := h.upd.size; omega, v', row', e4, fun r e => by have := e3 r e; have := h.upd.size; omega⟩, e5⟩
theorem give_code {n : Int} {l : List Ex} (hok : SpOk n l) (A : Nat) (h : (A : Int) < n) : (giveA n l A).2 = if hasB l (A : Int) = true then 6 else 0 := by
  unfold giveA
  rw [if_neg (by omega)]
  unfold fillA
  rw [if_neg (by omega), if_neg (by omega)]
  rcases fillE_spec hok (A : Int) (A + 1) (by omega) with ⟨⟨k, h1, h2⟩, e⟩ | ⟨h1, e, _⟩
  · rw [e, show (A : Int) = k by omega, if_pos h2]
  · rw [e, h1 A (by omega) (by omega), if_neg (by decide)]
theorem give_out (n : Int) (l : List Ex) (a : Int) (h : a < 0 ∨ n ≤ a) : giveA n l a = (l, 2) := by unfold giveA; rw [if_pos h]
theorem fill_out (n : Int) (l : List Ex) (f t : Int) (h : f < 0 ∨ t < f ∨ n < t) : fillA n l f t = (l, 2) := by unfold fillA; rw [if_pos h]
theorem fill_code {n : Int} {l : List Ex} (hok : SpOk n l) (F T : Nat) (h1 : F ≤ T) (h2 : (T : Int) ≤ n) :
    ((∃ k : Nat, (F ≤ k ∧ k < T) ∧ hasB l (k : Int) = true) ∧ fillA n l F T = (l, 6)) ∨ ((∀ k : Nat, F ≤ k → k < T → hasB l (k : Int) = false) ∧ (fillA n l F T).2 = 0) := by
  unfold fillA
  rw [if_neg (by omega)]
  by_cases e : (F : Int) = (T : Int)
  · rw [if_pos e]
    exact .inr ⟨fun k h3 h4 => by omega, rfl⟩
  · rw [if_neg e]
    rcases fillE_spec hok (F : Int) (T : Int) (by omega) with ⟨⟨k, h3, h4⟩, e2⟩ | ⟨h3, e2, _⟩
    · obtain ⟨K, rfl⟩ := Int.eq_ofNat_of_zero_le (show 0 ≤ k by omega)
      exact .inl ⟨⟨K, by omega, h4⟩, e2⟩
    · exact .inr ⟨fun k h4 h5 => h3 k (by omega) (by omega), e2⟩
/-- the document's set, as the program's set l has it -/
structure RHas (w0 w : World) (r g cap : Nat) (n : Int) (l : List Ex) : Prop where
  at_ : ∃ bits, RSet w0 w r g cap bits ∧ Says n l bits
theorem RHas.upd {F : Nat → Prop} {w0 w w' : World} {r g cap : Nat} {n : Int} {l : List Ex} (h : RHas w0 w r g cap n l) (hu : Upd (fun _ => False) w w') : RHas w0 w' r g cap n l := by
  obtain ⟨bits, h1, h2⟩ := h
  exact ⟨bits, h1.later hu, h2⟩
theorem RHas.keeps {w0 w w' : World} {r g cap : Nat} {n : Int} {l : List Ex} (h : RHas w0 w r g cap n l) (hu : Keeps w w') : RHas w0 w' r g cap n l := by
  obtain ⟨bits, h1, h2⟩ := h
  exact ⟨bits, h1.keeps hu, h2⟩
theorem New0.by_ref {w0 w w' : World} {b r g cap : Nat} {n m : Int} {l k : List Ex} (h : New0 w0 w b n l) (hr : RHas w0 w r g cap m k) (hu : Upd (fun i => i = g) w w') : New0 w0 w' b n l := by
  obtain ⟨bits, h1, h2⟩ := hr
  exact h.beside h1.row h1.low.2 hu
theorem play_give {w0 w : World} {r g cap : Nat} {n : Int} {l : List Ex} (h : RHas w0 w r g cap n l) (hok : SpOk n l) (a : Int) : Calls Try.prog 24 #[.pointer (some ⟨r, 0, none⟩), .int .i64 a] w fun e w' => e = .returned (.int .i64 (giveA n l a).2) ∧ RHas w0 w' r g cap n (giveA n l a).1 ∧ Upd (fun i => i = g) w w' := by
  obtain ⟨bits, h1, h2⟩ := h
  have hn := h2.1
  by_cases ha : a < 0 ∨ n ≤ a
  · rw [give_out n l a ha]
    refine (ref_Give_out h1 a (by omega)).mono ?_
    rintro e w' ⟨rfl, rfl⟩
    exact ⟨rfl, ⟨bits, h1, h2⟩, Upd.refl _ _⟩
  · obtain ⟨A, rfl⟩ := Int.eq_ofNat_of_zero_le (show 0 ≤ a by omega)
    have hb := h2.2 A (by omega)
    have hc := give_code hok A (by omega)
    have hsame := (giveA_spec hok (A : Int)).2.1
    have hs := says_give hok h2 (A : Int)
    refine (ref_Give_in h1 A _ hb).mono ?_
    rintro e w' ⟨rfl, k1, k2⟩
    refine ⟨by rw [hc], ?_, k2⟩
    by_cases hh : hasB l (A : Int) = true
    · rw [if_pos hh] at k1 hc
      exact ⟨bits, k1, by rw [hsame (by rw [hc]; decide)]; exact h2⟩
    · rw [if_neg hh] at k1 hc
      obtain ⟨A', e1, _, e3⟩ := hs hc
      obtain rfl : A = A' := by omega
      exact ⟨_, k1, e3⟩
theorem play_fill {w0 w : World} {r g cap : Nat} {n : Int} {l : List Ex} (h : RHas w0 w r g cap n l) (hok : SpOk n l) (f t : Int) : Calls Try.prog 25 #[.pointer (some ⟨r, 0, none⟩), .int .i64 f, .int .i64 t] w fun e w' => e = .returned (.int .i64 (fillA n l f t).2) ∧ RHas w0 w' r g cap n (fillA n l f t).1 ∧ Upd (fun i => i = g) w w' := by
  obtain ⟨bits, h1, h2⟩ := h
  have hn := h2.1
  by_cases ha : f < 0 ∨ t < f ∨ n < t
  · rw [fill_out n l f t ha]
    refine (ref_Fill_out h1 f t (by omega)).mono ?_
    rintro e w' ⟨rfl, rfl⟩
    exact ⟨rfl, ⟨bits, h1, h2⟩, Upd.refl _ _⟩
  · obtain ⟨F, rfl⟩ := Int.eq_ofNat_of_zero_le (show 0 ≤ f by omega)
    obtain ⟨T, rfl⟩ := Int.eq_ofNat_of_zero_le (show 0 ≤ t by omega)
    rcases fill_code hok F T (by omega) (by omega) with ⟨⟨k, hk, hb⟩, e⟩ | ⟨hb, e⟩
    · rw [e]
      refine (ref_Fill_there h1 F T k (by omega) (by omega) hk (by rw [h2.2 k (by omega), hb])).mono ?_
      rintro e w' ⟨rfl, rfl⟩
      exact ⟨rfl, ⟨bits, h1, h2⟩, Upd.refl _ _⟩
    · obtain ⟨F', T', e1, e2, _, _, e3⟩ := says_fill hok h2 (F : Int) (T : Int) e
      obtain rfl : F = F' := by omega
      obtain rfl : T = T' := by omega
      refine (ref_Fill_in h1 F T (by omega) (by omega) (fun k k1 k2 => by rw [h2.2 k (by omega), hb k k1 k2])).mono ?_
      rintro e' w' ⟨rfl, k1, k2⟩
      exact ⟨by rw [e], ⟨_, k1, e3⟩, k2⟩
theorem play_take {w0 w : World} {r g cap : Nat} {n : Int} {l : List Ex} (h : RHas w0 w r g cap n l) (hok : SpOk n l) (k : Int) : Calls Try.prog 26 #[.pointer (some ⟨r, 0, none⟩), .int .i64 k] w fun e w' => ∃ v row, e = .returned (.tuple #[v, .int .i64 (takeA l k).2.1]) ∧ IntsAt w' v row (takeA l k).1 ∧ RHas w0 w' r g cap n (takeA l k).2.2 ∧ Upd (fun i => i = g) w w' := by
  obtain ⟨bits, h1, h2⟩ := h
  by_cases hc : (takeA l k).2.1 = 0
  · refine (ref_Take_ok h1 hok h2 k hc).mono ?_
    rintro e w' ⟨v, row, rfl, k1, k2, k3, k4⟩
    exact ⟨v, row, rfl, k1, ⟨_, k3, (says_take hok h2 k hc).says⟩, k4⟩
  · have hcb := cnt_bits hok h2
    by_cases hk : k < 1
    · have e : takeA l k = ([], 2, l) := by unfold takeA; rw [if_pos hk]
      rw [e]
      refine (ref_Take_low h1 k hk).mono ?_
      rintro e w' ⟨v, row, rfl, k1, k2, k3, k4⟩
      exact ⟨v, row, rfl, k1, ⟨bits, by have h3 : RSet w0 w' r g cap (takeB bits [] 0) := k3; rw [takeB_nil] at h3; exact h3, h2⟩, k4⟩
    · by_cases hf : cntE l < k
      · have e : takeA l k = ([], 7, l) := by unfold takeA; rw [if_neg hk, if_pos hf]
        rw [e]
        refine (ref_Take_full h1 k (by omega) (by omega)).mono ?_
        rintro e w' ⟨v, row, rfl, k1, k2, k3, k4⟩
        exact ⟨v, row, rfl, k1, ⟨bits, by have h3 : RSet w0 w' r g cap (takeB bits [] 0) := k3; rw [takeB_nil] at h3; exact h3, h2⟩, k4⟩
      · exfalso
        apply hc
        unfold takeA
        rw [if_neg hk, if_neg hf]
        split <;> rfl
theorem play_has {w0 w : World} {r g cap : Nat} {n : Int} {l : List Ex} (h : RHas w0 w r g cap n l) (k : Int) : Calls Try.prog 11 #[.pointer (some ⟨r, 0, none⟩), .int .i64 k] w fun e w' => e = .returned (.bool (decide (0 ≤ k) && decide (k < n) && hasB l k)) ∧ w = w' := by
  obtain ⟨bits, h1, h2⟩ := h
  refine (ref_Has h1 k).mono ?_
  rintro e w' ⟨rfl, rfl⟩
  refine ⟨?_, rfl⟩
  have : hasR bits k = (decide (0 ≤ k) && decide (k < n) && hasB l k) := by
    unfold hasR
    rw [h2.1]
    by_cases h3 : 0 ≤ k ∧ k < n
    · obtain ⟨K, rfl⟩ := Int.eq_ofNat_of_zero_le h3.1
      have := h2.2 K (by have := h2.1; omega)
      rw [Int.toNat_natCast, List.getD_eq_getElem?_getD, this]
      rfl
    · have : (decide (0 ≤ k) && decide (k < n)) = false := by rw [← Bool.not_eq_true]; simpa using h3
      rw [this, Bool.false_and, Bool.false_and]
  rw [this]
theorem play_count {w0 w : World} {r g cap : Nat} {n : Int} {l : List Ex} (h : RHas w0 w r g cap n l) (hok : SpOk n l) : Calls Try.prog 13 #[.pointer (some ⟨r, 0, none⟩)] w fun e w' => e = .returned (.int .i64 (cntE l)) ∧ w = w' := by
  obtain ⟨bits, h1, h2⟩ := h
  rw [← cnt_bits hok h2]
  exact ref_Count h1
theorem play_list {w0 w : World} {r g cap : Nat} {n : Int} {l : List Ex} (h : RHas w0 w r g cap n l) (hok : SpOk n l) : Calls Try.prog 16 #[.pointer (some ⟨r, 0, none⟩)] w fun e w' => ∃ v row, e = .returned v ∧ PairsAt w' v row l ∧ (∀ x, row = some x → w.heap.size ≤ x) ∧ Upd (fun _ => False) w w' := by
  obtain ⟨bits, h1, h2⟩ := h
  exact ref_List h1 hok h2
theorem play_copy {w0 w : World} {r g cap : Nat} {n : Int} {l : List Ex} (h : RHas w0 w r g cap n l) (hs : w0.heap.size ≤ w.heap.size) : Calls Try.prog 28 #[.pointer (some ⟨r, 0, none⟩)] w fun e w' => ∃ r' g' cap', e = .returned (.pointer (some ⟨r', 0, none⟩)) ∧ RHas w0 w' r' g' cap' n l ∧ Upd (fun _ => False) w w' := by
  obtain ⟨bits, h1, h2⟩ := h
  refine (ref_Copy h1 hs).mono ?_
  rintro e w' ⟨r', g', cap', rfl, k1, k2⟩
  exact ⟨r', g', cap', rfl, ⟨bits, k1, h2⟩, k2⟩
theorem RHas.gt {w0 w : World} {r g cap : Nat} {n : Int} {l : List Ex} (h : RHas w0 w r g cap n l) : g < w.heap.size := by
  obtain ⟨bits, h1, h2⟩ := h
  obtain ⟨pad, hb⟩ := h1.row
  exact lt_of_heap hb
theorem RHas.box {w0 w w' : World} {r g cap : Nat} {n : Int} {l : List Ex} (h : RHas w0 w r g cap n l) (hu : Upd (fun i => i = g) w w') : ∀ (i : Nat) (cs : Array Value) (t : TypeId) (fr : Nat × Nat), t ≠ 4 → w.heap[i]? = some (.cells cs t fr) → w'.heap[i]? = some (.cells cs t fr) := by
  obtain ⟨bits, h1, h2⟩ := h
  obtain ⟨pad, hb⟩ := h1.row
  intro i cs t fr ht hi
  refine hu.heap hi (fun e => ?_)
  subst e
  rw [hb] at hi
  simp only [Option.some.injEq, Obj.cells.injEq] at hi
  exact ht hi.2.1.symm

end Go.Proofs.Ytoblihckojnffaa
