/- The law's helpers: same, given, works. -/
import Derived.Test.YtieohjibccjliaaSpJ
set_option linter.unusedVariables false
set_option linter.unusedSimpArgs false
namespace Go.Proofs.Ytieohjibccjliaa
open Go.RowKit Go.Shelf
set_option maxRecDepth 100000

/-- A row of pairs, to be read. -/
def PairsAt (w : World) (v : Value) (row : Option Nat) (xs : List Ex) : Prop :=
  ∃ ad cap, v = .slice ad xs.length cap ∧ xs.length ≤ cap ∧ cap ≤ maxLen ∧ ∀ j x, xs[j]? = some x → ∃ g off, row = some g ∧ ad = some ⟨g, off, none⟩ ∧ w.cell? ⟨g, off + j * 2, none⟩ = some (.int .i64 x.1) ∧ w.cell? ⟨g, off + j * 2 + 1, none⟩ = some (.int .i64 x.2)
theorem PairsAt.upd {F : Nat → Prop} {w w' : World} {v : Value} {row : Option Nat} {xs : List Ex} (h : PairsAt w v row xs) (hu : Upd F w w') (hr : ∀ g, row = some g → ¬ F g) : PairsAt w' v row xs := by
  obtain ⟨ad, cap, h1, h2, h3, h4⟩ := h
  refine ⟨ad, cap, h1, h2, h3, fun j x hj => ?_⟩
  obtain ⟨g, off, e1, e2, e3, e4⟩ := h4 j x hj
  exact ⟨g, off, e1, e2, hu.cell e3 (hr g e1), hu.cell e4 (hr g e1)⟩
theorem RowAt.pairs {w : World} {v : Value} {row : Option Nat} {l : List Ex} (h : RowAt w v row l) : PairsAt w v row l := by
  obtain ⟨ad, cap, e, h1, h2, _⟩ := h.form
  refine ⟨ad, cap, e, h1, h2, fun j x hj => ?_⟩
  have hl := (List.getElem?_eq_some_iff.1 hj).1
  have hx : l[j] = x := (List.getElem?_eq_some_iff.1 hj).2
  obtain ⟨r, off, cap', e1, e2, cA, cB, _⟩ := h.get j hl
  rw [e] at e2
  simp only [Value.slice.injEq] at e2
  rw [hx, Nat.mul_comm] at cA cB
  exact ⟨r, off, e1, e2.1, cA, cB⟩
/-- A set that was made since w0. -/
structure New0 (w0 w : World) (b : Nat) (n : Int) (l : List Ex) : Prop where
  upd : Upd (fun _ => False) w0 w
  low : w0.heap.size ≤ b
  at_ : ∃ v row, SpAt w b row n v l ∧ ∀ r, row = some r → w0.heap.size ≤ r
theorem New0.next {w0 w w' : World} {b : Nat} {n : Int} {l l' : List Ex} (h : New0 w0 w b n l) {P : Option Nat → Prop} {row : Option Nat} (hrow : ∀ r, row = some r → w0.heap.size ≤ r) (hp : SpP w b row n l' w') : New0 w0 w' b n l' := by
  obtain ⟨v', row', h1, h2, h3⟩ := hp
  refine ⟨h.upd.trans h3 (fun i hi e => ?_), h.low, v', row', h1, fun r e => ?_⟩
  · rcases e with e | e
    · have := h.low; omega
    · have := hrow i e; omega
  · rcases h2 r e with e2 | e2
    · exact hrow r e2
    · have := h.upd.size; omega
theorem New0.later {w0 w w' : World} {b : Nat} {n : Int} {l : List Ex} (h : New0 w0 w b n l) (hu : Upd (fun _ => False) w w') : New0 w0 w' b n l := by
  obtain ⟨v, row, h1, h2⟩ := h.at_
  exact ⟨h.upd.trans hu (fun _ _ f => f), h.low, v, row, h1.upd hu (fun f => f) (fun _ _ f => f), h2⟩
theorem new0 (w : World) (n : Int) (h : 1 ≤ n ∧ n ≤ 4096) : Calls Try.prog 31 #[.int .i64 n] w fun e w' => ∃ b, e = .returned (.pointer (some ⟨b, 0, none⟩)) ∧ New0 w w' b n [] :=
  (sp_New w n h).mono fun e w' ⟨b, h1, h2, h3, h4⟩ => ⟨b, h1, h4, h2, _, none, h3, fun r e => (by cases e)⟩
theorem new_fill {w0 w : World} {b : Nat} {n : Int} {l : List Ex} (h : New0 w0 w b n l) (hok : SpOk n l) (f t : Int) : Calls Try.prog 53 #[.pointer (some ⟨b, 0, none⟩), .int .i64 f, .int .i64 t] w fun e w' => e = .returned (.int .i64 (fillA n l f t).2) ∧ New0 w0 w' b n (fillA n l f t).1 := by
  obtain ⟨v, row, h1, h2⟩ := h.at_
  exact (sp_Fill h1 hok f t).mono fun e w' ⟨he, hp⟩ => ⟨he, h.next (P := fun _ => True) h2 hp⟩
theorem new_give {w0 w : World} {b : Nat} {n : Int} {l : List Ex} (h : New0 w0 w b n l) (hok : SpOk n l) (a : Int) : Calls Try.prog 32 #[.pointer (some ⟨b, 0, none⟩), .int .i64 a] w fun e w' => e = .returned (.int .i64 (giveA n l a).2) ∧ New0 w0 w' b n (giveA n l a).1 := by
  obtain ⟨v, row, h1, h2⟩ := h.at_
  exact (sp_Give h1 hok a).mono fun e w' ⟨he, hp⟩ => ⟨he, h.next (P := fun _ => True) h2 hp⟩
theorem new_take {w0 w : World} {b : Nat} {n : Int} {l : List Ex} (h : New0 w0 w b n l) (hok : SpOk n l) (k : Int) : Calls Try.prog 34 #[.pointer (some ⟨b, 0, none⟩), .int .i64 k] w fun e w' => ∃ v row, e = .returned (.tuple #[v, .int .i64 (takeA l k).2.1]) ∧ IntsAt w' v row (takeA l k).1 ∧ (∀ g, row = some g → w.heap.size ≤ g ∧ g ≠ b) ∧ New0 w0 w' b n (takeA l k).2.2 := by
  obtain ⟨v, row, h1, h2⟩ := h.at_
  refine (sp_Take h1 hok k).mono fun e w' ⟨vt, he, ho, hp⟩ => ?_
  obtain ⟨i1, i2⟩ := IntsAt.of_owns ho
  exact ⟨vt, _, he, i1, fun g e => ⟨i2 g e, by have := i2 g e; have := lt_of_heap h1.set; omega⟩, h.next (P := fun _ => True) h2 hp⟩
theorem new_count {w0 w : World} {b : Nat} {n : Int} {l : List Ex} (h : New0 w0 w b n l) (hok : SpOk n l) : Calls Try.prog 51 #[.pointer (some ⟨b, 0, none⟩)] w fun e w' => e = .returned (.int .i64 (cntE l)) ∧ Upd (fun _ => False) w w' := by
  obtain ⟨v, row, h1, h2⟩ := h.at_
  exact sp_Count h1 hok
theorem new_has {w0 w : World} {b : Nat} {n : Int} {l : List Ex} (h : New0 w0 w b n l) (hok : SpOk n l) (k : Int) : Calls Try.prog 39 #[.pointer (some ⟨b, 0, none⟩), .int .i64 k] w fun e w' => e = .returned (.bool (decide (0 ≤ k) && decide (k < n) && hasB l k)) ∧ Upd (fun _ => False) w w' := by
  obtain ⟨v, row, h1, h2⟩ := h.at_
  exact sp_Has h1 hok k
end Go.Proofs.Ytieohjibccjliaa
