/- A set of sectors in memory: its cells and its spans' row; is, Compare, find. -/
import Derived.Test.YtieohjibccjliaaProg
import Derived.Test.YtieohjibccjliaaBase
import Derived.Deep.LoopGhost
set_option linter.unusedVariables false
set_option linter.unusedSimpArgs false
namespace Go.Proofs.Ytieohjibccjliaa
open Go.RowKit

abbrev Ex := Int × Int
/-- The spans' row: nil, or in a block, with room behind. -/
def RowAt (w : World) (v : Value) (row : Option Nat) (l : List Ex) : Prop :=
  (v = .slice none 0 0 ∧ row = none ∧ l = []) ∨
  ∃ r off cap cur, row = some r ∧ v = .slice (some ⟨r, off, none⟩) l.length cap ∧ w.heap[r]? = some (.cells cur 99 (0, 0)) ∧ off + 2 * cap ≤ cur.size ∧ l.length ≤ cap ∧ cap ≤ maxLen ∧
    ∀ j x, l[j]? = some x → cur[off + 2 * j]? = some (.int .i64 x.1) ∧ cur[off + 2 * j + 1]? = some (.int .i64 x.2)
/-- A set at a block. -/
structure SpAt (w : World) (b : Nat) (row : Option Nat) (n : Int) (v : Value) (l : List Ex) : Prop where
  set : w.heap[b]? = some (.cells #[.int .i64 n, v] 95 (0, 0))
  row : RowAt w v row l

theorem RowAt.upd {F : Nat → Prop} {w w' : World} {v : Value} {row : Option Nat} {l : List Ex} (h : RowAt w v row l) (hu : Upd F w w') (hr : ∀ r, row = some r → ¬ F r) : RowAt w' v row l := by
  rcases h with h | ⟨r, off, cap, cur, h1, h2, h3, h4⟩
  · exact .inl h
  · exact .inr ⟨r, off, cap, cur, h1, h2, hu.heap h3 (hr r h1), h4⟩
theorem SpAt.upd {F : Nat → Prop} {w w' : World} {b : Nat} {row : Option Nat} {n : Int} {v : Value} {l : List Ex} (h : SpAt w b row n v l) (hu : Upd F w w') (hb : ¬ F b) (hr : ∀ r, row = some r → ¬ F r) : SpAt w' b row n v l :=
  ⟨hu.heap h.set hb, h.row.upd hu hr⟩
theorem RowAt.ne {w : World} {v : Value} {row : Option Nat} {l : List Ex} (h : RowAt w v row l) {b : Nat} {cs : Array Value} {t : TypeId} {fr : Nat × Nat} (hb : w.heap[b]? = some (.cells cs t fr)) (ht : t ≠ 99) : row ≠ some b := by
  intro e
  rcases h with ⟨_, h, _⟩ | ⟨r, off, cap, cur, h1, h2, h3, h4⟩
  · rw [h] at e; cases e
  · rw [h1] at e; cases e
    rw [hb] at h3
    simp only [Option.some.injEq, Obj.cells.injEq] at h3
    exact ht h3.2.1
theorem RowAt.lt {w : World} {v : Value} {row : Option Nat} {l : List Ex} (h : RowAt w v row l) : ∀ r, row = some r → r < w.heap.size := by
  intro r e
  rcases h with ⟨_, h, _⟩ | ⟨r', off, cap, cur, h1, h2, h3, h4⟩
  · rw [h] at e; cases e
  · rw [h1] at e; cases e; exact lt_of_heap h3
theorem RowAt.form {w : World} {v : Value} {row : Option Nat} {l : List Ex} (h : RowAt w v row l) : ∃ ad cap, v = .slice ad l.length cap ∧ l.length ≤ cap ∧ cap ≤ maxLen ∧ (ad = none → l = [] ∧ cap = 0) := by
  rcases h with ⟨rfl, _, rfl⟩ | ⟨r, off, cap, cur, h1, rfl, h3, h4, h5, h6, h7⟩
  · exact ⟨none, 0, rfl, Nat.le_refl _, Nat.zero_le _, fun _ => ⟨rfl, rfl⟩⟩
  · exact ⟨_, cap, rfl, h5, h6, fun e => by cases e⟩
/-- The cells of one span. -/
theorem RowAt.get {w : World} {v : Value} {row : Option Nat} {l : List Ex} (h : RowAt w v row l) (j : Nat) (hj : j < l.length) :
    ∃ r off cap, row = some r ∧ v = .slice (some ⟨r, off, none⟩) l.length cap ∧ w.cell? ⟨r, off + 2 * j, none⟩ = some (.int .i64 l[j].1) ∧ w.cell? ⟨r, off + 2 * j + 1, none⟩ = some (.int .i64 l[j].2) ∧ (∀ i, w.frozen? ⟨r, i, none⟩ = false) := by
  rcases h with ⟨_, _, rfl⟩ | ⟨r, off, cap, cur, h1, rfl, h3, h4, h5, h6, h7⟩
  · cases hj
  · have := h7 j l[j] (List.getElem?_eq_getElem hj)
    exact ⟨r, off, cap, h1, rfl, cell_heap h3 _ _ this.1, cell_heap h3 _ _ this.2, fun i => free_heap h3 i⟩

theorem sp_is {w : World} {b : Nat} {row : Option Nat} {n : Int} {v : Value} {l : List Ex} (h : SpAt w b row n v l) :
    Calls Try.prog 52 #[.pointer (some ⟨b, 0, none⟩)] w fun e w' => e = .returned (.bool (decide (0 < n))) ∧ w = w' := by
  have c0 := cell_heap h.set 0 _ rfl
  clear h
  go_enter Try.func52, Try.ntmps52
  go_wp2
  go_ret
  exact ⟨rfl, rfl⟩
theorem nosp_is (w : World) : Calls Try.prog 52 #[.pointer none] w fun e w' => e = .returned (.bool false) ∧ w = w' := by
  go_enter Try.func52, Try.ntmps52
  go_wp2
  go_ret
  exact ⟨rfl, rfl⟩
theorem isNaN_int (w : World) (x : Int) : Calls Try.prog 71 #[.int .i64 x] w fun e w' => e = .returned (.bool false) ∧ w = w' := by
  go_enter Try.func71, Try.ntmps71
  go_wp2
  go_ret
  exact ⟨by simp, rfl⟩
/-- cmp.Compare. -/
def cmpI (x y : Int) : Int := if x < y then -1 else if y < x then 1 else 0
theorem cmp_int (w : World) (x y : Int) : Calls Try.prog 66 #[.int .i64 x, .int .i64 y] w fun e w' => e = .returned (.int .i64 (cmpI x y)) ∧ w = w' := by
  have H1 := Lib.hid (isNaN_int w)
  by_cases h1 : x < y
  · rw [show cmpI x y = -1 by unfold cmpI; rw [if_pos h1]]
    go_enter Try.func66, Try.ntmps66
    go_wp2_with (go_at_call 71; refine (H1.out _).mono ?_; rintro e w' ⟨rfl, rfl⟩)
    go_ret
    exact ⟨rfl, rfl⟩
  · by_cases h2 : y < x
    · rw [show cmpI x y = 1 by unfold cmpI; rw [if_neg h1, if_pos h2]]
      go_enter Try.func66, Try.ntmps66
      go_wp2_with (go_at_call 71; refine (H1.out _).mono ?_; rintro e w' ⟨rfl, rfl⟩)
      go_ret
      exact ⟨rfl, rfl⟩
    · rw [show cmpI x y = 0 by unfold cmpI; rw [if_neg h1, if_neg h2]]
      go_enter Try.func66, Try.ntmps66
      go_wp2_with (go_at_call 71; refine (H1.out _).mono ?_; rintro e w' ⟨rfl, rfl⟩)
      go_ret
      exact ⟨rfl, rfl⟩
/-- find's comparison. -/
theorem find_f (w : World) (x : Ex) (at_ : Int) (h1 : 0 ≤ x.1 + x.2 ∧ x.1 + x.2 ≤ 4096) (h2 : 0 ≤ at_ ∧ at_ ≤ 4096) :
    Calls Try.prog 65 #[.agg #[.int .i64 x.1, .int .i64 x.2], .int .i64 at_] w fun e w' => e = .returned (.int .i64 (cmpI (x.1 + x.2) (at_ + 1))) ∧ Upd (fun _ => False) w w' := by
  obtain ⟨a, n⟩ := x
  dsimp only at *
  have e1 : IntKind.i64.wrap (a + n) = a + n := IntWalk.i64_in _ (by omega)
  have e2 : IntKind.i64.wrap (at_ + 1) = at_ + 1 := IntWalk.i64_in _ (by omega)
  have H := fun w => Lib.hid (cmp_int w (a + n) (at_ + 1))
  go_enter Try.func65, Try.ntmps65
  go_wp2_with (go_at_call 66; refine (H _).out.mono ?_; rintro e w' ⟨rfl, rfl⟩)
  go_ret
  exact ⟨rfl, by repeat (first | exact Upd.refl _ _ | refine Upd.alloc ?_ _ | refine Upd.drew ?_ | refine Upd.trans ?_ (by assumption) (fun _ _ f => f))⟩

end Go.Proofs.Ytieohjibccjliaa
