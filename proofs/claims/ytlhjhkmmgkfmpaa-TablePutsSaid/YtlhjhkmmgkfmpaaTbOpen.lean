/- A table by value, opened: a number and two rows. -/
import Derived.Test.YtlhjhkmmgkfmpaaPxPut
import Derived.Deep.Slices
import Derived.Deep.Fields
import Derived.ChangeSlices
import Derived.OpenShut
import Derived.Lib.SmallJoins
set_option linter.unusedVariables false
set_option linter.unusedSimpArgs false
namespace Go.Proofs.Ytlhjhkmmgkfmpaa.Px
open Go.RowKit Go.Shelf Go.Proofs.YtlhjhkmmgkfmpaaW.PrintWords Go.Proofs.YtlhjhkmmgkfmpaaW.PrintLast

section
variable {H : Type} {enc : TypeId × Value → H} {W : World} {base : Nat} {spare : Nat → Bool} {held : Bool}
theorem choose_list {α : Type} (n : Nat) (Q : Nat → α → Prop) (h : ∀ i, i < n → ∃ a, Q i a) : ∃ l : List α, l.length = n ∧ ∀ i a, l[i]? = some a → Q i a := by
  induction n with
  | zero => exact ⟨[], rfl, fun i a h => by cases h⟩
  | succ n ih =>
    obtain ⟨l, hl, hq⟩ := ih (fun i hi => h i (by omega))
    obtain ⟨a, ha⟩ := h n (by omega)
    refine ⟨l ++ [a], by simp [hl], fun i b hb => ?_⟩
    by_cases hi : i < n
    · rw [List.getElem?_append_left (by omega)] at hb; exact hq i b hb
    · rw [List.getElem?_append_right (by omega)] at hb
      have hi2 : i = n := by
        have := (List.getElem?_eq_some_iff.1 hb).1
        simp at this; omega
      subst hi2
      rw [hl, Nat.sub_self, List.getElem?_cons_zero, Option.some.injEq] at hb
      subst hb; exact ha
theorem open_snaps {fuel : Nat} {v : Value} {x : DataW H × List MemPlace} (h : DataW.trod enc Try.prog W base spare held fuel 23 [v] = some x) :
    ∃ (ad : Option Addr) (cp : Nat) (l : List S53), v = .slice ad l.length cp ∧ l.length ≤ cp ∧ Kd.C k53 W ad l.length l ∧ ∀ y ∈ l, in64 y.f2 ∧ in64 y.f3 := by
  rcases Go.Deep.open_slice Try.underlying23 h with ⟨e, _⟩ | ⟨a, len, cap, m, n, D, Pl, e, hb, hl, hm, hmm, _, hi⟩
  · simp only [List.cons.injEq, and_true] at e
    exact ⟨none, 0, [], e, Nat.le_refl _, Kd.C_nil _ _, fun y hy => by cases hy⟩
  · simp only [List.cons.injEq, and_true] at e
    have hlm : len ≤ m := by rw [hmm]; split <;> omega
    obtain ⟨l, hll, hq⟩ := choose_list len (fun i (c : S53) => (in64 c.f2 ∧ in64 c.f3) ∧ ∀ j u, [Value.string c.f0, .int .i64 c.f1, .int .u64 c.f2, .int .u64 c.f3][j]? = some u → W.cell? (a.add (i * 4 + j)) = some u) (fun i hil => by
      obtain ⟨cs, hcs, ht⟩ := hi i (by omega)
      rw [show Try.prog.cellsOf 53 = 4 by kernel_rfl] at hcs
      obtain ⟨_, hcl, hat⟩ := World.cells?_some hcs
      obtain ⟨c0, c1, c2, c3, rfl⟩ : ∃ c0 c1 c2 c3, cs = [c0, c1, c2, c3] := by
        match cs, hcl with
        | [c0, c1, c2, c3], _ => exact ⟨_, _, _, _, rfl⟩
      obtain ⟨xs, k, _, _, _, hxl, hf⟩ := DataW.trod_struct Try.underlying53 ht
      obtain ⟨y0, y1, y2, y3, rfl⟩ : ∃ y0 y1 y2 y3, xs = [y0, y1, y2, y3] := by
        match xs, hxl with
        | [y0, y1, y2, y3], _ => exact ⟨_, _, _, _, rfl⟩
      have f0 := hf 0 _ rfl
      have f1 := hf 1 _ rfl
      have f2 := hf 2 _ rfl
      have f3 := hf 3 _ rfl
      rw [show Try.prog.cellsOf _ = 1 by kernel_rfl] at f0 f1 f2 f3
      change DataW.trod enc Try.prog W base spare held _ 9 [c0] = some y0 at f0
      change DataW.trod enc Try.prog W base spare held _ 3 [c1] = some y1 at f1
      change DataW.trod enc Try.prog W base spare held _ 22 [c2] = some y2 at f2
      change DataW.trod enc Try.prog W base spare held _ 22 [c3] = some y3 at f3
      obtain ⟨s0, e0, _, w0⟩ := DataW.trod_string Try.underlying9 f0
      obtain ⟨n1, e1, _, w1⟩ := DataW.trod_int Try.underlying3 f1
      obtain ⟨n2, e2, _, w2⟩ := DataW.trod_int Try.underlying22 f2
      obtain ⟨n3, e3, _, w3⟩ := DataW.trod_int Try.underlying22 f3
      simp only [List.cons.injEq, and_true] at e0 e1 e2 e3
      subst e0 e1 e2 e3
      have b2 := bounds_u64 w2
      have b3 := bounds_u64 w3
      refine ⟨⟨s0, n1, n2, n3⟩, ⟨⟨b2.1, by have := b2.2; show n2 < _; omega⟩, ⟨b3.1, by have := b3.2; show n3 < _; omega⟩⟩, fun j u hj => ?_⟩
      have hj4 : j < 4 := (List.getElem?_eq_some_iff.1 hj).1
      rw [← Go.Deep.add_add, hat j hj4]
      exact hj)
    refine ⟨some a, cap, l, by rw [hll]; exact e, by omega, ⟨rfl, by unfold maxLen at hm; omega, fun _ => ⟨a, rfl, fun j p hp => ?_⟩⟩, fun y hy => ?_⟩
    · exact ⟨_, rfl, k53_mk W p, (hq j p hp).2⟩
    · obtain ⟨i, hi2, rfl⟩ := List.getElem_of_mem hy
      exact (hq i _ (List.getElem?_eq_getElem hi2)).1
theorem open_refs {fuel : Nat} {v : Value} {x : DataW H × List MemPlace} (h : DataW.trod enc Try.prog W base spare held fuel 24 [v] = some x) :
    ∃ (ad : Option Addr) (cp : Nat) (l : List S65), v = .slice ad l.length cp ∧ l.length ≤ cp ∧ Kd.C k65 W ad l.length l := by
  rcases Go.Deep.open_slice Try.underlying24 h with ⟨e, _⟩ | ⟨a, len, cap, m, n, D, Pl, e, hb, hl, hm, hmm, _, hi⟩
  · simp only [List.cons.injEq, and_true] at e
    exact ⟨none, 0, [], e, Nat.le_refl _, Kd.C_nil _ _⟩
  · simp only [List.cons.injEq, and_true] at e
    have hlm : len ≤ m := by rw [hmm]; split <;> omega
    obtain ⟨l, hll, hq⟩ := choose_list len (fun i (c : S65) => ∀ j u, [Value.int .i64 c.f0, .int .i64 c.f1][j]? = some u → W.cell? (a.add (i * 2 + j)) = some u) (fun i hil => by
      obtain ⟨cs, hcs, ht⟩ := hi i (by omega)
      rw [show Try.prog.cellsOf 65 = 2 by kernel_rfl] at hcs
      obtain ⟨_, hcl, hat⟩ := World.cells?_some hcs
      obtain ⟨c0, c1, rfl⟩ : ∃ c0 c1, cs = [c0, c1] := by
        match cs, hcl with
        | [c0, c1], _ => exact ⟨_, _, rfl⟩
      obtain ⟨xs, k, _, _, _, hxl, hf⟩ := DataW.trod_struct Try.underlying65 ht
      obtain ⟨y0, y1, rfl⟩ : ∃ y0 y1, xs = [y0, y1] := by
        match xs, hxl with
        | [y0, y1], _ => exact ⟨_, _, rfl⟩
      have f0 := hf 0 _ rfl
      have f1 := hf 1 _ rfl
      rw [show Try.prog.cellsOf _ = 1 by kernel_rfl] at f0 f1
      change DataW.trod enc Try.prog W base spare held _ 3 [c0] = some y0 at f0
      change DataW.trod enc Try.prog W base spare held _ 3 [c1] = some y1 at f1
      obtain ⟨n0, e0, _, w0⟩ := DataW.trod_int Try.underlying3 f0
      obtain ⟨n1, e1, _, w1⟩ := DataW.trod_int Try.underlying3 f1
      simp only [List.cons.injEq, and_true] at e0 e1
      subst e0 e1
      refine ⟨⟨n0, n1⟩, fun j u hj => ?_⟩
      have hj2 : j < 2 := (List.getElem?_eq_some_iff.1 hj).1
      rw [← Go.Deep.add_add, hat j hj2]
      exact hj)
    refine ⟨some a, cap, l, by rw [hll]; exact e, by omega, ⟨rfl, by unfold maxLen at hm; omega, fun _ => ⟨a, rfl, fun j p hp => ?_⟩⟩⟩
    exact ⟨_, rfl, k65_mk W p, hq j p hp⟩
set_option maxRecDepth 100000 in
theorem open_table {r : Reach} {b0 : Nat} {v : Value} {d : DataW H} {p : List MemPlace} (hv : Value.okWide Try.prog W r b0 26 v) (h : DataW.Trod enc Try.prog W base spare held 26 v d p) :
    ∃ (n : Int) (a1 : Option Addr) (c1 : Nat) (l1 : List S53) (a2 : Option Addr) (c2 : Nat) (l2 : List S65), v = .agg #[.int .u64 n, .slice a1 l1.length c1, .slice a2 l2.length c2] ∧ l1.length ≤ c1 ∧ Kd.C k53 W a1 l1.length l1 ∧ l2.length ≤ c2 ∧ Kd.C k65 W a2 l2.length l2 ∧ okNums n l1 := by
  obtain ⟨v0, v1, v2, y0, y1, y2, m, rfl, _, _, h0, h1, h2⟩ := Go.Joins.open_agg3 Try.underlying26 (by kernel_rfl) (show Try.prog.cellsOf 26 = 3 by kernel_rfl) hv h
  change DataW.trod enc Try.prog W base spare held _ 22 [v0] = some y0 at h0
  change DataW.trod enc Try.prog W base spare held _ 23 [v1] = some y1 at h1
  change DataW.trod enc Try.prog W base spare held _ 24 [v2] = some y2 at h2
  obtain ⟨n0, e0, _, w0⟩ := DataW.trod_int Try.underlying22 h0
  obtain ⟨a1, c1, l1, rfl, k1, m1, q1⟩ := open_snaps h1
  obtain ⟨a2, c2, l2, rfl, k2, m2⟩ := open_refs h2
  simp only [List.cons.injEq, and_true] at e0
  subst e0
  have b0 := bounds_u64 w0
  exact ⟨n0, a1, c1, l1, a2, c2, l2, rfl, k1, m1, k2, m2, ⟨b0.1, by have := b0.2; omega⟩, q1⟩
end

end Go.Proofs.Ytlhjhkmmgkfmpaa.Px
