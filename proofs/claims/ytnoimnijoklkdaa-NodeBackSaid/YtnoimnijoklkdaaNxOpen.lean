/- A node by value, opened: a bool and four rows. -/
import Derived.Test.YtnoimnijoklkdaaPx0
import Derived.Deep.Slices
import Derived.Deep.Fields
import Derived.ChangeSlices
import Derived.OpenShut
import Derived.Lib.SmallJoins
set_option linter.unusedVariables false
set_option linter.unusedSimpArgs false
namespace Go.Proofs.Ytnoimnijoklkdaa.Px
open Go.RowKit Go.Proofs.YtnoimnijoklkdaaW.PrintWords Go.Proofs.YtnoimnijoklkdaaW.PrintLast

section
variable {H : Type} {enc : TypeId × Value → H} {W : World} {base : Nat} {spare : Nat → Bool} {held : Bool}
theorem choose_list {α : Type} (n : Nat) (Q : Nat → α → Prop) (h : ∀ i, i < n → ∃ a, Q i a) : ∃ l : List α, l.length = n ∧ ∀ i a, l[i]? = some a → Q i a := by
  induction n with
  | zero => exact ⟨[], rfl, fun i a h => by cases h⟩
  | succ n ih =>
    obtain ⟨l, hl, hq⟩ := ih (fun i hi => h i (by omega))
    obtain ⟨a, ha⟩ := h n (by omega)
    refine ⟨l ++ [a], by simp [hl], fun i b hb => ?_⟩
    by_cases hi : i < n
    · rw [List.getElem?_append_left (by omega)] at hb; exact hq i b hb
    · rw [List.getElem?_append_right (by omega)] at hb
      have hi2 : i = n := by
        have := (List.getElem?_eq_some_iff.1 hb).1
        simp at this; omega
      subst hi2
      rw [hl, Nat.sub_self, List.getElem?_cons_zero, Option.some.injEq] at hb
      subst hb; exact ha
theorem open_msgs {fuel : Nat} {v : Value} {x : DataW H × List MemPlace} (h : DataW.trod enc Try.prog W base spare held fuel 26 [v] = some x) :
    ∃ (ad : Option Addr) (cp : Nat) (l : List S59), v = .slice ad l.length cp ∧ l.length ≤ cp ∧ Kd.C k59 W ad l.length l := by
  rcases Go.Deep.open_slice Try.underlying26 h with ⟨e, _⟩ | ⟨a, len, cap, m, n, D, Pl, e, hb, hl, hm, hmm, _, hi⟩
  · simp only [List.cons.injEq, and_true] at e
    exact ⟨none, 0, [], e, Nat.le_refl _, Kd.C_nil _ _⟩
  · simp only [List.cons.injEq, and_true] at e
    have hlm : len ≤ m := by rw [hmm]; split <;> omega
    obtain ⟨l, hll, hq⟩ := choose_list len (fun i (c : S59) => ∀ j u, [Value.int .i64 c.f0, .string c.f1, .string c.f2, .string c.f3][j]? = some u → W.cell? (a.add (i * 4 + j)) = some u) (fun i hil => by
      obtain ⟨cs, hcs, ht⟩ := hi i (by omega)
      rw [show Try.prog.cellsOf 59 = 4 by kernel_rfl] at hcs
      obtain ⟨_, hcl, hat⟩ := World.cells?_some hcs
      obtain ⟨c0, c1, c2, c3, rfl⟩ : ∃ c0 c1 c2 c3, cs = [c0, c1, c2, c3] := by
        match cs, hcl with
        | [c0, c1, c2, c3], _ => exact ⟨_, _, _, _, rfl⟩
      obtain ⟨xs, k, _, _, _, hxl, hf⟩ := DataW.trod_struct Try.underlying59 ht
      obtain ⟨y0, y1, y2, y3, rfl⟩ : ∃ y0 y1 y2 y3, xs = [y0, y1, y2, y3] := by
        match xs, hxl with
        | [y0, y1, y2, y3], _ => exact ⟨_, _, _, _, rfl⟩
      have f0 := hf 0 _ rfl
      have f1 := hf 1 _ rfl
      have f2 := hf 2 _ rfl
      have f3 := hf 3 _ rfl
      rw [show Try.prog.cellsOf _ = 1 by kernel_rfl] at f0 f1 f2 f3
      change DataW.trod enc Try.prog W base spare held _ 3 [c0] = some y0 at f0
      change DataW.trod enc Try.prog W base spare held _ 9 [c1] = some y1 at f1
      change DataW.trod enc Try.prog W base spare held _ 9 [c2] = some y2 at f2
      change DataW.trod enc Try.prog W base spare held _ 9 [c3] = some y3 at f3
      obtain ⟨n0, e0, _, w0⟩ := DataW.trod_int Try.underlying3 f0
      obtain ⟨s1, e1, _, w1⟩ := DataW.trod_string Try.underlying9 f1
      obtain ⟨s2, e2, _, w2⟩ := DataW.trod_string Try.underlying9 f2
      obtain ⟨s3, e3, _, w3⟩ := DataW.trod_string Try.underlying9 f3
      simp only [List.cons.injEq, and_true] at e0 e1 e2 e3
      subst e0 e1 e2 e3
      refine ⟨⟨n0, s1, s2, s3⟩, fun j u hj => ?_⟩
      have hj4 : j < 4 := (List.getElem?_eq_some_iff.1 hj).1
      rw [← Go.Deep.add_add, hat j hj4]
      exact hj)
    refine ⟨some a, cap, l, by rw [hll]; exact e, by omega, ⟨rfl, by unfold maxLen at hm; omega, fun _ => ⟨a, rfl, fun j p hp => ?_⟩⟩⟩
    exact ⟨_, rfl, k59_mk W p, hq j p hp⟩
theorem open_entries {fuel : Nat} {v : Value} {x : DataW H × List MemPlace} (h : DataW.trod enc Try.prog W base spare held fuel 23 [v] = some x) :
    ∃ (ad : Option Addr) (cp : Nat) (l : List S75), v = .slice ad l.length cp ∧ l.length ≤ cp ∧ Kd.C k75 W ad l.length l := by
  rcases Go.Deep.open_slice Try.underlying23 h with ⟨e, _⟩ | ⟨a, len, cap, m, n, D, Pl, e, hb, hl, hm, hmm, _, hi⟩
  · simp only [List.cons.injEq, and_true] at e
    exact ⟨none, 0, [], e, Nat.le_refl _, Kd.C_nil _ _⟩
  · simp only [List.cons.injEq, and_true] at e
    have hlm : len ≤ m := by rw [hmm]; split <;> omega
    obtain ⟨l, hll, hq⟩ := choose_list len (fun i (c : S75) => ∀ j u, [Value.string c.f0, .string c.f1][j]? = some u → W.cell? (a.add (i * 2 + j)) = some u) (fun i hil => by
      obtain ⟨cs, hcs, ht⟩ := hi i (by omega)
      rw [show Try.prog.cellsOf 75 = 2 by kernel_rfl] at hcs
      obtain ⟨_, hcl, hat⟩ := World.cells?_some hcs
      obtain ⟨c0, c1, rfl⟩ : ∃ c0 c1, cs = [c0, c1] := by
        match cs, hcl with
        | [c0, c1], _ => exact ⟨_, _, rfl⟩
      obtain ⟨xs, k, _, _, _, hxl, hf⟩ := DataW.trod_struct Try.underlying75 ht
      obtain ⟨y0, y1, rfl⟩ : ∃ y0 y1, xs = [y0, y1] := by
        match xs, hxl with
        | [y0, y1], _ => exact ⟨_, _, rfl⟩
      have f0 := hf 0 _ rfl
      have f1 := hf 1 _ rfl
      rw [show Try.prog.cellsOf _ = 1 by kernel_rfl] at f0 f1
      change DataW.trod enc Try.prog W base spare held _ 9 [c0] = some y0 at f0
      change DataW.trod enc Try.prog W base spare held _ 9 [c1] = some y1 at f1
      obtain ⟨n0, e0, _, w0⟩ := DataW.trod_string Try.underlying9 f0
      obtain ⟨n1, e1, _, w1⟩ := DataW.trod_string Try.underlying9 f1
      simp only [List.cons.injEq, and_true] at e0 e1
      subst e0 e1
      refine ⟨⟨n0, n1⟩, fun j u hj => ?_⟩
      have hj2 : j < 2 := (List.getElem?_eq_some_iff.1 hj).1
      rw [← Go.Deep.add_add, hat j hj2]
      exact hj)
    refine ⟨some a, cap, l, by rw [hll]; exact e, by omega, ⟨rfl, by unfold maxLen at hm; omega, fun _ => ⟨a, rfl, fun j p hp => ?_⟩⟩⟩
    exact ⟨_, rfl, k75_mk W p, hq j p hp⟩
theorem open_strs {fuel : Nat} {v : Value} {x : DataW H × List MemPlace} (h : DataW.trod enc Try.prog W base spare held fuel 24 [v] = some x) :
    ∃ (ad : Option Addr) (cp : Nat) (l : List ByteArray), v = .slice ad l.length cp ∧ l.length ≤ cp ∧ Kd.C Kd.string W ad l.length l := by
  rcases Go.Deep.open_slice Try.underlying24 h with ⟨e, _⟩ | ⟨a, len, cap, m, n, D, Pl, e, hb, hl, hm, hmm, _, hi⟩
  · simp only [List.cons.injEq, and_true] at e
    exact ⟨none, 0, [], e, Nat.le_refl _, Kd.C_nil _ _⟩
  · simp only [List.cons.injEq, and_true] at e
    have hlm : len ≤ m := by rw [hmm]; split <;> omega
    obtain ⟨l, hll, hq⟩ := choose_list len (fun i (c : ByteArray) => ∀ j u, [Value.string c][j]? = some u → W.cell? (a.add (i * 1 + j)) = some u) (fun i hil => by
      obtain ⟨cs, hcs, ht⟩ := hi i (by omega)
      rw [show Try.prog.cellsOf 9 = 1 by kernel_rfl] at hcs
      obtain ⟨_, hcl, hat⟩ := World.cells?_some hcs
      obtain ⟨c0, rfl⟩ : ∃ c0, cs = [c0] := by
        match cs, hcl with
        | [c0], _ => exact ⟨_, rfl⟩
      obtain ⟨n0, e0, _, w0⟩ := DataW.trod_string Try.underlying9 ht
      simp only [List.cons.injEq, and_true] at e0
      subst e0
      refine ⟨n0, fun j u hj => ?_⟩
      have hj1 : j < 1 := (List.getElem?_eq_some_iff.1 hj).1
      rw [← Go.Deep.add_add, hat j hj1]
      exact hj)
    refine ⟨some a, cap, l, by rw [hll]; exact e, by omega, ⟨rfl, by unfold maxLen at hm; omega, fun _ => ⟨a, rfl, fun j p hp => ?_⟩⟩⟩
    exact ⟨[.string p], rfl, rfl, hq j p hp⟩
theorem open_kids {fuel : Nat} {v : Value} {x : DataW H × List MemPlace} (h : DataW.trod enc Try.prog W base spare held fuel 25 [v] = some x) :
    ∃ (ad : Option Addr) (cp : Nat) (l : List Int), v = .slice ad l.length cp ∧ l.length ≤ cp ∧ Kd.C (Kd.int .i64) W ad l.length l := by
  rcases Go.Deep.open_slice Try.underlying25 h with ⟨e, _⟩ | ⟨a, len, cap, m, n, D, Pl, e, hb, hl, hm, hmm, _, hi⟩
  · simp only [List.cons.injEq, and_true] at e
    exact ⟨none, 0, [], e, Nat.le_refl _, Kd.C_nil _ _⟩
  · simp only [List.cons.injEq, and_true] at e
    have hlm : len ≤ m := by rw [hmm]; split <;> omega
    obtain ⟨l, hll, hq⟩ := choose_list len (fun i (c : Int) => ∀ j u, [Value.int .i64 c][j]? = some u → W.cell? (a.add (i * 1 + j)) = some u) (fun i hil => by
      obtain ⟨cs, hcs, ht⟩ := hi i (by omega)
      rw [show Try.prog.cellsOf 3 = 1 by kernel_rfl] at hcs
      obtain ⟨_, hcl, hat⟩ := World.cells?_some hcs
      obtain ⟨c0, rfl⟩ : ∃ c0, cs = [c0] := by
        match cs, hcl with
        | [c0], _ => exact ⟨_, rfl⟩
      obtain ⟨n0, e0, _, w0⟩ := DataW.trod_int Try.underlying3 ht
      simp only [List.cons.injEq, and_true] at e0
      subst e0
      refine ⟨n0, fun j u hj => ?_⟩
      have hj1 : j < 1 := (List.getElem?_eq_some_iff.1 hj).1
      rw [← Go.Deep.add_add, hat j hj1]
      exact hj)
    refine ⟨some a, cap, l, by rw [hll]; exact e, by omega, ⟨rfl, by unfold maxLen at hm; omega, fun _ => ⟨a, rfl, fun j p hp => ?_⟩⟩⟩
    exact ⟨[.int .i64 p], rfl, rfl, hq j p hp⟩
theorem array5 {α : Type} {cs : Array α} (h : cs.size = 5) : ∃ c0 c1 c2 c3 c4, cs = #[c0, c1, c2, c3, c4] := by
  obtain ⟨l⟩ := cs
  match l, h with
  | [c0, c1, c2, c3, c4], _ => exact ⟨c0, c1, c2, c3, c4, rfl⟩
set_option maxRecDepth 100000 in
theorem open_node {r : Reach} {b0 : Nat} {v : Value} {d : DataW H} {p : List MemPlace} (hv : Value.okWide Try.prog W r b0 28 v) (h : DataW.Trod enc Try.prog W base spare held 28 v d p) :
    ∃ (lf : Bool) (a1 : Option Addr) (c1 : Nat) (l1 : List S75) (a2 : Option Addr) (c2 : Nat) (l2 : List ByteArray) (a3 : Option Addr) (c3 : Nat) (l3 : List Int) (a4 : Option Addr) (c4 : Nat) (l4 : List S59),
      v = .agg #[.bool lf, .slice a1 l1.length c1, .slice a2 l2.length c2, .slice a3 l3.length c3, .slice a4 l4.length c4] ∧ l1.length ≤ c1 ∧ Kd.C k75 W a1 l1.length l1 ∧ l2.length ≤ c2 ∧ Kd.C Kd.string W a2 l2.length l2 ∧
      l3.length ≤ c3 ∧ Kd.C (Kd.int .i64) W a3 l3.length l3 ∧ l4.length ≤ c4 ∧ Kd.C k59 W a4 l4.length l4 := by
  obtain ⟨cs, rfl, hsz⟩ := Go.WideShapes.okWide_struct Try.underlying28 hv
  obtain ⟨v0, v1, v2, v3, v4, rfl⟩ := array5 (hsz.trans (show Try.prog.cellsOf 28 = 5 by kernel_rfl))
  obtain ⟨fuel, hf0⟩ := h
  obtain ⟨xs, k, _, _, _, hxl, hf⟩ := DataW.trod_struct Try.underlying28 hf0
  obtain ⟨y0, y1, y2, y3, y4, rfl⟩ : ∃ y0 y1 y2 y3 y4, xs = [y0, y1, y2, y3, y4] := by
    match xs, hxl with
    | [y0, y1, y2, y3, y4], _ => exact ⟨_, _, _, _, _, rfl⟩
  have f0 := hf 0 _ rfl
  have f1 := hf 1 _ rfl
  have f2 := hf 2 _ rfl
  have f3 := hf 3 _ rfl
  have f4 := hf 4 _ rfl
  rw [show Try.prog.cellsOf _ = 1 by kernel_rfl] at f0 f1 f2 f3 f4
  change DataW.trod enc Try.prog W base spare held _ 4 [v0] = some y0 at f0
  change DataW.trod enc Try.prog W base spare held _ 23 [v1] = some y1 at f1
  change DataW.trod enc Try.prog W base spare held _ 24 [v2] = some y2 at f2
  change DataW.trod enc Try.prog W base spare held _ 25 [v3] = some y3 at f3
  change DataW.trod enc Try.prog W base spare held _ 26 [v4] = some y4 at f4
  obtain ⟨b, e0, _⟩ := DataW.trod_bool Try.underlying4 f0
  obtain ⟨a1, c1, l1, rfl, k1, m1⟩ := open_entries f1
  obtain ⟨a2, c2, l2, rfl, k2, m2⟩ := open_strs f2
  obtain ⟨a3, c3, l3, rfl, k3, m3⟩ := open_kids f3
  obtain ⟨a4, c4, l4, rfl, k4, m4⟩ := open_msgs f4
  simp only [List.cons.injEq, and_true] at e0
  subst e0
  exact ⟨b, a1, c1, l1, a2, c2, l2, a3, c3, l3, a4, c4, l4, rfl, k1, m1, k2, m2, k3, m3, k4, m4⟩
end
end Go.Proofs.Ytnoimnijoklkdaa.Px
