/- A set of sectors: List, Copy (slices.Clone of spans). -/
import Derived.Test.YtieohjibccjliaaSp2
import Derived.Laws.CopyRow
set_option linter.unusedVariables false
set_option linter.unusedSimpArgs false
namespace Go.Proofs.Ytieohjibccjliaa
open Go.RowKit Go.Shelf

def exV (x : Ex) : List Value := [.int .i64 x.1, .int .i64 x.2]
def exs (l : List Ex) : List Value := l.flatMap exV
theorem exs_cons (x : Ex) (l : List Ex) : exs (x :: l) = exV x ++ exs l := by unfold exs; rw [List.flatMap_cons]
theorem exs_append (a b : List Ex) : exs (a ++ b) = exs a ++ exs b := by unfold exs; rw [List.flatMap_append]
theorem exs_len (l : List Ex) : (exs l).length = l.length * 2 := by
  induction l with
  | nil => rfl
  | cons x l ih => rw [exs_cons, List.length_append, ih, List.length_cons]; show 2 + _ = _; omega
theorem exs_get : ∀ (l : List Ex) (j : Nat) (x : Ex), l[j]? = some x → (exs l)[2 * j]? = some (.int .i64 x.1) ∧ (exs l)[2 * j + 1]? = some (.int .i64 x.2)
  | [], j, x, h => by cases h
  | y :: l, 0, x, h => by
    simp only [List.getElem?_cons_zero, Option.some.injEq] at h
    subst h
    exact ⟨rfl, rfl⟩
  | y :: l, j + 1, x, h => by
    rw [List.getElem?_cons_succ] at h
    have := exs_get l j x h
    rw [exs_cons]
    unfold exV
    rw [List.getElem?_append_right (by simp; omega), List.getElem?_append_right (by simp; omega)]
    rw [show 2 * (j + 1) - [Value.int IntKind.i64 y.1, Value.int IntKind.i64 y.2].length = 2 * j by simp; omega, show 2 * (j + 1) + 1 - [Value.int IntKind.i64 y.1, Value.int IntKind.i64 y.2].length = 2 * j + 1 by simp; omega]
    exact this
theorem exs_at (l : List Ex) (j : Nat) (u : Value) (h : (exs l)[j]? = some u) : ∃ x, l[j / 2]? = some x ∧ u = (if j % 2 = 0 then .int .i64 x.1 else .int .i64 x.2) := by
  have hj := (List.getElem?_eq_some_iff.1 h).1
  rw [exs_len] at hj
  have hl : j / 2 < l.length := by omega
  refine ⟨_, List.getElem?_eq_getElem hl, ?_⟩
  have hg := exs_get l (j / 2) _ (List.getElem?_eq_getElem hl)
  split
  · rw [show 2 * (j / 2) = j by omega, h] at hg; exact Option.some.inj hg.1
  · rw [show 2 * (j / 2) + 1 = j by omega, h] at hg; exact Option.some.inj hg.2
theorem exs_one (l : List Ex) : ∀ u ∈ exs l, u.oneCell' = true := by
  intro u hu
  obtain ⟨x, _, hx⟩ := List.mem_flatMap.1 hu
  unfold exV at hx
  simp only [List.mem_cons, List.not_mem_nil, or_false] at hx
  rcases hx with rfl | rfl <;> rfl
/-- The row's cells are the spans'. -/
theorem RowAt.cells {w : World} {v : Value} {row : Option Nat} {l : List Ex} (h : RowAt w v row l) {r off cap : Nat} (hv : v = .slice (some ⟨r, off, none⟩) l.length cap) : ∀ j u, (exs l)[j]? = some u → w.cell? ⟨r, off + j, none⟩ = some u := by
  intro j u hu
  obtain ⟨x, hx, rfl⟩ := exs_at l j u hu
  have hl := (List.getElem?_eq_some_iff.1 hx).1
  obtain ⟨r', off', cap', e1, e2, cA, cB, _⟩ := h.get (j / 2) hl
  rw [hv] at e2
  simp only [Value.slice.injEq, Option.some.injEq, Addr.mk.injEq] at e2
  obtain ⟨⟨rfl, rfl, _⟩, _, rfl⟩ := e2
  have hxe : l[j / 2] = x := (List.getElem?_eq_some_iff.1 hx).2
  rw [hxe] at cA cB
  split
  · rw [show off + 2 * (j / 2) = off + j by omega] at cA; exact cA
  · rw [show off + 2 * (j / 2) + 1 = off + j by omega] at cB; exact cB
theorem RowAt.of_owns {w : World} {B : Nat} {v : Value} {l : List Ex} (h : w.ownsRow B 99 2 v l.length (exs l)) : RowAt w v v.ownBlock l ∧ ∀ r, v.ownBlock = some r → B ≤ r := by
  rcases h.2 with ⟨rfl, hn⟩ | ⟨g, cap, cur, rfl, hge, hg, hncp, hcpm, hsz, htake⟩
  · exact ⟨.inl ⟨rfl, rfl, List.eq_nil_of_length_eq_zero hn⟩, fun r e => by cases e⟩
  · refine ⟨.inr ⟨g, 0, cap, cur, rfl, rfl, hg, by omega, hncp, hcpm, fun j x hj => ?_⟩, fun r e => by simp [Value.ownBlock] at e; omega⟩
    have hl := (List.getElem?_eq_some_iff.1 hj).1
    obtain ⟨g1, g2⟩ := exs_get l j x hj
    rw [← htake, List.getElem?_take] at g1 g2
    rw [if_pos (by omega)] at g1 g2
    rw [Nat.zero_add]
    exact ⟨by simpa using g1, by simpa using g2⟩
theorem Try.infoEx : (Try.prog.info? 99).map (fun i => (i.zero, i.size, i.bytes)) = some (some (.agg #[.int .i64 0, .int .i64 0]), 2, 16) := by kernel_rfl
theorem wpList_append_by {P : Program} {ops : Array Oper} {rest : List Oper} {o : Oper} {a : Act} {w w' : World} {Q : Exit → Act → World → Prop} (hgd : o.guard = none) (s x : Operand) (t : TypeId)
    (ho : o.op = .call { callee := .builtin .append, args := #[s, x], argTypes := #[t, t] }) (vs vx v' : Value) (hs : a.eval s = vs) (hx : a.eval x = vx) (hrun : (Builtin.append_ #[t, t] o.type #[vs, vx]).run P w = .ok v' w')
    (h : wpList P ops Q rest (a.put o.dst v') w') : wpList P ops Q (o :: rest) a w :=
  wpList_plain hgd fun _ hK => by
    unfold Oper.wp execOp
    simp only [ho, resolve, invoke, builtin, Sem.run_bind, Sem.run_pure, Result.andThen_ok, List.map_toArray, List.map_cons, List.map_nil, hs, hx, hrun]
    exact hK _ _ h
theorem eql_slice_nil {P : Program} (w : World) {t e : TypeId} (a : Option Addr) (n c : Nat) (ht : P.underlying t = some (.slice e)) : (binOp .eql t (.slice a n c) (.slice none 0 0)).run P w = .ok (.bool a.isNone) w := by
  have h : ∀ d : Nat, (Op.equalIn (d + 1) t (.slice a n c) (.slice none 0 0)).run P w = .ok a.isNone w := fun d => by
    cases a <;> simp [Op.equalIn, run_underlying ht]
  simp only [binOp]
  simp [Op.equal, Op.maxDepth, h 9999]
end Go.Proofs.Ytieohjibccjliaa
