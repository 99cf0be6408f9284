/- A set of sectors: List, Copy (slices.Clone of spans). -/
import Derived.Test.YtoblihckojnffaaSp2
import Derived.Laws.CopyRow
set_option linter.unusedVariables false
set_option linter.unusedSimpArgs false
namespace Go.Proofs.Ytoblihckojnffaa
open Go.RowKit Go.Shelf

def exV (x : Ex) : List Value := [.int .i64 x.1, .int .i64 x.2]
def exs (l : List Ex) : List Value := l.flatMap exV
theorem exs_cons (x : Ex) (l : List Ex) : exs (x :: l) = exV x ++ exs l := by unfold exs; rw [List.flatMap_cons]
theorem exs_append (a b : List Ex) : exs (a ++ b) = exs a ++ exs b := by unfold exs; rw [List.flatMap_append]
theorem exs_len (l : List Ex) : (exs l).length = l.length * 2 := by
  induction l with
  | nil => rfl
  | cons x l ih => rw [exs_cons, List.length_append, ih, List.length_cons]; show 2 + _ = _; omega
theorem exs_get : ∀ (l : List Ex) (j : Nat) (x : Ex), l[j]? = some x → (exs l)[2 * j]? = some (.int .i64 x.1) ∧ (exs l)[2 * j + 1]? = some (.int .i64 x.2)
  | [], j, x, h => by cases h
  | y :: l, 0, x, h => by
    simp only [List.getElem?_cons_zero, Option.some.injEq] at h
    subst h
    exact ⟨rfl, rfl⟩
  | y :: l, j + 1, x, h => by
    rw [List.getElem?_cons_succ] at h
    have := exs_get l j x h
    rw [exs_cons]
    unfold exV
    rw [List.getElem?_append_right (by simp; omega), List.getElem?_append_right (by simp; omega)]
    rw [show 2 * (j + 1) - [Value.int IntKind.i64 y.1, Value.int IntKind.i64 y.2].length = 2 * j by simp; omega, show 2 * (j + 1) + 1 - [Value.int IntKind.i64 y.1, Value.int IntKind.i64 y.2].length = 2 * j + 1 by simp; omega]
    exact this
theorem exs_at (l : List Ex) (j : Nat) (u : Value) (h : (exs l)[j]? = some u) : ∃ x, l[j / 2]? = some x ∧ u = (if j % 2 = 0 then .int .i64 x.1 else .int .i64 x.2) := by
  have hj := (List.getElem?_eq_some_iff.1 h).1
  rw [exs_len] at hj
  have hl : j / 2 < l.length := by omega
  refine ⟨_, List.getElem?_eq_getElem hl, ?_⟩
  have hg := exs_get l (j / 2) _ (List.getElem?_eq_getElem hl)
  split
  · rw [show 2 * (j / 2) = j by omega, h] at hg; exact Option.some.inj hg.1
  · rw [show 2 * (j / 2) + 1 = j by omega, h] at hg; exact Option.some.inj hg.2
theorem exs_one (l : List Ex) : ∀ u ∈ exs l, u.oneCell' = true := by
  intro u hu
  obtain ⟨x, _, hx⟩ := List.mem_flatMap.1 hu
  unfold exV at hx
  simp only [List.mem_cons, List.not_mem_nil, or_false] at hx
  rcases hx with rfl | rfl <;> rfl
/-- The row's cells are the spans'. -/
theorem RowAt.cells {w : World} {v : Value} {row : Option Nat} {l : List Ex} (h : RowAt w v row l) {r off cap : Nat} (hv : v = .slice (some ⟨r, off, none⟩) l.length cap) : ∀ j u, (exs l)[j]? = some u → w.cell? ⟨r, off + j, none⟩ = some u := by
  intro j u hu
  obtain ⟨x, hx, rfl⟩ := exs_at l j u hu
  have hl := (List.getElem?_eq_some_iff.1 hx).1
  obtain ⟨r', off', cap', e1, e2, cA, cB, _⟩ := h.get (j / 2) hl
  rw [hv] at e2
  simp only [Value.slice.injEq, Option.some.injEq, Addr.mk.injEq] at e2
  obtain ⟨⟨rfl, rfl, _⟩, _, rfl⟩ := e2
  have hxe : l[j / 2] = x := (List.getElem?_eq_some_iff.1 hx).2
  rw [hxe] at cA cB
  split
  · rw [show off + 2 * (j / 2) = off + j by omega] at cA; exact cA
  · rw [show off + 2 * (j / 2) + 1 = off + j by omega] at cB; exact cB
theorem RowAt.of_owns {w : World} {B : Nat} {v : Value} {l : List Ex} (h : w.ownsRow B 63 2 v l.length (exs l)) : RowAt w v v.ownBlock l ∧ ∀ r, v.ownBlock = some r → B ≤ r := by
  rcases h.2 with ⟨rfl, hn⟩ | ⟨g, cap, cur, rfl, hge, hg, hncp, hcpm, hsz, htake⟩
  · exact ⟨.inl ⟨rfl, rfl, List.eq_nil_of_length_eq_zero hn⟩, fun r e => by cases e⟩
  · refine ⟨.inr ⟨g, 0, cap, cur, rfl, rfl, hg, by omega, hncp, hcpm, fun j x hj => ?_⟩, fun r e => by simp [Value.ownBlock] at e; omega⟩
    have hl := (List.getElem?_eq_some_iff.1 hj).1
    obtain ⟨g1, g2⟩ := exs_get l j x hj
    rw [← htake, List.getElem?_take] at g1 g2
    rw [if_pos (by omega)] at g1 g2
    rw [Nat.zero_add]
    exact ⟨by simpa using g1, by simpa using g2⟩
theorem Try.infoEx : (Try.prog.info? 63).map (fun i => (i.zero, i.size, i.bytes)) = some (some (.agg #[.int .i64 0, .int .i64 0]), 2, 16) := by kernel_rfl
theorem wpList_append_by {P : Program} {ops : Array Oper} {rest : List Oper} {o : Oper} {a : Act} {w w' : World} {Q : Exit → Act → World → Prop} (hgd : o.guard = none) (s x : Operand) (t : TypeId)
    (ho : o.op = .call { callee := .builtin .append, args := #[s, x], argTypes := #[t, t] }) (vs vx v' : Value) (hs : a.eval s = vs) (hx : a.eval x = vx) (hrun : (Builtin.append_ #[t, t] o.type #[vs, vx]).run P w = .ok v' w')
    (h : wpList P ops Q rest (a.put o.dst v') w') : wpList P ops Q (o :: rest) a w :=
  wpList_plain hgd fun _ hK => by
    unfold Oper.wp execOp
    simp only [ho, resolve, invoke, builtin, Sem.run_bind, Sem.run_pure, Result.andThen_ok, List.map_toArray, List.map_cons, List.map_nil, hs, hx, hrun]
    exact hK _ _ h
theorem eql_slice_nil {P : Program} (w : World) {t e : TypeId} (a : Option Addr) (n c : Nat) (ht : P.underlying t = some (.slice e)) : (binOp .eql t (.slice a n c) (.slice none 0 0)).run P w = .ok (.bool a.isNone) w := by
  have h : ∀ d : Nat, (Op.equalIn (d + 1) t (.slice a n c) (.slice none 0 0)).run P w = .ok a.isNone w := fun d => by
    cases a <;> simp [Op.equalIn, run_underlying ht]
  simp only [binOp]
  simp [Op.equal, Op.maxDepth, h 9999]
theorem clone_none (w : World) : Calls Try.prog 31 #[.slice none 0 0] w fun e w' => e = .returned (.slice none 0 0) ∧ w = w' := by
  have hq := fun w : World => eql_slice_nil (P := Try.prog) w none 0 0 Try.underlying35
  simp only [Option.isNone_none] at hq
  go_enter Try.func31, Try.ntmps31
  go_wp2
  go_ret
  exact ⟨rfl, rfl⟩
set_option maxRecDepth 100000 in
theorem clone_some {w : World} {r off cap : Nat} {l : List Ex} (h : RowAt w (.slice (some ⟨r, off, none⟩) l.length cap) (some r) l) (hl : l.length ≤ 4096) :
    Calls Try.prog 31 #[.slice (some ⟨r, off, none⟩) l.length cap] w fun e w' =>
      ∃ v', e = .returned v' ∧ RowAt w' v' v'.ownBlock l ∧ (∀ r, v'.ownBlock = some r → w.heap.size ≤ r) ∧ Upd (fun _ => False) w w' := by
  have hq := fun w : World => eql_slice_nil (P := Try.prog) w (some (⟨r, off, none⟩ : Addr)) l.length cap Try.underlying35
  simp only [Option.isNone_some] at hq
  obtain ⟨i0, hi, hq0, hq1, hq2⟩ := info_parts Try.infoEx
  have u1 : Upd (fun _ => False) w (w.alloc (.cells #[] 63)) := (Upd.refl _ w).alloc _
  have hb1 := h.upd u1 (fun _ _ f => f)
  have hown : (w.alloc (.cells #[] 63)).ownsRow w.heap.size 63 2 (.slice (some ⟨w.heap.size, 0, none⟩) 0 0) 0 [] :=
    ⟨rfl, Or.inr ⟨w.heap.size, 0, #[], rfl, Nat.le_refl _, heap_alloc_new _ _, Nat.le_refl _, Nat.zero_le _, rfl, rfl⟩⟩
  have happ := fun ty => run_append_own_at (P := Try.prog) (w.alloc (.cells #[] 63)) w.heap.size 35 ty 63 i0 (.agg #[.int .i64 0, .int .i64 0]) 2 16 Try.underlying35 hi hq0 hq1 hq2 (by kernel_rfl) (by omega)
    (.slice (some ⟨w.heap.size, 0, none⟩) 0 0) 0 [] hown ⟨r, off, none⟩ l.length cap (exs l) (exs_len l)
    (fun j u hj => by
      have hadd : (⟨r, off, none⟩ : Addr).add j = ⟨r, off + j, none⟩ := by unfold Addr.add; split <;> simp_all
      rw [hadd]
      exact hb1.cells rfl j u hj) (exs_one l) (by unfold maxLen; omega) (by omega) u1.size
  have HA := Lib.hid happ
  clear happ hown hb1 h
  go_enter Try.func31, Try.ntmps31
  go_wp2_with (at_builtin; obtain ⟨v', w', hrun, hown', hgr, _, hblk⟩ := HA.out _; refine wpList_append_by rfl (.tmp 5) (.tmp 6) 35 rfl _ _ v' rfl rfl hrun ?_)
  go_ret
  rw [Nat.zero_add, List.nil_append] at hown'
  obtain ⟨k1, k2⟩ := RowAt.of_owns hown'
  refine ⟨v', rfl, k1, k2, u1.grown hgr (fun k hk hlt => ?_)⟩
  simp only [Value.ownBlock, Option.some.injEq] at hk
  omega
theorem clone_any {w : World} {v : Value} {row : Option Nat} {l : List Ex} (h : RowAt w v row l) (hl : l.length ≤ 4096) :
    Calls Try.prog 31 #[v] w fun e w' => ∃ v' row', e = .returned v' ∧ RowAt w' v' row' l ∧ (∀ r, row' = some r → w.heap.size ≤ r) ∧ Upd (fun _ => False) w w' := by
  rcases h with ⟨rfl, rfl, rfl⟩ | ⟨r, off, cap, cur, rfl, rfl, h3, h4, h5, h6, h7⟩
  · exact (clone_none w).mono fun e w' ⟨h1, h2⟩ => ⟨_, none, h1, .inl ⟨rfl, rfl, rfl⟩, fun r e => (by cases e), h2 ▸ Upd.refl _ _⟩
  · exact (clone_some (.inr ⟨r, off, cap, cur, rfl, rfl, h3, h4, h5, h6, h7⟩) hl).mono fun e w' ⟨v', h1, h2, h3, h4⟩ => ⟨v', _, h1, h2, h3, h4⟩
theorem sp_List {w : World} {b : Nat} {row : Option Nat} {n : Int} {v : Value} {l : List Ex} (h : SpAt w b row n v l) (hok : SpOk n l) :
    Calls Try.prog 15 #[.pointer (some ⟨b, 0, none⟩)] w fun e w' => ∃ v' row', e = .returned v' ∧ RowAt w' v' row' l ∧ (∀ r, row' = some r → w.heap.size ≤ r) ∧ Upd (fun _ => False) w w' := by
  have HI := Lib.hid (sp_is h)
  rw [decide_eq_true (show 0 < n by have := hok.1; omega)] at HI
  have c1 : w.cell? ⟨b, 1, none⟩ = some v := cell_heap h.set 1 _ rfl
  have HC := Lib.hid (clone_any h.row (by have := hok.len; have := hok.1; omega))
  obtain ⟨ad, cap, rfl, _⟩ := h.row.form
  clear h hok
  go_enter Try.func15, Try.ntmps15
  go_wp2_with (go_at_call 29; refine HI.out.mono ?_; rintro e w' ⟨rfl, rfl⟩)
  refine HC.out.mono ?_
  rintro e w1 ⟨v', row', rfl, k1, k2, k3⟩
  obtain ⟨ad', cap', rfl, _⟩ := k1.form
  go_wp2
  go_ret
  exact ⟨_, row', rfl, k1, k2, k3⟩

end Go.Proofs.Ytoblihckojnffaa
