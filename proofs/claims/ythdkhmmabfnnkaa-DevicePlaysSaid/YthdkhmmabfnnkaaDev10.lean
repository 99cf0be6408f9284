/- A device: Copy. -/
import Derived.Test.YthdkhmmabfnnkaaDev9
import Derived.Test.YthdkhmmabfnnkaaIter
import Derived.Maps.AppendAt
set_option linter.unusedVariables false
set_option linter.unusedSimpArgs false
namespace Go.Proofs.Ythdkhmmabfnnkaa
open Go.RowKit Go.Maps

theorem eql_slice_nil {P : Program} (w : World) {t e : TypeId} (a : Addr) (n c : Nat) (ht : P.underlying t = some (.slice e)) : (binOp .eql t (.slice (some a) n c) (.slice none 0 0)).run P w = .ok (.bool false) w := by
  have h : ∀ d : Nat, (Op.equalIn (d + 1) t (.slice (some a) n c) (.slice none 0 0)).run P w = .ok false w := fun d => by
    simp [Op.equalIn, run_underlying ht]
  simp only [binOp]
  simp [Op.equal, Op.maxDepth, h 9999]
theorem wpList_append_by {P : Program} {ops : Array Oper} {rest : List Oper} {o : Oper} {a : Act} {w w' : World} {Q : Exit → Act → World → Prop} (hgd : o.guard = none) (s x : Operand) (t : TypeId)
    (ho : o.op = .call { callee := .builtin .append, args := #[s, x], argTypes := #[t, t] }) (vs vx v' : Value) (hs : a.eval s = vs) (hx : a.eval x = vx) (hrun : (Builtin.append_ #[t, t] o.type #[vs, vx]).run P w = .ok v' w')
    (h : wpList P ops Q rest (a.put o.dst v') w') : wpList P ops Q (o :: rest) a w :=
  wpList_plain hgd fun _ hK => by
    unfold Oper.wp execOp
    simp only [ho, resolve, invoke, builtin, Sem.run_bind, Sem.run_pure, Result.andThen_ok, List.map_toArray, List.map_cons, List.map_nil, hs, hx, hrun]
    exact hK _ _ h

def flat (d : List Dv.Cel) : List Value := d.flatMap (fun c => bytesV c.1)
theorem flat_cons (x : Dv.Cel) (d : List Dv.Cel) : flat (x :: d) = bytesV x.1 ++ flat d := by unfold flat; rw [List.flatMap_cons]
theorem flat_len (d : List Dv.Cel) (h : ∀ x ∈ d, x.1.length = 128) : (flat d).length = d.length * 128 := by
  induction d with
  | nil => rfl
  | cons x d ih =>
    rw [flat_cons, List.length_append, bytesV_length, h x (List.mem_cons_self ..), ih (fun y hy => h y (List.mem_cons_of_mem _ hy)), List.length_cons]
    omega
theorem flat_get (d : List Dv.Cel) (h : ∀ x ∈ d, x.1.length = 128) : ∀ (k : Nat) (c : Dv.Cel), d[k]? = some c → ∀ j, j < 128 → (flat d)[k * 128 + j]? = (bytesV c.1)[j]? := by
  induction d with
  | nil => intro k c hc; cases hc
  | cons x d ih =>
    intro k c hc j hj
    have hx := h x (List.mem_cons_self ..)
    rw [flat_cons]
    cases k with
    | zero =>
      rw [List.getElem?_cons_zero, Option.some.injEq] at hc
      subst hc
      rw [List.getElem?_append_left (by rw [bytesV_length, hx]; omega), Nat.zero_mul, Nat.zero_add]
    | succ k =>
      rw [List.getElem?_cons_succ] at hc
      rw [List.getElem?_append_right (by rw [bytesV_length, hx]; omega), bytesV_length, hx, show (k + 1) * 128 + j - 128 = k * 128 + j by omega]
      exact ih (fun y hy => h y (List.mem_cons_of_mem _ hy)) k c hc j hj
theorem flat_one (d : List Dv.Cel) : ∀ u ∈ flat d, u.oneCell' = true := by
  intro u hu
  unfold flat at hu
  rw [List.mem_flatMap] at hu
  obtain ⟨c, _, hc⟩ := hu
  exact bytesV_one c.1 u hc
theorem flat_row {cs : Array Value} {d : List Dv.Cel} (hd : ∀ x ∈ d, x.1.length = 128) (h : ∀ k c, d[k]? = some c → ∀ j v, (bytesV c.1)[j]? = some v → cs[k * 128 + j]? = some v) (j : Nat) (u : Value) (hj : (flat d)[j]? = some u) : cs[j]? = some u := by
  have hl := (List.getElem?_eq_some_iff.1 hj).1
  rw [flat_len d hd] at hl
  have hk : j / 128 < d.length := by omega
  have e : j / 128 * 128 + j % 128 = j := by omega
  have hg := flat_get d hd (j / 128) _ (List.getElem?_eq_getElem hk) (j % 128) (by omega)
  rw [e, hj] at hg
  have := h (j / 128) _ (List.getElem?_eq_getElem hk) (j % 128) u hg.symm
  rw [e] at this
  exact this

set_option maxHeartbeats 400000 in
set_option maxRecDepth 100000 in
theorem sure_clone {w : World} {bs cap : Nat} {d : List Dv.Cel} (h : SureAt w bs cap d) (hok : Dv.Ok d) :
    Calls Try.prog 27 #[.slice (some ⟨bs, 0, none⟩) d.length cap] w fun e w' =>
      ∃ g cp, e = .returned (.slice (some ⟨g, 0, none⟩) d.length cp) ∧ w.heap.size ≤ g ∧ cp ≤ maxLen ∧ SureAt w' g cp d ∧ Upd (fun _ => False) w w' := by
  have hd : ∀ x ∈ d, x.1.length = 128 := fun x hx => (hok.2.2 x hx).1
  have hd2 := hok.2.1
  obtain ⟨cs, hb, h1, h2, h3⟩ := h
  have hq := fun w : World => eql_slice_nil (P := Try.prog) w (⟨bs, 0, none⟩ : Addr) d.length cap Try.underlying55
  obtain ⟨i0, hi, hq0, hq1, hq2⟩ := info_parts Try.infoSec
  have u1 : Upd (fun _ => False) w (w.alloc (.cells #[] 62)) := (Upd.refl _ w).alloc _
  have hb1 := u1.heap hb (fun f => f)
  have hown : (w.alloc (.cells #[] 62)).ownsRow w.heap.size 62 128 (.slice (some ⟨w.heap.size, 0, none⟩) 0 0) 0 [] :=
    ⟨rfl, Or.inr ⟨w.heap.size, 0, #[], rfl, Nat.le_refl _, heap_alloc_new _ _, Nat.le_refl _, Nat.zero_le _, rfl, rfl⟩⟩
  have happ := fun ty => run_append_own_at (P := Try.prog) (w.alloc (.cells #[] 62)) w.heap.size 55 ty 62 i0 (.agg zSec) 128 128 Try.underlying55 hi hq0 hq1 hq2 (by kernel_rfl) (by omega)
    (.slice (some ⟨w.heap.size, 0, none⟩) 0 0) 0 [] hown ⟨bs, 0, none⟩ d.length cap (flat d) (flat_len d hd)
    (fun j u hj => by
      have hadd : (⟨bs, 0, none⟩ : Addr).add j = ⟨bs, j, none⟩ := by unfold Addr.add; split <;> simp_all
      rw [hadd, cell_of_row _ bs j cs _ _ hb1]
      exact flat_row hd h3 j u hj) (flat_one d) (by unfold maxLen; omega) (by omega) u1.size
  have HA := Lib.hid happ
  obtain ⟨n, hn⟩ : ∃ n, n = d.length := ⟨_, rfl⟩
  clear happ hown hb1 hb h1 h2 h3
  go_enter Try.func27, Try.ntmps27
  go_wp2_with (at_builtin; obtain ⟨v', w', hrun, hown', hgr, _, hblk⟩ := HA.out _; refine wpList_append_by rfl (.tmp 5) (.tmp 6) 55 rfl _ _ v' rfl rfl hrun ?_)
  go_ret
  rw [Nat.zero_add, List.nil_append] at hown'
  have h512 := hok.1
  rcases hown'.2 with ⟨_, e2⟩ | ⟨g, cp, cur, rfl, hge, hg, hncp, hcpm, hsz, htake⟩
  · omega
  refine ⟨g, cp, rfl, hge, hcpm, ⟨cur, hg, hsz, hncp, fun k c hc j v hv => ?_⟩, u1.grown hgr (fun k hk hlt => ?_)⟩
  · have hcl : c.1.length = 128 := hd c (List.mem_of_getElem? hc)
    have hj : j < 128 := by
      have := (List.getElem?_eq_some_iff.1 hv).1
      rw [bytesV_length, hcl] at this; exact this
    have hfg := flat_get d hd k c hc j hj
    rw [hv, ← htake] at hfg
    have hlt := (List.getElem?_eq_some_iff.1 hfg).1
    rw [List.length_take] at hlt
    rw [List.getElem?_take_of_lt (by omega)] at hfg
    simpa using hfg
  · simp only [Value.ownBlock, Option.some.injEq] at hk
    omega

end Go.Proofs.Ythdkhmmabfnnkaa
