/- The document's device: Copy. -/
import Derived.Test.YthdkhmmabfnnkaaRef3
import Derived.Maps.AppendAt
set_option linter.unusedVariables false
set_option linter.unusedSimpArgs false
namespace Go.Proofs.Ythdkhmmabfnnkaa
open Go.RowKit Go.Maps

theorem step_append_by {P : Program} {ops : Array Oper} {o : Oper} {a : Act} {w w' : World} {K : Act → World → Prop} {Q : Exit → Act → World → Prop} {E : Prop} (hgd : o.guard = none) (s x : Operand) (t : TypeId)
    (ho : o.op = .call { callee := .builtin .append, args := #[s, x], argTypes := #[t, t] }) (vs vx v' : Value) (hs : a.eval s = vs) (hx : a.eval x = vx) (hrun : (Builtin.append_ #[t, t] o.type #[vs, vx]).run P w = .ok v' w')
    (h : K (a.put o.dst v') w') : if Region.wanted o (yielded ops a.tmps) = true then Oper.wp P o a w K Q else E := by
  have hw : Region.wanted o (yielded ops a.tmps) = true := by simp [Region.wanted, hgd]
  rw [if_pos hw]
  unfold Oper.wp execOp
  simp only [ho, resolve, invoke, builtin, Sem.run_bind, Sem.run_pure, Result.andThen_ok, List.map_toArray, List.map_cons, List.map_nil, hs, hx, hrun]
  exact h

def rowR (r : List Rv.Sec) : List Value := r.flatMap fun x => [.string ⟨x.sure.toArray⟩, .string ⟨x.shows.toArray⟩, .bool x.waits]
theorem rowR_cons (x : Rv.Sec) (r : List Rv.Sec) : rowR (x :: r) = .string ⟨x.sure.toArray⟩ :: .string ⟨x.shows.toArray⟩ :: .bool x.waits :: rowR r := rfl
theorem rowR_len (r : List Rv.Sec) : (rowR r).length = r.length * 3 := by
  induction r with
  | nil => rfl
  | cons x r ih => rw [rowR_cons]; simp only [List.length_cons, ih]; omega
theorem rowR_get (r : List Rv.Sec) : ∀ (k : Nat) (x : Rv.Sec), r[k]? = some x → (rowR r)[k * 3]? = some (.string ⟨x.sure.toArray⟩) ∧ (rowR r)[k * 3 + 1]? = some (.string ⟨x.shows.toArray⟩) ∧ (rowR r)[k * 3 + 2]? = some (.bool x.waits) := by
  induction r with
  | nil => intro k x h; cases h
  | cons y r ih =>
    intro k x h
    rw [rowR_cons]
    cases k with
    | zero => rw [List.getElem?_cons_zero, Option.some.injEq] at h; subst h; exact ⟨rfl, rfl, rfl⟩
    | succ k =>
      rw [List.getElem?_cons_succ] at h
      obtain ⟨a, b, c⟩ := ih k x h
      rw [show (k + 1) * 3 = k * 3 + 3 by omega, show k * 3 + 3 + 1 = k * 3 + 1 + 3 by omega, show k * 3 + 3 + 2 = k * 3 + 2 + 3 by omega]
      exact ⟨a, b, c⟩
theorem rowR_one (r : List Rv.Sec) : ∀ u ∈ rowR r, u.oneCell' = true := by
  intro u hu
  unfold rowR at hu
  rw [List.mem_flatMap] at hu
  obtain ⟨x, _, hx⟩ := hu
  simp only [List.mem_cons, List.not_mem_nil, or_false] at hx
  rcases hx with rfl | rfl | rfl <;> rfl
theorem rowR_row {cs : Array Value} {r : List Rv.Sec} (h : ∀ k x, r[k]? = some x → cs[k * 3]? = some (.string ⟨x.sure.toArray⟩) ∧ cs[k * 3 + 1]? = some (.string ⟨x.shows.toArray⟩) ∧ cs[k * 3 + 2]? = some (.bool x.waits)) (j : Nat) (u : Value) (hj : (rowR r)[j]? = some u) : cs[j]? = some u := by
  have hl := (List.getElem?_eq_some_iff.1 hj).1
  rw [rowR_len] at hl
  have hk : j / 3 < r.length := by omega
  have hc := h _ _ (List.getElem?_eq_getElem hk)
  have hg := rowR_get r _ _ (List.getElem?_eq_getElem hk)
  have e : j = j / 3 * 3 ∨ j = j / 3 * 3 + 1 ∨ j = j / 3 * 3 + 2 := by omega
  generalize j / 3 = q at hk hc hg e
  rcases e with e | e | e
  · rw [e] at hj ⊢; rw [hc.1, ← hg.1, hj]
  · rw [e] at hj ⊢; rw [hc.2.1, ← hg.2.1, hj]
  · rw [e] at hj ⊢; rw [hc.2.2, ← hg.2.2, hj]

set_option maxHeartbeats 1000000 in
set_option maxRecDepth 100000 in
theorem ref_Copy {w : World} {b g cap : Nat} {r : List Rv.Sec} (h : RefAt w b g cap r) :
    Calls Try.prog 36 #[.pointer (some ⟨b, 0, none⟩)] w fun e w' => ∃ b' g' cap', e = .returned (.pointer (some ⟨b', 0, none⟩)) ∧ w.heap.size ≤ b' ∧ w.heap.size ≤ g' ∧ RefAt w' b' g' cap' r ∧ Upd (fun _ => False) w w' := by
  have hl1 := h.ok.2.1
  have h512 := h.ok.1
  have u1 : Upd (fun _ => False) w (w.alloc (.cells #[.slice none 0 0] 51)).drew := ((Upd.refl _ w).alloc _).drew
  obtain ⟨cs, hb, hcs, hcc⟩ := h.row
  have hb1 := u1.heap hb (fun f => f)
  have d0 := cell_heap h.dev 0 (.slice (some ⟨g, 0, none⟩) r.length cap) rfl
  obtain ⟨i0, hi, hq0, hq1, hq2⟩ := info_parts Try.infoRS
  have happ := fun ty => run_append_own_at (P := Try.prog) (w.alloc (.cells #[.slice none 0 0] 51)).drew w.heap.size 49 ty 92 i0 _ 3 40 Try.underlying49 hi hq0 hq1 hq2 (by kernel_rfl) (by omega)
    (.slice none 0 0) 0 [] (World.ownsRow_nil _ _ _ _) ⟨g, 0, none⟩ r.length cap (rowR r) (rowR_len r)
    (fun j u hj => by
      have hadd : (⟨g, 0, none⟩ : Addr).add j = ⟨g, j, none⟩ := by unfold Addr.add; split <;> simp_all
      rw [hadd, cell_of_row _ g j cs _ _ hb1]
      exact rowR_row hcc j u hj) (rowR_one r) (by unfold maxLen; omega) (by omega) u1.size
  have HA := Lib.hid happ
  have HO := Lib.hid h.ok
  have hbl := h.ltb
  have HWH : Hid ((w.alloc (.cells #[.slice none 0 0] 51)).drew.heap[w.heap.size]? = some (.cells #[.slice none 0 0] 51 (0, 0))) := heap_alloc_new w _
  have HU := Lib.hid u1
  obtain ⟨n, hn⟩ : ∃ n, n = r.length := ⟨_, rfl⟩
  rw [← hn] at d0 HA
  have HN := Lib.hid hn
  clear happ hb1 hb hcs hcc h u1 hn
  go_enter Try.func36, Try.ntmps36
  go_wp2
  obtain ⟨v', w', hrun, hown', hgr, hx, hblk⟩ := HA.out 49
  obtain ⟨ad, cp, rfl⟩ := own_form hown'
  have hwh := grown_heap hgr HWH.out (by simp [Value.ownBlock])
  have e1 := cell_heap hwh 0 _ rfl
  have e2 := free_heap hwh 0
  have HR := Lib.hid hrun
  have HOW := Lib.hid hown'
  have HGR := Lib.hid hgr
  have HH := Lib.hid hwh
  clear hrun hown' hgr hx hblk hwh
  have HF : Hid (RefAt ((w'.setCell ⟨w.heap.size, 0, none⟩ (.slice ad n cp))) w.heap.size (ad.getD ⟨0, 0, none⟩).block cp r ∧ w.heap.size ≤ (ad.getD ⟨0, 0, none⟩).block ∧ Upd (fun _ => False) w ((w'.setCell ⟨w.heap.size, 0, none⟩ (.slice ad n cp)))) := by
    have hown := HOW.out
    rw [Nat.zero_add, List.nil_append] at hown
    have hgr := HGR.out
    have hN := HN.out
    have hok := HO.out
    have hu : Upd (fun _ => False) w (w'.setCell ⟨w.heap.size, 0, none⟩ (.slice ad n cp)) :=
      ((((Upd.refl (fun _ => False) w).alloc _).drew).grown hgr (fun k hk _ => by simp [Value.ownBlock] at hk)).setCell (p := ⟨w.heap.size, 0, none⟩) (fun h => absurd h (Nat.lt_irrefl _)) _
    rcases hown.2 with ⟨_, e2⟩ | ⟨g2, cp2, cur, e, hge, hg, hncp, hcpm, hsz, htake⟩
    · have := hok.1; omega
    · simp only [Value.slice.injEq] at e
      obtain ⟨rfl, _, rfl⟩ := e
      have hne : g2 ≠ w.heap.size := by
        intro e
        have hh := HH.out
        rw [← e, hg] at hh
        simp only [Option.some.injEq, Obj.cells.injEq] at hh
        exact absurd hh.2.1 (by decide)
      refine ⟨⟨hok, ⟨by omega, hcpm⟩, ?_, cur, heap_setCell_ne hg _ _ hne, hsz, fun k x hx => ?_⟩, hge, hu⟩
      · rw [heap_setCell_eq HH.out, ← hN]; rfl
      · have hk := (List.getElem?_eq_some_iff.1 hx).1
        have hg3 := rowR_get r k x hx
        have hcur : ∀ j, j < n * 3 → cur[j]? = (rowR r)[j]? := fun j hj => by
          rw [← htake, List.getElem?_take_of_lt (by omega)]; simp
        rw [hcur _ (by omega), hcur _ (by omega), hcur _ (by omega)]
        exact hg3
  go_region_law (refine step_append_by rfl (.tmp 12) (.tmp 16) 49 rfl _ _ _ rfl rfl HR.out ?_)
  all_goals
    go_wp2
    go_ret
    exact ⟨_, _, _, rfl, Nat.le_refl _, HF.out.2.1, HF.out.1, HF.out.2.2⟩

end Go.Proofs.Ythdkhmmabfnnkaa
