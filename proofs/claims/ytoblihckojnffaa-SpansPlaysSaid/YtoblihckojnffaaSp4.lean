/- A set of sectors: Copy; a run of cells is set; slices.Delete of one span. -/
import Derived.Test.YtoblihckojnffaaSp3
import Derived.Test.YtoblihckojnffaaReg
import Derived.Lib.SlicesDelete
import Derived.Laws.IdiomCopy
import Derived.Shelf.RegionOpenPlain
set_option linter.unusedVariables false
set_option linter.unusedSimpArgs false
namespace Go.Proofs.Ytoblihckojnffaa
open Go.RowKit Go.Shelf

theorem clone_enters : Enters Try.prog 31 := enters_of Try.func31 rfl rfl
set_option maxRecDepth 100000 in
theorem sp_Copy {w : World} {b : Nat} {row : Option Nat} {n : Int} {v : Value} {l : List Ex} (h : SpAt w b row n v l) (hok : SpOk n l) :
    Calls Try.prog 20 #[.pointer (some ⟨b, 0, none⟩)] w fun e w' => ∃ b' row' v', e = .returned (.pointer (some ⟨b', 0, none⟩)) ∧ w.heap.size ≤ b' ∧ (∀ r, row' = some r → w.heap.size ≤ r) ∧ SpAt w' b' row' n v' l ∧ Upd (fun _ => False) w w' := by
  have HI := Lib.hid (sp_is h)
  rw [decide_eq_true (show 0 < n by have := hok.1; omega)] at HI
  have c0 : w.cell? ⟨b, 0, none⟩ = some (.int .i64 n) := cell_heap h.set 0 _ rfl
  have c1 : w.cell? ⟨b, 1, none⟩ = some v := cell_heap h.set 1 _ rfl
  have HR := Lib.hid h.row
  have HL := Lib.hid (show l.length ≤ 4096 by have := hok.len; have := hok.1; omega)
  obtain ⟨ad, cap, rfl, _⟩ := h.row.form
  clear h hok
  go_enter Try.func20, Try.ntmps20
  go_wp2_with (go_at_call 29; refine HI.out.mono ?_; rintro e w' ⟨rfl, rfl⟩)
  refine wp_region_held_drew (S := fun w' => Upd (fun _ => False) w w') (by kernel_rfl) (Upd.refl _ _).drew (fun hS => ?_)
  refine take_first (i := 0) (some 6) (v := ?_) rfl rfl (by kernel_rfl) (by kernel_rfl) (by kernel_rfl) (fun _ _ _ h => h) (Or.inl ⟨by rfl, ?_⟩) hS ?_
  rotate_left
  · intro w' hSw; go_simp; try with_reducible rfl
  try simp only [Act.put, List.setIfInBounds_toArray, List.set_cons_zero, List.set_cons_succ]
  refine take_first (i := 1) (some 7) (v := ?_) rfl rfl (by kernel_rfl) (by kernel_rfl) (by kernel_rfl) (fun _ _ _ h => h) (Or.inl ⟨by rfl, ?_⟩) hS ?_
  rotate_left
  · intro w' hSw; go_simp; try with_reducible rfl
  try simp only [Act.put, List.setIfInBounds_toArray, List.set_cons_zero, List.set_cons_succ]
  refine take_first (i := 2) (some 8) (v := ?_) rfl rfl (by kernel_rfl) (by kernel_rfl) (by kernel_rfl) (fun _ _ _ h => h) (Or.inl ⟨by rfl, ?_⟩) hS ?_
  rotate_left
  · intro w' hSw; go_simp; try with_reducible rfl
  try simp only [Act.put, List.setIfInBounds_toArray, List.set_cons_zero, List.set_cons_succ]
  refine take_first (i := 3) (some 9) (v := ?_) rfl rfl (by kernel_rfl) (by kernel_rfl) (by kernel_rfl) (fun _ _ _ h => h) (Or.inl ⟨by rfl, ?_⟩) hS ?_
  rotate_left
  · intro w' hSw; have d0 := hSw.cell c0 (fun f => f); have d1 := hSw.cell c1 (fun f => f); go_simp; try with_reducible rfl
  try simp only [Act.put, List.setIfInBounds_toArray, List.set_cons_zero, List.set_cons_succ]
  refine take_first (i := 4) (some 10) (v := ?_) rfl rfl (by kernel_rfl) (by kernel_rfl) (by kernel_rfl) (fun _ _ _ h => h) (Or.inl ⟨by rfl, ?_⟩) hS ?_
  rotate_left
  · intro w' hSw; go_simp; try with_reducible rfl
  try simp only [Act.put, List.setIfInBounds_toArray, List.set_cons_zero, List.set_cons_succ]
  refine take_first (i := 5) (some 11) (v := ?_) rfl rfl (by kernel_rfl) (by kernel_rfl) (by kernel_rfl) (fun _ _ _ h => h) (Or.inl ⟨by rfl, ?_⟩) hS ?_
  rotate_left
  · intro w' hSw; go_simp; try with_reducible rfl
  try simp only [Act.put, List.setIfInBounds_toArray, List.set_cons_zero, List.set_cons_succ]
  refine take_first (i := 6) (some 12) (v := ?_) rfl rfl (by kernel_rfl) (by kernel_rfl) (by kernel_rfl) (fun _ _ _ h => h) (Or.inl ⟨by rfl, ?_⟩) hS ?_
  rotate_left
  · intro w' hSw; go_simp; try with_reducible rfl
  try simp only [Act.put, List.setIfInBounds_toArray, List.set_cons_zero, List.set_cons_succ]
  refine take_first (i := 7) (some 13) (v := ?_) rfl rfl (by kernel_rfl) (by kernel_rfl) (by kernel_rfl) (fun _ _ _ h => h) (Or.inl ⟨by rfl, ?_⟩) hS ?_
  rotate_left
  · intro w' hSw; have d0 := hSw.cell c0 (fun f => f); have d1 := hSw.cell c1 (fun f => f); go_simp; try with_reducible rfl
  try simp only [Act.put, List.setIfInBounds_toArray, List.set_cons_zero, List.set_cons_succ]
  refine wpAnyH_ready (rs := [8]) (by kernel_rfl) (by simp) ?_
  refine AllReadyH.cons rfl (fun K hK => ?_) AllReadyH.nil
  refine step_fn (some 14) rfl (by rfl) 31 clone_enters #[.tmp 13] #[35] rfl #[.slice ad l.length cap] rfl (fun r w1 => ∃ row', RowAt w1 r row' l ∧ (∀ x, row' = some x → w.heap.size ≤ x) ∧ Upd (fun _ => False) w w1) (by
    refine (clone_any (HR.out.upd hS (fun _ _ f => f)) HL.out).mono ?_
    rintro e w1 ⟨v', row', rfl, k1, k2, k3⟩
    exact ⟨_, rfl, row', k1, k2, k3.of_drew⟩) ?_
  rintro r w1 ⟨row', k1, k2, u1⟩
  refine hK.out _ _ u1 (fun _ => ?_)
  clear hS; have hS := u1; obtain ⟨ad', cap', rfl, _⟩ := k1.form
  clear hK K
  try simp only [Act.put, List.setIfInBounds_toArray, List.set_cons_zero, List.set_cons_succ]
  refine take_first (i := 9) (some 15) (v := ?_) rfl rfl (by kernel_rfl) (by kernel_rfl) (by kernel_rfl) (fun _ _ _ h => h) (Or.inl ⟨by rfl, ?_⟩) hS ?_
  rotate_left
  · intro w' hSw; go_simp; try with_reducible rfl
  try simp only [Act.put, List.setIfInBounds_toArray, List.set_cons_zero, List.set_cons_succ]
  refine wpAnyH_ready (rs := [10]) (by kernel_rfl) (by simp) ?_
  refine AllReadyH.cons rfl (fun K hK => ?_) AllReadyH.nil
  go_simp
  refine hK.out _ _ (u1.alloc _) (fun _ => ?_)
  clear hS; have hS := u1.alloc (.cells #[.int .i64 n, .slice ad' l.length cap'] 53)
  clear hK K
  try simp only [Act.put, List.setIfInBounds_toArray, List.set_cons_zero, List.set_cons_succ]
  refine take_first (i := 11) (some 2) (v := ?_) rfl rfl (by kernel_rfl) (by kernel_rfl) (by kernel_rfl) (fun _ _ _ h => h) (Or.inl ⟨by rfl, ?_⟩) hS ?_
  rotate_left
  · intro w' hSw; go_simp; try with_reducible rfl
  try simp only [Act.put, List.setIfInBounds_toArray, List.set_cons_zero, List.set_cons_succ]
  refine wpAnyH_done (by kernel_rfl) ?_ _
  go_wp2
  go_ret
  exact ⟨w1.heap.size, row', _, rfl, u1.size, k2, ⟨heap_alloc_new _ _, k1.upd ((Upd.refl (fun _ => False) w1).alloc _) (fun _ _ f => f)⟩, hS⟩

/-! ### A run of cells -/
theorem setCells_heap (b : Nat) {t : TypeId} {fr : Nat × Nat} : ∀ (vs : List Value) (o : Nat) (w : World) (cur : Array Value), w.heap[b]? = some (.cells cur t fr) → o + vs.length ≤ cur.size →
    ∃ cur', (w.setCells b o vs).heap[b]? = some (.cells cur' t fr) ∧ cur'.size = cur.size ∧ (∀ j, j < o → cur'[j]? = cur[j]?) ∧ (∀ j u, vs[j]? = some u → cur'[o + j]? = some u) ∧ (∀ j, o + vs.length ≤ j → cur'[j]? = cur[j]?)
  | [], o, w, cur, h, hs => ⟨cur, h, rfl, fun _ _ => rfl, fun j u hj => (by cases hj), fun _ _ => rfl⟩
  | v :: r, o, w, cur, h, hs => by
    rw [List.length_cons] at hs
    obtain ⟨cur', h1, h2, h3, h4, h5⟩ := setCells_heap b r (o + 1) (w.setCell ⟨b, o, none⟩ v) (cur.setIfInBounds o v) (heap_setCell_eq h v) (by simp; omega)
    refine ⟨cur', h1, by rw [h2]; simp, fun j hj => ?_, fun j u hj => ?_, fun j hj => ?_⟩
    · rw [h3 j (by omega), Array.getElem?_setIfInBounds_ne (by omega)]
    · cases j with
      | zero =>
        simp only [List.getElem?_cons_zero, Option.some.injEq] at hj
        subst hj
        rw [Nat.add_zero, h3 o (by omega)]
        simp [Array.getElem?_setIfInBounds]
        omega
      | succ j =>
        rw [List.getElem?_cons_succ] at hj
        have := h4 j u hj
        rw [show o + (j + 1) = o + 1 + j by omega]
        exact this
    · rw [List.length_cons] at hj
      rw [h5 j (by omega), Array.getElem?_setIfInBounds_ne (by omega)]
theorem upd_setCells {F : Nat → Prop} {a : World} (b : Nat) (hb : b < a.heap.size → F b) : ∀ (vs : List Value) (o : Nat) (w : World), Upd F a w → Upd F a (w.setCells b o vs)
  | [], _, _, h => h
  | v :: r, o, w, h => upd_setCells b hb r (o + 1) _ (h.setCell (p := ⟨b, o, none⟩) hb v)
theorem run_clear2 {P : Program} (w : World) (t e ty : TypeId) (z1 z2 : Value) (ht : P.underlying t = some (.slice e)) (hv : ∀ w, (zeroValue e).run P w = .ok (.agg #[z1, z2]) w) (h1 : z1.oneCell' = true ∧ z2.oneCell' = true) (b o c : Nat)
    (hc : ∀ j, j < 2 → (w.cell? ⟨b, o + j, none⟩).isSome = true) (hf : ∀ j, j < 2 → w.frozen? ⟨b, o + j, none⟩ = false) :
    (Builtin.clear_ #[t] ty #[.slice (some ⟨b, o, none⟩) 1 c]).run P w = .ok (.tuple #[]) (w.setCells b o [z1, z2]) := by
  have hst := run_storeCells_cells (P := P) b o [z1, z2] 0 w (by simpa using hc) (by simpa using hf) (by intro v hv'; simp at hv'; rcases hv' with rfl | rfl; exact h1.1; exact h1.2)
  simp only [Nat.add_zero] at hst
  have hzc : (Builtin.zeroCells (Value.agg #[z1, z2]).cells 1) = #[z1, z2] := by
    simp [Builtin.zeroCells, Value.cells]
    rw [show Array.range 2 = #[0, 1] from rfl]
    simp
  simp [Builtin.clear_, run_underlying ht, hv, hzc, hst]

end Go.Proofs.Ytoblihckojnffaa
