/- A set of sectors: each's value; slices.AppendSeq, slices.Collect over it. -/
import Derived.Test.YtieohjibccjliaaSpE
import Derived.RangeFuncWrites
set_option linter.unusedVariables false
set_option linter.unusedSimpArgs false
namespace Go.Proofs.Ytieohjibccjliaa
open Go.RowKit Go.Shelf
attribute [local go_sem] Oper.semAt_some

theorem each_in (n : Nat) (b : Nat) (w : World) :
    CallsIn Fence.wide n Try.prog 55 #[.pointer (some ⟨b, 0, none⟩)] w fun e w' => e = .returned (.func (.func 63) #[] #[.pointer (some ⟨w.heap.size, 0, none⟩)]) ∧ w' = w.alloc (.cells #[.pointer (some ⟨b, 0, none⟩)] 62) := by
  refine callsIn_wide.2 ?_
  go_enter Try.func55, Try.ntmps55
  go_wp2
  go_ret
  exact ⟨rfl, rfl⟩
theorem each_stops (m : Nat) (hm : 1 ≤ m) (Bn n₀ b : Nat) (row : Option Nat) (n : Int) (v : Value) (l : List Ex) (hok : SpOk n l) (w : World) (hn₀ : n₀ ≤ w.heap.size)
    (hc : w.cell? ⟨Bn, 0, none⟩ = some (.pointer (some ⟨b, 0, none⟩))) (hS : SpAt w b row n v l) (hb : b < n₀) (hr : ∀ r, row = some r → r < n₀) :
    SeqStopsK Fence.wide m Try.prog 63 #[.pointer (some ⟨Bn, 0, none⟩)] (fun x : Int => #[Value.int .i64 x]) (KpE n₀) (fun ys => ys = flatE l) (fun pre => pre <+: flatE l) (flatE l).length w := fun lb J Jx W hW hJ _ hY h0 =>
  each1_in m hm lb Bn n₀ b row n v l hok J Jx W (Nat.le_trans hn₀ hW.size) hJ hY ((hW.cell (p := ⟨Bn, 0, none⟩) (World.block_lt_of_cell? _ _ hc)).trans hc)
    (hS.upd (Upd.of_below hW) (by have := lt_of_heap hS.set; omega) (fun r e f => by have := hS.row.lt r e; omega)) hb hr h0
theorem KpE.put {n₀ : Nat} {W : World} {l : Nat} {o o' : Obj} (hn : n₀ ≤ l) (ho : W.heap[l]? = some o) (hc : o.isCells = false) (hB : Below n₀ W (W.putObj l o')) : KpE n₀ W (W.putObj l o') := by
  refine ⟨hB, fun k cs fr hk => ?_⟩
  have hne : k ≠ l := by
    intro e
    subst e
    rw [ho] at hk
    cases hk
    cases hc
  rw [← hk]
  simp [World.putObj, Array.getElem?_setIfInBounds, Ne.symm hne]
/-- A round that appends to a boxed row of ints keeps the spans' cells. -/
theorem kpE_appended {W w1 : World} {n₀ B : Nat} {v v' : Value} {k m : Nat} {xs ys : List Value} {tmp : Obj}
    (hv : Boxed W B 26 v) (hrow : W.ownsRow n₀ 3 1 v k xs) (hn₀ : n₀ ≤ W.heap.size) (hB : n₀ ≤ B) (hown' : w1.ownsRow n₀ 3 1 v' m ys) (hgrow : (W.alloc tmp).grownBy w1 v.ownBlock) (hbel : Below n₀ W (w1.setCell ⟨B, 0, none⟩ v')) :
    KpE n₀ W (w1.setCell ⟨B, 0, none⟩ v') := by
  refine ⟨hbel, fun i cs fr hi => ?_⟩
  have hneB : i ≠ B := by
    intro e
    subst e
    rw [show W.heap[i]? = _ from hv] at hi
    simp at hi
  have hnev : v.ownBlock ≠ some i := owns_ne hrow hi (by decide)
  have hlt := lt_of_heap hi
  rw [Below.heap_setCell _ _ _ _ hneB, hgrow.block i (by rw [World.size_alloc]; omega) (fun e => hnev e.symm), Below.heap_alloc _ _ _ hlt]
  exact hi
theorem Try.infoI : (Try.prog.info? 3).map (fun i => (i.zero, i.size, i.bytes)) = some (some (.int .i64 0), 1, 8) := by kernel_rfl
theorem flat_len {n : Int} {l : List Ex} (h : SpOk n l) : ((flatE l).length : Int) = cntE l := by
  have : ∀ (l : List Ex), (∀ x ∈ l, 1 ≤ x.2) → ((flatE l).length : Int) = cntE l := by
    intro l
    induction l with
    | nil => intro _; rfl
    | cons x r ih =>
      intro hx
      have h1 := hx x (List.mem_cons_self ..)
      rw [flatE_cons, List.length_append, seqE_len, cntE_cons, Int.natCast_add, ih (fun y hy => hx y (List.mem_cons_of_mem _ hy))]
      omega
  exact this l (fun x hx => (h.2.1 x hx).2.1)
set_option maxRecDepth 100000 in
set_option maxHeartbeats 2000000 in
theorem appendSeq_in (n : Nat) (hn : 3 ≤ n) (Bn b : Nat) (row : Option Nat) (nn : Int) (v0 : Value) (l : List Ex) (hok : SpOk nn l) (w : World) (hc : w.cell? ⟨Bn, 0, none⟩ = some (.pointer (some ⟨b, 0, none⟩))) (hS : SpAt w b row nn v0 l) :
    CallsIn Fence.wide n Try.prog 62 #[.slice none 0 0, .func (.func 63) #[] #[.pointer (some ⟨Bn, 0, none⟩)]] w fun e W' => ∃ v, e = .returned v ∧ W'.ownsRow w.heap.size 3 1 v (flatE l).length ((flatE l).map (Value.int .i64)) ∧ Below w.heap.size w W' := by
  have h1 : 1 ≤ n := by omega
  obtain ⟨i0, hi, hz0, hz1, hz2⟩ := info_parts Try.infoI
  have hfl := flat_len hok
  have hcn := hok.cnt
  have hnn := hok.1
  have hl4 : (flatE l).length ≤ 4096 := by omega
  refine callsIn_of_wp_marks Try.func62 rfl trivial ?_ rfl
  simp only [Try.ntmps62, List.size_toArray, List.length_cons, List.length_nil, Nat.reduceAdd, Nat.reduceSub, Array.replicate_succ, Array.replicate_zero, List.push_toArray, List.append_toArray, List.nil_append, List.cons_append]
  gi_wp2
  have bO := Boxed.new w 26 (.slice none 0 0)
  have hB0 : Below w.heap.size w (w.alloc (.cells #[.slice none 0 0] 26)) := (Below.refl _ w).alloc (Nat.le_refl _) _
  have u0 : Upd (fun _ => False) w (w.alloc (.cells #[.slice none 0 0] 26)) := (Upd.refl _ _).alloc _
  refine wpIn_rangeFunc_ownG rfl h1 (gf := 63) (lb := #[.pointer (some ⟨Bn, 0, none⟩)]) rfl trivial (enters_of Try.func63 (by kernel_rfl) rfl)
    (each_stops (n - 1) (by omega) Bn w.heap.size b row nn v0 l hok _ (by simp) (u0.cell hc (fun f => f)) (hS.upd u0 (fun f => f) (fun _ _ f => f)) (lt_of_heap hS.set) (fun r e => hS.row.lt r e)) (fun h k => h.trans k) (fun W l o o' hl ho hcs hw => KpE.put (by simp at hl; omega) ho hcs (belowK_b (w := w) (Nat.le_refl _) W l o o' (by simp at hl; omega) ho hcs hw)) (Below.refl _ _) (fun _ => rfl)
    (fun pre W => (∃ v, Boxed W w.heap.size 26 v ∧ W.ownsRow w.heap.size 3 1 v pre.length (pre.map (Value.int .i64)) ∧ True) ∧ Below w.heap.size w W)
    (fun _ _ _ => False)
    (OwnFrom.and (Own.from (holdsRow_own w.heap.size w.heap.size 26 3 1 (fun pre : List Int => pre.length) (fun pre => pre.map (Value.int .i64)) (fun pre v => True)) _) (ownFrom_below (Nat.le_refl _) (by simp)))
    (fun _ _ _ _ _ hs _ _ => hs)
    ⟨⟨_, bO, World.ownsRow_nil _ _ _ _, trivial⟩, hB0⟩
    (fun x => { tmps := #[.slice none 0 0, .func (.func 63) #[] #[.pointer (some ⟨Bn, 0, none⟩)], .pointer (some ⟨w.heap.size, 0, none⟩), undef, .slice none 0 0, .int .i64 x, .func (.func 63) #[] #[.pointer (some ⟨Bn, 0, none⟩)], .int .i64 x, undef, undef, undef, undef, undef], defers := [] }) ?assign ?body ?done ?stop
  case assign =>
    intro l x W K hK
    gi_wp2
    exact hK
  case body =>
    rintro l' pre x W ⟨⟨v, hv, hrow, _⟩, hB⟩ hlt
    have hcc := hv.cell
    gi_wp2_with (gi_at_builtin; refine wpListIn_append_own _ rfl _ _ 26 rfl w.heap.size 3 i0 (.int .i64 0) 1 8 Try.underlying26 hi hz0 hz1 hz2 rfl (by decide) _ _ _ rfl (hrow.alloc _) ⟨W.heap.size, 0, none⟩ 1 1 [.int .i64 x] rfl rfl (cell_one_new _ _ _) (by simp [Value.oneCell']) (by unfold maxLen; omega) (by omega) (by have := hB.size; simp; omega) ?_; intro v' w1 hown' hgrow _; obtain ⟨g', cap', rfl⟩ := ownsRow_succ hown'; obtain ⟨hv1, hv2, hr2, hk2, hb2⟩ := hv.appended (by decide) hrow hB.size (Nat.le_refl _) hown' hgrow; have hc1 := hv1.cell; have hf1 := hv1.frozen; have hkp := kpE_appended hv hrow hB.size (Nat.le_refl _) hown' hgrow hb2)
    exact ⟨hk2.from _, hkp, ⟨_, hv2, by simpa using hr2, trivial⟩, hB.trans hb2⟩
  case done =>
    rintro D ys W hD rfl ⟨⟨v, hv, hrow, _⟩, hB⟩ hK
    have hcc := hv.cell
    gi_wp2
    refine ⟨by simp, .inl ⟨_, _, rfl, run_takeDeferred hK, ?_⟩⟩
    exact ⟨_, results_tmp rfl _ _ _, v, rfl, ownsRow_putObj hrow _ hK rfl, hB.trans (belowK_b (w := w) (Nat.le_refl _) W D _ _ (by simp at hD; omega) hK rfl rfl)⟩
  case stop =>
    rintro D c pre W _ _ h _
    exact h.elim
theorem collect_in (n : Nat) (hn : 4 ≤ n) (Bn b : Nat) (row : Option Nat) (nn : Int) (v0 : Value) (l : List Ex) (hok : SpOk nn l) (w : World) (hc : w.cell? ⟨Bn, 0, none⟩ = some (.pointer (some ⟨b, 0, none⟩))) (hS : SpAt w b row nn v0 l) :
    CallsIn Fence.wide n Try.prog 54 #[.func (.func 63) #[] #[.pointer (some ⟨Bn, 0, none⟩)]] w fun e W' => ∃ v, e = .returned v ∧ W'.ownsRow w.heap.size 3 1 v (flatE l).length ((flatE l).map (Value.int .i64)) ∧ Below w.heap.size w W' := by
  have HA := Lib.hid (callsIn_wide.1 (appendSeq_in 3 (by omega) Bn b row nn v0 l hok w hc hS))
  refine callsIn_wide.2 ?_
  clear hc hS hok
  go_enter Try.func54, Try.ntmps54
  go_wp2_with (go_at_call 62; refine HA.out.mono ?_; rintro e w' ⟨v, rfl, h1, h2⟩; obtain ⟨ad, cp, rfl⟩ := own_form h1)
  go_ret
  exact ⟨_, rfl, h1, h2⟩

end Go.Proofs.Ytieohjibccjliaa
