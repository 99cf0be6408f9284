/- A device: Copy. -/
import Derived.Test.YthdkhmmabfnnkaaDev10
set_option linter.unusedVariables false
set_option linter.unusedSimpArgs false
namespace Go.Proofs.Ythdkhmmabfnnkaa
open Go.RowKit Go.Maps

theorem step_call_fn {P : Program} {ops : Array Oper} {o : Oper} {a : Act} {w : World} {K : Act → World → Prop} {Q : Exit → Act → World → Prop} {E : Prop} (d : Option Tmp) (hd : o.dst = d) (hgd : o.guard = none) (f : FuncId) (he : Enters P f) (y : Operand) (t : TypeId)
    (ho : o.op = .call { callee := .value (.func f), args := #[y], argTypes := #[t] }) (v : Value) (hv : a.eval y = v) (R : Value → World → Prop)
    (hc : Calls P f #[v] w fun e w' => ∃ r, e = .returned r ∧ R r w') (h : ∀ r w', R r w' → K (a.put d r) w') : if Region.wanted o (yielded ops a.tmps) = true then Oper.wp P o a w K Q else E := by
  subst hd
  have hw : Region.wanted o (yielded ops a.tmps) = true := by simp [Region.wanted, hgd]
  rw [if_pos hw]
  have hx : a.eval (.func f) = .func (.func f) #[] #[] := rfl
  have hrun : (execOp a.eval o).run P w = .ok (.enter f #[v]) w := by
    unfold execOp
    simp [ho, resolve, invoke, hx, hv, Deferred.ofValue, Result.andThen, he _ w]
  unfold Oper.wp
  rw [hrun, Oper.upon_enter]
  refine hc.mono ?_
  rintro e w' ⟨r, rfl, hr⟩
  exact h r w' hr
theorem clone_enters : Enters Try.prog 27 := enters_of Try.func27 rfl rfl
theorem mclone_enters : Enters Try.prog 28 := enters_of Try.func28 rfl rfl

set_option maxHeartbeats 800000 in
set_option maxRecDepth 100000 in
theorem dev_Copy {w : World} {b bs bm cap : Nat} {d : List Dv.Cel} (h : DevAt w b bs bm cap d) :
    Calls Try.prog 11 #[.pointer (some ⟨b, 0, none⟩)] w fun e w' => ∃ b' bs' bm' cap', e = .returned (.pointer (some ⟨b', 0, none⟩)) ∧ w.heap.size ≤ b' ∧ w.heap.size ≤ bs' ∧ w.heap.size ≤ bm' ∧ DevAt w' b' bs' bm' cap' d ∧ Upd (fun _ => False) w w' := by
  have HH := Lib.hid (dev_has0 h)
  have d0 := cell_heap h.dev 0 _ rfl
  have d1 := cell_heap h.dev 1 _ rfl
  have H := Lib.hid h
  obtain ⟨n, hn⟩ : ∃ n, n = d.length := ⟨_, rfl⟩
  rw [← hn] at d0
  have HN := Lib.hid hn
  clear h hn
  go_enter Try.func11, Try.ntmps11
  go_wp2_with (go_at_call 26; refine HH.out.mono ?_; rintro e w' ⟨rfl, rfl⟩)
  refine wp_region_held_drew (S := fun w' => Upd (fun _ => False) w w') (by kernel_rfl) (Upd.refl _ _).drew (fun hS => ?_)
  refine take_first (i := 0) (some 6) (v := ?_) rfl rfl (by kernel_rfl) (by kernel_rfl) (by kernel_rfl) (fun _ _ _ h => h) (Or.inl ⟨by rfl, ?_⟩) hS ?_
  rotate_left
  · intro w hSw; go_simp; try with_reducible rfl
  simp only [Act.put, List.setIfInBounds_toArray, List.set_cons_zero, List.set_cons_succ]
  refine take_first (i := 1) (some 7) (v := ?_) rfl rfl (by kernel_rfl) (by kernel_rfl) (by kernel_rfl) (fun _ _ _ h => h) (Or.inl ⟨by rfl, ?_⟩) hS ?_
  rotate_left
  · intro w hSw; go_simp; try with_reducible rfl
  simp only [Act.put, List.setIfInBounds_toArray, List.set_cons_zero, List.set_cons_succ]
  refine take_first (i := 2) (some 8) (v := ?_) rfl rfl (by kernel_rfl) (by kernel_rfl) (by kernel_rfl) (fun _ _ _ h => h) (Or.inl ⟨by rfl, ?_⟩) hS ?_
  rotate_left
  · intro w hSw; go_simp; try with_reducible rfl
  simp only [Act.put, List.setIfInBounds_toArray, List.set_cons_zero, List.set_cons_succ]
  refine take_first (i := 3) (some 9) rfl rfl (by kernel_rfl) (by kernel_rfl) (by kernel_rfl) (fun _ _ _ h => h) (yi_load rfl 55 (.tmp 8) rfl ⟨b, 0, none⟩ rfl (.slice (some ⟨bs, 0, none⟩) n cap) (fun w hw => by have c := hw.cell d0 (fun f => f); go_simp)) hS ?_
  simp only [Act.put, List.setIfInBounds_toArray, List.set_cons_zero, List.set_cons_succ]
  refine take_first (i := 5) (some 11) (v := ?_) rfl rfl (by kernel_rfl) (by kernel_rfl) (by kernel_rfl) (fun _ _ _ h => h) (Or.inl ⟨by rfl, ?_⟩) hS ?_
  rotate_left
  · intro w hSw; go_simp; try with_reducible rfl
  simp only [Act.put, List.setIfInBounds_toArray, List.set_cons_zero, List.set_cons_succ]
  refine take_first (i := 6) (some 12) (v := ?_) rfl rfl (by kernel_rfl) (by kernel_rfl) (by kernel_rfl) (fun _ _ _ h => h) (Or.inl ⟨by rfl, ?_⟩) hS ?_
  rotate_left
  · intro w hSw; go_simp; try with_reducible rfl
  simp only [Act.put, List.setIfInBounds_toArray, List.set_cons_zero, List.set_cons_succ]
  refine take_first (i := 7) (some 13) (v := ?_) rfl rfl (by kernel_rfl) (by kernel_rfl) (by kernel_rfl) (fun _ _ _ h => h) (Or.inl ⟨by rfl, ?_⟩) hS ?_
  rotate_left
  · intro w hSw; go_simp; try with_reducible rfl
  simp only [Act.put, List.setIfInBounds_toArray, List.set_cons_zero, List.set_cons_succ]
  refine take_first (i := 8) (some 14) rfl rfl (by kernel_rfl) (by kernel_rfl) (by kernel_rfl) (fun _ _ _ h => h) (yi_load rfl 56 (.tmp 13) rfl ⟨b, 1, none⟩ rfl (.map (some bm)) (fun w hw => by have c := hw.cell d1 (fun f => f); go_simp)) hS ?_
  simp only [Act.put, List.setIfInBounds_toArray, List.set_cons_zero, List.set_cons_succ]
  have hd := H.out
  have hs0 : SureAt w.drew bs cap d := hd.row.upd hS (fun f => f)
  refine wpAnyH_ready (rs := [4]) (by kernel_rfl) (by simp) ?_
  refine AllReadyH.cons rfl (fun K hK => ?_) AllReadyH.nil
  refine step_call_fn (some 10) rfl rfl 27 clone_enters (.tmp 9) 55 rfl (.slice (some ⟨bs, 0, none⟩) n cap) rfl
    (fun r w1 => ∃ g cp, r = .slice (some ⟨g, 0, none⟩) n cp ∧ w.heap.size ≤ g ∧ cp ≤ maxLen ∧ SureAt w1 g cp d ∧ Upd (fun _ => False) w w1) (by
      rw [HN.out]
      refine (sure_clone hs0 hd.ok).mono ?_
      rintro e w1 ⟨g, cp, rfl, r1, r2, r3, r4⟩
      exact ⟨_, rfl, g, cp, rfl, r1, r2, r3, r4.of_drew⟩) ?_
  rintro r w1 ⟨g, cp, rfl, hg1, hcp, hs1, u1⟩
  refine hK.out _ _ u1 (fun _ => ?_)
  clear hK K
  simp only [Act.put, List.setIfInBounds_toArray, List.set_cons_zero, List.set_cons_succ]
  refine wpAnyH_ready (rs := [9]) (by kernel_rfl) (by simp) ?_
  refine AllReadyH.cons rfl (fun K hK => ?_) AllReadyH.nil
  refine step_call_fn (some 15) rfl rfl 28 mclone_enters (.tmp 14) 56 rfl (.map (some bm)) rfl
    (fun r w2 => r = .map (some w1.heap.size) ∧ WaitsAt w2 w1.heap.size d ∧ Upd (fun _ => False) w1 w2) (by
      refine (AnyW.maps_Clone_owns (H := Unit) Try.mclone28 3 secR bm 5000 (Dv.waitsD d) w1 (hd.waits.upd u1 (fun f => f))).mono ?_
      rintro e w2 ⟨rfl, r1, r2, r3⟩
      exact ⟨_, rfl, rfl, r1, (Upd.of_below r3).mono (fun i hi f => by omega)⟩) ?_
  rintro r w2 ⟨rfl, hw2, u2⟩
  have u02 : Upd (fun _ => False) w w2 := u1.trans u2 (fun _ _ f => f)
  refine hK.out _ _ u02 (fun _ => ?_)
  clear hK K
  simp only [Act.put, List.setIfInBounds_toArray, List.set_cons_zero, List.set_cons_succ]
  refine take_first (i := 10) (some 16) (v := ?_) rfl rfl (by kernel_rfl) (by kernel_rfl) (by kernel_rfl) (fun _ _ _ h => h) (Or.inl ⟨by rfl, ?_⟩) u02 ?_
  rotate_left
  · intro w hSw; go_simp; try with_reducible rfl
  simp only [Act.put, List.setIfInBounds_toArray, List.set_cons_zero, List.set_cons_succ]
  refine wpAnyH_ready (rs := [11]) (by kernel_rfl) (by simp) ?_
  refine AllReadyH.cons rfl (fun K hK => ?_) AllReadyH.nil
  go_simp
  refine hK.out _ _ (u02.alloc _) (fun _ => ?_)
  clear hK K
  try simp only [Act.put, List.setIfInBounds_toArray, List.set_cons_zero, List.set_cons_succ]
  refine take_first (i := 12) (some 2) (v := ?_) rfl rfl (by kernel_rfl) (by kernel_rfl) (by kernel_rfl) (fun _ _ _ h => h) (Or.inl ⟨by rfl, ?_⟩) (u02.alloc _) ?_
  rotate_left
  · intro w hSw; go_simp; try with_reducible rfl
  simp only [Act.put, List.setIfInBounds_toArray, List.set_cons_zero, List.set_cons_succ]
  refine wpAnyH_done (by kernel_rfl) ?_ _
  go_wp2
  go_ret
  refine ⟨w2.heap.size, g, w1.heap.size, cp, rfl, u02.size, hg1, u1.size, ⟨hd.ok, hcp, ?_, ?_, ?_⟩, u02.alloc _⟩
  · rw [← HN.out]; exact heap_alloc_new _ _
  · exact hs1.upd (u2.alloc _) (fun f => f)
  · exact hw2.upd ((Upd.refl (fun _ => False) w2).alloc _) (fun f => f)

end Go.Proofs.Ythdkhmmabfnnkaa
