/- Superblocks: the reference's Take. -/
import Derived.Test.YtocioaondjgceaaGreatDoorSup3
set_option linter.unusedVariables false
set_option linter.unusedSimpArgs false
namespace Go.Proofs.YtocioaondjgceaaGreatDoor
open Go.RowKit

theorem fin_bad {len i : Nat} {x : List UInt8} {y : Sp.Sup} (h : len ≠ 128 ∨ i ≠ 0 ∨ x.length ≠ 14 ∨ Sp.may y = false) : Sp.fin len i x y = (Sp.zero, 4) := by unfold Sp.fin; rw [if_pos h]

set_option maxHeartbeats 3200000 in
set_option maxRecDepth 100000 in
theorem ref_TakeS (s : List UInt8) (w : World) (hs : s.length ≤ 1000000) :
    Calls Tryz.prog 69 #[.string ⟨s.toArray⟩] w (SupE (Sp.take s) w) := by
  have hU := fun w => ref_Unstamp s w hs
  have hb := heap_alloc_new w (.cells zeroC 57)
  have hu := (Upd.refl (fun _ => False) w).alloc (.cells zeroC 57)
  unfold zeroC at hb hu
  unfold Sp.take
  rcases told_stamped s with ⟨e, he, h⟩ | ⟨g, i, x, h, hg, hi, hx, _⟩
  · rw [h] at hU ⊢
    rw [if_pos he]
    have he2 : (e != 0) = true := bne_iff_ne.2 he
    have HU := Lib.hid hU
    clear hU h he
    go_enter Tryz.func69, Tryz.ntmps69
    go_wp2_with (fail)
    refine (HU.out _).mono ?_
    rintro e' w1 ⟨rfl, u1⟩
    have hb1 := u1.heap hb (fun f => f)
    have c0 := cell_heap hb1 0 (.int .u64 0) rfl
    have c1 := cell_heap hb1 1 (.int .u64 0) rfl
    have c2 := cell_heap hb1 2 (.int .i64 0) rfl
    have c3 := cell_heap hb1 3 (.int .i64 0) rfl
    have c4 := cell_heap hb1 4 (.int .i64 0) rfl
    have f := free_heap hb1
    go_wp2
    have z := set5 hb1 (.int .u64 0) (.int .u64 0) (.int .i64 0) (.int .i64 0) (.int .i64 0)
    have z0 := cell_heap z 0 _ rfl
    have z1 := cell_heap z 1 _ rfl
    have z2 := cell_heap z 2 _ rfl
    have z3 := cell_heap z 3 _ rfl
    have z4 := cell_heap z 4 _ rfl
    refine bodyPost_ret (v := .tuple #[supV Sp.zero, .int .i64 e]) (by simp [results, Tryz.results69, go_sem, supV, Sp.zero, z0, z1, z2, z3, z4]) rfl ⟨rfl, ?_⟩
    exact upd5 (Nat.lt_irrefl _) (hu.trans u1 (fun _ _ f => f)) _ _ _ _ _
  · rw [h] at hU ⊢
    rw [if_neg (by simp)]
    dsimp only
    have HU := Lib.hid hU
    clear hU h
    by_cases hbad : s.length ≠ 128 ∨ i ≠ 0 ∨ x.length ≠ 14
    · have hr : Sp.fin s.length i x (Sp.of g x) = (Sp.zero, 4) := fin_bad (by omega)
      rw [hr]
      clear hr
      go_enter Tryz.func69, Tryz.ntmps69
      go_wp2_with (fail)
      refine (HU.out _).mono ?_
      rintro e' w1 ⟨rfl, u1⟩
      have hb1 := u1.heap hb (fun f => f)
      have c0 := cell_heap hb1 0 (.int .u64 0) rfl
      have c1 := cell_heap hb1 1 (.int .u64 0) rfl
      have c2 := cell_heap hb1 2 (.int .i64 0) rfl
      have c3 := cell_heap hb1 3 (.int .i64 0) rfl
      have c4 := cell_heap hb1 4 (.int .i64 0) rfl
      have f := free_heap hb1
      go_wp2_with (fail)
      all_goals first
        | (exfalso; omega)
        | (have z := set5 hb1 (.int .u64 0) (.int .u64 0) (.int .i64 0) (.int .i64 0) (.int .i64 0)
           have z0 := cell_heap z 0 _ rfl
           have z1 := cell_heap z 1 _ rfl
           have z2 := cell_heap z 2 _ rfl
           have z3 := cell_heap z 3 _ rfl
           have z4 := cell_heap z 4 _ rfl
           refine bodyPost_ret (v := .tuple #[supV Sp.zero, .int .i64 4]) (by simp [results, Tryz.results69, go_sem, supV, Sp.zero, z0, z1, z2, z3, z4]) rfl ⟨rfl, ?_⟩
           exact upd5 (Nat.lt_irrefl _) (hu.trans u1 (fun _ _ f => f)) _ _ _ _ _)
    · have a1 : s.length = 128 := by omega
      have a2 : i = 0 := by omega
      have a3 : x.length = 14 := by omega
      clear hbad
      subst a2
      have x1 : (⟨x.toArray⟩ : ByteArray).extract 0 8 = ⟨(x.take 8).toArray⟩ := by have := ext_list x 0 8; simpa using this
      have x2 : (⟨x.toArray⟩ : ByteArray).extract 8 10 = ⟨((x.drop 8).take 2).toArray⟩ := ext_list x 8 10
      have x3 : (⟨x.toArray⟩ : ByteArray).extract 10 12 = ⟨((x.drop 10).take 2).toArray⟩ := ext_list x 10 12
      have x4 : (⟨x.toArray⟩ : ByteArray).extract 12 14 = ⟨((x.drop 12).take 2).toArray⟩ := ext_list x 12 14
      have k1 := fun w => ref_Told (x.take 8) w (by rw [List.length_take]; omega)
      have k2 := fun w => ref_Told ((x.drop 8).take 2) w (by rw [List.length_take]; omega)
      have k3 := fun w => ref_Told ((x.drop 10).take 2) w (by rw [List.length_take]; omega)
      have k4 := fun w => ref_Told ((x.drop 12).take 2) w (by rw [List.length_take]; omega)
      have b1 := ofBe_lt (x.take 8)
      have b2 := ofBe_lt ((x.drop 8).take 2)
      have b3 := ofBe_lt ((x.drop 10).take 2)
      have b4 := ofBe_lt ((x.drop 12).take 2)
      rw [List.length_take, show min 8 x.length = 8 by omega] at b1
      rw [List.length_take, List.length_drop, show min 2 (x.length - 8) = 2 by omega] at b2
      rw [List.length_take, List.length_drop, show min 2 (x.length - 10) = 2 by omega] at b3
      rw [List.length_take, List.length_drop, show min 2 (x.length - 12) = 2 by omega] at b4
      have hof : Sp.of g x = ⟨g, ofBe (x.take 8), ofBe ((x.drop 8).take 2), ofBe ((x.drop 10).take 2), ofBe ((x.drop 12).take 2)⟩ := rfl
      rw [hof]
      clear hof
      generalize ofBe (x.take 8) = c at *
      generalize ofBe ((x.drop 8).take 2) = r at *
      generalize ofBe ((x.drop 10).take 2) = t at *
      generalize ofBe ((x.drop 12).take 2) = n at *
      generalize x.take 8 = X1 at *
      generalize (x.drop 8).take 2 = X2 at *
      generalize (x.drop 10).take 2 = X3 at *
      generalize (x.drop 12).take 2 = X4 at *
      have k5 := fun w => ref_May ⟨g, c, r, t, n⟩ w hg
      unfold supV at k5
      dsimp only at k5
      have hfin : ∀ b, Sp.may ⟨g, c, r, t, n⟩ = b → Sp.fin s.length 0 x ⟨g, c, r, t, n⟩ = if b then (⟨g, c, r, t, n⟩, 0) else (Sp.zero, 4) := by
        intro b hb
        unfold Sp.fin
        cases b with
        | false => rw [if_pos (Or.inr (Or.inr (Or.inr hb)))]; rfl
        | true => rw [if_neg (by rw [hb]; simp [a1, a3])]; rfl
      have e2 : IntKind.i64.wrap (r : Int) = (r : Int) := IntWalk.i64_in _ (by omega)
      have e3 : IntKind.i64.wrap (t : Int) = (t : Int) := IntWalk.i64_in _ (by omega)
      have e4 : IntKind.i64.wrap (n : Int) = (n : Int) := IntWalk.i64_in _ (by omega)
      have K1 := Lib.hid k1
      have K2 := Lib.hid k2
      have K3 := Lib.hid k3
      have K4 := Lib.hid k4
      clear k1 k2 k3 k4 b1
      cases hm : Sp.may ⟨g, c, r, t, n⟩ with
      | false =>
        rw [hfin false hm]
        rw [hm] at k5
        have K5 := Lib.hid k5
        clear k5 hfin hm
        go_enter Tryz.func69, Tryz.ntmps69
        go_wp2_with (fail)
        refine (HU.out _).mono ?_
        rintro e' w1 ⟨rfl, u1⟩
        have hb1 := u1.heap hb (fun f => f)
        go_wp2_with (fail)
        refine (K1.out _).mono ?_
        rintro e' w2 ⟨rfl, rfl⟩
        go_wp2_with (fail)
        refine (K2.out _).mono ?_
        rintro e' w2 ⟨rfl, rfl⟩
        go_wp2_with (fail)
        refine (K3.out _).mono ?_
        rintro e' w2 ⟨rfl, rfl⟩
        go_wp2_with (fail)
        refine (K4.out _).mono ?_
        rintro e' w2 ⟨rfl, rfl⟩
        go_wp2_with (fail)
        refine (K5.out _).mono ?_
        rintro e' w2 ⟨rfl, u2⟩
        have hb2 := u2.heap (heap_alloc_lt hb1 _) (fun f => f)
        have c0 := cell_heap hb2 0 (.int .u64 0) rfl
        have c1 := cell_heap hb2 1 (.int .u64 0) rfl
        have c2 := cell_heap hb2 2 (.int .i64 0) rfl
        have c3 := cell_heap hb2 3 (.int .i64 0) rfl
        have c4 := cell_heap hb2 4 (.int .i64 0) rfl
        have f := free_heap hb2
        go_wp2
        have z := set5 hb2 (.int .u64 0) (.int .u64 0) (.int .i64 0) (.int .i64 0) (.int .i64 0)
        have z0 := cell_heap z 0 _ rfl
        have z1 := cell_heap z 1 _ rfl
        have z2 := cell_heap z 2 _ rfl
        have z3 := cell_heap z 3 _ rfl
        have z4 := cell_heap z 4 _ rfl
        refine bodyPost_ret (v := .tuple #[supV Sp.zero, .int .i64 4]) (by simp [results, Tryz.results69, go_sem, supV, Sp.zero, z0, z1, z2, z3, z4]) rfl ⟨rfl, ?_⟩
        exact upd5 (Nat.lt_irrefl _) (((hu.trans u1 (fun _ _ f => f)).alloc _).trans u2 (fun _ _ f => f)) _ _ _ _ _
      | true =>
        rw [hfin true hm]
        rw [hm] at k5
        have K5 := Lib.hid k5
        clear k5 hfin hm
        go_enter Tryz.func69, Tryz.ntmps69
        go_wp2_with (fail)
        refine (HU.out _).mono ?_
        rintro e' w1 ⟨rfl, u1⟩
        have hb1 := u1.heap hb (fun f => f)
        go_wp2_with (fail)
        refine (K1.out _).mono ?_
        rintro e' w2 ⟨rfl, rfl⟩
        go_wp2_with (fail)
        refine (K2.out _).mono ?_
        rintro e' w2 ⟨rfl, rfl⟩
        go_wp2_with (fail)
        refine (K3.out _).mono ?_
        rintro e' w2 ⟨rfl, rfl⟩
        go_wp2_with (fail)
        refine (K4.out _).mono ?_
        rintro e' w2 ⟨rfl, rfl⟩
        go_wp2_with (fail)
        refine (K5.out _).mono ?_
        rintro e' w2 ⟨rfl, u2⟩
        have hb2 := u2.heap (heap_alloc_lt hb1 _) (fun f => f)
        have hx2 := u2.heap (heap_alloc_new w1 _) (fun f => f)
        have y0 := cell_heap hx2 0 (.int .u64 g) rfl
        have y1 := cell_heap hx2 1 (.int .u64 c) rfl
        have y2 := cell_heap hx2 2 (.int .i64 r) rfl
        have y3 := cell_heap hx2 3 (.int .i64 t) rfl
        have y4 := cell_heap hx2 4 (.int .i64 n) rfl
        have c0 := cell_heap hb2 0 (.int .u64 0) rfl
        have c1 := cell_heap hb2 1 (.int .u64 0) rfl
        have c2 := cell_heap hb2 2 (.int .i64 0) rfl
        have c3 := cell_heap hb2 3 (.int .i64 0) rfl
        have c4 := cell_heap hb2 4 (.int .i64 0) rfl
        have f := free_heap hb2
        go_wp2
        have z := set5 hb2 (.int .u64 g) (.int .u64 c) (.int .i64 r) (.int .i64 t) (.int .i64 n)
        have z0 := cell_heap z 0 _ rfl
        have z1 := cell_heap z 1 _ rfl
        have z2 := cell_heap z 2 _ rfl
        have z3 := cell_heap z 3 _ rfl
        have z4 := cell_heap z 4 _ rfl
        refine bodyPost_ret (v := .tuple #[supV ⟨g, c, r, t, n⟩, .int .i64 0]) (by simp [results, Tryz.results69, go_sem, supV, z0, z1, z2, z3, z4]) rfl ⟨rfl, ?_⟩
        exact upd5 (Nat.lt_irrefl _) (((hu.trans u1 (fun _ _ f => f)).alloc _).trans u2 (fun _ _ f => f)) _ _ _ _ _

end Go.Proofs.YtocioaondjgceaaGreatDoor
