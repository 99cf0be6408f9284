/- A set of sectors: Fill: a span behind, joined. -/
import Derived.Test.YtieohjibccjliaaSp9
import Derived.BigQuiet
set_option linter.unusedVariables false
set_option linter.unusedSimpArgs false
namespace Go.Proofs.Ytieohjibccjliaa
open Go.RowKit Go.Shelf

set_option maxHeartbeats 1000000 in
set_option maxRecDepth 100000 in
theorem fill_C0 {w : World} {b : Nat} {row : Option Nat} {n : Int} {v : Value} {q : List Ex} {y : Ex} (h : SpAt w b row n v (([] : List Ex) ++ (y :: q))) (hok : SpOk n (([] : List Ex) ++ (y :: q))) (f t : Int) (h1 : 0 ≤ f ∧ f < t ∧ t ≤ n) (hi : findN (([] : List Ex) ++ (y :: q)) f = ([] : List Ex).length) (hyt : y.1 = t) :
    Calls Try.prog 53 #[.pointer (some ⟨b, 0, none⟩), .int .i64 f, .int .i64 t] w (FillP w b row n (([] : List Ex) ++ (f, (t - f + y.2)) :: q)) := by
  have HI := Lib.hid (sp_is h)
  rw [decide_eq_true (show 0 < n by have := hok.1; omega)] at HI
  have HF := Lib.hid (sp_find h hok f (by have := hok.1; omega))
  rw [hi] at HF
  have hneb := h.neb
  have hn := hok.1
  have hlen := hok.len
  have c0 : w.cell? ⟨b, 0, none⟩ = some (.int .i64 n) := cell_heap h.set 0 _ rfl
  have c1 : w.cell? ⟨b, 1, none⟩ = some v := cell_heap h.set 1 _ rfl
  have HS := Lib.hid h
  have LB := Lib.hid (lt_of_heap h.set)
  have hk0 : ([] : List Ex).length = 0 := rfl
  rw [hk0] at HF
  have iE : ((0 : Nat) : Int) = 0 := rfl
  obtain ⟨N, hN⟩ : ∃ N, N = (([] : List Ex) ++ (y :: q)).length := ⟨_, rfl⟩
  have hil : 0 < (([] : List Ex) ++ (y :: q)).length := by rw [List.length_append, List.length_cons]; omega
  have hye : (([] : List Ex) ++ (y :: q))[0] = y := by simp
  obtain ⟨r, off, cap, rfl, rfl, cA, cB, hfr⟩ := h.row.get 0 hil
  rw [hye, Nat.mul_comm] at cA cB
  have LR := Lib.hid (h.row.lt r rfl)
  have hyb := hok.2.1 y (by simp)
  rw [← hN] at c1
  have hil2 : 0 < N := by omega
  have hd : decide (((0 : Nat) : Int) < (N : Int)) = true := decide_eq_true (by omega)
  obtain ⟨y1, y2⟩ := y
  dsimp only at hyt cA cB hyb
  subst hyt
  rw [Nat.zero_mul, Nat.add_zero] at cA cB
  have CC := Lib.hid (show ∀ w', Upd (fun _ => False) w w' → w'.cell? ⟨r, off, none⟩ = some (.int .i64 y1) ∧ w'.cell? ⟨r, off + 1, none⟩ = some (.int .i64 y2) ∧ w'.cell? ⟨b, 0, none⟩ = some (.int .i64 n) ∧ w'.cell? ⟨b, 1, none⟩ = some (.slice (some ⟨r, off, none⟩) N cap) from fun w' hu => ⟨hu.cell cA (fun f => f), hu.cell cB (fun f => f), hu.cell c0 (fun f => f), hu.cell c1 (fun f => f)⟩)
  have p1 : ¬ (f < 0) := by omega
  have p2 : ¬ (y1 < f) := by omega
  have p3 : ¬ (n < y1) := by omega
  have p4 : ¬ (f = y1) := by omega
  have p5 : IntKind.i64.wrap (y1 - f) = y1 - f := IntWalk.i64_in _ (by omega)
  have p6 : ¬ (y1 < y1) := by omega
  have p7 : (y1 == y1) = true := by simp
  have p8 : IntKind.i64.wrap (y1 - f + y2) = y1 - f + y2 := IntWalk.i64_in _ (by omega)
  have p9 : IntKind.i64.wrap (((0 : Nat) : Int) + 1) = ((0 : Nat) : Int) + 1 := IntWalk.i64_in _ (by omega)
  clear hok hi c1 cA cB hfr hil hye h
  have HN0 := Lib.hid hN
  clear hN
  go_enter Try.func53, Try.ntmps53
  go_wp2_with (go_at_call 52; refine HI.out.mono ?_; rintro e w' ⟨rfl, rfl⟩)
  refine HF.out.mono ?_
  rintro e w1 ⟨rfl, u1⟩
  obtain ⟨d1, d2, d3, d4⟩ := CC.out _ u1
  have u2 := u1.alloc (.cells #[.int .i64 f, .int .i64 (y1 - f)] 99)
  obtain ⟨e1, e2, e3, e4⟩ := CC.out _ u2
  have hx := heap_alloc_new w1 (.cells #[.int .i64 f, .int .i64 (y1 - f)] 99)
  have x0 := cell_heap hx 0 _ rfl
  have x1 := cell_heap hx 1 _ rfl
  have fx := free_heap hx 1
  have HX := Lib.hid hx
  have HU2 := Lib.hid u2
  clear hx
  go_wp2
  refine wp_region_held_drew (S := fun w' => Upd (fun _ => False) w1 w') (by kernel_rfl) ((Upd.refl _ w1).alloc _).drew (fun hS => ?_)
  refine take_first (i := 0) (some 79) (v := ?_) rfl rfl (by kernel_rfl) (by kernel_rfl) (by kernel_rfl) (fun _ _ _ h => h) (Or.inl ⟨by rfl, ?_⟩) hS ?_
  rotate_left
  · intro w' hSw; go_simp; try with_reducible rfl
  try simp only [Act.put, List.setIfInBounds_toArray, List.set_cons_zero, List.set_cons_succ]
  refine take_first (i := 2) (some 81) (v := ?_) rfl rfl (by kernel_rfl) (by kernel_rfl) (by kernel_rfl) (fun _ _ _ h => h) (Or.inl ⟨by rfl, ?_⟩) hS ?_
  rotate_left
  · intro w' hSw; go_simp; try with_reducible rfl
  try simp only [Act.put, List.setIfInBounds_toArray, List.set_cons_zero, List.set_cons_succ]
  refine take_first (i := 3) (some 82) (v := ?_) rfl rfl (by kernel_rfl) (by kernel_rfl) (by kernel_rfl) (fun _ _ _ h => h) (Or.inl ⟨by rfl, ?_⟩) hS ?_
  rotate_left
  · intro w' hSw; go_simp; try with_reducible rfl
  try simp only [Act.put, List.setIfInBounds_toArray, List.set_cons_zero, List.set_cons_succ]
  refine take_first (i := 4) (some 83) (v := ?_) rfl rfl (by kernel_rfl) (by kernel_rfl) (by kernel_rfl) (fun _ _ _ h => h) (Or.inl ⟨by rfl, ?_⟩) hS ?_
  rotate_left
  · intro w' hSw; go_simp; try with_reducible rfl
  try simp only [Act.put, List.setIfInBounds_toArray, List.set_cons_zero, List.set_cons_succ]
  refine take_first (i := 5) (some 84) (v := ?_) rfl rfl (by kernel_rfl) (by kernel_rfl) (by kernel_rfl) (fun _ _ _ h => h) (Or.inl ⟨by rfl, ?_⟩) hS ?_
  rotate_left
  · intro w' hSw; have l1 := hSw.cell d4 (fun f => f); have l2 := hSw.cell d2 (fun f => f); go_simp; try with_reducible rfl
  try simp only [Act.put, List.setIfInBounds_toArray, List.set_cons_zero, List.set_cons_succ]
  refine take_first (i := 6) (some 85) (v := ?_) rfl rfl (by kernel_rfl) (by kernel_rfl) (by kernel_rfl) (fun _ _ _ h => h) (Or.inl ⟨by rfl, ?_⟩) hS ?_
  rotate_left
  · intro w' hSw; go_simp; try with_reducible rfl
  try simp only [Act.put, List.setIfInBounds_toArray, List.set_cons_zero, List.set_cons_succ]
  refine take_first (i := 7) (some 86) (v := ?_) rfl rfl (by kernel_rfl) (by kernel_rfl) (by kernel_rfl) (fun _ _ _ h => h) (Or.inl ⟨by rfl, ?_⟩) hS ?_
  rotate_left
  · intro w' hSw; go_simp; try with_reducible rfl
  try simp only [Act.put, List.setIfInBounds_toArray, List.set_cons_zero, List.set_cons_succ]
  refine take_first (i := 8) (some 87) (v := ?_) rfl rfl (by kernel_rfl) (by kernel_rfl) (by kernel_rfl) (fun _ _ _ h => h) (Or.inl ⟨by rfl, ?_⟩) hS ?_
  rotate_left
  · intro w' hSw; go_simp; try with_reducible rfl
  try simp only [Act.put, List.setIfInBounds_toArray, List.set_cons_zero, List.set_cons_succ]
  refine take_first (i := 9) (some 88) (v := ?_) rfl rfl (by kernel_rfl) (by kernel_rfl) (by kernel_rfl) (fun _ _ _ h => h) (Or.inl ⟨by rfl, ?_⟩) hS ?_
  rotate_left
  · intro w' hSw; have l1 := hSw.cell d4 (fun f => f); have l2 := hSw.cell d2 (fun f => f); go_simp; try with_reducible rfl
  try simp only [Act.put, List.setIfInBounds_toArray, List.set_cons_zero, List.set_cons_succ]
  refine wpAnyH_ready (rs := [1]) (by kernel_rfl) (by simp) ?_
  refine AllReadyH.cons rfl (fun K hK => ?_) AllReadyH.nil
  refine Rg.step_load (some 80) rfl (by rfl) 3 (.tmp 79) rfl ⟨w1.heap.size, 1, none⟩ rfl (.int .i64 (y1 - f)) (by have x1' := x1; go_simp) ?_
  refine hK.out _ _ hS (fun _ => ?_)
  clear hK K
  try simp only [Act.put, List.setIfInBounds_toArray, List.set_cons_zero, List.set_cons_succ]
  refine take_first (i := 10) (some 89) (v := ?_) rfl rfl (by kernel_rfl) (by kernel_rfl) (by kernel_rfl) (fun _ _ _ h => h) (Or.inl ⟨by rfl, ?_⟩) hS ?_
  rotate_left
  · intro w' hSw; go_simp; try with_reducible rfl
  try simp only [Act.put, List.setIfInBounds_toArray, List.set_cons_zero, List.set_cons_succ]
  refine take_first (i := 11) (some 90) (v := ?_) rfl rfl (by kernel_rfl) (by kernel_rfl) (by kernel_rfl) (fun _ _ _ h => h) (Or.inl ⟨by rfl, ?_⟩) hS ?_
  rotate_left
  · intro w' hSw; go_simp; try with_reducible rfl
  try simp only [Act.put, List.setIfInBounds_toArray, List.set_cons_zero, List.set_cons_succ]
  refine wpAnyH_ready (rs := [12]) (by kernel_rfl) (by simp) ?_
  refine AllReadyH.cons rfl (fun K hK => ?_) AllReadyH.nil
  go_simp
  refine hK.out _ _ (((Upd.refl (fun _ => False) w1).alloc _).drew) (fun _ => ?_)
  clear hK K
  try simp only [Act.put, List.setIfInBounds_toArray, List.set_cons_zero, List.set_cons_succ]
  refine wpAnyH_done (by kernel_rfl) ?_ _
  have lw := u1.size
  have uw3 : Upd (fun _ => False) w ((w1.alloc (.cells #[.int .i64 f, .int .i64 (y1 - f + y2)] 99)).drew) := (u1.alloc _).drew
  have hX3 : OneAt ((w1.alloc (.cells #[.int .i64 f, .int .i64 (y1 - f + y2)] 99)).drew) w1.heap.size (f, y1 - f + y2) := heap_drew (heap_alloc_new w1 _)
  have hS3 := HS.out.upd uw3 (fun f => f) (fun _ _ f => f)
  obtain ⟨W2, hW2⟩ : ∃ W2, W2 = ((w1.alloc (.cells #[.int .i64 f, .int .i64 (y1 - f + y2)] 99)).drew) := ⟨_, rfl⟩
  rw [← hW2] at uw3 hX3 hS3 ⊢
  obtain ⟨xb, hxb⟩ : ∃ xb, xb = w1.heap.size := ⟨_, rfl⟩
  rw [← hxb] at hX3 ⊢
  have hxw : w.heap.size ≤ xb := by omega
  have nxr : xb ≠ r := by have := LR.out; omega
  have nxb : xb ≠ b := by have := LB.out; omega
  have HDEL := Lib.hid (del_one hS3.row (by omega))
  have dB : W2.cell? ⟨b, 1, none⟩ = some (.slice (some ⟨r, off, none⟩) N cap) := by rw [HN0.out]; exact cell_heap hS3.set 1 _ rfl
  have HS3 := Lib.hid hS3
  have HX3 := Lib.hid hX3
  have HW3 := Lib.hid uw3
  have HNB := Lib.hid hneb
  rw [← HN0.out, hk0] at HDEL
  rw [show ((0 : Nat) : Int) = 0 from rfl, show (0 : Int) + 1 = 1 from rfl] at HDEL
  have hlq : (([] : List Ex) ++ q).length = N - 1 := by rw [HN0.out]; simp
  rw [hlq] at HDEL
  have HLQ := Lib.hid hlq
  clear hW2 hxb hS3 hX3 uw3 hS d1 d2 d3 d4 e1 e2 e3 e4 x0 x1 fx u1 u2 hneb hlq HU2 HX lw
  go_wp2_with (go_at_call 60; refine HDEL.out.mono ?_; rintro e w3 ⟨rfl, k1, k2⟩; have hb3 := k2.heap HS3.out.set (fun e => HNB.out (by rw [e])); have cb3 : w3.cell? ⟨b, 1, none⟩ = some (.slice (some ⟨r, off, none⟩) N cap) := (by rw [HN0.out]; exact cell_heap hb3 1 _ rfl); have fb3 := free_heap hb3 1)
  have hXW0 := k2.heap HX3.out nxr
  have u4 : Upd (fun k => k = b) w3 (w3.setCell ⟨b, 1, none⟩ (.slice (some ⟨r, off, none⟩) (N - 1) cap)) := (Upd.refl (fun k => k = b) w3).setCell (p := ⟨b, 1, none⟩) (fun _ => rfl) _
  have hSW := SpAt.store hb3 k1
  have hXW : OneAt (w3.setCell ⟨b, 1, none⟩ (.slice (some ⟨r, off, none⟩) (N - 1) cap)) xb (f, y1 - f + y2) := u4.heap hXW0 nxb
  have hUW : Upd (fun k => k = b ∨ some r = some k) w (w3.setCell ⟨b, 1, none⟩ (.slice (some ⟨r, off, none⟩) (N - 1) cap)) := ((HW3.out.mono (fun _ _ f => f.elim) : Upd (fun k => k = b ∨ some r = some k) w W2).trans k2 (fun _ _ e => Or.inr (by rw [e]))).trans u4 (fun _ _ e => Or.inl e)
  obtain ⟨W, hW⟩ : ∃ W, W = w3.setCell ⟨b, 1, none⟩ (.slice (some ⟨r, off, none⟩) (N - 1) cap) := ⟨_, rfl⟩
  rw [← hW] at hSW hXW hUW ⊢
  clear hW hb3 cb3 fb3 hXW0 u4 k1 k2
  obtain ⟨M, hM⟩ : ∃ M, M = N - 1 := ⟨_, rfl⟩
  rw [← hM] at hSW
  have hMN : M = ((([] : List Ex) ++ q)).length := by rw [hM, ← HLQ.out]
  have hlM : (M : Int) ≤ n := by have := HN0.out; omega
  have g1 : W.cell? ⟨b, 1, none⟩ = some (.slice (some ⟨r, off, none⟩) M cap) := cell_heap hSW.set 1 _ rfl
  have gx0 := cell_heap hXW 0 _ rfl
  have gx1 := cell_heap hXW 1 _ rfl
  have hRW := hSW.row
  have HSW := Lib.hid hSW
  have HXW := Lib.hid hXW
  have HUW := Lib.hid hUW
  have HRW := Lib.hid hRW
  have HL4 := Lib.hid (show (q).length ≤ 4096 by have e := hMN; rw [List.nil_append] at e; omega)
  clear hSW hXW hUW hRW hd hMN hlM hM
  go_quiet (fail)
  go_wp2
  have u5 : ∀ q, Upd (fun _ => False) W ((W.drewN q).alloc (.cells #[.int .i64 f, .int .i64 (y1 - f + y2)] 99)) := fun qn => ((Upd.refl _ _).drewN qn).alloc _
  have hS5 := fun qn => HSW.out.upd (u5 qn) (fun f => f) (fun _ _ f => f)
  have HINS := fun qn => Lib.hid (ins_any (a := ([] : List Ex)) (b := q) (x := (f, (y1 - f + y2))) (vb := W.heap.size) (HRW.out.upd (u5 qn) (fun _ _ f => f)) (heap_alloc_new (W.drewN qn) _) (fun e => by have := HSW.out.row.lt _ e; omega) (by rw [List.nil_append]; exact HL4.out))
  simp only [show ((([] : List Ex).length : Nat) : Int) = 0 from rfl] at HINS
  have HB5 := fun qn => Lib.hid (hS5 qn).set
  have HNB5 := Lib.hid HSW.out.neb
  have HU5 := Lib.hid u5
  have gA : ∀ q, ((W.drewN q).alloc (.cells #[.int .i64 f, .int .i64 (y1 - f + y2)] 99)).cell? ⟨b, 1, none⟩ = some (.slice (some ⟨r, off, none⟩) M cap) := fun qn => (u5 qn).cell g1 (fun f => f)
  clear hS5 u5
  go_region_with (go_at_call 61; refine (HINS _).out.mono ?_; rintro e w6 ⟨v6, row6, rfl, k1, k2, k3⟩; obtain ⟨ad6, len6, cap6, rfl⟩ := k1.form3; have hb6 := k3.heap (HB5 _).out (fun e => HNB5.out e); have cb6 : w6.cell? ⟨b, 1, none⟩ = some (.slice (some ⟨r, off, none⟩) M cap) := cell_heap hb6 1 _ rfl; have fb6 := free_heap hb6 1)
  all_goals (go_wp2; go_ret; refine ⟨rfl, _, row6, SpAt.store hb6 k1, ?_, (((HUW.out.trans ((HU5.out _).mono (fun _ _ f => f.elim)) (fun _ _ e => e) : Upd (fun k => k = b ∨ (some r) = some k) w _).trans k3 (fun _ _ e => Or.inr e))).setCell (p := ⟨b, 1, none⟩) (fun _ => Or.inl rfl) _⟩)
  all_goals (rcases k2 with e | ⟨x, e1, e2⟩; exact Or.inl e; exact Or.inr ⟨x, e1, by have := HUW.out.size; have e3 : W.heap.size + 1 ≤ x := (by rw [World.size_alloc] at e2; exact e2); omega⟩)

set_option maxHeartbeats 1000000 in
set_option maxRecDepth 100000 in
theorem fill_C1 {w : World} {b : Nat} {row : Option Nat} {n : Int} {v : Value} {a' : List Ex} {z : Ex} {q : List Ex} {y : Ex} (h : SpAt w b row n v ((a' ++ [z]) ++ (y :: q))) (hok : SpOk n ((a' ++ [z]) ++ (y :: q))) (f t : Int) (h1 : 0 ≤ f ∧ f < t ∧ t ≤ n) (hi : findN ((a' ++ [z]) ++ (y :: q)) f = (a' ++ [z]).length) (hyt : y.1 = t) (hz : z.1 + z.2 = f) :
    Calls Try.prog 53 #[.pointer (some ⟨b, 0, none⟩), .int .i64 f, .int .i64 t] w (FillP w b row n (a' ++ (z.1, z.2 + (t - f + y.2)) :: q)) := by
  have HI := Lib.hid (sp_is h)
  rw [decide_eq_true (show 0 < n by have := hok.1; omega)] at HI
  have HF := Lib.hid (sp_find h hok f (by have := hok.1; omega))
  rw [hi] at HF
  have hneb := h.neb
  have hn := hok.1
  have hlen := hok.len
  have c0 : w.cell? ⟨b, 0, none⟩ = some (.int .i64 n) := cell_heap h.set 0 _ rfl
  have c1 : w.cell? ⟨b, 1, none⟩ = some v := cell_heap h.set 1 _ rfl
  have HS := Lib.hid h
  have LB := Lib.hid (lt_of_heap h.set)
  obtain ⟨k, hk⟩ : ∃ k, k = a'.length := ⟨_, rfl⟩
  obtain ⟨i, hi2⟩ : ∃ i, i = k + 1 := ⟨_, rfl⟩
  have hik : (a' ++ [z]).length = i := by rw [List.length_append, List.length_singleton, ← hk, hi2]
  rw [hik] at HF
  have hzb := hok.2.1 z (by simp)
  obtain ⟨N, hN⟩ : ∃ N, N = ((a' ++ [z]) ++ (y :: q)).length := ⟨_, rfl⟩
  have hil : i < ((a' ++ [z]) ++ (y :: q)).length := by rw [List.length_append, hik, List.length_cons]; omega
  have hye : ((a' ++ [z]) ++ (y :: q))[i] = y := by simp [hi2, hk]
  obtain ⟨r, off, cap, rfl, rfl, cA, cB, hfr⟩ := h.row.get i hil
  rw [hye, Nat.mul_comm] at cA cB
  have LR := Lib.hid (h.row.lt r rfl)
  have hyb := hok.2.1 y (by simp)
  rw [← hN] at c1
  have hil2 : i < N := by omega
  have hd : decide (((i : Nat) : Int) < (N : Int)) = true := decide_eq_true (by omega)
  obtain ⟨y1, y2⟩ := y
  dsimp only at hyt cA cB hyb
  subst hyt
  have CC := Lib.hid (show ∀ w', Upd (fun _ => False) w w' → w'.cell? ⟨r, off + i * 2, none⟩ = some (.int .i64 y1) ∧ w'.cell? ⟨r, off + i * 2 + 1, none⟩ = some (.int .i64 y2) ∧ w'.cell? ⟨b, 0, none⟩ = some (.int .i64 n) ∧ w'.cell? ⟨b, 1, none⟩ = some (.slice (some ⟨r, off, none⟩) N cap) from fun w' hu => ⟨hu.cell cA (fun f => f), hu.cell cB (fun f => f), hu.cell c0 (fun f => f), hu.cell c1 (fun f => f)⟩)
  have p1 : ¬ (f < 0) := by omega
  have p2 : ¬ (y1 < f) := by omega
  have p3 : ¬ (n < y1) := by omega
  have p4 : ¬ (f = y1) := by omega
  have p5 : IntKind.i64.wrap (y1 - f) = y1 - f := IntWalk.i64_in _ (by omega)
  have p6 : ¬ (y1 < y1) := by omega
  have p7 : (y1 == y1) = true := by simp
  have p8 : IntKind.i64.wrap (y1 - f + y2) = y1 - f + y2 := IntWalk.i64_in _ (by omega)
  have p9 : IntKind.i64.wrap (((i : Nat) : Int) + 1) = ((i : Nat) : Int) + 1 := IntWalk.i64_in _ (by omega)
  clear hok hi c1 cA cB hfr hil hye h
  have HN0 := Lib.hid hN
  clear hN
  have HK0 := Lib.hid hk
  have HI20 := Lib.hid hi2
  have HIK0 := Lib.hid hik
  clear hik
  clear hi2 hk
  go_enter Try.func53, Try.ntmps53
  go_wp2_with (go_at_call 52; refine HI.out.mono ?_; rintro e w' ⟨rfl, rfl⟩)
  refine HF.out.mono ?_
  rintro e w1 ⟨rfl, u1⟩
  obtain ⟨d1, d2, d3, d4⟩ := CC.out _ u1
  have u2 := u1.alloc (.cells #[.int .i64 f, .int .i64 (y1 - f)] 99)
  obtain ⟨e1, e2, e3, e4⟩ := CC.out _ u2
  have hx := heap_alloc_new w1 (.cells #[.int .i64 f, .int .i64 (y1 - f)] 99)
  have x0 := cell_heap hx 0 _ rfl
  have x1 := cell_heap hx 1 _ rfl
  have fx := free_heap hx 1
  have HX := Lib.hid hx
  have HU2 := Lib.hid u2
  clear hx
  go_wp2
  refine wp_region_held_drew (S := fun w' => Upd (fun _ => False) w1 w') (by kernel_rfl) ((Upd.refl _ w1).alloc _).drew (fun hS => ?_)
  refine take_first (i := 0) (some 79) (v := ?_) rfl rfl (by kernel_rfl) (by kernel_rfl) (by kernel_rfl) (fun _ _ _ h => h) (Or.inl ⟨by rfl, ?_⟩) hS ?_
  rotate_left
  · intro w' hSw; go_simp; try with_reducible rfl
  try simp only [Act.put, List.setIfInBounds_toArray, List.set_cons_zero, List.set_cons_succ]
  refine take_first (i := 2) (some 81) (v := ?_) rfl rfl (by kernel_rfl) (by kernel_rfl) (by kernel_rfl) (fun _ _ _ h => h) (Or.inl ⟨by rfl, ?_⟩) hS ?_
  rotate_left
  · intro w' hSw; go_simp; try with_reducible rfl
  try simp only [Act.put, List.setIfInBounds_toArray, List.set_cons_zero, List.set_cons_succ]
  refine take_first (i := 3) (some 82) (v := ?_) rfl rfl (by kernel_rfl) (by kernel_rfl) (by kernel_rfl) (fun _ _ _ h => h) (Or.inl ⟨by rfl, ?_⟩) hS ?_
  rotate_left
  · intro w' hSw; go_simp; try with_reducible rfl
  try simp only [Act.put, List.setIfInBounds_toArray, List.set_cons_zero, List.set_cons_succ]
  refine take_first (i := 4) (some 83) (v := ?_) rfl rfl (by kernel_rfl) (by kernel_rfl) (by kernel_rfl) (fun _ _ _ h => h) (Or.inl ⟨by rfl, ?_⟩) hS ?_
  rotate_left
  · intro w' hSw; go_simp; try with_reducible rfl
  try simp only [Act.put, List.setIfInBounds_toArray, List.set_cons_zero, List.set_cons_succ]
  refine take_first (i := 5) (some 84) (v := ?_) rfl rfl (by kernel_rfl) (by kernel_rfl) (by kernel_rfl) (fun _ _ _ h => h) (Or.inl ⟨by rfl, ?_⟩) hS ?_
  rotate_left
  · intro w' hSw; have l1 := hSw.cell d4 (fun f => f); have l2 := hSw.cell d2 (fun f => f); go_simp; try with_reducible rfl
  try simp only [Act.put, List.setIfInBounds_toArray, List.set_cons_zero, List.set_cons_succ]
  refine take_first (i := 6) (some 85) (v := ?_) rfl rfl (by kernel_rfl) (by kernel_rfl) (by kernel_rfl) (fun _ _ _ h => h) (Or.inl ⟨by rfl, ?_⟩) hS ?_
  rotate_left
  · intro w' hSw; go_simp; try with_reducible rfl
  try simp only [Act.put, List.setIfInBounds_toArray, List.set_cons_zero, List.set_cons_succ]
  refine take_first (i := 7) (some 86) (v := ?_) rfl rfl (by kernel_rfl) (by kernel_rfl) (by kernel_rfl) (fun _ _ _ h => h) (Or.inl ⟨by rfl, ?_⟩) hS ?_
  rotate_left
  · intro w' hSw; go_simp; try with_reducible rfl
  try simp only [Act.put, List.setIfInBounds_toArray, List.set_cons_zero, List.set_cons_succ]
  refine take_first (i := 8) (some 87) (v := ?_) rfl rfl (by kernel_rfl) (by kernel_rfl) (by kernel_rfl) (fun _ _ _ h => h) (Or.inl ⟨by rfl, ?_⟩) hS ?_
  rotate_left
  · intro w' hSw; go_simp; try with_reducible rfl
  try simp only [Act.put, List.setIfInBounds_toArray, List.set_cons_zero, List.set_cons_succ]
  refine take_first (i := 9) (some 88) (v := ?_) rfl rfl (by kernel_rfl) (by kernel_rfl) (by kernel_rfl) (fun _ _ _ h => h) (Or.inl ⟨by rfl, ?_⟩) hS ?_
  rotate_left
  · intro w' hSw; have l1 := hSw.cell d4 (fun f => f); have l2 := hSw.cell d2 (fun f => f); go_simp; try with_reducible rfl
  try simp only [Act.put, List.setIfInBounds_toArray, List.set_cons_zero, List.set_cons_succ]
  refine wpAnyH_ready (rs := [1]) (by kernel_rfl) (by simp) ?_
  refine AllReadyH.cons rfl (fun K hK => ?_) AllReadyH.nil
  refine Rg.step_load (some 80) rfl (by rfl) 3 (.tmp 79) rfl ⟨w1.heap.size, 1, none⟩ rfl (.int .i64 (y1 - f)) (by have x1' := x1; go_simp) ?_
  refine hK.out _ _ hS (fun _ => ?_)
  clear hK K
  try simp only [Act.put, List.setIfInBounds_toArray, List.set_cons_zero, List.set_cons_succ]
  refine take_first (i := 10) (some 89) (v := ?_) rfl rfl (by kernel_rfl) (by kernel_rfl) (by kernel_rfl) (fun _ _ _ h => h) (Or.inl ⟨by rfl, ?_⟩) hS ?_
  rotate_left
  · intro w' hSw; go_simp; try with_reducible rfl
  try simp only [Act.put, List.setIfInBounds_toArray, List.set_cons_zero, List.set_cons_succ]
  refine take_first (i := 11) (some 90) (v := ?_) rfl rfl (by kernel_rfl) (by kernel_rfl) (by kernel_rfl) (fun _ _ _ h => h) (Or.inl ⟨by rfl, ?_⟩) hS ?_
  rotate_left
  · intro w' hSw; go_simp; try with_reducible rfl
  try simp only [Act.put, List.setIfInBounds_toArray, List.set_cons_zero, List.set_cons_succ]
  refine wpAnyH_ready (rs := [12]) (by kernel_rfl) (by simp) ?_
  refine AllReadyH.cons rfl (fun K hK => ?_) AllReadyH.nil
  go_simp
  refine hK.out _ _ (((Upd.refl (fun _ => False) w1).alloc _).drew) (fun _ => ?_)
  clear hK K
  try simp only [Act.put, List.setIfInBounds_toArray, List.set_cons_zero, List.set_cons_succ]
  refine wpAnyH_done (by kernel_rfl) ?_ _
  have lw := u1.size
  have uw3 : Upd (fun _ => False) w ((w1.alloc (.cells #[.int .i64 f, .int .i64 (y1 - f + y2)] 99)).drew) := (u1.alloc _).drew
  have hX3 : OneAt ((w1.alloc (.cells #[.int .i64 f, .int .i64 (y1 - f + y2)] 99)).drew) w1.heap.size (f, y1 - f + y2) := heap_drew (heap_alloc_new w1 _)
  have hS3 := HS.out.upd uw3 (fun f => f) (fun _ _ f => f)
  obtain ⟨W2, hW2⟩ : ∃ W2, W2 = ((w1.alloc (.cells #[.int .i64 f, .int .i64 (y1 - f + y2)] 99)).drew) := ⟨_, rfl⟩
  rw [← hW2] at uw3 hX3 hS3 ⊢
  obtain ⟨xb, hxb⟩ : ∃ xb, xb = w1.heap.size := ⟨_, rfl⟩
  rw [← hxb] at hX3 ⊢
  have hxw : w.heap.size ≤ xb := by omega
  have nxr : xb ≠ r := by have := LR.out; omega
  have nxb : xb ≠ b := by have := LB.out; omega
  have HDEL := Lib.hid (del_one hS3.row (by omega))
  have dB : W2.cell? ⟨b, 1, none⟩ = some (.slice (some ⟨r, off, none⟩) N cap) := by rw [HN0.out]; exact cell_heap hS3.set 1 _ rfl
  have HS3 := Lib.hid hS3
  have HX3 := Lib.hid hX3
  have HW3 := Lib.hid uw3
  have HNB := Lib.hid hneb
  rw [← HN0.out, HIK0.out] at HDEL
  have hlq : ((a' ++ [z]) ++ q).length = N - 1 := by rw [HN0.out]; simp
  rw [hlq] at HDEL
  have HLQ := Lib.hid hlq
  clear hW2 hxb hS3 hX3 uw3 hS d1 d2 d3 d4 e1 e2 e3 e4 x0 x1 fx u1 u2 hneb hlq HU2 HX lw
  go_wp2_with (go_at_call 60; refine HDEL.out.mono ?_; rintro e w3 ⟨rfl, k1, k2⟩; have hb3 := k2.heap HS3.out.set (fun e => HNB.out (by rw [e])); have cb3 : w3.cell? ⟨b, 1, none⟩ = some (.slice (some ⟨r, off, none⟩) N cap) := (by rw [HN0.out]; exact cell_heap hb3 1 _ rfl); have fb3 := free_heap hb3 1)
  have hXW0 := k2.heap HX3.out nxr
  have u4 : Upd (fun k => k = b) w3 (w3.setCell ⟨b, 1, none⟩ (.slice (some ⟨r, off, none⟩) (N - 1) cap)) := (Upd.refl (fun k => k = b) w3).setCell (p := ⟨b, 1, none⟩) (fun _ => rfl) _
  have hSW := SpAt.store hb3 k1
  have hXW : OneAt (w3.setCell ⟨b, 1, none⟩ (.slice (some ⟨r, off, none⟩) (N - 1) cap)) xb (f, y1 - f + y2) := u4.heap hXW0 nxb
  have hUW : Upd (fun k => k = b ∨ some r = some k) w (w3.setCell ⟨b, 1, none⟩ (.slice (some ⟨r, off, none⟩) (N - 1) cap)) := ((HW3.out.mono (fun _ _ f => f.elim) : Upd (fun k => k = b ∨ some r = some k) w W2).trans k2 (fun _ _ e => Or.inr (by rw [e]))).trans u4 (fun _ _ e => Or.inl e)
  obtain ⟨W, hW⟩ : ∃ W, W = w3.setCell ⟨b, 1, none⟩ (.slice (some ⟨r, off, none⟩) (N - 1) cap) := ⟨_, rfl⟩
  rw [← hW] at hSW hXW hUW ⊢
  clear hW hb3 cb3 fb3 hXW0 u4 k1 k2
  obtain ⟨M, hM⟩ : ∃ M, M = N - 1 := ⟨_, rfl⟩
  rw [← hM] at hSW
  have hMN : M = (((a' ++ [z]) ++ q)).length := by rw [hM, ← HLQ.out]
  have hlM : (M : Int) ≤ n := by have := HN0.out; omega
  have hk := HK0.out
  have hi2 := HI20.out
  have hik := HIK0.out
  have g1 : W.cell? ⟨b, 1, none⟩ = some (.slice (some ⟨r, off, none⟩) M cap) := cell_heap hSW.set 1 _ rfl
  have gx0 := cell_heap hXW 0 _ rfl
  have gx1 := cell_heap hXW 1 _ rfl
  have hRW := hSW.row
  have HSW := Lib.hid hSW
  have HXW := Lib.hid hXW
  have HUW := Lib.hid hUW
  rw [hMN] at hRW
  obtain ⟨gz1, gz2, gzf⟩ := hRW.at k z (by rw [hk]; simp)
  have HRW := Lib.hid hRW
  obtain ⟨z1, z2⟩ := z
  dsimp only at hz gz1 gz2 hzb
  have hiN : i ≤ M := by rw [hMN, List.length_append, hik]; omega
  have q1 : IntKind.i64.wrap ((i : Int) - 1) = (i : Int) - 1 := IntWalk.i64_in _ (by omega)
  have q2 : ((i : Int) - 1).toNat = k := by omega
  have q3 : (0 : Int) ≤ (i : Int) - 1 := by omega
  have q4 : (i : Int) - 1 < (M : Int) := by rw [hMN, List.length_append, hik]; omega
  have q5 : IntKind.i64.wrap (z1 + z2) = z1 + z2 := IntWalk.i64_in _ (by omega)
  have q6 : decide ((0 : Int) < (i : Int)) = true := decide_eq_true (by omega)
  have q7 : (z1 + z2 == f) = true := by simp; omega
  have q8 : IntKind.i64.wrap (z2 + (y1 - f + y2)) = z2 + (y1 - f + y2) := IntWalk.i64_in _ (by omega)
  have q9 : 0 < i := by omega
  have q10 : (1 : Int) ≤ (i : Int) := by omega
  have HMN := Lib.hid hMN
  have HIK := Lib.hid hik
  have HK := Lib.hid hk
  have NBR := Lib.hid (show b ≠ r from fun e => hSW.neb (by rw [e]))
  have NXR := Lib.hid nxr
  have hM4 : M ≤ 4096 := by omega
  clear hik
  clear hSW hXW hUW hRW hMN hi2 hk hlM hzb hlen hn h1 hyb p9 hil2 hd hM p1 p2 p3 p4 p5 hz p6 p7 p8
  go_quiet (fail)
  go_wp2
  refine wp_region_held_drew (S := fun w' => Upd (fun k => k = r) W w') (by kernel_rfl) ((Upd.refl _ W).drewN _).drew (fun hS => ?_)
  refine take_first (i := 0) (some 127) (v := ?_) rfl rfl (by kernel_rfl) (by kernel_rfl) (by kernel_rfl) (fun _ _ _ h => h) (Or.inl ⟨by rfl, ?_⟩) hS ?_
  rotate_left
  · intro w' hSw; go_simp; try with_reducible rfl
  try simp only [Act.put, List.setIfInBounds_toArray, List.set_cons_zero, List.set_cons_succ]
  refine take_first (i := 1) (some 128) (v := ?_) rfl rfl (by kernel_rfl) (by kernel_rfl) (by kernel_rfl) (fun _ _ _ h => h) (Or.inl ⟨by rfl, ?_⟩) hS ?_
  rotate_left
  · intro w' hSw; go_simp; try with_reducible rfl
  try simp only [Act.put, List.setIfInBounds_toArray, List.set_cons_zero, List.set_cons_succ]
  refine take_first (i := 2) (some 129) (v := ?_) rfl rfl (by kernel_rfl) (by kernel_rfl) (by kernel_rfl) (fun _ _ _ h => h) (Or.inl ⟨by rfl, ?_⟩) hS ?_
  rotate_left
  · intro w' hSw; go_simp; try with_reducible rfl
  try simp only [Act.put, List.setIfInBounds_toArray, List.set_cons_zero, List.set_cons_succ]
  refine take_first (i := 3) (some 130) (v := ?_) rfl rfl (by kernel_rfl) (by kernel_rfl) (by kernel_rfl) (fun _ _ _ h => h) (Or.inl ⟨by rfl, ?_⟩) hS ?_
  rotate_left
  · intro w' hSw; have l1 := hSw.cell g1 (fun e => NBR.out e); have l2 := hSw.cell gx1 (fun e => NXR.out e); go_simp; try with_reducible rfl
  try simp only [Act.put, List.setIfInBounds_toArray, List.set_cons_zero, List.set_cons_succ]
  refine take_first (i := 4) (some 131) (v := ?_) rfl rfl (by kernel_rfl) (by kernel_rfl) (by kernel_rfl) (fun _ _ _ h => h) (Or.inl ⟨by rfl, ?_⟩) hS ?_
  rotate_left
  · intro w' hSw; go_simp; try with_reducible rfl
  try simp only [Act.put, List.setIfInBounds_toArray, List.set_cons_zero, List.set_cons_succ]
  refine take_first (i := 5) (some 132) (v := ?_) rfl rfl (by kernel_rfl) (by kernel_rfl) (by kernel_rfl) (fun _ _ _ h => h) (Or.inl ⟨by rfl, ?_⟩) hS ?_
  rotate_left
  · intro w' hSw; go_simp; try with_reducible rfl
  try simp only [Act.put, List.setIfInBounds_toArray, List.set_cons_zero, List.set_cons_succ]
  refine take_first (i := 6) (some 133) (v := ?_) rfl rfl (by kernel_rfl) (by kernel_rfl) (by kernel_rfl) (fun _ _ _ h => h) (Or.inl ⟨by rfl, ?_⟩) hS ?_
  rotate_left
  · intro w' hSw; go_simp; try with_reducible rfl
  try simp only [Act.put, List.setIfInBounds_toArray, List.set_cons_zero, List.set_cons_succ]
  refine take_first (i := 7) (some 134) (v := ?_) rfl rfl (by kernel_rfl) (by kernel_rfl) (by kernel_rfl) (fun _ _ _ h => h) (Or.inl ⟨by rfl, ?_⟩) hS ?_
  rotate_left
  · intro w' hSw; go_simp; try with_reducible rfl
  try simp only [Act.put, List.setIfInBounds_toArray, List.set_cons_zero, List.set_cons_succ]
  refine take_first (i := 9) (some 136) (v := ?_) rfl rfl (by kernel_rfl) (by kernel_rfl) (by kernel_rfl) (fun _ _ _ h => h) (Or.inl ⟨by rfl, ?_⟩) hS ?_
  rotate_left
  · intro w' hSw; go_simp; try with_reducible rfl
  try simp only [Act.put, List.setIfInBounds_toArray, List.set_cons_zero, List.set_cons_succ]
  refine take_first (i := 10) (some 137) (v := ?_) rfl rfl (by kernel_rfl) (by kernel_rfl) (by kernel_rfl) (fun _ _ _ h => h) (Or.inl ⟨by rfl, ?_⟩) hS ?_
  rotate_left
  · intro w' hSw; have l1 := hSw.cell g1 (fun e => NBR.out e); have l2 := hSw.cell gx1 (fun e => NXR.out e); go_simp; try with_reducible rfl
  try simp only [Act.put, List.setIfInBounds_toArray, List.set_cons_zero, List.set_cons_succ]
  refine wpAnyH_ready (rs := [8]) (by kernel_rfl) (by simp) ?_
  refine AllReadyH.cons rfl (fun K hK => ?_) AllReadyH.nil
  refine Rg.step_load (some 135) rfl (by rfl) 3 (.tmp 134) rfl ⟨r, off + k * 2 + 1, none⟩ rfl (.int .i64 z2) (by have gz' := gz2; go_simp) ?_
  refine hK.out _ _ hS (fun _ => ?_)
  clear hK K
  try simp only [Act.put, List.setIfInBounds_toArray, List.set_cons_zero, List.set_cons_succ]
  refine take_first (i := 11) (some 138) (v := ?_) rfl rfl (by kernel_rfl) (by kernel_rfl) (by kernel_rfl) (fun _ _ _ h => h) (Or.inl ⟨by rfl, ?_⟩) hS ?_
  rotate_left
  · intro w' hSw; go_simp; try with_reducible rfl
  try simp only [Act.put, List.setIfInBounds_toArray, List.set_cons_zero, List.set_cons_succ]
  refine take_first (i := 12) (some 139) (v := ?_) rfl rfl (by kernel_rfl) (by kernel_rfl) (by kernel_rfl) (fun _ _ _ h => h) (Or.inl ⟨by rfl, ?_⟩) hS ?_
  rotate_left
  · intro w' hSw; go_simp; try with_reducible rfl
  try simp only [Act.put, List.setIfInBounds_toArray, List.set_cons_zero, List.set_cons_succ]
  refine take_first (i := 13) (some 140) (v := ?_) rfl rfl (by kernel_rfl) (by kernel_rfl) (by kernel_rfl) (fun _ _ _ h => h) (Or.inl ⟨by rfl, ?_⟩) hS ?_
  rotate_left
  · intro w' hSw; go_simp; try with_reducible rfl
  try simp only [Act.put, List.setIfInBounds_toArray, List.set_cons_zero, List.set_cons_succ]
  refine wpAnyH_ready (rs := [14]) (by kernel_rfl) (by simp) ?_
  refine AllReadyH.cons rfl (fun K hK => ?_) AllReadyH.nil
  go_simp
  refine hK.out _ _ (hS.setCell (p := ⟨r, off + k * 2 + 1, none⟩) (fun _ => rfl) _) (fun _ => ?_)
  clear hK K
  try simp only [Act.put, List.setIfInBounds_toArray, List.set_cons_zero, List.set_cons_succ]
  refine wpAnyH_done (by kernel_rfl) ?_ _
  go_wp2
  go_ret
  have hF := (HRW.out.upd (((Upd.refl (fun _ => False) W).drewN nq).drew) (fun _ _ f => f))
  have e0 : ((a' ++ [(z1, z2)]) ++ q) = a' ++ (z1, z2) :: q := by simp
  rw [e0] at hF
  have hF2 := hF.setN (z2 + (y1 - f + y2))
  rw [← HK.out] at hF2
  rw [show (a' ++ (z1, z2) :: q).length = M by rw [← e0, HMN.out]] at hF2
  refine ⟨rfl, _, some r, ⟨heap_setCell_ne (heap_drew (heap_drewN HSW.out.set nq)) _ _ NBR.out, hF2⟩, .inl rfl, ((HUW.out.drewN nq).drew).setCell (p := ⟨r, _, none⟩) (fun _ => Or.inr rfl) _⟩

set_option maxHeartbeats 1000000 in
set_option maxRecDepth 100000 in
theorem fill_C2 {w : World} {b : Nat} {row : Option Nat} {n : Int} {v : Value} {a' : List Ex} {z : Ex} {q : List Ex} {y : Ex} (h : SpAt w b row n v ((a' ++ [z]) ++ (y :: q))) (hok : SpOk n ((a' ++ [z]) ++ (y :: q))) (f t : Int) (h1 : 0 ≤ f ∧ f < t ∧ t ≤ n) (hi : findN ((a' ++ [z]) ++ (y :: q)) f = (a' ++ [z]).length) (hyt : y.1 = t) (hz : z.1 + z.2 ≠ f) :
    Calls Try.prog 53 #[.pointer (some ⟨b, 0, none⟩), .int .i64 f, .int .i64 t] w (FillP w b row n ((a' ++ [z]) ++ (f, (t - f + y.2)) :: q)) := by
  have HI := Lib.hid (sp_is h)
  rw [decide_eq_true (show 0 < n by have := hok.1; omega)] at HI
  have HF := Lib.hid (sp_find h hok f (by have := hok.1; omega))
  rw [hi] at HF
  have hneb := h.neb
  have hn := hok.1
  have hlen := hok.len
  have c0 : w.cell? ⟨b, 0, none⟩ = some (.int .i64 n) := cell_heap h.set 0 _ rfl
  have c1 : w.cell? ⟨b, 1, none⟩ = some v := cell_heap h.set 1 _ rfl
  have HS := Lib.hid h
  have LB := Lib.hid (lt_of_heap h.set)
  obtain ⟨k, hk⟩ : ∃ k, k = a'.length := ⟨_, rfl⟩
  obtain ⟨i, hi2⟩ : ∃ i, i = k + 1 := ⟨_, rfl⟩
  have hik : (a' ++ [z]).length = i := by rw [List.length_append, List.length_singleton, ← hk, hi2]
  rw [hik] at HF
  have hzb := hok.2.1 z (by simp)
  obtain ⟨N, hN⟩ : ∃ N, N = ((a' ++ [z]) ++ (y :: q)).length := ⟨_, rfl⟩
  have hil : i < ((a' ++ [z]) ++ (y :: q)).length := by rw [List.length_append, hik, List.length_cons]; omega
  have hye : ((a' ++ [z]) ++ (y :: q))[i] = y := by simp [hi2, hk]
  obtain ⟨r, off, cap, rfl, rfl, cA, cB, hfr⟩ := h.row.get i hil
  rw [hye, Nat.mul_comm] at cA cB
  have LR := Lib.hid (h.row.lt r rfl)
  have hyb := hok.2.1 y (by simp)
  rw [← hN] at c1
  have hil2 : i < N := by omega
  have hd : decide (((i : Nat) : Int) < (N : Int)) = true := decide_eq_true (by omega)
  obtain ⟨y1, y2⟩ := y
  dsimp only at hyt cA cB hyb
  subst hyt
  have CC := Lib.hid (show ∀ w', Upd (fun _ => False) w w' → w'.cell? ⟨r, off + i * 2, none⟩ = some (.int .i64 y1) ∧ w'.cell? ⟨r, off + i * 2 + 1, none⟩ = some (.int .i64 y2) ∧ w'.cell? ⟨b, 0, none⟩ = some (.int .i64 n) ∧ w'.cell? ⟨b, 1, none⟩ = some (.slice (some ⟨r, off, none⟩) N cap) from fun w' hu => ⟨hu.cell cA (fun f => f), hu.cell cB (fun f => f), hu.cell c0 (fun f => f), hu.cell c1 (fun f => f)⟩)
  have p1 : ¬ (f < 0) := by omega
  have p2 : ¬ (y1 < f) := by omega
  have p3 : ¬ (n < y1) := by omega
  have p4 : ¬ (f = y1) := by omega
  have p5 : IntKind.i64.wrap (y1 - f) = y1 - f := IntWalk.i64_in _ (by omega)
  have p6 : ¬ (y1 < y1) := by omega
  have p7 : (y1 == y1) = true := by simp
  have p8 : IntKind.i64.wrap (y1 - f + y2) = y1 - f + y2 := IntWalk.i64_in _ (by omega)
  have p9 : IntKind.i64.wrap (((i : Nat) : Int) + 1) = ((i : Nat) : Int) + 1 := IntWalk.i64_in _ (by omega)
  clear hok hi c1 cA cB hfr hil hye h
  have HN0 := Lib.hid hN
  clear hN
  have HK0 := Lib.hid hk
  have HI20 := Lib.hid hi2
  have HIK0 := Lib.hid hik
  clear hik
  clear hi2 hk
  go_enter Try.func53, Try.ntmps53
  go_wp2_with (go_at_call 52; refine HI.out.mono ?_; rintro e w' ⟨rfl, rfl⟩)
  refine HF.out.mono ?_
  rintro e w1 ⟨rfl, u1⟩
  obtain ⟨d1, d2, d3, d4⟩ := CC.out _ u1
  have u2 := u1.alloc (.cells #[.int .i64 f, .int .i64 (y1 - f)] 99)
  obtain ⟨e1, e2, e3, e4⟩ := CC.out _ u2
  have hx := heap_alloc_new w1 (.cells #[.int .i64 f, .int .i64 (y1 - f)] 99)
  have x0 := cell_heap hx 0 _ rfl
  have x1 := cell_heap hx 1 _ rfl
  have fx := free_heap hx 1
  have HX := Lib.hid hx
  have HU2 := Lib.hid u2
  clear hx
  go_wp2
  refine wp_region_held_drew (S := fun w' => Upd (fun _ => False) w1 w') (by kernel_rfl) ((Upd.refl _ w1).alloc _).drew (fun hS => ?_)
  refine take_first (i := 0) (some 79) (v := ?_) rfl rfl (by kernel_rfl) (by kernel_rfl) (by kernel_rfl) (fun _ _ _ h => h) (Or.inl ⟨by rfl, ?_⟩) hS ?_
  rotate_left
  · intro w' hSw; go_simp; try with_reducible rfl
  try simp only [Act.put, List.setIfInBounds_toArray, List.set_cons_zero, List.set_cons_succ]
  refine take_first (i := 2) (some 81) (v := ?_) rfl rfl (by kernel_rfl) (by kernel_rfl) (by kernel_rfl) (fun _ _ _ h => h) (Or.inl ⟨by rfl, ?_⟩) hS ?_
  rotate_left
  · intro w' hSw; go_simp; try with_reducible rfl
  try simp only [Act.put, List.setIfInBounds_toArray, List.set_cons_zero, List.set_cons_succ]
  refine take_first (i := 3) (some 82) (v := ?_) rfl rfl (by kernel_rfl) (by kernel_rfl) (by kernel_rfl) (fun _ _ _ h => h) (Or.inl ⟨by rfl, ?_⟩) hS ?_
  rotate_left
  · intro w' hSw; go_simp; try with_reducible rfl
  try simp only [Act.put, List.setIfInBounds_toArray, List.set_cons_zero, List.set_cons_succ]
  refine take_first (i := 4) (some 83) (v := ?_) rfl rfl (by kernel_rfl) (by kernel_rfl) (by kernel_rfl) (fun _ _ _ h => h) (Or.inl ⟨by rfl, ?_⟩) hS ?_
  rotate_left
  · intro w' hSw; go_simp; try with_reducible rfl
  try simp only [Act.put, List.setIfInBounds_toArray, List.set_cons_zero, List.set_cons_succ]
  refine take_first (i := 5) (some 84) (v := ?_) rfl rfl (by kernel_rfl) (by kernel_rfl) (by kernel_rfl) (fun _ _ _ h => h) (Or.inl ⟨by rfl, ?_⟩) hS ?_
  rotate_left
  · intro w' hSw; have l1 := hSw.cell d4 (fun f => f); have l2 := hSw.cell d2 (fun f => f); go_simp; try with_reducible rfl
  try simp only [Act.put, List.setIfInBounds_toArray, List.set_cons_zero, List.set_cons_succ]
  refine take_first (i := 6) (some 85) (v := ?_) rfl rfl (by kernel_rfl) (by kernel_rfl) (by kernel_rfl) (fun _ _ _ h => h) (Or.inl ⟨by rfl, ?_⟩) hS ?_
  rotate_left
  · intro w' hSw; go_simp; try with_reducible rfl
  try simp only [Act.put, List.setIfInBounds_toArray, List.set_cons_zero, List.set_cons_succ]
  refine take_first (i := 7) (some 86) (v := ?_) rfl rfl (by kernel_rfl) (by kernel_rfl) (by kernel_rfl) (fun _ _ _ h => h) (Or.inl ⟨by rfl, ?_⟩) hS ?_
  rotate_left
  · intro w' hSw; go_simp; try with_reducible rfl
  try simp only [Act.put, List.setIfInBounds_toArray, List.set_cons_zero, List.set_cons_succ]
  refine take_first (i := 8) (some 87) (v := ?_) rfl rfl (by kernel_rfl) (by kernel_rfl) (by kernel_rfl) (fun _ _ _ h => h) (Or.inl ⟨by rfl, ?_⟩) hS ?_
  rotate_left
  · intro w' hSw; go_simp; try with_reducible rfl
  try simp only [Act.put, List.setIfInBounds_toArray, List.set_cons_zero, List.set_cons_succ]
  refine take_first (i := 9) (some 88) (v := ?_) rfl rfl (by kernel_rfl) (by kernel_rfl) (by kernel_rfl) (fun _ _ _ h => h) (Or.inl ⟨by rfl, ?_⟩) hS ?_
  rotate_left
  · intro w' hSw; have l1 := hSw.cell d4 (fun f => f); have l2 := hSw.cell d2 (fun f => f); go_simp; try with_reducible rfl
  try simp only [Act.put, List.setIfInBounds_toArray, List.set_cons_zero, List.set_cons_succ]
  refine wpAnyH_ready (rs := [1]) (by kernel_rfl) (by simp) ?_
  refine AllReadyH.cons rfl (fun K hK => ?_) AllReadyH.nil
  refine Rg.step_load (some 80) rfl (by rfl) 3 (.tmp 79) rfl ⟨w1.heap.size, 1, none⟩ rfl (.int .i64 (y1 - f)) (by have x1' := x1; go_simp) ?_
  refine hK.out _ _ hS (fun _ => ?_)
  clear hK K
  try simp only [Act.put, List.setIfInBounds_toArray, List.set_cons_zero, List.set_cons_succ]
  refine take_first (i := 10) (some 89) (v := ?_) rfl rfl (by kernel_rfl) (by kernel_rfl) (by kernel_rfl) (fun _ _ _ h => h) (Or.inl ⟨by rfl, ?_⟩) hS ?_
  rotate_left
  · intro w' hSw; go_simp; try with_reducible rfl
  try simp only [Act.put, List.setIfInBounds_toArray, List.set_cons_zero, List.set_cons_succ]
  refine take_first (i := 11) (some 90) (v := ?_) rfl rfl (by kernel_rfl) (by kernel_rfl) (by kernel_rfl) (fun _ _ _ h => h) (Or.inl ⟨by rfl, ?_⟩) hS ?_
  rotate_left
  · intro w' hSw; go_simp; try with_reducible rfl
  try simp only [Act.put, List.setIfInBounds_toArray, List.set_cons_zero, List.set_cons_succ]
  refine wpAnyH_ready (rs := [12]) (by kernel_rfl) (by simp) ?_
  refine AllReadyH.cons rfl (fun K hK => ?_) AllReadyH.nil
  go_simp
  refine hK.out _ _ (((Upd.refl (fun _ => False) w1).alloc _).drew) (fun _ => ?_)
  clear hK K
  try simp only [Act.put, List.setIfInBounds_toArray, List.set_cons_zero, List.set_cons_succ]
  refine wpAnyH_done (by kernel_rfl) ?_ _
  have lw := u1.size
  have uw3 : Upd (fun _ => False) w ((w1.alloc (.cells #[.int .i64 f, .int .i64 (y1 - f + y2)] 99)).drew) := (u1.alloc _).drew
  have hX3 : OneAt ((w1.alloc (.cells #[.int .i64 f, .int .i64 (y1 - f + y2)] 99)).drew) w1.heap.size (f, y1 - f + y2) := heap_drew (heap_alloc_new w1 _)
  have hS3 := HS.out.upd uw3 (fun f => f) (fun _ _ f => f)
  obtain ⟨W2, hW2⟩ : ∃ W2, W2 = ((w1.alloc (.cells #[.int .i64 f, .int .i64 (y1 - f + y2)] 99)).drew) := ⟨_, rfl⟩
  rw [← hW2] at uw3 hX3 hS3 ⊢
  obtain ⟨xb, hxb⟩ : ∃ xb, xb = w1.heap.size := ⟨_, rfl⟩
  rw [← hxb] at hX3 ⊢
  have hxw : w.heap.size ≤ xb := by omega
  have nxr : xb ≠ r := by have := LR.out; omega
  have nxb : xb ≠ b := by have := LB.out; omega
  have HDEL := Lib.hid (del_one hS3.row (by omega))
  have dB : W2.cell? ⟨b, 1, none⟩ = some (.slice (some ⟨r, off, none⟩) N cap) := by rw [HN0.out]; exact cell_heap hS3.set 1 _ rfl
  have HS3 := Lib.hid hS3
  have HX3 := Lib.hid hX3
  have HW3 := Lib.hid uw3
  have HNB := Lib.hid hneb
  rw [← HN0.out, HIK0.out] at HDEL
  have hlq : ((a' ++ [z]) ++ q).length = N - 1 := by rw [HN0.out]; simp
  rw [hlq] at HDEL
  have HLQ := Lib.hid hlq
  clear hW2 hxb hS3 hX3 uw3 hS d1 d2 d3 d4 e1 e2 e3 e4 x0 x1 fx u1 u2 hneb hlq HU2 HX lw
  go_wp2_with (go_at_call 60; refine HDEL.out.mono ?_; rintro e w3 ⟨rfl, k1, k2⟩; have hb3 := k2.heap HS3.out.set (fun e => HNB.out (by rw [e])); have cb3 : w3.cell? ⟨b, 1, none⟩ = some (.slice (some ⟨r, off, none⟩) N cap) := (by rw [HN0.out]; exact cell_heap hb3 1 _ rfl); have fb3 := free_heap hb3 1)
  have hXW0 := k2.heap HX3.out nxr
  have u4 : Upd (fun k => k = b) w3 (w3.setCell ⟨b, 1, none⟩ (.slice (some ⟨r, off, none⟩) (N - 1) cap)) := (Upd.refl (fun k => k = b) w3).setCell (p := ⟨b, 1, none⟩) (fun _ => rfl) _
  have hSW := SpAt.store hb3 k1
  have hXW : OneAt (w3.setCell ⟨b, 1, none⟩ (.slice (some ⟨r, off, none⟩) (N - 1) cap)) xb (f, y1 - f + y2) := u4.heap hXW0 nxb
  have hUW : Upd (fun k => k = b ∨ some r = some k) w (w3.setCell ⟨b, 1, none⟩ (.slice (some ⟨r, off, none⟩) (N - 1) cap)) := ((HW3.out.mono (fun _ _ f => f.elim) : Upd (fun k => k = b ∨ some r = some k) w W2).trans k2 (fun _ _ e => Or.inr (by rw [e]))).trans u4 (fun _ _ e => Or.inl e)
  obtain ⟨W, hW⟩ : ∃ W, W = w3.setCell ⟨b, 1, none⟩ (.slice (some ⟨r, off, none⟩) (N - 1) cap) := ⟨_, rfl⟩
  rw [← hW] at hSW hXW hUW ⊢
  clear hW hb3 cb3 fb3 hXW0 u4 k1 k2
  obtain ⟨M, hM⟩ : ∃ M, M = N - 1 := ⟨_, rfl⟩
  rw [← hM] at hSW
  have hMN : M = (((a' ++ [z]) ++ q)).length := by rw [hM, ← HLQ.out]
  have hlM : (M : Int) ≤ n := by have := HN0.out; omega
  have hk := HK0.out
  have hi2 := HI20.out
  have hik := HIK0.out
  have g1 : W.cell? ⟨b, 1, none⟩ = some (.slice (some ⟨r, off, none⟩) M cap) := cell_heap hSW.set 1 _ rfl
  have gx0 := cell_heap hXW 0 _ rfl
  have gx1 := cell_heap hXW 1 _ rfl
  have hRW := hSW.row
  have HSW := Lib.hid hSW
  have HXW := Lib.hid hXW
  have HUW := Lib.hid hUW
  rw [hMN] at hRW
  obtain ⟨gz1, gz2, gzf⟩ := hRW.at k z (by rw [hk]; simp)
  have HRW := Lib.hid hRW
  obtain ⟨z1, z2⟩ := z
  dsimp only at hz gz1 gz2 hzb
  have hiN : i ≤ M := by rw [hMN, List.length_append, hik]; omega
  have q1 : IntKind.i64.wrap ((i : Int) - 1) = (i : Int) - 1 := IntWalk.i64_in _ (by omega)
  have q2 : ((i : Int) - 1).toNat = k := by omega
  have q3 : (0 : Int) ≤ (i : Int) - 1 := by omega
  have q4 : (i : Int) - 1 < (M : Int) := by rw [hMN, List.length_append, hik]; omega
  have q5 : IntKind.i64.wrap (z1 + z2) = z1 + z2 := IntWalk.i64_in _ (by omega)
  have q6 : decide ((0 : Int) < (i : Int)) = true := decide_eq_true (by omega)
  have q7 : (z1 + z2 == f) = false := by simp; omega
  have q8 : IntKind.i64.wrap (z2 + (y1 - f + y2)) = z2 + (y1 - f + y2) := IntWalk.i64_in _ (by omega)
  have q9 : 0 < i := by omega
  have q10 : (1 : Int) ≤ (i : Int) := by omega
  have HMN := Lib.hid hMN
  have HIK := Lib.hid hik
  have HK := Lib.hid hk
  have NBR := Lib.hid (show b ≠ r from fun e => hSW.neb (by rw [e]))
  have NXR := Lib.hid nxr
  have hM4 : M ≤ 4096 := by omega
  clear hik
  clear hSW hXW hUW hRW hMN hi2 hk hlM hzb hlen hn h1 hyb p9 hil2 hd hM p1 p2 p3 p4 p5 hz p6 p7 p8
  go_quiet (fail)
  go_wp2
  have u5 : ∀ q, Upd (fun _ => False) W ((W.drewN q).alloc (.cells #[.int .i64 f, .int .i64 (y1 - f + y2)] 99)) := fun qn => ((Upd.refl _ _).drewN qn).alloc _
  have hS5 := fun qn => HSW.out.upd (u5 qn) (fun f => f) (fun _ _ f => f)
  have HINS := fun qn => Lib.hid (ins_any (a := (a' ++ [(z1, z2)])) (b := q) (x := (f, (y1 - f + y2))) (vb := W.heap.size) (HRW.out.upd (u5 qn) (fun _ _ f => f)) (heap_alloc_new (W.drewN qn) _) (fun e => by have := HSW.out.row.lt _ e; omega) (by rw [← HMN.out]; exact hM4))
  simp only [HIK.out, ← HMN.out] at HINS
  have HB5 := fun qn => Lib.hid (hS5 qn).set
  have HNB5 := Lib.hid HSW.out.neb
  have HU5 := Lib.hid u5
  have gA : ∀ q, ((W.drewN q).alloc (.cells #[.int .i64 f, .int .i64 (y1 - f + y2)] 99)).cell? ⟨b, 1, none⟩ = some (.slice (some ⟨r, off, none⟩) M cap) := fun qn => (u5 qn).cell g1 (fun f => f)
  clear hS5 u5
  go_region_with (go_at_call 61; refine (HINS _).out.mono ?_; rintro e w6 ⟨v6, row6, rfl, k1, k2, k3⟩; obtain ⟨ad6, len6, cap6, rfl⟩ := k1.form3; have hb6 := k3.heap (HB5 _).out (fun e => HNB5.out e); have cb6 : w6.cell? ⟨b, 1, none⟩ = some (.slice (some ⟨r, off, none⟩) M cap) := cell_heap hb6 1 _ rfl; have fb6 := free_heap hb6 1)
  all_goals (go_wp2; go_ret; refine ⟨rfl, _, row6, SpAt.store hb6 k1, ?_, (((HUW.out.trans ((HU5.out _).mono (fun _ _ f => f.elim)) (fun _ _ e => e) : Upd (fun k => k = b ∨ (some r) = some k) w _).trans k3 (fun _ _ e => Or.inr e))).setCell (p := ⟨b, 1, none⟩) (fun _ => Or.inl rfl) _⟩)
  all_goals (rcases k2 with e | ⟨x, e1, e2⟩; exact Or.inl e; exact Or.inr ⟨x, e1, by have := HUW.out.size; have e3 : W.heap.size + 1 ≤ x := (by rw [World.size_alloc] at e2; exact e2); omega⟩)

end Go.Proofs.Ytieohjibccjliaa
