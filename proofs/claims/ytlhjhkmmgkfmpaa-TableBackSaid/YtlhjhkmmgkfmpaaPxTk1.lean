/- table.Take's closures for the printer. -/
import Derived.Test.YtlhjhkmmgkfmpaaPxPut
import Derived.Laws.Rows
set_option linter.unusedVariables false
set_option linter.unusedSimpArgs false
namespace Go.Proofs.Ytlhjhkmmgkfmpaa.Px
open Go.RowKit Go.Shelf Go.Proofs.YtlhjhkmmgkfmpaaW.PrintWords Go.Proofs.YtlhjhkmmgkfmpaaW.PrintLast

def snapR (l : List UInt8) (e : Int) : S53 × List UInt8 × Int :=
  let a := rText l e
  let b := rU16 a.2.1 a.2.2
  let c := rU64 b.2.1 b.2.2
  let d := rU64 c.2.1 c.2.2
  (⟨⟨a.1.toArray⟩, (b.1 : Nat), (c.1 : Nat), (d.1 : Nat)⟩, d.2.1, d.2.2)
def refR (l : List UInt8) (e : Int) : S65 × List UInt8 × Int :=
  let a := rU16 l e
  let b := rU16 a.2.1 a.2.2
  (⟨(a.1 : Nat), (b.1 : Nat)⟩, b.2.1, b.2.2)
def snapV (x : S53) : Value := .agg #[.string x.f0, .int .i64 x.f1, .int .u64 x.f2, .int .u64 x.f3]
def refV (x : S65) : Value := .agg #[.int .i64 x.f0, .int .i64 x.f1]
theorem rU64_le (l : List UInt8) (e : Int) : (rU64 l e).2.1.length ≤ l.length := fx_len _ _ _
theorem rU16_le (l : List UInt8) (e : Int) : (rU16 l e).2.1.length ≤ l.length := fx_len _ _ _
theorem rU8_le (l : List UInt8) (e : Int) : (rU8 l e).2.1.length ≤ l.length := fx_len _ _ _
theorem rText_le (l : List UInt8) (e : Int) : (rText l e).2.1.length ≤ l.length := Nat.le_trans (fx_len _ _ _) (rU16_le l e)
def zsnap : Array Value := #[.string ⟨#[]⟩, .int .i64 0, .int .u64 0, .int .u64 0]
theorem zero_snap (w : World) : (zeroValue 53).run Try.prog w = .ok (.agg zsnap) w := by kernel_rfl
theorem info_snap : (Try.prog.info? 53).map (·.size) = some 4 := by kernel_rfl
theorem text_enters : Enters Try.prog 40 := enters_of Try.func40 rfl rfl
theorem u16_enters : Enters Try.prog 41 := enters_of Try.func41 rfl rfl
theorem u64_enters : Enters Try.prog 36 := enters_of Try.func36 rfl rfl
theorem u8_enters : Enters Try.prog 38 := enters_of Try.func38 rfl rfl

set_option maxHeartbeats 4000000 in
set_option maxRecDepth 100000 in
theorem take2_walk (bp br : Nat) (l : List UInt8) (e : Int) (w : World) (hl : l.length ≤ 1000000) (hbp : w.heap[bp]? = some (.cells #[.pointer (some ⟨br, 0, none⟩)] 74 (0, 0))) (hR : Rd w br l e) (hne : bp ≠ br) :
    Calls Try.prog 43 #[.pointer (some ⟨bp, 0, none⟩)] w (fun e' w' => e' = .returned (refV (refR l e).1) ∧ Rd w' br (refR l e).2.1 (refR l e).2.2 ∧ Upd (fun k => k = br) w w') := by
  have hu65 := Try.underlying65
  have h1 := fun w h => Reader_U16 br l e w (by omega) h
  have h2 := fun w h => Reader_U16 br (rU16 l e).2.1 (rU16 l e).2.2 w (by have := rU16_le l e; omega) h
  have b1 := rU16_lt l e
  have b2 := rU16_lt (rU16 l e).2.1 (rU16 l e).2.2
  unfold refR refV
  dsimp only
  generalize rU16 l e = x1 at *
  obtain ⟨n, L1, e1⟩ := x1
  dsimp only at h1 h2 b1 b2 ⊢
  generalize rU16 L1 e1 = x2 at *
  obtain ⟨m, L2, e2⟩ := x2
  dsimp only at h1 h2 b1 b2 ⊢
  have H1 := Lib.hid h1
  have H2 := Lib.hid h2
  have hd0 := heap_alloc_lt hbp (.cells #[.int .i64 0, .int .i64 0] 65)
  have hR0 : Rd (w.alloc (.cells #[.int .i64 0, .int .i64 0] 65)) br l e := heap_alloc_lt hR _
  have d0 := cell_heap hd0 0 (.pointer (some ⟨br, 0, none⟩)) rfl
  have b0 := heap_alloc_new w (.cells #[.int .i64 0, .int .i64 0] 65)
  have u0 := (Upd.refl (fun k => k = br) w).alloc (.cells #[.int .i64 0, .int .i64 0] 65)
  have lr := lt_of_heap hR
  have lp := lt_of_heap hbp
  clear h1 h2
  go_enter Try.func43, Try.ntmps43
  go_wp2_with (fail)
  refine (H1.out _ hR0).mono ?_
  rintro e w1 ⟨rfl, hR1, u1⟩
  have hw1 : wrap64 (n : Int) = (n : Int) := by unfold Two16 at b1; unfold wrap64; omega
  have hw2 : wrap64 (m : Int) = (m : Int) := by unfold Two16 at b2; unfold wrap64; omega
  have nr : w.heap.size ≠ br := by omega
  have hb1 := u1.heap hd0 hne
  have r1 := u1.heap b0 nr
  have hb2 := heap_alloc_lt hb1 (.cells #[.int .i64 n, .int .i64 0] 65)
  have d1 := cell_heap hb2 0 (.pointer (some ⟨br, 0, none⟩)) rfl
  have r2 := heap_alloc_lt r1 (.cells #[.int .i64 n, .int .i64 0] 65)
  have hR2 : Rd (w1.alloc (.cells #[.int .i64 n, .int .i64 0] 65)) br L1 e1 := heap_alloc_lt hR1 _
  have nb := heap_alloc_new w1 (.cells #[.int .i64 n, .int .i64 0] 65)
  have l1 := lt_of_heap r1
  have u2 := (u0.trans u1 (fun _ _ f => f)).alloc (.cells #[.int .i64 n, .int .i64 0] 65)
  have nq : w1.heap.size ≠ br := by omega
  have nq2 : w.heap.size ≠ w1.heap.size := by omega
  have NQ := Lib.hid nq
  have NR := Lib.hid nr
  clear hR1 hb1 r1 hd0 hR0 b0 d0
  go_wp2_with (fail)
  refine (H2.out _ hR2).mono ?_
  rintro e w3 ⟨rfl, hR3, u3⟩
  have nb3 := u3.heap nb NQ.out
  have r3 := u3.heap r2 NR.out
  have c0 := cell_heap nb3 0 (.int .i64 n) rfl
  have c1 := cell_heap nb3 1 (.int .i64 0) rfl
  have f1 := free_heap nb3 1
  have g0 := cell_heap r3 0 (.int .i64 0) rfl
  have g1 := cell_heap r3 1 (.int .i64 0) rfl
  have k0 := free_heap r3 0
  have k1 := free_heap r3 1
  go_wp2
  have hq := heap_setCell_eq (i := 1) (heap_setCell_eq (i := 0) (heap_setCell_ne r3 ⟨w1.heap.size, 1, none⟩ (.int .i64 m) (by show w.heap.size ≠ w1.heap.size; exact nq2)) (.int .i64 n)) (.int .i64 m)
  refine bodyPost_ret (v := .agg #[.int .i64 n, .int .i64 m]) (results_cell_row (P := Try.prog) rfl _ _ w.heap.size 65 #[.int .i64 n, .int .i64 m] (0, 0) _ rfl hq hu65 rfl (by kernel_rfl)) rfl ⟨rfl, ?_, ?_⟩
  · exact heap_setCell_ne (heap_setCell_ne (heap_setCell_ne hR3 _ _ (Ne.symm NQ.out)) _ _ (Ne.symm NR.out)) _ _ (Ne.symm NR.out)
  · exact (((u2.trans u3 (fun _ _ f => f)).setCell (p := ⟨w1.heap.size, 1, none⟩) (fun k => absurd k (by show ¬ w1.heap.size < w.heap.size; omega)) _).setCell (p := ⟨w.heap.size, 0, none⟩) (fun k => absurd k (Nat.lt_irrefl _)) _).setCell (p := ⟨w.heap.size, 1, none⟩) (fun k => absurd k (Nat.lt_irrefl _)) _

set_option maxHeartbeats 8000000 in
set_option maxRecDepth 100000 in
theorem take1_walk (bp br : Nat) (l : List UInt8) (e : Int) (w : World) (hl : l.length ≤ 1000000) (hbp : w.heap[bp]? = some (.cells #[.pointer (some ⟨br, 0, none⟩)] 74 (0, 0))) (hR : Rd w br l e) (hne : bp ≠ br) :
    Calls Try.prog 39 #[.pointer (some ⟨bp, 0, none⟩)] w (fun e' w' => e' = .returned (snapV (snapR l e).1) ∧ Rd w' br (snapR l e).2.1 (snapR l e).2.2 ∧ Upd (fun k => k = br) w w') := by
  have hu53 := Try.underlying53
  have hq1 := rText_le l e
  have h1 := fun w h => Reader_Text br l e w (by omega) h
  have hq2 := rU16_le (rText l e).2.1 (rText l e).2.2
  have h2 := fun w h => Reader_U16 br (rText l e).2.1 (rText l e).2.2 w (by omega) h
  have b2 := rU16_lt (rText l e).2.1 (rText l e).2.2
  unfold snapR snapV
  dsimp only
  generalize rText l e = x1 at *
  obtain ⟨nm, L1, e1⟩ := x1
  dsimp only at h1 h2 b2 hq1 hq2 ⊢
  generalize rU16 L1 e1 = x2 at *
  obtain ⟨n, L2, e2⟩ := x2
  dsimp only at h1 h2 b2 hq2 ⊢
  have hq3 := rU64_le L2 e2
  have h3 := fun w h => Reader_U64 br L2 e2 w (by omega) h
  generalize rU64 L2 e2 = x3 at *
  obtain ⟨c, L3, e3⟩ := x3
  dsimp only at h3 hq3 ⊢
  have h4 := fun w h => Reader_U64 br L3 e3 w (by omega) h
  generalize rU64 L3 e3 = x4 at *
  obtain ⟨d, L4, e4⟩ := x4
  dsimp only at h4 ⊢
  have H1 := Lib.hid h1
  have H2 := Lib.hid h2
  have H3 := Lib.hid h3
  have H4 := Lib.hid h4
  have hw1 : wrap64 (n : Int) = (n : Int) := by unfold Two16 at b2; unfold wrap64; omega
  have hw1b : IntKind.i64.wrap (n : Int) = (n : Int) := by unfold Two16 at b2; exact IntWalk.i64_in _ (by omega)
  have hd0 := heap_alloc_lt hbp (.cells zsnap 53)
  have hR0 : Rd (w.alloc (.cells zsnap 53)) br l e := heap_alloc_lt hR _
  have b0 := heap_alloc_new w (.cells zsnap 53)
  have u0 := (Upd.refl (fun k => k = br) w).alloc (.cells zsnap 53)
  have lr := lt_of_heap hR
  have lp := lt_of_heap hbp
  have l0 := lt_of_heap b0
  obtain ⟨W0, hW0⟩ : ∃ W0, W0 = w.alloc (.cells zsnap 53) := ⟨_, rfl⟩
  rw [← hW0] at hd0 hR0 b0 u0 l0
  have D0 := Lib.hid (cell_heap hd0 0 (.pointer (some ⟨br, 0, none⟩)) rfl)
  have HD := Lib.hid hd0
  have HR0 := Lib.hid hR0
  have HB0 := Lib.hid b0
  have U0 := Lib.hid u0
  have NBP : Hid (¬ ((⟨bp, 0, none⟩ : Addr).block = br)) := Lib.hid hne
  clear h1 h2 h3 h4 hd0 hR0 b0 u0 hne
  go_enter Try.func39, Try.ntmps39
  go_upto_region 1 with (fail)
  rw [show w.alloc (.cells #[.string ⟨#[]⟩, .int .i64 0, .int .u64 0, .int .u64 0] 53) = W0 from hW0.symm]
  clear hW0
  go_cut [2] (fun v2 W => ∃ p : Nat, v2 = .pointer (some ⟨p, 0, none⟩) ∧ W0.heap.size ≤ p ∧ W.heap[p]? = some (.cells #[.string ⟨nm.toArray⟩, .int .i64 (n : Nat), .int .u64 0, .int .u64 0] 53 (0, 0)) ∧ Rd W br L2 e2 ∧ Upd (fun k => k = br) W0 W)
  case first =>
    have HRd : Rd W0.drew br l e := HR0.out
    have lbr : br < W0.heap.size := lt_of_heap HR0.out
--R1
    refine wp_region_held_drew (S := fun w' => Upd (fun k => k = br) W0 w') (by kernel_rfl) (Upd.refl _ _).drew (fun hS => ?_)
    refine take_first (i := 0) (some 3) (v := ?_) rfl rfl (by kernel_rfl) (by kernel_rfl) (by kernel_rfl) (fun _ _ _ h => h) (Or.inl ⟨by rfl, ?_⟩) hS ?_
    rotate_left
    · intro w' hSw; have q0 := hSw.cell D0.out NBP.out; go_simp; try with_reducible rfl
    simp only [Act.put, List.setIfInBounds_toArray, List.set_cons_zero, List.set_cons_succ]
    refine take_first (i := 2) (some 5) (v := ?_) rfl rfl (by kernel_rfl) (by kernel_rfl) (by kernel_rfl) (fun _ _ _ h => h) (Or.inl ⟨by rfl, ?_⟩) hS ?_
    rotate_left
    · intro w' hSw; have q0 := hSw.cell D0.out NBP.out; go_simp; try with_reducible rfl
    simp only [Act.put, List.setIfInBounds_toArray, List.set_cons_zero, List.set_cons_succ]
    refine wpAnyH_ready (rs := [1, 6]) (by kernel_rfl) (by simp) ?_
    refine AllReadyH.cons rfl (fun K hK => ?_) (AllReadyH.cons rfl (fun K hK => ?_) AllReadyH.nil)
    · skip
      refine step_fn (some 4) rfl (by rfl) 40 text_enters #[.tmp 3] #[74] rfl #[.pointer (some ⟨br, 0, none⟩)] rfl (fun r w' => r = .string ⟨nm.toArray⟩ ∧ Rd w' br L1 e1 ∧ Upd (fun k => k = br) W0 w') ((H1.out _ HRd).mono fun e w' h => ⟨_, h.1, rfl, h.2.1, hS.trans h.2.2 (fun _ _ f => f)⟩) (fun r w1 hr => ?_)
      obtain ⟨rfl, hR1, hS2⟩ := hr
      clear hS
      refine hK.out _ _ hS2 (fun hS => ?_)
      clear hK K
      simp only [Act.put, List.setIfInBounds_toArray, List.set_cons_zero, List.set_cons_succ]
      refine wpAnyH_ready (rs := [3, 6]) (by kernel_rfl) (by simp) ?_
      refine AllReadyH.cons rfl (fun K hK => ?_) (AllReadyH.cons rfl (fun K hK => ?_) AllReadyH.nil)
      · skip
        refine step_fn (some 6) rfl (by rfl) 41 u16_enters #[.tmp 5] #[74] rfl #[.pointer (some ⟨br, 0, none⟩)] rfl (fun r w' => r = .int .u16 (n : Nat) ∧ Rd w' br L2 e2 ∧ Upd (fun k => k = br) W0 w') ((H2.out _ hR1).mono fun e w' h => ⟨_, h.1, rfl, h.2.1, hS.trans h.2.2 (fun _ _ f => f)⟩) (fun r w2 hr => ?_)
        obtain ⟨rfl, hR2, hS2⟩ := hr
        clear hS
        refine hK.out _ _ hS2 (fun hS => ?_)
        clear hK K
        simp only [Act.put, List.setIfInBounds_toArray, List.set_cons_zero, List.set_cons_succ]
        refine take_first (i := 4) (some 7) (v := ?_) rfl rfl (by kernel_rfl) (by kernel_rfl) (by kernel_rfl) (fun _ _ _ h => h) (Or.inl ⟨by rfl, ?_⟩) hS ?_
        rotate_left
        · intro w' hSw; go_simp; try with_reducible rfl
        simp only [Act.put, List.setIfInBounds_toArray, List.set_cons_zero, List.set_cons_succ]
        refine take_first (i := 5) (some 8) (v := ?_) rfl rfl (by kernel_rfl) (by kernel_rfl) (by kernel_rfl) (fun _ _ _ h => h) (Or.inl ⟨by rfl, ?_⟩) hS ?_
        rotate_left
        · intro w' hSw; go_simp; try with_reducible rfl
        simp only [Act.put, List.setIfInBounds_toArray, List.set_cons_zero, List.set_cons_succ]
        refine wpAnyH_ready (rs := [6]) (by kernel_rfl) (by simp) ?_
        refine AllReadyH.cons rfl (fun K hK => ?_) AllReadyH.nil
        have hA0 := heap_alloc_new w2 (.cells zsnap 53)
        have hP : W0.heap.size ≤ w2.heap.size := hS.size
        refine Rg.step_alloc (some 2) rfl (by rfl) 53 rfl zsnap zero_snap (hK.out _ _ (hS.alloc _) (fun hS2 => ?_))
        clear hK K
        simp only [Act.put, List.setIfInBounds_toArray, List.set_cons_zero, List.set_cons_succ]
        have hR2 := heap_alloc_lt (show w2.heap[br]? = _ from hR2) (.cells zsnap 53)
        have hA := hA0
        clear hS
        have hS := hS2
        refine wpAnyH_ready (rs := [7]) (by kernel_rfl) (by simp) ?_
        refine AllReadyH.cons rfl (fun K hK => ?_) AllReadyH.nil
        refine Rg.step_store rfl (by rfl) 53 (.tmp 2) (.tmp 8) rfl ⟨w2.heap.size, 0, none⟩ rfl (.agg #[.string ⟨nm.toArray⟩, .int .i64 (n : Nat), .int .u64 0, .int .u64 0]) rfl (Rg.store_all _ _ _ zsnap.toList [.string ⟨nm.toArray⟩, .int .i64 (n : Nat), .int .u64 0, .int .u64 0] hA info_snap rfl (by intro v hv; simp at hv; rcases hv with rfl | rfl | rfl | rfl <;> rfl)) (hK.out _ _ (Rg.upd_setRow hS (fun h => absurd h (by omega)) _) (fun hS3 => ?_))
        clear hK K
        refine wpAnyH_done (by kernel_rfl) ?_ _
        simp only [Act.put]
        go_wp2
        go_meet
        case rel =>
          refine ⟨w2.heap.size, rfl, by omega, Rg.setRow_at hA _, ?_, hS3⟩
          show (World.setRow _ _ _).heap[br]? = _
          rw [Rg.setRow_ne _ _ _ _ (by omega)]
          exact hR2
      · skip
        have hA0 := heap_alloc_new w1 (.cells zsnap 53)
        have hP : W0.heap.size ≤ w1.heap.size := hS.size
        refine Rg.step_alloc (some 2) rfl (by rfl) 53 rfl zsnap zero_snap (hK.out _ _ (hS.alloc _) (fun hS2 => ?_))
        clear hK K
        simp only [Act.put, List.setIfInBounds_toArray, List.set_cons_zero, List.set_cons_succ]
        clear hS
        have hS := hS2
        refine wpAnyH_ready (rs := [3]) (by kernel_rfl) (by simp) ?_
        refine AllReadyH.cons rfl (fun K hK => ?_) AllReadyH.nil
        refine step_fn (some 6) rfl (by rfl) 41 u16_enters #[.tmp 5] #[74] rfl #[.pointer (some ⟨br, 0, none⟩)] rfl (fun r w' => r = .int .u16 (n : Nat) ∧ Rd w' br L2 e2 ∧ w'.heap[w1.heap.size]? = some (.cells zsnap 53 (0, 0)) ∧ Upd (fun k => k = br) W0 w') ((H2.out _ (heap_alloc_lt hR1 _)).mono fun e w' h => ⟨_, h.1, rfl, h.2.1, h.2.2.heap hA0 (by omega), hS.trans h.2.2 (fun _ _ f => f)⟩) (fun r w2 hr => ?_)
        obtain ⟨rfl, hR2, hA, hS2⟩ := hr
        clear hS
        refine hK.out _ _ hS2 (fun hS => ?_)
        clear hK K
        simp only [Act.put, List.setIfInBounds_toArray, List.set_cons_zero, List.set_cons_succ]
        refine take_first (i := 4) (some 7) (v := ?_) rfl rfl (by kernel_rfl) (by kernel_rfl) (by kernel_rfl) (fun _ _ _ h => h) (Or.inl ⟨by rfl, ?_⟩) hS ?_
        rotate_left
        · intro w' hSw; go_simp; try with_reducible rfl
        simp only [Act.put, List.setIfInBounds_toArray, List.set_cons_zero, List.set_cons_succ]
        refine take_first (i := 5) (some 8) (v := ?_) rfl rfl (by kernel_rfl) (by kernel_rfl) (by kernel_rfl) (fun _ _ _ h => h) (Or.inl ⟨by rfl, ?_⟩) hS ?_
        rotate_left
        · intro w' hSw; go_simp; try with_reducible rfl
        simp only [Act.put, List.setIfInBounds_toArray, List.set_cons_zero, List.set_cons_succ]
        refine wpAnyH_ready (rs := [7]) (by kernel_rfl) (by simp) ?_
        refine AllReadyH.cons rfl (fun K hK => ?_) AllReadyH.nil
        refine Rg.step_store rfl (by rfl) 53 (.tmp 2) (.tmp 8) rfl ⟨w1.heap.size, 0, none⟩ rfl (.agg #[.string ⟨nm.toArray⟩, .int .i64 (n : Nat), .int .u64 0, .int .u64 0]) rfl (Rg.store_all _ _ _ zsnap.toList [.string ⟨nm.toArray⟩, .int .i64 (n : Nat), .int .u64 0, .int .u64 0] hA info_snap rfl (by intro v hv; simp at hv; rcases hv with rfl | rfl | rfl | rfl <;> rfl)) (hK.out _ _ (Rg.upd_setRow hS (fun h => absurd h (by omega)) _) (fun hS3 => ?_))
        clear hK K
        refine wpAnyH_done (by kernel_rfl) ?_ _
        simp only [Act.put]
        go_wp2
        go_meet
        case rel =>
          refine ⟨w1.heap.size, rfl, by omega, Rg.setRow_at hA _, ?_, hS3⟩
          show (World.setRow _ _ _).heap[br]? = _
          rw [Rg.setRow_ne _ _ _ _ (by omega)]
          exact hR2
    · skip
      have hA0 := heap_alloc_new W0.drew (.cells zsnap 53)
      have hP : W0.heap.size ≤ W0.drew.heap.size := hS.size
      refine Rg.step_alloc (some 2) rfl (by rfl) 53 rfl zsnap zero_snap (hK.out _ _ (hS.alloc _) (fun hS2 => ?_))
      clear hK K
      simp only [Act.put, List.setIfInBounds_toArray, List.set_cons_zero, List.set_cons_succ]
      clear hS
      have hS := hS2
      refine wpAnyH_ready (rs := [1]) (by kernel_rfl) (by simp) ?_
      refine AllReadyH.cons rfl (fun K hK => ?_) AllReadyH.nil
      refine step_fn (some 4) rfl (by rfl) 40 text_enters #[.tmp 3] #[74] rfl #[.pointer (some ⟨br, 0, none⟩)] rfl (fun r w' => r = .string ⟨nm.toArray⟩ ∧ Rd w' br L1 e1 ∧ w'.heap[W0.heap.size]? = some (.cells zsnap 53 (0, 0)) ∧ Upd (fun k => k = br) W0 w') ((H1.out _ (heap_alloc_lt HRd _)).mono fun e w' h => ⟨_, h.1, rfl, h.2.1, h.2.2.heap hA0 (by omega), hS.trans h.2.2 (fun _ _ f => f)⟩) (fun r w1 hr => ?_)
      obtain ⟨rfl, hR1, hA, hS2⟩ := hr
      clear hS
      refine hK.out _ _ hS2 (fun hS => ?_)
      clear hK K
      simp only [Act.put, List.setIfInBounds_toArray, List.set_cons_zero, List.set_cons_succ]
      refine wpAnyH_ready (rs := [3]) (by kernel_rfl) (by simp) ?_
      refine AllReadyH.cons rfl (fun K hK => ?_) AllReadyH.nil
      refine step_fn (some 6) rfl (by rfl) 41 u16_enters #[.tmp 5] #[74] rfl #[.pointer (some ⟨br, 0, none⟩)] rfl (fun r w' => r = .int .u16 (n : Nat) ∧ Rd w' br L2 e2 ∧ w'.heap[W0.heap.size]? = some (.cells zsnap 53 (0, 0)) ∧ Upd (fun k => k = br) W0 w') ((H2.out _ hR1).mono fun e w' h => ⟨_, h.1, rfl, h.2.1, h.2.2.heap hA (by omega), hS.trans h.2.2 (fun _ _ f => f)⟩) (fun r w2 hr => ?_)
      obtain ⟨rfl, hR2, hA, hS2⟩ := hr
      clear hS
      refine hK.out _ _ hS2 (fun hS => ?_)
      clear hK K
      simp only [Act.put, List.setIfInBounds_toArray, List.set_cons_zero, List.set_cons_succ]
      refine take_first (i := 4) (some 7) (v := ?_) rfl rfl (by kernel_rfl) (by kernel_rfl) (by kernel_rfl) (fun _ _ _ h => h) (Or.inl ⟨by rfl, ?_⟩) hS ?_
      rotate_left
      · intro w' hSw; go_simp; try with_reducible rfl
      simp only [Act.put, List.setIfInBounds_toArray, List.set_cons_zero, List.set_cons_succ]
      refine take_first (i := 5) (some 8) (v := ?_) rfl rfl (by kernel_rfl) (by kernel_rfl) (by kernel_rfl) (fun _ _ _ h => h) (Or.inl ⟨by rfl, ?_⟩) hS ?_
      rotate_left
      · intro w' hSw; go_simp; try with_reducible rfl
      simp only [Act.put, List.setIfInBounds_toArray, List.set_cons_zero, List.set_cons_succ]
      refine wpAnyH_ready (rs := [7]) (by kernel_rfl) (by simp) ?_
      refine AllReadyH.cons rfl (fun K hK => ?_) AllReadyH.nil
      refine Rg.step_store rfl (by rfl) 53 (.tmp 2) (.tmp 8) rfl ⟨W0.heap.size, 0, none⟩ rfl (.agg #[.string ⟨nm.toArray⟩, .int .i64 (n : Nat), .int .u64 0, .int .u64 0]) rfl (Rg.store_all _ _ _ zsnap.toList [.string ⟨nm.toArray⟩, .int .i64 (n : Nat), .int .u64 0, .int .u64 0] hA info_snap rfl (by intro v hv; simp at hv; rcases hv with rfl | rfl | rfl | rfl <;> rfl)) (hK.out _ _ (Rg.upd_setRow hS (fun h => absurd h (by omega)) _) (fun hS3 => ?_))
      clear hK K
      refine wpAnyH_done (by kernel_rfl) ?_ _
      simp only [Act.put]
      go_wp2
      go_meet
      case rel =>
        refine ⟨W0.heap.size, rfl, by omega, Rg.setRow_at hA _, ?_, hS3⟩
        show (World.setRow _ _ _).heap[br]? = _
        rw [Rg.setRow_ne _ _ _ _ (by omega)]
        exact hR2
--R1end
  case rest =>
    obtain ⟨p, rfl, hp0, hp, hR2, u2⟩ := hcut
    have nbp : bp ≠ br := NBP.out
    have lbr : br < W0.heap.size := lt_of_heap HR0.out
    have np : p ≠ br := by omega
    have hd2 := u2.heap HD.out nbp
    have d1 := cell_heap hd2 0 (.pointer (some ⟨br, 0, none⟩)) rfl
    have D1 := Lib.hid d1
    have HR2 := Lib.hid hR2
    have HP := Lib.hid hp
    have r2 := u2.heap HB0.out (by omega)
    have HB2 := Lib.hid r2
    have UU := Lib.hid (U0.out.trans u2 (fun _ _ f => f))
    have NP := Lib.hid np
    have NBP2 : Hid (¬ ((⟨bp, 0, none⟩ : Addr).block = br ∨ (⟨bp, 0, none⟩ : Addr).block = p)) := Lib.hid (by show ¬ (bp = br ∨ bp = p); have := lt_of_heap HD.out; omega)
    have HP0 := Lib.hid hp0
    have LB := Lib.hid l0
    clear hd2 d1 hR2 hp r2 u2 np hp0 l0
    go_wp2
    refine wp_region_held_drew (S := fun w' => Upd (fun k => k = br ∨ k = p) wc w') (by kernel_rfl) (Upd.refl _ _).drew (fun hS => ?_)
    have HRd : Rd wc.drew br L2 e2 := HR2.out
--R2
    refine take_first (i := 0) (some 9) (v := ?_) rfl rfl (by kernel_rfl) (by kernel_rfl) (by kernel_rfl) (fun _ _ _ h => h) (Or.inl ⟨by rfl, ?_⟩) hS ?_
    rotate_left
    · intro w' hSw; have q0 := hSw.cell D1.out NBP2.out; go_simp; try with_reducible rfl
    simp only [Act.put, List.setIfInBounds_toArray, List.set_cons_zero, List.set_cons_succ]
    refine take_first (i := 2) (some 11) (v := ?_) rfl rfl (by kernel_rfl) (by kernel_rfl) (by kernel_rfl) (fun _ _ _ h => h) (Or.inl ⟨by rfl, ?_⟩) hS ?_
    rotate_left
    · intro w' hSw; have q0 := hSw.cell D1.out NBP2.out; go_simp; try with_reducible rfl
    simp only [Act.put, List.setIfInBounds_toArray, List.set_cons_zero, List.set_cons_succ]
    refine wpAnyH_ready (rs := [1]) (by kernel_rfl) (by simp) ?_
    refine AllReadyH.cons rfl (fun K hK => ?_) AllReadyH.nil
    refine step_fn (some 10) rfl (by rfl) 36 u64_enters #[.tmp 9] #[74] rfl #[.pointer (some ⟨br, 0, none⟩)] rfl (fun r w' => r = .int .u64 (c : Nat) ∧ Rd w' br L3 e3 ∧ w'.heap[p]? = some (.cells #[.string ⟨nm.toArray⟩, .int .i64 (n : Nat), .int .u64 0, .int .u64 0] 53 (0, 0)) ∧ Upd (fun k => k = br ∨ k = p) wc w') ((H3.out _ HRd).mono fun e w' h => ⟨_, h.1, rfl, h.2.1, h.2.2.heap HP.out NP.out, hS.trans h.2.2 (fun _ _ f => .inl f)⟩) (fun r w3 hr => ?_)
    obtain ⟨rfl, hR3, hp3, hS2⟩ := hr
    clear hS
    refine hK.out _ _ hS2 (fun hS => ?_)
    clear hK K
    simp only [Act.put, List.setIfInBounds_toArray, List.set_cons_zero, List.set_cons_succ]
    refine take_first (i := 4) (some 13) (v := ?_) rfl rfl (by kernel_rfl) (by kernel_rfl) (by kernel_rfl) (fun _ _ _ h => h) (Or.inl ⟨by rfl, ?_⟩) hS ?_
    rotate_left
    · intro w' hSw; go_simp; try with_reducible rfl
    simp only [Act.put, List.setIfInBounds_toArray, List.set_cons_zero, List.set_cons_succ]
    refine wpAnyH_ready (rs := [3]) (by kernel_rfl) (by simp) ?_
    refine AllReadyH.cons rfl (fun K hK => ?_) AllReadyH.nil
    refine step_fn (some 12) rfl (by rfl) 36 u64_enters #[.tmp 11] #[74] rfl #[.pointer (some ⟨br, 0, none⟩)] rfl (fun r w' => r = .int .u64 (d : Nat) ∧ Rd w' br L4 e4 ∧ w'.heap[p]? = some (.cells #[.string ⟨nm.toArray⟩, .int .i64 (n : Nat), .int .u64 0, .int .u64 0] 53 (0, 0)) ∧ Upd (fun k => k = br ∨ k = p) wc w') ((H4.out _ hR3).mono fun e w' h => ⟨_, h.1, rfl, h.2.1, h.2.2.heap hp3 NP.out, hS.trans h.2.2 (fun _ _ f => .inl f)⟩) (fun r w4 hr => ?_)
    obtain ⟨rfl, hR4, hp4, hS2⟩ := hr
    clear hS
    refine hK.out _ _ hS2 (fun hS => ?_)
    clear hK K
    simp only [Act.put, List.setIfInBounds_toArray, List.set_cons_zero, List.set_cons_succ]
    refine wpAnyH_ready (rs := [5]) (by kernel_rfl) (by simp) ?_
    refine AllReadyH.cons rfl (fun K hK => ?_) AllReadyH.nil
    have hp5 := heap_setCell_eq (i := 2) hp4 (.int .u64 (c : Nat))
    refine Rg.step_store rfl (by rfl) 22 (.tmp 13) (.tmp 10) rfl ⟨p, 2, none⟩ rfl (.int .u64 (c : Nat)) rfl (by have q := cell_heap hp4 2 (.int .u64 0) rfl; have q2 := free_heap hp4 2; go_simp; rfl) (hK.out _ _ (hS.setCell (fun _ => .inr rfl) _) (fun hS5 => ?_))
    clear hK K hS
    have hS := hS5
    clear hS5
    simp only [Act.put, List.setIfInBounds_toArray, List.set_cons_zero, List.set_cons_succ]
    refine take_first (i := 6) (some 14) (v := ?_) rfl rfl (by kernel_rfl) (by kernel_rfl) (by kernel_rfl) (fun _ _ _ h => h) (Or.inl ⟨by rfl, ?_⟩) hS ?_
    rotate_left
    · intro w' hSw; go_simp; try with_reducible rfl
    simp only [Act.put, List.setIfInBounds_toArray, List.set_cons_zero, List.set_cons_succ]
    refine wpAnyH_ready (rs := [7]) (by kernel_rfl) (by simp) ?_
    refine AllReadyH.cons rfl (fun K hK => ?_) AllReadyH.nil
    have hp6 := heap_setCell_eq (i := 3) hp5 (.int .u64 (d : Nat))
    refine Rg.step_store rfl (by rfl) 22 (.tmp 14) (.tmp 12) rfl ⟨p, 3, none⟩ rfl (.int .u64 (d : Nat)) rfl (by have q := cell_heap hp5 3 (.int .u64 0) rfl; have q2 := free_heap hp5 3; go_simp; rfl) (hK.out _ _ (hS.setCell (fun _ => .inr rfl) _) (fun hS5 => ?_))
    clear hK K hS
    have hS := hS5
    clear hS5
    simp only [Act.put, List.setIfInBounds_toArray, List.set_cons_zero, List.set_cons_succ]
    refine wpAnyH_done (by kernel_rfl) ?_ _
    skip
    have hR6 := heap_setCell_ne (heap_setCell_ne hR4 ⟨p, 2, none⟩ (.int .u64 (c : Nat)) (Ne.symm NP.out)) ⟨p, 3, none⟩ (.int .u64 (d : Nat)) (Ne.symm NP.out)
    generalize (w4.setCell ⟨p, 2, none⟩ (.int .u64 (c : Nat))).setCell ⟨p, 3, none⟩ (.int .u64 (d : Nat)) = w6 at hS hp6 hR6 ⊢
--R2end
    have nr : w.heap.size ≠ br ∧ w.heap.size ≠ p := by have := LB.out; have := HP0.out; omega
    have r6 := hS.heap HB2.out (by omega)
    have c0 := cell_heap hp6 0 (.string ⟨nm.toArray⟩) rfl
    have c1 := cell_heap hp6 1 (.int .i64 (n : Nat)) rfl
    have c2 := cell_heap hp6 2 (.int .u64 (c : Nat)) rfl
    have c3 := cell_heap hp6 3 (.int .u64 (d : Nat)) rfl
    have g0 := cell_heap r6 0 (.string ⟨#[]⟩) rfl
    have g1 := cell_heap r6 1 (.int .i64 0) rfl
    have g2 := cell_heap r6 2 (.int .u64 0) rfl
    have g3 := cell_heap r6 3 (.int .u64 0) rfl
    have k0 := free_heap r6 0
    have k1 := free_heap r6 1
    have k2 := free_heap r6 2
    have k3 := free_heap r6 3
    have UE := Lib.hid (UU.out.trans hS (fun i hi f => by have := LB.out; have := HP0.out; rcases f with f | f; exact f; omega))
    have HR6 := Lib.hid hR6
    have H6 := Lib.hid r6
    have NR := Lib.hid nr
    clear hS hp6 hR6 r6 nr
    go_wp2
    have hq := heap_setCell_eq (i := 3) (heap_setCell_eq (i := 2) (heap_setCell_eq (i := 1) (heap_setCell_eq (i := 0) H6.out (.string ⟨nm.toArray⟩)) (.int .i64 (n : Nat))) (.int .u64 (c : Nat))) (.int .u64 (d : Nat))
    refine bodyPost_ret (v := .agg #[.string ⟨nm.toArray⟩, .int .i64 n, .int .u64 c, .int .u64 d]) (results_cell_row (P := Try.prog) rfl _ _ w.heap.size 53 #[.string ⟨nm.toArray⟩, .int .i64 n, .int .u64 c, .int .u64 d] (0, 0) _ rfl hq hu53 rfl (by kernel_rfl)) rfl ⟨rfl, ?_, ?_⟩
    · exact heap_setCell_ne (heap_setCell_ne (heap_setCell_ne (heap_setCell_ne HR6.out _ _ (Ne.symm NR.out.1)) _ _ (Ne.symm NR.out.1)) _ _ (Ne.symm NR.out.1)) _ _ (Ne.symm NR.out.1)
    · exact (((UE.out.setCell (p := ⟨w.heap.size, 0, none⟩) (fun k => absurd k (Nat.lt_irrefl _)) _).setCell (p := ⟨w.heap.size, 1, none⟩) (fun k => absurd k (Nat.lt_irrefl _)) _).setCell (p := ⟨w.heap.size, 2, none⟩) (fun k => absurd k (Nat.lt_irrefl _)) _).setCell (p := ⟨w.heap.size, 3, none⟩) (fun k => absurd k (Nat.lt_irrefl _)) _

end Go.Proofs.Ytlhjhkmmgkfmpaa.Px
