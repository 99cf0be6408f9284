/- table.Take's closures for the printer. -/
import Derived.Test.YtlhjhkmmgkfmpaaPxPut
import Derived.Laws.Rows
import Derived.WalkMore
import Derived.Outline
set_option linter.unusedVariables false
set_option linter.unusedSimpArgs false
namespace Go.Proofs.Ytlhjhkmmgkfmpaa.Px
open Go.RowKit Go.Shelf Go.Proofs.YtlhjhkmmgkfmpaaW.PrintWords Go.Proofs.YtlhjhkmmgkfmpaaW.PrintLast

def snapR (l : List UInt8) (e : Int) : S53 × List UInt8 × Int :=
  let a := rText l e
  let b := rU16 a.2.1 a.2.2
  let c := rU64 b.2.1 b.2.2
  let d := rU64 c.2.1 c.2.2
  (⟨⟨a.1.toArray⟩, (b.1 : Nat), (c.1 : Nat), (d.1 : Nat)⟩, d.2.1, d.2.2)
def refR (l : List UInt8) (e : Int) : S65 × List UInt8 × Int :=
  let a := rU16 l e
  let b := rU16 a.2.1 a.2.2
  (⟨(a.1 : Nat), (b.1 : Nat)⟩, b.2.1, b.2.2)
def snapV (x : S53) : Value := .agg #[.string x.f0, .int .i64 x.f1, .int .u64 x.f2, .int .u64 x.f3]
def refV (x : S65) : Value := .agg #[.int .i64 x.f0, .int .i64 x.f1]
theorem rU64_le (l : List UInt8) (e : Int) : (rU64 l e).2.1.length ≤ l.length := fx_len _ _ _
theorem rU16_le (l : List UInt8) (e : Int) : (rU16 l e).2.1.length ≤ l.length := fx_len _ _ _
theorem rU8_le (l : List UInt8) (e : Int) : (rU8 l e).2.1.length ≤ l.length := fx_len _ _ _
theorem rText_le (l : List UInt8) (e : Int) : (rText l e).2.1.length ≤ l.length := Nat.le_trans (fx_len _ _ _) (rU16_le l e)
def zsnap : Array Value := #[.string ⟨#[]⟩, .int .i64 0, .int .u64 0, .int .u64 0]
theorem zero_snap (w : World) : (zeroValue 53).run Try.prog w = .ok (.agg zsnap) w := by kernel_rfl
theorem info_snap : (Try.prog.info? 53).map (·.size) = some 4 := by kernel_rfl
theorem text_enters : Enters Try.prog 40 := enters_of Try.func40 rfl rfl
theorem u16_enters : Enters Try.prog 41 := enters_of Try.func41 rfl rfl
theorem u64_enters : Enters Try.prog 36 := enters_of Try.func36 rfl rfl
theorem u8_enters : Enters Try.prog 38 := enters_of Try.func38 rfl rfl

set_option maxHeartbeats 4000000 in
set_option maxRecDepth 100000 in
theorem take2_walk (bp br : Nat) (l : List UInt8) (e : Int) (w : World) (hl : l.length ≤ 1000000) (hbp : w.heap[bp]? = some (.cells #[.pointer (some ⟨br, 0, none⟩)] 74 (0, 0))) (hR : Rd w br l e) (hne : bp ≠ br) :
    Calls Try.prog 43 #[.pointer (some ⟨bp, 0, none⟩)] w (fun e' w' => e' = .returned (refV (refR l e).1) ∧ Rd w' br (refR l e).2.1 (refR l e).2.2 ∧ Upd (fun k => k = br) w w') := by
  have hu65 := Try.underlying65
  have h1 := fun w h => Reader_U16 br l e w (by omega) h
  have h2 := fun w h => Reader_U16 br (rU16 l e).2.1 (rU16 l e).2.2 w (by have := rU16_le l e; omega) h
  have b1 := rU16_lt l e
  have b2 := rU16_lt (rU16 l e).2.1 (rU16 l e).2.2
  unfold refR refV
  dsimp only
  generalize rU16 l e = x1 at *
  obtain ⟨n, L1, e1⟩ := x1
  dsimp only at h1 h2 b1 b2 ⊢
  generalize rU16 L1 e1 = x2 at *
  obtain ⟨m, L2, e2⟩ := x2
  dsimp only at h1 h2 b1 b2 ⊢
  have H1 := Lib.hid h1
  have H2 := Lib.hid h2
  have hd0 := heap_alloc_lt hbp (.cells #[.int .i64 0, .int .i64 0] 65)
  have hR0 : Rd (w.alloc (.cells #[.int .i64 0, .int .i64 0] 65)) br l e := heap_alloc_lt hR _
  have d0 := cell_heap hd0 0 (.pointer (some ⟨br, 0, none⟩)) rfl
  have b0 := heap_alloc_new w (.cells #[.int .i64 0, .int .i64 0] 65)
  have u0 := (Upd.refl (fun k => k = br) w).alloc (.cells #[.int .i64 0, .int .i64 0] 65)
  have lr := lt_of_heap hR
  have lp := lt_of_heap hbp
  clear h1 h2
  go_enter Try.func43, Try.ntmps43
  go_wp2_with (fail)
  refine (H1.out _ hR0).mono ?_
  rintro e w1 ⟨rfl, hR1, u1⟩
  have hw1 : wrap64 (n : Int) = (n : Int) := by unfold Two16 at b1; unfold wrap64; omega
  have hw2 : wrap64 (m : Int) = (m : Int) := by unfold Two16 at b2; unfold wrap64; omega
  have nr : w.heap.size ≠ br := by omega
  have hb1 := u1.heap hd0 hne
  have r1 := u1.heap b0 nr
  have hb2 := heap_alloc_lt hb1 (.cells #[.int .i64 n, .int .i64 0] 65)
  have d1 := cell_heap hb2 0 (.pointer (some ⟨br, 0, none⟩)) rfl
  have r2 := heap_alloc_lt r1 (.cells #[.int .i64 n, .int .i64 0] 65)
  have hR2 : Rd (w1.alloc (.cells #[.int .i64 n, .int .i64 0] 65)) br L1 e1 := heap_alloc_lt hR1 _
  have nb := heap_alloc_new w1 (.cells #[.int .i64 n, .int .i64 0] 65)
  have l1 := lt_of_heap r1
  have u2 := (u0.trans u1 (fun _ _ f => f)).alloc (.cells #[.int .i64 n, .int .i64 0] 65)
  have nq : w1.heap.size ≠ br := by omega
  have nq2 : w.heap.size ≠ w1.heap.size := by omega
  have NQ := Lib.hid nq
  have NR := Lib.hid nr
  clear hR1 hb1 r1 hd0 hR0 b0 d0
  go_wp2_with (fail)
  refine (H2.out _ hR2).mono ?_
  rintro e w3 ⟨rfl, hR3, u3⟩
  have nb3 := u3.heap nb NQ.out
  have r3 := u3.heap r2 NR.out
  have c0 := cell_heap nb3 0 (.int .i64 n) rfl
  have c1 := cell_heap nb3 1 (.int .i64 0) rfl
  have f1 := free_heap nb3 1
  have g0 := cell_heap r3 0 (.int .i64 0) rfl
  have g1 := cell_heap r3 1 (.int .i64 0) rfl
  have k0 := free_heap r3 0
  have k1 := free_heap r3 1
  go_wp2
  have hq := heap_setCell_eq (i := 1) (heap_setCell_eq (i := 0) (heap_setCell_ne r3 ⟨w1.heap.size, 1, none⟩ (.int .i64 m) (by show w.heap.size ≠ w1.heap.size; exact nq2)) (.int .i64 n)) (.int .i64 m)
  refine bodyPost_ret (v := .agg #[.int .i64 n, .int .i64 m]) (results_cell_row (P := Try.prog) rfl _ _ w.heap.size 65 #[.int .i64 n, .int .i64 m] (0, 0) _ rfl hq hu65 rfl (by kernel_rfl)) rfl ⟨rfl, ?_, ?_⟩
  · exact heap_setCell_ne (heap_setCell_ne (heap_setCell_ne hR3 _ _ (Ne.symm NQ.out)) _ _ (Ne.symm NR.out)) _ _ (Ne.symm NR.out)
  · exact (((u2.trans u3 (fun _ _ f => f)).setCell (p := ⟨w1.heap.size, 1, none⟩) (fun k => absurd k (by show ¬ w1.heap.size < w.heap.size; omega)) _).setCell (p := ⟨w.heap.size, 0, none⟩) (fun k => absurd k (Nat.lt_irrefl _)) _).setCell (p := ⟨w.heap.size, 1, none⟩) (fun k => absurd k (Nat.lt_irrefl _)) _

set_option maxHeartbeats 8000000 in
set_option maxRecDepth 100000 in
theorem take1_walk (bp br : Nat) (l : List UInt8) (e : Int) (w : World) (hl : l.length ≤ 1000000) (hbp : w.heap[bp]? = some (.cells #[.pointer (some ⟨br, 0, none⟩)] 74 (0, 0))) (hR : Rd w br l e) (hne : bp ≠ br) :
    Calls Try.prog 39 #[.pointer (some ⟨bp, 0, none⟩)] w (fun e' w' => e' = .returned (snapV (snapR l e).1) ∧ Rd w' br (snapR l e).2.1 (snapR l e).2.2 ∧ Upd (fun k => k = br) w w') := by
  have hu53 := Try.underlying53
  have hq1 := rText_le l e
  have h1 := fun w h => Reader_Text br l e w (by omega) h
  have hq2 := rU16_le (rText l e).2.1 (rText l e).2.2
  have h2 := fun w h => Reader_U16 br (rText l e).2.1 (rText l e).2.2 w (by omega) h
  have b2 := rU16_lt (rText l e).2.1 (rText l e).2.2
  unfold snapR snapV
  dsimp only
  generalize rText l e = x1 at *
  obtain ⟨nm, L1, e1⟩ := x1
  dsimp only at h1 h2 b2 hq1 hq2 ⊢
  generalize rU16 L1 e1 = x2 at *
  obtain ⟨n, L2, e2⟩ := x2
  dsimp only at h1 h2 b2 hq2 ⊢
  have hq3 := rU64_le L2 e2
  have h3 := fun w h => Reader_U64 br L2 e2 w (by omega) h
  generalize rU64 L2 e2 = x3 at *
  obtain ⟨c, L3, e3⟩ := x3
  dsimp only at h3 hq3 ⊢
  have h4 := fun w h => Reader_U64 br L3 e3 w (by omega) h
  generalize rU64 L3 e3 = x4 at *
  obtain ⟨d, L4, e4⟩ := x4
  dsimp only at h4 ⊢
  have H1 := Lib.hid h1
  have H2 := Lib.hid h2
  have H3 := Lib.hid h3
  have H4 := Lib.hid h4
  have hw1 : wrap64 (n : Int) = (n : Int) := by unfold Two16 at b2; unfold wrap64; omega
  have hw1b : IntKind.i64.wrap (n : Int) = (n : Int) := by unfold Two16 at b2; exact IntWalk.i64_in _ (by omega)
  have hd0 := heap_alloc_lt hbp (.cells zsnap 53)
  have hR0 : Rd (w.alloc (.cells zsnap 53)) br l e := heap_alloc_lt hR _
  have b0 := heap_alloc_new w (.cells zsnap 53)
  have u0 := (Upd.refl (fun k => k = br) w).alloc (.cells zsnap 53)
  have lr := lt_of_heap hR
  have lp := lt_of_heap hbp
  have l0 := lt_of_heap b0
  obtain ⟨W0, hW0⟩ : ∃ W0, W0 = w.alloc (.cells zsnap 53) := ⟨_, rfl⟩
  rw [← hW0] at hd0 hR0 b0 u0 l0
  have D0 := Lib.hid (cell_heap hd0 0 (.pointer (some ⟨br, 0, none⟩)) rfl)
  have HD := Lib.hid hd0
  have HR0 := Lib.hid hR0
  have HB0 := Lib.hid b0
  have U0 := Lib.hid u0
  have NBP : Hid (¬ ((⟨bp, 0, none⟩ : Addr).block = br)) := Lib.hid hne
  clear h1 h2 h3 h4 hd0 hR0 b0 u0 hne
  go_enter Try.func39, Try.ntmps39
  go_upto_region 1 with (fail)
  rw [show w.alloc (.cells #[.string ⟨#[]⟩, .int .i64 0, .int .u64 0, .int .u64 0] 53) = W0 from hW0.symm]
  clear hW0
  go_cut [2] (fun v2 W => ∃ p : Nat, v2 = .pointer (some ⟨p, 0, none⟩) ∧ W0.heap.size ≤ p ∧ W.heap[p]? = some (.cells #[.string ⟨nm.toArray⟩, .int .i64 (n : Nat), .int .u64 0, .int .u64 0] 53 (0, 0)) ∧ Rd W br L2 e2 ∧ Upd (fun k => k = br) W0 W)
  case first =>
    have HRd : Rd W0.drew br l e := HR0.out
    have lbr : br < W0.heap.size := lt_of_heap HR0.out
--R1
    refine wp_region_held_drew (S := fun w' => Upd (fun k => k = br) W0 w') (by kernel_rfl) (Upd.refl _ _).drew (fun hS => ?_)
    refine take_first (i := 0) (some 3) (v := ?_) rfl rfl (by kernel_rfl) (by kernel_rfl) (by kernel_rfl) (fun _ _ _ h => h) (Or.inl ⟨by rfl, ?_⟩) hS ?_
    rotate_left
    · intro w' hSw; have q0 := hSw.cell D0.out NBP.out; go_simp; try with_reducible rfl
    simp only [Act.put, List.setIfInBounds_toArray, List.set_cons_zero, List.set_cons_succ]
    refine take_first (i := 2) (some 5) (v := ?_) rfl rfl (by kernel_rfl) (by kernel_rfl) (by kernel_rfl) (fun _ _ _ h => h) (Or.inl ⟨by rfl, ?_⟩) hS ?_
    rotate_left
    · intro w' hSw; have q0 := hSw.cell D0.out NBP.out; go_simp; try with_reducible rfl
    simp only [Act.put, List.setIfInBounds_toArray, List.set_cons_zero, List.set_cons_succ]
    refine wpAnyH_ready (rs := [1, 6]) (by kernel_rfl) (by simp) ?_
    refine AllReadyH.cons rfl (fun K hK => ?_) (AllReadyH.cons rfl (fun K hK => ?_) AllReadyH.nil)
    · skip
      refine step_fn (some 4) rfl (by rfl) 40 text_enters #[.tmp 3] #[74] rfl #[.pointer (some ⟨br, 0, none⟩)] rfl (fun r w' => r = .string ⟨nm.toArray⟩ ∧ Rd w' br L1 e1 ∧ Upd (fun k => k = br) W0 w') ((H1.out _ HRd).mono fun e w' h => ⟨_, h.1, rfl, h.2.1, hS.trans h.2.2 (fun _ _ f => f)⟩) (fun r w1 hr => ?_)
      obtain ⟨rfl, hR1, hS2⟩ := hr
      clear hS
      refine hK.out _ _ hS2 (fun hS => ?_)
      clear hK K
      simp only [Act.put, List.setIfInBounds_toArray, List.set_cons_zero, List.set_cons_succ]
      refine wpAnyH_ready (rs := [3, 6]) (by kernel_rfl) (by simp) ?_
      refine AllReadyH.cons rfl (fun K hK => ?_) (AllReadyH.cons rfl (fun K hK => ?_) AllReadyH.nil)
      · skip
        refine step_fn (some 6) rfl (by rfl) 41 u16_enters #[.tmp 5] #[74] rfl #[.pointer (some ⟨br, 0, none⟩)] rfl (fun r w' => r = .int .u16 (n : Nat) ∧ Rd w' br L2 e2 ∧ Upd (fun k => k = br) W0 w') ((H2.out _ hR1).mono fun e w' h => ⟨_, h.1, rfl, h.2.1, hS.trans h.2.2 (fun _ _ f => f)⟩) (fun r w2 hr => ?_)
        obtain ⟨rfl, hR2, hS2⟩ := hr
        clear hS
        refine hK.out _ _ hS2 (fun hS => ?_)
        clear hK K
        simp only [Act.put, List.setIfInBounds_toArray, List.set_cons_zero, List.set_cons_succ]
        refine take_first (i := 4) (some 7) (v := ?_) rfl rfl (by kernel_rfl) (by kernel_rfl) (by kernel_rfl) (fun _ _ _ h => h) (Or.inl ⟨by rfl, ?_⟩) hS ?_
        rotate_left
        · intro w' hSw; go_simp; try with_reducible rfl
        simp only [Act.put, List.setIfInBounds_toArray, List.set_cons_zero, List.set_cons_succ]
        refine take_first (i := 5) (some 8) (v := ?_) rfl rfl (by kernel_rfl) (by kernel_rfl) (by kernel_rfl) (fun _ _ _ h => h) (Or.inl ⟨by rfl, ?_⟩) hS ?_
        rotate_left
        · intro w' hSw; go_simp; try with_reducible rfl
        simp only [Act.put, List.setIfInBounds_toArray, List.set_cons_zero, List.set_cons_succ]
        refine wpAnyH_ready (rs := [6]) (by kernel_rfl) (by simp) ?_
        refine AllReadyH.cons rfl (fun K hK => ?_) AllReadyH.nil
        have hA0 := heap_alloc_new w2 (.cells zsnap 53)
        have hP : W0.heap.size ≤ w2.heap.size := hS.size
        refine Rg.step_alloc (some 2) rfl (by rfl) 53 rfl zsnap zero_snap (hK.out _ _ (hS.alloc _) (fun hS2 => ?_))
        clear hK K
        simp only [Act.put, List.setIfInBounds_toArray, List.set_cons_zero, List.set_cons_succ]
        have hR2 := heap_alloc_lt (show w2.heap[br]? = _ from hR2) (.cells zsnap 53)
        have hA := hA0
        clear hS
        have hS := hS2
        refine wpAnyH_ready (rs := [7]) (by kernel_rfl) (by simp) ?_
        refine AllReadyH.cons rfl (fun K hK => ?_) AllReadyH.nil
        refine Rg.step_store rfl (by rfl) 53 (.tmp 2) (.tmp 8) rfl ⟨w2.heap.size, 0, none⟩ rfl (.agg #[.string ⟨nm.toArray⟩, .int .i64 (n : Nat), .int .u64 0, .int .u64 0]) rfl (Rg.store_all _ _ _ zsnap.toList [.string ⟨nm.toArray⟩, .int .i64 (n : Nat), .int .u64 0, .int .u64 0] hA info_snap rfl (by intro v hv; simp at hv; rcases hv with rfl | rfl | rfl | rfl <;> rfl)) (hK.out _ _ (Rg.upd_setRow hS (fun h => absurd h (by omega)) _) (fun hS3 => ?_))
        clear hK K
        refine wpAnyH_done (by kernel_rfl) ?_ _
        simp only [Act.put]
        go_wp2
        go_meet
        case rel =>
          refine ⟨w2.heap.size, rfl, by omega, Rg.setRow_at hA _, ?_, hS3⟩
          show (World.setRow _ _ _).heap[br]? = _
          rw [Rg.setRow_ne _ _ _ _ (by omega)]
          exact hR2
      · skip
        have hA0 := heap_alloc_new w1 (.cells zsnap 53)
        have hP : W0.heap.size ≤ w1.heap.size := hS.size
        refine Rg.step_alloc (some 2) rfl (by rfl) 53 rfl zsnap zero_snap (hK.out _ _ (hS.alloc _) (fun hS2 => ?_))
        clear hK K
        simp only [Act.put, List.setIfInBounds_toArray, List.set_cons_zero, List.set_cons_succ]
        clear hS
        have hS := hS2
        refine wpAnyH_ready (rs := [3]) (by kernel_rfl) (by simp) ?_
        refine AllReadyH.cons rfl (fun K hK => ?_) AllReadyH.nil
        refine step_fn (some 6) rfl (by rfl) 41 u16_enters #[.tmp 5] #[74] rfl #[.pointer (some ⟨br, 0, none⟩)] rfl (fun r w' => r = .int .u16 (n : Nat) ∧ Rd w' br L2 e2 ∧ w'.heap[w1.heap.size]? = some (.cells zsnap 53 (0, 0)) ∧ Upd (fun k => k = br) W0 w') ((H2.out _ (heap_alloc_lt hR1 _)).mono fun e w' h => ⟨_, h.1, rfl, h.2.1, h.2.2.heap hA0 (by omega), hS.trans h.2.2 (fun _ _ f => f)⟩) (fun r w2 hr => ?_)
        obtain ⟨rfl, hR2, hA, hS2⟩ := hr
        clear hS
        refine hK.out _ _ hS2 (fun hS => ?_)
        clear hK K
        simp only [Act.put, List.setIfInBounds_toArray, List.set_cons_zero, List.set_cons_succ]
        refine take_first (i := 4) (some 7) (v := ?_) rfl rfl (by kernel_rfl) (by kernel_rfl) (by kernel_rfl) (fun _ _ _ h => h) (Or.inl ⟨by rfl, ?_⟩) hS ?_
        rotate_left
        · intro w' hSw; go_simp; try with_reducible rfl
        simp only [Act.put, List.setIfInBounds_toArray, List.set_cons_zero, List.set_cons_succ]
        refine take_first (i := 5) (some 8) (v := ?_) rfl rfl (by kernel_rfl) (by kernel_rfl) (by kernel_rfl) (fun _ _ _ h => h) (Or.inl ⟨by rfl, ?_⟩) hS ?_
        rotate_left
        · intro w' hSw; go_simp; try with_reducible rfl
        simp only [Act.put, List.setIfInBounds_toArray, List.set_cons_zero, List.set_cons_succ]
        refine wpAnyH_ready (rs := [7]) (by kernel_rfl) (by simp) ?_
        refine AllReadyH.cons rfl (fun K hK => ?_) AllReadyH.nil
        refine Rg.step_store rfl (by rfl) 53 (.tmp 2) (.tmp 8) rfl ⟨w1.heap.size, 0, none⟩ rfl (.agg #[.string ⟨nm.toArray⟩, .int .i64 (n : Nat), .int .u64 0, .int .u64 0]) rfl (Rg.store_all _ _ _ zsnap.toList [.string ⟨nm.toArray⟩, .int .i64 (n : Nat), .int .u64 0, .int .u64 0] hA info_snap rfl (by intro v hv; simp at hv; rcases hv with rfl | rfl | rfl | rfl <;> rfl)) (hK.out _ _ (Rg.upd_setRow hS (fun h => absurd h (by omega)) _) (fun hS3 => ?_))
        clear hK K
        refine wpAnyH_done (by kernel_rfl) ?_ _
        simp only [Act.put]
        go_wp2
        go_meet
        case rel =>
          refine ⟨w1.heap.size, rfl, by omega, Rg.setRow_at hA _, ?_, hS3⟩
          show (World.setRow _ _ _).heap[br]? = _
          rw [Rg.setRow_ne _ _ _ _ (by omega)]
          exact hR2
    · skip
      have hA0 := heap_alloc_new W0.drew (.cells zsnap 53)
      have hP : W0.heap.size ≤ W0.drew.heap.size := hS.size
      refine Rg.step_alloc (some 2) rfl (by rfl) 53 rfl zsnap zero_snap (hK.out _ _ (hS.alloc _) (fun hS2 => ?_))
      clear hK K
      simp only [Act.put, List.setIfInBounds_toArray, List.set_cons_zero, List.set_cons_succ]
      clear hS
      have hS := hS2
      refine wpAnyH_ready (rs := [1]) (by kernel_rfl) (by simp) ?_
      refine AllReadyH.cons rfl (fun K hK => ?_) AllReadyH.nil
      refine step_fn (some 4) rfl (by rfl) 40 text_enters #[.tmp 3] #[74] rfl #[.pointer (some ⟨br, 0, none⟩)] rfl (fun r w' => r = .string ⟨nm.toArray⟩ ∧ Rd w' br L1 e1 ∧ w'.heap[W0.heap.size]? = some (.cells zsnap 53 (0, 0)) ∧ Upd (fun k => k = br) W0 w') ((H1.out _ (heap_alloc_lt HRd _)).mono fun e w' h => ⟨_, h.1, rfl, h.2.1, h.2.2.heap hA0 (by omega), hS.trans h.2.2 (fun _ _ f => f)⟩) (fun r w1 hr => ?_)
      obtain ⟨rfl, hR1, hA, hS2⟩ := hr
      clear hS
      refine hK.out _ _ hS2 (fun hS => ?_)
      clear hK K
      simp only [Act.put, List.setIfInBounds_toArray, List.set_cons_zero, List.set_cons_succ]
      refine wpAnyH_ready (rs := [3]) (by kernel_rfl) (by simp) ?_
      refine AllReadyH.cons rfl (fun K hK => ?_) AllReadyH.nil
      refine step_fn (some 6) rfl (by rfl) 41 u16_enters #[.tmp 5] #[74] rfl #[.pointer (some ⟨br, 0, none⟩)] rfl (fun r w' => r = .int .u16 (n : Nat) ∧ Rd w' br L2 e2 ∧ w'.heap[W0.heap.size]? = some (.cells zsnap 53 (0, 0)) ∧ Upd (fun k => k = br) W0 w') ((H2.out _ hR1).mono fun e w' h => ⟨_, h.1, rfl, h.2.1, h.2.2.heap hA (by omega), hS.trans h.2.2 (fun _ _ f => f)⟩) (fun r w2 hr => ?_)
      obtain ⟨rfl, hR2, hA, hS2⟩ := hr
      clear hS
      refine hK.out _ _ hS2 (fun hS => ?_)
      clear hK K
      simp only [Act.put, List.setIfInBounds_toArray, List.set_cons_zero, List.set_cons_succ]
      refine take_first (i := 4) (some 7) (v := ?_) rfl rfl (by kernel_rfl) (by kernel_rfl) (by kernel_rfl) (fun _ _ _ h => h) (Or.inl ⟨by rfl, ?_⟩) hS ?_
      rotate_left
      · intro w' hSw; go_simp; try with_reducible rfl
      simp only [Act.put, List.setIfInBounds_toArray, List.set_cons_zero, List.set_cons_succ]
      refine take_first (i := 5) (some 8) (v := ?_) rfl rfl (by kernel_rfl) (by kernel_rfl) (by kernel_rfl) (fun _ _ _ h => h) (Or.inl ⟨by rfl, ?_⟩) hS ?_
      rotate_left
      · intro w' hSw; go_simp; try with_reducible rfl
      simp only [Act.put, List.setIfInBounds_toArray, List.set_cons_zero, List.set_cons_succ]
      refine wpAnyH_ready (rs := [7]) (by kernel_rfl) (by simp) ?_
      refine AllReadyH.cons rfl (fun K hK => ?_) AllReadyH.nil
      refine Rg.step_store rfl (by rfl) 53 (.tmp 2) (.tmp 8) rfl ⟨W0.heap.size, 0, none⟩ rfl (.agg #[.string ⟨nm.toArray⟩, .int .i64 (n : Nat), .int .u64 0, .int .u64 0]) rfl (Rg.store_all _ _ _ zsnap.toList [.string ⟨nm.toArray⟩, .int .i64 (n : Nat), .int .u64 0, .int .u64 0] hA info_snap rfl (by intro v hv; simp at hv; rcases hv with rfl | rfl | rfl | rfl <;> rfl)) (hK.out _ _ (Rg.upd_setRow hS (fun h => absurd h (by omega)) _) (fun hS3 => ?_))
      clear hK K
      refine wpAnyH_done (by kernel_rfl) ?_ _
      simp only [Act.put]
      go_wp2
      go_meet
      case rel =>
        refine ⟨W0.heap.size, rfl, by omega, Rg.setRow_at hA _, ?_, hS3⟩
        show (World.setRow _ _ _).heap[br]? = _
        rw [Rg.setRow_ne _ _ _ _ (by omega)]
        exact hR2
--R1end
  case rest =>
    obtain ⟨p, rfl, hp0, hp, hR2, u2⟩ := hcut
    have nbp : bp ≠ br := NBP.out
    have lbr : br < W0.heap.size := lt_of_heap HR0.out
    have np : p ≠ br := by omega
    have hd2 := u2.heap HD.out nbp
    have d1 := cell_heap hd2 0 (.pointer (some ⟨br, 0, none⟩)) rfl
    have D1 := Lib.hid d1
    have HR2 := Lib.hid hR2
    have HP := Lib.hid hp
    have r2 := u2.heap HB0.out (by omega)
    have HB2 := Lib.hid r2
    have UU := Lib.hid (U0.out.trans u2 (fun _ _ f => f))
    have NP := Lib.hid np
    have NBP2 : Hid (¬ ((⟨bp, 0, none⟩ : Addr).block = br ∨ (⟨bp, 0, none⟩ : Addr).block = p)) := Lib.hid (by show ¬ (bp = br ∨ bp = p); have := lt_of_heap HD.out; omega)
    have HP0 := Lib.hid hp0
    have LB := Lib.hid l0
    clear hd2 d1 hR2 hp r2 u2 np hp0 l0
    go_wp2
    refine wp_region_held_drew (S := fun w' => Upd (fun k => k = br ∨ k = p) wc w') (by kernel_rfl) (Upd.refl _ _).drew (fun hS => ?_)
    have HRd : Rd wc.drew br L2 e2 := HR2.out
--R2
    refine take_first (i := 0) (some 9) (v := ?_) rfl rfl (by kernel_rfl) (by kernel_rfl) (by kernel_rfl) (fun _ _ _ h => h) (Or.inl ⟨by rfl, ?_⟩) hS ?_
    rotate_left
    · intro w' hSw; have q0 := hSw.cell D1.out NBP2.out; go_simp; try with_reducible rfl
    simp only [Act.put, List.setIfInBounds_toArray, List.set_cons_zero, List.set_cons_succ]
    refine take_first (i := 2) (some 11) (v := ?_) rfl rfl (by kernel_rfl) (by kernel_rfl) (by kernel_rfl) (fun _ _ _ h => h) (Or.inl ⟨by rfl, ?_⟩) hS ?_
    rotate_left
    · intro w' hSw; have q0 := hSw.cell D1.out NBP2.out; go_simp; try with_reducible rfl
    simp only [Act.put, List.setIfInBounds_toArray, List.set_cons_zero, List.set_cons_succ]
    refine wpAnyH_ready (rs := [1]) (by kernel_rfl) (by simp) ?_
    refine AllReadyH.cons rfl (fun K hK => ?_) AllReadyH.nil
    refine step_fn (some 10) rfl (by rfl) 36 u64_enters #[.tmp 9] #[74] rfl #[.pointer (some ⟨br, 0, none⟩)] rfl (fun r w' => r = .int .u64 (c : Nat) ∧ Rd w' br L3 e3 ∧ w'.heap[p]? = some (.cells #[.string ⟨nm.toArray⟩, .int .i64 (n : Nat), .int .u64 0, .int .u64 0] 53 (0, 0)) ∧ Upd (fun k => k = br ∨ k = p) wc w') ((H3.out _ HRd).mono fun e w' h => ⟨_, h.1, rfl, h.2.1, h.2.2.heap HP.out NP.out, hS.trans h.2.2 (fun _ _ f => .inl f)⟩) (fun r w3 hr => ?_)
    obtain ⟨rfl, hR3, hp3, hS2⟩ := hr
    clear hS
    refine hK.out _ _ hS2 (fun hS => ?_)
    clear hK K
    simp only [Act.put, List.setIfInBounds_toArray, List.set_cons_zero, List.set_cons_succ]
    refine take_first (i := 4) (some 13) (v := ?_) rfl rfl (by kernel_rfl) (by kernel_rfl) (by kernel_rfl) (fun _ _ _ h => h) (Or.inl ⟨by rfl, ?_⟩) hS ?_
    rotate_left
    · intro w' hSw; go_simp; try with_reducible rfl
    simp only [Act.put, List.setIfInBounds_toArray, List.set_cons_zero, List.set_cons_succ]
    refine wpAnyH_ready (rs := [3]) (by kernel_rfl) (by simp) ?_
    refine AllReadyH.cons rfl (fun K hK => ?_) AllReadyH.nil
    refine step_fn (some 12) rfl (by rfl) 36 u64_enters #[.tmp 11] #[74] rfl #[.pointer (some ⟨br, 0, none⟩)] rfl (fun r w' => r = .int .u64 (d : Nat) ∧ Rd w' br L4 e4 ∧ w'.heap[p]? = some (.cells #[.string ⟨nm.toArray⟩, .int .i64 (n : Nat), .int .u64 0, .int .u64 0] 53 (0, 0)) ∧ Upd (fun k => k = br ∨ k = p) wc w') ((H4.out _ hR3).mono fun e w' h => ⟨_, h.1, rfl, h.2.1, h.2.2.heap hp3 NP.out, hS.trans h.2.2 (fun _ _ f => .inl f)⟩) (fun r w4 hr => ?_)
    obtain ⟨rfl, hR4, hp4, hS2⟩ := hr
    clear hS
    refine hK.out _ _ hS2 (fun hS => ?_)
    clear hK K
    simp only [Act.put, List.setIfInBounds_toArray, List.set_cons_zero, List.set_cons_succ]
    refine wpAnyH_ready (rs := [5]) (by kernel_rfl) (by simp) ?_
    refine AllReadyH.cons rfl (fun K hK => ?_) AllReadyH.nil
    have hp5 := heap_setCell_eq (i := 2) hp4 (.int .u64 (c : Nat))
    refine Rg.step_store rfl (by rfl) 22 (.tmp 13) (.tmp 10) rfl ⟨p, 2, none⟩ rfl (.int .u64 (c : Nat)) rfl (by have q := cell_heap hp4 2 (.int .u64 0) rfl; have q2 := free_heap hp4 2; go_simp; rfl) (hK.out _ _ (hS.setCell (fun _ => .inr rfl) _) (fun hS5 => ?_))
    clear hK K hS
    have hS := hS5
    clear hS5
    simp only [Act.put, List.setIfInBounds_toArray, List.set_cons_zero, List.set_cons_succ]
    refine take_first (i := 6) (some 14) (v := ?_) rfl rfl (by kernel_rfl) (by kernel_rfl) (by kernel_rfl) (fun _ _ _ h => h) (Or.inl ⟨by rfl, ?_⟩) hS ?_
    rotate_left
    · intro w' hSw; go_simp; try with_reducible rfl
    simp only [Act.put, List.setIfInBounds_toArray, List.set_cons_zero, List.set_cons_succ]
    refine wpAnyH_ready (rs := [7]) (by kernel_rfl) (by simp) ?_
    refine AllReadyH.cons rfl (fun K hK => ?_) AllReadyH.nil
    have hp6 := heap_setCell_eq (i := 3) hp5 (.int .u64 (d : Nat))
    refine Rg.step_store rfl (by rfl) 22 (.tmp 14) (.tmp 12) rfl ⟨p, 3, none⟩ rfl (.int .u64 (d : Nat)) rfl (by have q := cell_heap hp5 3 (.int .u64 0) rfl; have q2 := free_heap hp5 3; go_simp; rfl) (hK.out _ _ (hS.setCell (fun _ => .inr rfl) _) (fun hS5 => ?_))
    clear hK K hS
    have hS := hS5
    clear hS5
    simp only [Act.put, List.setIfInBounds_toArray, List.set_cons_zero, List.set_cons_succ]
    refine wpAnyH_done (by kernel_rfl) ?_ _
    skip
    have hR6 := heap_setCell_ne (heap_setCell_ne hR4 ⟨p, 2, none⟩ (.int .u64 (c : Nat)) (Ne.symm NP.out)) ⟨p, 3, none⟩ (.int .u64 (d : Nat)) (Ne.symm NP.out)
    generalize (w4.setCell ⟨p, 2, none⟩ (.int .u64 (c : Nat))).setCell ⟨p, 3, none⟩ (.int .u64 (d : Nat)) = w6 at hS hp6 hR6 ⊢
--R2end
    have nr : w.heap.size ≠ br ∧ w.heap.size ≠ p := by have := LB.out; have := HP0.out; omega
    have r6 := hS.heap HB2.out (by omega)
    have c0 := cell_heap hp6 0 (.string ⟨nm.toArray⟩) rfl
    have c1 := cell_heap hp6 1 (.int .i64 (n : Nat)) rfl
    have c2 := cell_heap hp6 2 (.int .u64 (c : Nat)) rfl
    have c3 := cell_heap hp6 3 (.int .u64 (d : Nat)) rfl
    have g0 := cell_heap r6 0 (.string ⟨#[]⟩) rfl
    have g1 := cell_heap r6 1 (.int .i64 0) rfl
    have g2 := cell_heap r6 2 (.int .u64 0) rfl
    have g3 := cell_heap r6 3 (.int .u64 0) rfl
    have k0 := free_heap r6 0
    have k1 := free_heap r6 1
    have k2 := free_heap r6 2
    have k3 := free_heap r6 3
    have UE := Lib.hid (UU.out.trans hS (fun i hi f => by have := LB.out; have := HP0.out; rcases f with f | f; exact f; omega))
    have HR6 := Lib.hid hR6
    have H6 := Lib.hid r6
    have NR := Lib.hid nr
    clear hS hp6 hR6 r6 nr
    go_wp2
    have hq := heap_setCell_eq (i := 3) (heap_setCell_eq (i := 2) (heap_setCell_eq (i := 1) (heap_setCell_eq (i := 0) H6.out (.string ⟨nm.toArray⟩)) (.int .i64 (n : Nat))) (.int .u64 (c : Nat))) (.int .u64 (d : Nat))
    refine bodyPost_ret (v := .agg #[.string ⟨nm.toArray⟩, .int .i64 n, .int .u64 c, .int .u64 d]) (results_cell_row (P := Try.prog) rfl _ _ w.heap.size 53 #[.string ⟨nm.toArray⟩, .int .i64 n, .int .u64 c, .int .u64 d] (0, 0) _ rfl hq hu53 rfl (by kernel_rfl)) rfl ⟨rfl, ?_, ?_⟩
    · exact heap_setCell_ne (heap_setCell_ne (heap_setCell_ne (heap_setCell_ne HR6.out _ _ (Ne.symm NR.out.1)) _ _ (Ne.symm NR.out.1)) _ _ (Ne.symm NR.out.1)) _ _ (Ne.symm NR.out.1)
    · exact (((UE.out.setCell (p := ⟨w.heap.size, 0, none⟩) (fun k => absurd k (Nat.lt_irrefl _)) _).setCell (p := ⟨w.heap.size, 1, none⟩) (fun k => absurd k (Nat.lt_irrefl _)) _).setCell (p := ⟨w.heap.size, 2, none⟩) (fun k => absurd k (Nat.lt_irrefl _)) _).setCell (p := ⟨w.heap.size, 3, none⟩) (fun k => absurd k (Nat.lt_irrefl _)) _

end Go.Proofs.Ytlhjhkmmgkfmpaa.Px

/- table.read at both kinds, for the printer. -/
set_option linter.unusedVariables false
set_option linter.unusedSimpArgs false
namespace Go.Proofs.Ytlhjhkmmgkfmpaa.Px
open Go.RowKit Go.Shelf Go.Proofs.YtlhjhkmmgkfmpaaW.PrintWords Go.Proofs.YtlhjhkmmgkfmpaaW.PrintLast

def readS : Nat → List UInt8 → Int → List S53 × List UInt8 × Int
  | 0, l, e => ([], l, e)
  | n + 1, l, e => if (snapR l e).2.2 ≠ 0 then ([], (snapR l e).2) else ((snapR l e).1 :: (readS n (snapR l e).2.1 (snapR l e).2.2).1, (readS n (snapR l e).2.1 (snapR l e).2.2).2)
def readR : Nat → List UInt8 → Int → List S65 × List UInt8 × Int
  | 0, l, e => ([], l, e)
  | n + 1, l, e => if (refR l e).2.2 ≠ 0 then ([], (refR l e).2) else ((refR l e).1 :: (readR n (refR l e).2.1 (refR l e).2.2).1, (readR n (refR l e).2.1 (refR l e).2.2).2)
theorem snapR_le (l : List UInt8) (e : Int) : (snapR l e).2.1.length ≤ l.length := by
  unfold snapR
  exact Nat.le_trans (rU64_le _ _) (Nat.le_trans (rU64_le _ _) (Nat.le_trans (rU16_le _ _) (rText_le _ _)))
theorem refR_le (l : List UInt8) (e : Int) : (refR l e).2.1.length ≤ l.length := by
  unfold refR
  exact Nat.le_trans (rU16_le _ _) (rU16_le _ _)
theorem readS_len : ∀ (n : Nat) (l : List UInt8) (e : Int), (readS n l e).1.length ≤ n ∧ (readS n l e).2.1.length ≤ l.length
  | 0, _, _ => ⟨Nat.le_refl _, Nat.le_refl _⟩
  | n + 1, l, e => by
    unfold readS
    have := readS_len n (snapR l e).2.1 (snapR l e).2.2
    have := snapR_le l e
    split
    · exact ⟨Nat.zero_le _, this⟩
    · exact ⟨by simp; omega, by dsimp only; omega⟩
theorem readR_len : ∀ (n : Nat) (l : List UInt8) (e : Int), (readR n l e).1.length ≤ n ∧ (readR n l e).2.1.length ≤ l.length
  | 0, _, _ => ⟨Nat.le_refl _, Nat.le_refl _⟩
  | n + 1, l, e => by
    unfold readR
    have := readR_len n (refR l e).2.1 (refR l e).2.2
    have := refR_le l e
    split
    · exact ⟨Nat.zero_le _, this⟩
    · exact ⟨by simp; omega, by dsimp only; omega⟩

set_option maxHeartbeats 4000000 in
set_option maxRecDepth 100000 in
theorem readS_walk (bp br n : Nat) (l : List UInt8) (e : Int) (w : World) (hn : n ≤ 65535) (hl : l.length ≤ 1000000) (hbp : w.heap[bp]? = some (.cells #[.pointer (some ⟨br, 0, none⟩)] 74 (0, 0))) (hR : Rd w br l e) (hne : bp ≠ br) :
    Calls Try.prog 37 #[.pointer (some ⟨br, 0, none⟩), .int .i64 n, .func (.func 39) #[] #[.pointer (some ⟨bp, 0, none⟩)]] w (fun e' w' => ∃ v, e' = .returned v ∧ Kd.R k53 53 w' w.heap.size (fun _ => True) v (readS n l e).1 ∧ Rd w' br (readS n l e).2.1 (readS n l e).2.2 ∧ Upd (fun k => k = br) w w') := by
  have hu53 := Try.underlying53
  have HT : Hid (∀ (l : List UInt8) (e : Int) (w' : World), l.length ≤ 1000000 → Upd (fun k => k = br) w w' → Rd w' br l e → Calls Try.prog 39 #[.pointer (some ⟨bp, 0, none⟩)] w' (fun e' w2 => e' = .returned (snapV (snapR l e).1) ∧ Rd w2 br (snapR l e).2.1 (snapR l e).2.2 ∧ Upd (fun k => k = br) w' w2)) :=
    fun l e w' h1 h2 h3 => take1_walk bp br l e w' h1 (h2.heap hbp hne) h3 hne
  obtain ⟨R, hRe⟩ : ∃ R, R = readS n l e := ⟨_, rfl⟩
  rw [← hRe]
  have HRe := Lib.hid hRe
  have HR := Lib.hid hR
  have lbr := lt_of_heap hR
  clear hRe hR hbp hne
  go_enter Try.func37, Try.ntmps37
  go_wp2
  go_step3
  go_wp2
  go_step3
  go_wp2
  go_loopg [7, 10] n (fun g v7 v10 wr => ∃ (i : Nat) (v : Value) (xs : List S53) (li : List UInt8) (ei : Int), v = v7 ∧ v10 = .int .i64 i ∧ i + g = n ∧ Hid (Kd.R k53 53 wr w.heap.size (fun _ => True) v xs) ∧ Hid (Rd wr br li ei) ∧ Hid (Upd (fun k => k = br) w wr) ∧ Hid (R = (xs ++ (readS g li ei).1, (readS g li ei).2)) ∧ li.length ≤ 1000000 ∧ xs.length = i)
  case atStart => exact ⟨0, _, [], l, e, rfl, rfl, by omega, Lib.hid (Kd.R_nil _ _ _ _ _), HR, Lib.hid (Upd.refl _ _), Lib.hid (by rw [HRe.out]; rfl), hl, rfl⟩
  case round =>
    obtain ⟨i, v, xs, li, ei, rfl, rfl, hig, HK, HRi, HU, HE, hli, hxi⟩ := hrel
    cases gk with
    | zero =>
      obtain rfl : i = n := by omega
      go_wp2
      simp only [Exit.noGoto_ret, Exit.inBlock, Exit.then]
      go_ret
      refine ⟨_, rfl, ?_⟩
      rw [HE.out]
      exact ⟨by rw [show (readS 0 li ei).1 = [] from rfl, List.append_nil]; exact HK.out, HRi.out, HU.out⟩
    | succ g =>
      have hlt : decide ((i : Int) < (n : Int)) = true := decide_eq_true (by omega)
      have hx := HT.out li ei wr hli HU.out HRi.out
      have hle := snapR_le li ei
      have he : readS (g + 1) li ei = if (snapR li ei).2.2 ≠ 0 then ([], (snapR li ei).2) else ((snapR li ei).1 :: (readS g (snapR li ei).2.1 (snapR li ei).2.2).1, (readS g (snapR li ei).2.1 (snapR li ei).2.2).2) := rfl
      generalize snapR li ei = y at hx hle he
      obtain ⟨x, L, E⟩ := y
      dsimp only at hx hle he
      unfold snapV at hx
      have HX := Lib.hid hx
      have HEE := Lib.hid he
      clear hx he
      by_cases hE : E = 0
      · have hEb : (E != 0) = false := by simp [hE]
        have hee := HEE.out
        rw [if_neg (by simp [hE])] at hee
        go_wp2_with (refine HX.out.mono ?_; rintro e' w1 ⟨rfl, hR1, u1⟩)
        have hR2 : Rd (w1.alloc (.cells #[.string x.f0, .int .i64 x.f1, .int .u64 x.f2, .int .u64 x.f3] 53)) br L E := heap_alloc_lt hR1 _
        refine (Reader_Err br L E _ hR2).mono ?_
        rintro e' w2 ⟨rfl, hw⟩
        have hbx := heap_alloc_new w1 (.cells #[.string x.f0, .int .i64 x.f1, .int .u64 x.f2, .int .u64 x.f3] 53)
        have hu2 : Upd (fun k => k = br) wr (w1.alloc (.cells #[.string x.f0, .int .i64 x.f1, .int .u64 x.f2, .int .u64 x.f3] 53)) := u1.alloc _
        rw [hw] at hR2 hbx hu2
        have x0 := cell_heap hbx 0 (.string x.f0) rfl
        have x1 := cell_heap hbx 1 (.int .i64 x.f1) rfl
        have x2 := cell_heap hbx 2 (.int .u64 x.f2) rfl
        have x3 := cell_heap hbx 3 (.int .u64 x.f3) rfl
        have HU2 := Lib.hid (HU.out.trans hu2 (fun _ _ f => f))
        have lw := lt_of_heap hR2
        have hK2 : Kd.R k53 53 w2 w.heap.size (fun _ => True) v xs := Kd.R_mono (Kd.R_move (Kd.R_bound HK.out) (fun k hk => hu2.block k hk.2.2.1 (by show ¬ k = br; have := hk.2.1; omega))) (fun _ _ => trivial)
        have HR2 := Lib.hid hR2
        have HK2 := Lib.hid hK2
        clear hR1 u1 hw hbx hu2 hR2 hK2
        go_wp2_with (at_builtin; refine Kd.R_append k53 (w0 := w2) w.heap.size rfl (.tmp 17) (.tmp 19) 23 53 (.agg #[(.string ⟨#[]⟩), (.int .i64 0), (.int .u64 0), (.int .u64 0)]) 40 rfl Try.underlying23 info53 rfl (by decide) (by omega) _ xs x [.string x.f0, .int .i64 x.f1, .int .u64 x.f2, .int .u64 x.f3] (fun _ => True) (fun _ => False) rfl rfl (k53_mkM _ _ _ x) (fun _ hk => hk.elim) (fun _ _ => trivial) HK2.out (Below.refl _ _) HU2.out.size (by omega) ?_; intro v2 w3 hK3 hb3 hg3 hat3)
        go_roundg g
        case measure => omega
        case rel =>
          refine ⟨i + 1, v2, xs ++ [x], L, E, rfl, by go_num, by omega, Lib.hid hK3, Lib.hid ((hb3.block br lbr).trans HR2.out), Lib.hid (HU2.out.trans (Upd.of_below hb3) (fun k hk h => absurd hk (by omega))), Lib.hid ?_, by omega, by simp; omega⟩
          rw [HE.out, hee]
          simp
      · have hEb : (E != 0) = true := by simp [hE]
        have hee := HEE.out
        rw [if_pos hE] at hee
        go_wp2_with (refine HX.out.mono ?_; rintro e' w1 ⟨rfl, hR1, u1⟩)
        have hR2 : Rd (w1.alloc (.cells #[.string x.f0, .int .i64 x.f1, .int .u64 x.f2, .int .u64 x.f3] 53)) br L E := heap_alloc_lt hR1 _
        refine (Reader_Err br L E _ hR2).mono ?_
        rintro e' w2 ⟨rfl, hw⟩
        have hu2 : Upd (fun k => k = br) wr (w1.alloc (.cells #[.string x.f0, .int .i64 x.f1, .int .u64 x.f2, .int .u64 x.f3] 53)) := u1.alloc _
        rw [hw] at hR2 hu2
        have hK2 : Kd.R k53 53 w2 w.heap.size (fun _ => True) v xs := Kd.R_mono (Kd.R_move (Kd.R_bound HK.out) (fun k hk => hu2.block k hk.2.2.1 (by show ¬ k = br; have := hk.2.1; omega))) (fun _ _ => trivial)
        have HU2 := Lib.hid (HU.out.trans hu2 (fun _ _ f => f))
        have HR2 := Lib.hid hR2
        have HK2 := Lib.hid hK2
        clear hR1 u1 hw hu2 hR2 hK2
        go_wp2
        simp only [Exit.noGoto_ret, Exit.inBlock, Exit.then]
        go_ret
        refine ⟨_, rfl, ?_⟩
        rw [HE.out, hee]
        exact ⟨by rw [List.append_nil]; exact HK2.out, HR2.out, HU2.out⟩

set_option maxHeartbeats 4000000 in
set_option maxRecDepth 100000 in
theorem readR_walk (bp br n : Nat) (l : List UInt8) (e : Int) (w : World) (hn : n ≤ 65535) (hl : l.length ≤ 1000000) (hbp : w.heap[bp]? = some (.cells #[.pointer (some ⟨br, 0, none⟩)] 74 (0, 0))) (hR : Rd w br l e) (hne : bp ≠ br) :
    Calls Try.prog 42 #[.pointer (some ⟨br, 0, none⟩), .int .i64 n, .func (.func 43) #[] #[.pointer (some ⟨bp, 0, none⟩)]] w (fun e' w' => ∃ v, e' = .returned v ∧ Kd.R k65 65 w' w.heap.size (fun _ => True) v (readR n l e).1 ∧ Rd w' br (readR n l e).2.1 (readR n l e).2.2 ∧ Upd (fun k => k = br) w w') := by
  have hu65 := Try.underlying65
  have HT : Hid (∀ (l : List UInt8) (e : Int) (w' : World), l.length ≤ 1000000 → Upd (fun k => k = br) w w' → Rd w' br l e → Calls Try.prog 43 #[.pointer (some ⟨bp, 0, none⟩)] w' (fun e' w2 => e' = .returned (refV (refR l e).1) ∧ Rd w2 br (refR l e).2.1 (refR l e).2.2 ∧ Upd (fun k => k = br) w' w2)) :=
    fun l e w' h1 h2 h3 => take2_walk bp br l e w' h1 (h2.heap hbp hne) h3 hne
  obtain ⟨R, hRe⟩ : ∃ R, R = readR n l e := ⟨_, rfl⟩
  rw [← hRe]
  have HRe := Lib.hid hRe
  have HR := Lib.hid hR
  have lbr := lt_of_heap hR
  clear hRe hR hbp hne
  go_enter Try.func42, Try.ntmps42
  go_wp2
  go_step3
  go_wp2
  go_step3
  go_wp2
  go_loopg [7, 10] n (fun g v7 v10 wr => ∃ (i : Nat) (v : Value) (xs : List S65) (li : List UInt8) (ei : Int), v = v7 ∧ v10 = .int .i64 i ∧ i + g = n ∧ Hid (Kd.R k65 65 wr w.heap.size (fun _ => True) v xs) ∧ Hid (Rd wr br li ei) ∧ Hid (Upd (fun k => k = br) w wr) ∧ Hid (R = (xs ++ (readR g li ei).1, (readR g li ei).2)) ∧ li.length ≤ 1000000 ∧ xs.length = i)
  case atStart => exact ⟨0, _, [], l, e, rfl, rfl, by omega, Lib.hid (Kd.R_nil _ _ _ _ _), HR, Lib.hid (Upd.refl _ _), Lib.hid (by rw [HRe.out]; rfl), hl, rfl⟩
  case round =>
    obtain ⟨i, v, xs, li, ei, rfl, rfl, hig, HK, HRi, HU, HE, hli, hxi⟩ := hrel
    cases gk with
    | zero =>
      obtain rfl : i = n := by omega
      go_wp2
      simp only [Exit.noGoto_ret, Exit.inBlock, Exit.then]
      go_ret
      refine ⟨_, rfl, ?_⟩
      rw [HE.out]
      exact ⟨by rw [show (readR 0 li ei).1 = [] from rfl, List.append_nil]; exact HK.out, HRi.out, HU.out⟩
    | succ g =>
      have hlt : decide ((i : Int) < (n : Int)) = true := decide_eq_true (by omega)
      have hx := HT.out li ei wr hli HU.out HRi.out
      have hle := refR_le li ei
      have he : readR (g + 1) li ei = if (refR li ei).2.2 ≠ 0 then ([], (refR li ei).2) else ((refR li ei).1 :: (readR g (refR li ei).2.1 (refR li ei).2.2).1, (readR g (refR li ei).2.1 (refR li ei).2.2).2) := rfl
      generalize refR li ei = y at hx hle he
      obtain ⟨x, L, E⟩ := y
      dsimp only at hx hle he
      unfold refV at hx
      have HX := Lib.hid hx
      have HEE := Lib.hid he
      clear hx he
      by_cases hE : E = 0
      · have hEb : (E != 0) = false := by simp [hE]
        have hee := HEE.out
        rw [if_neg (by simp [hE])] at hee
        go_wp2_with (refine HX.out.mono ?_; rintro e' w1 ⟨rfl, hR1, u1⟩)
        have hR2 : Rd (w1.alloc (.cells #[.int .i64 x.f0, .int .i64 x.f1] 65)) br L E := heap_alloc_lt hR1 _
        refine (Reader_Err br L E _ hR2).mono ?_
        rintro e' w2 ⟨rfl, hw⟩
        have hbx := heap_alloc_new w1 (.cells #[.int .i64 x.f0, .int .i64 x.f1] 65)
        have hu2 : Upd (fun k => k = br) wr (w1.alloc (.cells #[.int .i64 x.f0, .int .i64 x.f1] 65)) := u1.alloc _
        rw [hw] at hR2 hbx hu2
        have x0 := cell_heap hbx 0 (.int .i64 x.f0) rfl
        have x1 := cell_heap hbx 1 (.int .i64 x.f1) rfl
        have HU2 := Lib.hid (HU.out.trans hu2 (fun _ _ f => f))
        have lw := lt_of_heap hR2
        have hK2 : Kd.R k65 65 w2 w.heap.size (fun _ => True) v xs := Kd.R_mono (Kd.R_move (Kd.R_bound HK.out) (fun k hk => hu2.block k hk.2.2.1 (by show ¬ k = br; have := hk.2.1; omega))) (fun _ _ => trivial)
        have HR2 := Lib.hid hR2
        have HK2 := Lib.hid hK2
        clear hR1 u1 hw hbx hu2 hR2 hK2
        go_wp2_with (at_builtin; refine Kd.R_append k65 (w0 := w2) w.heap.size rfl (.tmp 17) (.tmp 19) 24 65 (.agg #[(.int .i64 0), (.int .i64 0)]) 16 rfl Try.underlying24 info65 rfl (by decide) (by omega) _ xs x [.int .i64 x.f0, .int .i64 x.f1] (fun _ => True) (fun _ => False) rfl rfl (k65_mkM _ _ _ x) (fun _ hk => hk.elim) (fun _ _ => trivial) HK2.out (Below.refl _ _) HU2.out.size (by omega) ?_; intro v2 w3 hK3 hb3 hg3 hat3)
        go_roundg g
        case measure => omega
        case rel =>
          refine ⟨i + 1, v2, xs ++ [x], L, E, rfl, by go_num, by omega, Lib.hid hK3, Lib.hid ((hb3.block br lbr).trans HR2.out), Lib.hid (HU2.out.trans (Upd.of_below hb3) (fun k hk h => absurd hk (by omega))), Lib.hid ?_, by omega, by simp; omega⟩
          rw [HE.out, hee]
          simp
      · have hEb : (E != 0) = true := by simp [hE]
        have hee := HEE.out
        rw [if_pos hE] at hee
        go_wp2_with (refine HX.out.mono ?_; rintro e' w1 ⟨rfl, hR1, u1⟩)
        have hR2 : Rd (w1.alloc (.cells #[.int .i64 x.f0, .int .i64 x.f1] 65)) br L E := heap_alloc_lt hR1 _
        refine (Reader_Err br L E _ hR2).mono ?_
        rintro e' w2 ⟨rfl, hw⟩
        have hu2 : Upd (fun k => k = br) wr (w1.alloc (.cells #[.int .i64 x.f0, .int .i64 x.f1] 65)) := u1.alloc _
        rw [hw] at hR2 hu2
        have hK2 : Kd.R k65 65 w2 w.heap.size (fun _ => True) v xs := Kd.R_mono (Kd.R_move (Kd.R_bound HK.out) (fun k hk => hu2.block k hk.2.2.1 (by show ¬ k = br; have := hk.2.1; omega))) (fun _ _ => trivial)
        have HU2 := Lib.hid (HU.out.trans hu2 (fun _ _ f => f))
        have HR2 := Lib.hid hR2
        have HK2 := Lib.hid hK2
        clear hR1 u1 hw hu2 hR2 hK2
        go_wp2
        simp only [Exit.noGoto_ret, Exit.inBlock, Exit.then]
        go_ret
        refine ⟨_, rfl, ?_⟩
        rw [HE.out, hee]
        exact ⟨by rw [List.append_nil]; exact HK2.out, HR2.out, HU2.out⟩

end Go.Proofs.Ytlhjhkmmgkfmpaa.Px

/- table.Take for the printer. -/
set_option linter.unusedVariables false
set_option linter.unusedSimpArgs false
namespace Go.Proofs.Ytlhjhkmmgkfmpaa.Px
open Go.RowKit Go.Shelf Go.Proofs.YtlhjhkmmgkfmpaaW.PrintWords Go.Proofs.YtlhjhkmmgkfmpaaW.PrintLast

def tkP (s : List UInt8) : (Int × List S53 × List S65) × Int :=
  let a := rU64 s 0
  let b := rU8 a.2.1 a.2.2
  let c := readS b.1 b.2.1 b.2.2
  let d := rU16 c.2.1 c.2.2
  let f := readR d.1 d.2.1 d.2.2
  if f.2.2 ≠ 0 then ((0, [], []), 10) else if f.2.1 ≠ [] ∨ chk (P1 c.1) (P2 f.1) ≠ 0 then ((0, [], []), 4) else ((((a.1 : Nat) : Int), c.1, f.1), 0)

theorem readS_enters : Enters Try.prog 37 := enters_of Try.func37 rfl rfl
theorem readR_enters : Enters Try.prog 42 := enters_of Try.func42 rfl rfl

theorem set3T {W : World} {b : Nat} {t : TypeId} {a0 a1 a2 : Value} (h : W.heap[b]? = some (.cells #[a0, a1, a2] t (0, 0))) (v0 v1 v2 : Value) :
    (((W.setCell ⟨b, 0, none⟩ v0).setCell ⟨b, 1, none⟩ v1).setCell ⟨b, 2, none⟩ v2).heap[b]? = some (.cells #[v0, v1, v2] t (0, 0)) :=
  heap_setCell_eq (i := 2) (heap_setCell_eq (i := 1) (heap_setCell_eq (i := 0) h v0) v1) v2
theorem upd3T {w W : World} (h : Upd (fun _ => False) w W) {b : Nat} (hb : ¬ b < w.heap.size) (v0 v1 v2 : Value) :
    Upd (fun _ => False) w (((W.setCell ⟨b, 0, none⟩ v0).setCell ⟨b, 1, none⟩ v1).setCell ⟨b, 2, none⟩ v2) :=
  ((h.setCell (p := ⟨b, 0, none⟩) (fun k => hb k) v0).setCell (p := ⟨b, 1, none⟩) (fun k => hb k) v1).setCell (p := ⟨b, 2, none⟩) (fun k => hb k) v2
theorem R_set3 {α : Type} {d : Kd α} {e base : Nat} {v : Value} {xs : List α} {W : World} (h : Kd.R d e W base (fun _ => True) v xs) {b : Nat} (hb : b < base) (v0 v1 v2 : Value) :
    Kd.R d e (((W.setCell ⟨b, 0, none⟩ v0).setCell ⟨b, 1, none⟩ v1).setCell ⟨b, 2, none⟩ v2) base (fun _ => True) v xs :=
  Kd.R_mono (Kd.R_far (p := ⟨b, 2, none⟩) (Kd.R_far (p := ⟨b, 1, none⟩) (Kd.R_far (p := ⟨b, 0, none⟩) (Kd.R_bound h) (fun k hk => by have := hk.2.1; show k ≠ b; omega) v0) (fun k hk => by have := hk.2.1; show k ≠ b; omega) v1) (fun k hk => by have := hk.2.1; show k ≠ b; omega) v2) (fun _ _ => trivial)
theorem R_none {α : Type} {d : Kd α} {e base : Nat} {v : Value} {xs : List α} {W W' : World} (h : Kd.R d e W base (fun _ => True) v xs) (hu : Upd (fun _ => False) W W') : Kd.R d e W' base (fun _ => True) v xs :=
  Kd.R_step h (fun k _ hk => hu.block k hk (fun f => f))

set_option maxHeartbeats 8000000 in
set_option maxRecDepth 100000 in
theorem take_walk (s : List UInt8) (w : World) (hs : s.length ≤ 1000000) :
    Calls Try.prog 17 #[.string ⟨s.toArray⟩] w (fun e w' => ∃ v1 v2 : Value, e = .returned (.tuple #[.agg #[.int .u64 (tkP s).1.1, v1, v2], .int .i64 (tkP s).2]) ∧ Kd.R k53 53 w' w.heap.size (fun _ => True) v1 (tkP s).1.2.1 ∧ Kd.R k65 65 w' w.heap.size (fun _ => True) v2 (tkP s).1.2.2 ∧ Upd (fun _ => False) w w') := by
  have hmf : ∀ (fn : Fn) (first cap : Array Value) (w : World), (Instr.makeFunc fn first cap).run Try.prog w = .ok (.func fn first cap) w := fun _ _ _ _ => rfl
  have hu26 := Try.underlying26
  have hT : tkP s = (let a := rU64 s 0; let b := rU8 a.2.1 a.2.2; let c := readS b.1 b.2.1 b.2.2; let d := rU16 c.2.1 c.2.2; let f := readR d.1 d.2.1 d.2.2
    if f.2.2 ≠ 0 then ((0, [], []), 10) else if f.2.1 ≠ [] ∨ chk (P1 c.1) (P2 f.1) ≠ 0 then ((0, [], []), 4) else ((((a.1 : Nat) : Int), c.1, f.1), 0) : (Int × List S53 × List S65) × Int) := rfl
  generalize tkP s = T at *
  have q1 := rU64_le s 0
  have h1 := fun br w h => Reader_U64 br s 0 w (by omega) h
  generalize rU64 s 0 = x1 at *
  obtain ⟨wt, L1, e1⟩ := x1
  dsimp only at h1 q1 hT
  have q2 := rU8_le L1 e1
  have b2 := rU8_lt L1 e1
  have h2 := fun br w h => Reader_U8 br L1 e1 w (by omega) h
  generalize rU8 L1 e1 = x2 at *
  obtain ⟨n, L2, e2⟩ := x2
  dsimp only at h2 q2 b2 hT
  unfold Two8 at b2
  have q3 := readS_len n L2 e2
  have h3 := fun bp br w hb h hne => readS_walk bp br n L2 e2 w (by omega) (by omega) hb h hne
  generalize readS n L2 e2 = x3 at *
  obtain ⟨xs, L3, e3⟩ := x3
  dsimp only at h3 q3 hT
  have q4 := rU16_le L3 e3
  have b4 := rU16_lt L3 e3
  have h4 := fun br w h => Reader_U16 br L3 e3 w (by omega) h
  generalize rU16 L3 e3 = x4 at *
  obtain ⟨m, L4, e4⟩ := x4
  dsimp only at h4 q4 b4 hT
  unfold Two16 at b4
  have q5 := readR_len m L4 e4
  have h5 := fun bp br w hb h hne => readR_walk bp br m L4 e4 w (by omega) (by omega) hb h hne
  generalize readR m L4 e4 = x5 at *
  obtain ⟨ys, L5, e5⟩ := x5
  dsimp only at h5 q5 hT
  have H1 := Lib.hid h1
  have H2 := Lib.hid h2
  have H3 := Lib.hid h3
  have H4 := Lib.hid h4
  have H5 := Lib.hid h5
  have HTT := Lib.hid hT
  have w8 : IntKind.i64.wrap (n : Int) = (n : Int) := IntWalk.i64_in _ (by omega)
  have w16 : IntKind.i64.wrap (m : Int) = (m : Int) := IntWalk.i64_in _ (by omega)
  clear h1 h2 h3 h4 h5 hT
  have hA := heap_alloc_new w (.cells #[.int .u64 0, .slice none 0 0, .slice none 0 0] 26)
  have uA := (Upd.refl (fun _ => False) w).alloc (.cells #[.int .u64 0, .slice none 0 0, .slice none 0 0] 26)
  obtain ⟨wA, hwA⟩ : ∃ wA, wA = w.alloc (.cells #[.int .u64 0, .slice none 0 0, .slice none 0 0] 26) := ⟨_, rfl⟩
  have hN := codec_New s (w.alloc (.cells #[.int .u64 0, .slice none 0 0, .slice none 0 0] 26))
  have HN := Lib.hid hN
  rw [← hwA] at hA uA
  have lA := lt_of_heap hA
  have HA := Lib.hid hA
  have UA := Lib.hid uA
  clear hN hA uA
  go_enter Try.func17, Try.ntmps17
  go_wp2_with (fail)
  refine HN.out.mono ?_
  rw [← hwA]
  rintro e wB ⟨rfl, hRB, uB⟩
  have hbpB := heap_alloc_new wB (.cells #[.pointer (some ⟨wA.heap.size, 0, none⟩)] 74)
  have hRC : Rd (wB.alloc (.cells #[.pointer (some ⟨wA.heap.size, 0, none⟩)] 74)) wA.heap.size s 0 := heap_alloc_lt hRB _
  have hAC := heap_alloc_lt (uB.heap HA.out (fun f => f)) (.cells #[.pointer (some ⟨wA.heap.size, 0, none⟩)] 74)
  have d0 := cell_heap hbpB 0 (.pointer (some ⟨wA.heap.size, 0, none⟩)) rfl
  have UC := Lib.hid ((UA.out.trans uB (fun _ _ f => f)).alloc (.cells #[.pointer (some ⟨wA.heap.size, 0, none⟩)] 74))
  have lB := lt_of_heap hRB
  generalize wA.heap.size = br at *
  go_wp2_with (fail)
  refine (H1.out br _ hRC).mono ?_
  rintro e wD ⟨rfl, hRD, uD⟩
  have nbp : wB.heap.size ≠ br := by omega
  have nA : w.heap.size ≠ br := by omega
  have hbpD := uD.heap hbpB nbp
  have hAD := uD.heap hAC nA
  have UD : Upd (fun _ => False) w wD := UC.out.trans uD (fun i hi f => absurd f (by show ¬ i = br; omega))
  generalize hbpe : wB.heap.size = bp at *
  have hbpE := heap_alloc_lt hbpD (.cells #[.int .u64 wt, .slice none 0 0, .slice none 0 0] 26)
  have hAE := heap_alloc_lt hAD (.cells #[.int .u64 wt, .slice none 0 0, .slice none 0 0] 26)
  have hRE : Rd (wD.alloc (.cells #[.int .u64 wt, .slice none 0 0, .slice none 0 0] 26)) br L1 e1 := heap_alloc_lt hRD _
  have hBE := heap_alloc_new wD (.cells #[.int .u64 wt, .slice none 0 0, .slice none 0 0] 26)
  have lD := lt_of_heap hbpD
  have UE := Lib.hid (UD.alloc (.cells #[.int .u64 wt, .slice none 0 0, .slice none 0 0] 26))
  clear hRB uB hbpB hRC hAC d0 hRD uD hbpD hAD UD hwA
  go_wp2
  generalize wD.alloc (.cells #[.int .u64 wt, .slice none 0 0, .slice none 0 0] 26) = wE at *
  generalize hbt : wD.heap.size = bt at *
  have DP := Lib.hid (cell_heap hbpE 0 (.pointer (some ⟨br, 0, none⟩)) rfl)
  have NBP : Hid (¬ (bp = br ∨ bp = bt)) := Lib.hid (by omega)
  have NBT : Hid (¬ (bt = br)) := Lib.hid (by omega)
  have NPR : Hid (bp ≠ br) := Lib.hid nbp
  have HBP := Lib.hid hbpE
  have HBT := Lib.hid hBE
  have LBT : Hid (bt < wE.heap.size) := Lib.hid (lt_of_heap hBE)
  have hRd : Rd wE.drew br L1 e1 := hRE
  have HAE := Lib.hid hAE
  have LL : Hid (w.heap.size < br ∧ br < bp ∧ bp < bt) := Lib.hid ⟨by omega, by omega, by omega⟩
  clear hbpE hBE hAE hRE nbp nA lA lB lD hbpe hbt
--G3
  refine wp_region_held_drew (S := fun w' => Upd (fun k => k = br ∨ k = bt) wE w') (by kernel_rfl) (Upd.refl _ _).drew (fun hS => ?_)
  refine take_first (i := 0) (some 11) (v := ?_) rfl rfl (by kernel_rfl) (by kernel_rfl) (by kernel_rfl) (fun _ _ _ h => h) (Or.inl ⟨by rfl, ?_⟩) hS ?_
  rotate_left
  · intro w' hSw; have q0 := hSw.cell DP.out NBP.out; go_simp; try with_reducible rfl
  simp only [Act.put, List.setIfInBounds_toArray, List.set_cons_zero, List.set_cons_succ]
  refine take_first (i := 1) (some 12) (v := ?_) rfl rfl (by kernel_rfl) (by kernel_rfl) (by kernel_rfl) (fun _ _ _ h => h) (Or.inl ⟨by rfl, ?_⟩) hS ?_
  rotate_left
  · intro w' hSw; have q0 := hSw.cell DP.out NBP.out; go_simp; try with_reducible rfl
  simp only [Act.put, List.setIfInBounds_toArray, List.set_cons_zero, List.set_cons_succ]
  refine take_first (i := 4) (some 15) (v := ?_) rfl rfl (by kernel_rfl) (by kernel_rfl) (by kernel_rfl) (fun _ _ _ h => h) (Or.inl ⟨by rfl, ?_⟩) hS ?_
  rotate_left
  · intro w' hSw; go_simp; try with_reducible rfl
  simp only [Act.put, List.setIfInBounds_toArray, List.set_cons_zero, List.set_cons_succ]
  refine wpAnyH_ready (rs := [2]) (by kernel_rfl) (by simp) ?_
  refine AllReadyH.cons rfl (fun K hK => ?_) AllReadyH.nil
  refine step_fn (some 13) rfl (by rfl) 38 u8_enters #[.tmp 12] #[74] rfl #[.pointer (some ⟨br, 0, none⟩)] rfl (fun r w' => r = .int .u8 (n : Nat) ∧ Rd w' br L2 e2 ∧ w'.heap[bt]? = some (.cells #[.int .u64 wt, .slice none 0 0, .slice none 0 0] 26 (0, 0)) ∧ Upd (fun k => k = br ∨ k = bt) wE w') ((H2.out br _ hRd).mono fun e w' h => ⟨_, h.1, rfl, h.2.1, h.2.2.heap HBT.out NBT.out, hS.trans h.2.2 (fun _ _ f => .inl f)⟩) (fun r w1 hr => ?_)
  obtain ⟨rfl, hR1, hB1, hS2⟩ := hr
  clear hS
  refine hK.out _ _ hS2 (fun hS => ?_)
  clear hK K
  simp only [Act.put, List.setIfInBounds_toArray, List.set_cons_zero, List.set_cons_succ]
  refine take_first (i := 3) (some 14) (v := ?_) rfl rfl (by kernel_rfl) (by kernel_rfl) (by kernel_rfl) (fun _ _ _ h => h) (Or.inl ⟨by rfl, ?_⟩) hS ?_
  rotate_left
  · intro w' hSw; go_simp; try with_reducible rfl
  simp only [Act.put, List.setIfInBounds_toArray, List.set_cons_zero, List.set_cons_succ]
  refine wpAnyH_ready (rs := [5]) (by kernel_rfl) (by simp) ?_
  refine AllReadyH.cons rfl (fun K hK => ?_) AllReadyH.nil
  have hp1 := hS.heap HBP.out NBP.out
  have hz1 := hS.size
  refine step_fn (some 16) rfl (by rfl) 37 readS_enters #[.tmp 11, .tmp 14, .tmp 15] #[74, 3, 81] rfl #[.pointer (some ⟨br, 0, none⟩), .int .i64 n, .func (.func 39) #[] #[.pointer (some ⟨bp, 0, none⟩)]] rfl (fun r w' => Kd.R k53 53 w' wE.heap.size (fun _ => True) r xs ∧ Rd w' br L3 e3 ∧ w'.heap[bt]? = some (.cells #[.int .u64 wt, .slice none 0 0, .slice none 0 0] 26 (0, 0)) ∧ Upd (fun k => k = br ∨ k = bt) wE w') ((H3.out bp br w1 hp1 hR1 NPR.out).mono fun e w' h => ⟨h.choose, h.choose_spec.1, Kd.R_lower h.choose_spec.2.1 hz1, h.choose_spec.2.2.1, h.choose_spec.2.2.2.heap hB1 NBT.out, hS.trans h.choose_spec.2.2.2 (fun _ _ f => .inl f)⟩) (fun v w2 hr => ?_)
  obtain ⟨hV, hR2, hB2, hS2⟩ := hr
  clear hS hR1 hB1 hp1 hz1
  refine hK.out _ _ hS2 (fun hS => ?_)
  clear hK K
  obtain ⟨A1, c1, rfl⟩ := Kd.R_slice hV
  simp only [Act.put, List.setIfInBounds_toArray, List.set_cons_zero, List.set_cons_succ]
  refine take_first (i := 6) (some 17) (v := ?_) rfl rfl (by kernel_rfl) (by kernel_rfl) (by kernel_rfl) (fun _ _ _ h => h) (Or.inl ⟨by rfl, ?_⟩) hS ?_
  rotate_left
  · intro w' hSw; go_simp; try with_reducible rfl
  simp only [Act.put, List.setIfInBounds_toArray, List.set_cons_zero, List.set_cons_succ]
  refine wpAnyH_ready (rs := [7]) (by kernel_rfl) (by simp) ?_
  refine AllReadyH.cons rfl (fun K hK => ?_) AllReadyH.nil
  have hB3 := heap_setCell_eq (i := 1) hB2 (.slice A1 xs.length c1)
  refine Rg.step_store rfl (by rfl) 23 (.tmp 17) (.tmp 16) rfl ⟨bt, 1, none⟩ rfl (.slice A1 xs.length c1) rfl (by have q := cell_heap hB2 1 (.slice none 0 0) rfl; have q2 := free_heap hB2 1; go_simp; rfl) (hK.out _ _ (hS.setCell (fun _ => .inr rfl) _) (fun hS5 => ?_))
  clear hK K hS
  have hS := hS5
  clear hS5
  simp only [Act.put, List.setIfInBounds_toArray, List.set_cons_zero, List.set_cons_succ]
  refine wpAnyH_done (by kernel_rfl) ?_ _
  have hR3 : Rd (w2.setCell ⟨bt, 1, none⟩ (.slice A1 xs.length c1)) br L3 e3 := heap_setCell_ne hR2 _ _ (Ne.symm NBT.out)
  have hV3 : Kd.R k53 53 (w2.setCell ⟨bt, 1, none⟩ (.slice A1 xs.length c1)) wE.heap.size (fun _ => True) (.slice A1 xs.length c1) xs := Kd.R_mono (Kd.R_far (Kd.R_bound hV) (fun k hk => by show k ≠ bt; have := hk.2.1; have := LBT.out; omega) _) (fun _ _ => trivial)
  generalize w2.setCell ⟨bt, 1, none⟩ (.slice A1 xs.length c1) = wF1 at hB3 hS hR3 hV3 ⊢
  clear hB2 hR2 hV
--G3end
  have hS1 := hS
  have DP1 := Lib.hid (hS.cell DP.out NBP.out)
  have HBP1 := Lib.hid (hS.heap HBP.out NBP.out)
  have UE2 := UE
  have LBE := LBT
  have HAF := Lib.hid (hS.heap HAE.out (by have := LL.out; omega))
  have UF : Hid (Upd (fun _ => False) w wF1) := UE.out.trans hS (fun i hi f => absurd f (by have := LL.out; omega))
  have LBF : Hid (bt < wF1.heap.size) := Lib.hid (Nat.lt_of_lt_of_le LBT.out hS.size)
  have LEF := Lib.hid hS.size
  have HV1 := Lib.hid hV3
  clear HBT LBT hRd DP HBP HAE UE hS hS1 hV3
  have HBT := Lib.hid hB3
  have LBT := LBF
  have DP := DP1
  have HBP := HBP1
  clear hB3 LBF DP1 HBP1
  go_wp2
  have hRd : Rd wF1.drew br L3 e3 := hR3
--G4
  refine wp_region_held_drew (S := fun w' => Upd (fun k => k = br ∨ k = bt) wF1 w') (by kernel_rfl) (Upd.refl _ _).drew (fun hS => ?_)
  refine take_first (i := 0) (some 18) (v := ?_) rfl rfl (by kernel_rfl) (by kernel_rfl) (by kernel_rfl) (fun _ _ _ h => h) (Or.inl ⟨by rfl, ?_⟩) hS ?_
  rotate_left
  · intro w' hSw; have q0 := hSw.cell DP.out NBP.out; go_simp; try with_reducible rfl
  simp only [Act.put, List.setIfInBounds_toArray, List.set_cons_zero, List.set_cons_succ]
  refine take_first (i := 1) (some 19) (v := ?_) rfl rfl (by kernel_rfl) (by kernel_rfl) (by kernel_rfl) (fun _ _ _ h => h) (Or.inl ⟨by rfl, ?_⟩) hS ?_
  rotate_left
  · intro w' hSw; have q0 := hSw.cell DP.out NBP.out; go_simp; try with_reducible rfl
  simp only [Act.put, List.setIfInBounds_toArray, List.set_cons_zero, List.set_cons_succ]
  refine take_first (i := 4) (some 22) (v := ?_) rfl rfl (by kernel_rfl) (by kernel_rfl) (by kernel_rfl) (fun _ _ _ h => h) (Or.inl ⟨by rfl, ?_⟩) hS ?_
  rotate_left
  · intro w' hSw; go_simp; try with_reducible rfl
  simp only [Act.put, List.setIfInBounds_toArray, List.set_cons_zero, List.set_cons_succ]
  refine wpAnyH_ready (rs := [2]) (by kernel_rfl) (by simp) ?_
  refine AllReadyH.cons rfl (fun K hK => ?_) AllReadyH.nil
  refine step_fn (some 20) rfl (by rfl) 41 u16_enters #[.tmp 19] #[74] rfl #[.pointer (some ⟨br, 0, none⟩)] rfl (fun r w' => r = .int .u16 (m : Nat) ∧ Rd w' br L4 e4 ∧ w'.heap[bt]? = some (.cells #[.int .u64 wt, .slice A1 xs.length c1, .slice none 0 0] 26 (0, 0)) ∧ Upd (fun k => k = br ∨ k = bt) wF1 w') ((H4.out br _ hRd).mono fun e w' h => ⟨_, h.1, rfl, h.2.1, h.2.2.heap HBT.out NBT.out, hS.trans h.2.2 (fun _ _ f => .inl f)⟩) (fun r w1 hr => ?_)
  obtain ⟨rfl, hR1, hB1, hS2⟩ := hr
  clear hS
  refine hK.out _ _ hS2 (fun hS => ?_)
  clear hK K
  simp only [Act.put, List.setIfInBounds_toArray, List.set_cons_zero, List.set_cons_succ]
  refine take_first (i := 3) (some 21) (v := ?_) rfl rfl (by kernel_rfl) (by kernel_rfl) (by kernel_rfl) (fun _ _ _ h => h) (Or.inl ⟨by rfl, ?_⟩) hS ?_
  rotate_left
  · intro w' hSw; go_simp; try with_reducible rfl
  simp only [Act.put, List.setIfInBounds_toArray, List.set_cons_zero, List.set_cons_succ]
  refine wpAnyH_ready (rs := [5]) (by kernel_rfl) (by simp) ?_
  refine AllReadyH.cons rfl (fun K hK => ?_) AllReadyH.nil
  have hp1 := hS.heap HBP.out NBP.out
  have hz1 := hS.size
  refine step_fn (some 23) rfl (by rfl) 42 readR_enters #[.tmp 18, .tmp 21, .tmp 22] #[74, 3, 83] rfl #[.pointer (some ⟨br, 0, none⟩), .int .i64 m, .func (.func 43) #[] #[.pointer (some ⟨bp, 0, none⟩)]] rfl (fun r w' => Kd.R k65 65 w' wF1.heap.size (fun _ => True) r ys ∧ Rd w' br L5 e5 ∧ w'.heap[bt]? = some (.cells #[.int .u64 wt, .slice A1 xs.length c1, .slice none 0 0] 26 (0, 0)) ∧ Upd (fun k => k = br ∨ k = bt) wF1 w') ((H5.out bp br w1 hp1 hR1 NPR.out).mono fun e w' h => ⟨h.choose, h.choose_spec.1, Kd.R_lower h.choose_spec.2.1 hz1, h.choose_spec.2.2.1, h.choose_spec.2.2.2.heap hB1 NBT.out, hS.trans h.choose_spec.2.2.2 (fun _ _ f => .inl f)⟩) (fun v w2 hr => ?_)
  obtain ⟨hV, hR2, hB2, hS2⟩ := hr
  clear hS hR1 hB1 hp1 hz1
  refine hK.out _ _ hS2 (fun hS => ?_)
  clear hK K
  obtain ⟨A2, c2, rfl⟩ := Kd.R_slice hV
  simp only [Act.put, List.setIfInBounds_toArray, List.set_cons_zero, List.set_cons_succ]
  refine take_first (i := 6) (some 24) (v := ?_) rfl rfl (by kernel_rfl) (by kernel_rfl) (by kernel_rfl) (fun _ _ _ h => h) (Or.inl ⟨by rfl, ?_⟩) hS ?_
  rotate_left
  · intro w' hSw; go_simp; try with_reducible rfl
  simp only [Act.put, List.setIfInBounds_toArray, List.set_cons_zero, List.set_cons_succ]
  refine wpAnyH_ready (rs := [7]) (by kernel_rfl) (by simp) ?_
  refine AllReadyH.cons rfl (fun K hK => ?_) AllReadyH.nil
  have hB3 := heap_setCell_eq (i := 2) hB2 (.slice A2 ys.length c2)
  refine Rg.step_store rfl (by rfl) 24 (.tmp 24) (.tmp 23) rfl ⟨bt, 2, none⟩ rfl (.slice A2 ys.length c2) rfl (by have q := cell_heap hB2 2 (.slice none 0 0) rfl; have q2 := free_heap hB2 2; go_simp; rfl) (hK.out _ _ (hS.setCell (fun _ => .inr rfl) _) (fun hS5 => ?_))
  clear hK K hS
  have hS := hS5
  clear hS5
  simp only [Act.put, List.setIfInBounds_toArray, List.set_cons_zero, List.set_cons_succ]
  refine wpAnyH_done (by kernel_rfl) ?_ _
  have hR3 : Rd (w2.setCell ⟨bt, 2, none⟩ (.slice A2 ys.length c2)) br L5 e5 := heap_setCell_ne hR2 _ _ (Ne.symm NBT.out)
  have hV3 : Kd.R k65 65 (w2.setCell ⟨bt, 2, none⟩ (.slice A2 ys.length c2)) wF1.heap.size (fun _ => True) (.slice A2 ys.length c2) ys := Kd.R_mono (Kd.R_far (Kd.R_bound hV) (fun k hk => by show k ≠ bt; have := hk.2.1; have := LBT.out; omega) _) (fun _ _ => trivial)
  generalize w2.setCell ⟨bt, 2, none⟩ (.slice A2 ys.length c2) = wF2 at hB3 hS hR3 hV3 ⊢
  clear hB2 hR2 hV
--G4end
  have HAG := Lib.hid (hS.heap HAF.out (by have := LL.out; omega))
  have UG : Hid (Upd (fun _ => False) w wF2) := UF.out.trans hS (fun i hi f => absurd f (by have := LL.out; omega))
  have HV1' : Kd.R k53 53 wF2 wE.heap.size (fun _ => True) (.slice A1 xs.length c1) xs := Kd.R_mono (Kd.R_move (Kd.R_bound HV1.out) (fun k hk => hS.block k hk.2.2.1 (by have := hk.2.1; have := LL.out; have := LBE.out; show ¬ (k = br ∨ k = bt); omega))) (fun _ _ => trivial)
  have HW1 := Lib.hid HV1'
  have HW2 := Lib.hid hV3
  have S1 : Hid (w.heap.size < wE.heap.size) := Lib.hid (by have := LL.out; have := LBE.out; omega)
  have S2 : Hid (w.heap.size < wF1.heap.size) := Lib.hid (by have := S1.out; have := LEF.out; omega)
  have HB := Lib.hid hB3
  have HR5 := Lib.hid hR3
  have DQ := cell_heap (hS.heap HBP.out NBP.out) 0 (.pointer (some ⟨br, 0, none⟩)) rfl
  clear hB3 hS hR3 hV3 HV1' HV1 HBT LBT DP HBP HAF UF LEF LBE UE2
  by_cases h5 : e5 = 0
  · have h5b : (e5 != 0) = false := by simp [h5]
    have hTe := HTT.out
    rw [if_neg (by simp [h5])] at hTe
    by_cases hL : L5 = []
    · subst hL
      subst h5
      obtain ⟨B1, D1, hBD1, hBl1, hBC1⟩ := Kd.R_reads HW1.out
      injection hBD1 with hq1 hq2 hq3
      subst hq1 hq3
      obtain ⟨B2, D2, hBD2, hBl2, hBC2⟩ := Kd.R_reads HW2.out
      injection hBD2 with hq1 hq2 hq3
      subst hq1 hq3
      have hC := check_walk wt A1 c1 xs A2 c2 ys wF2 hBC1 hBC2
      have m0 := cell_heap HB.out 0 (.int .u64 wt) rfl
      have m1 := cell_heap HB.out 1 (.slice A1 xs.length c1) rfl
      have m2 := cell_heap HB.out 2 (.slice A2 ys.length c2) rfl
      obtain ⟨z, hz⟩ : ∃ z, chk (P1 xs) (P2 ys) = z := ⟨_, rfl⟩
      rw [hz] at hC hTe
      have HC := Lib.hid hC
      clear hC hBC1 hBC2
      by_cases hzz : z = 0
      · subst hzz
        rw [if_neg (by simp)] at hTe
        go_wp2_with (fail)
        refine (Reader_Err br [] 0 _ HR5.out).mono ?_
        rintro e wH ⟨rfl, rfl⟩
        go_wp2_with (fail)
        refine (Reader_Rest br [] 0 _ HR5.out).mono ?_
        rintro e wH ⟨rfl, rfl⟩
        go_wp2_with (fail)
        refine HC.out.mono ?_
        rintro e wH ⟨rfl, hu⟩
        have hbH := hu.heap HB.out (fun f => f)
        have m0 := cell_heap hbH 0 (.int .u64 wt) rfl
        have m1 := cell_heap hbH 1 (.slice A1 xs.length c1) rfl
        have m2 := cell_heap hbH 2 (.slice A2 ys.length c2) rfl
        have hAH := hu.heap HAG.out (fun f => f)
        have g0 := cell_heap hAH 0 (.int .u64 0) rfl
        have g1 := cell_heap hAH 1 (.slice none 0 0) rfl
        have g2 := cell_heap hAH 2 (.slice none 0 0) rfl
        have k0 := free_heap hAH 0
        have k1 := free_heap hAH 1
        have k2 := free_heap hAH 2
        have HAH := Lib.hid hAH
        have HUH := Lib.hid hu
        clear hbH hAH hu
        go_wp2
        have z := set3T HAH.out (.int .u64 wt) (.slice A1 xs.length c1) (.slice A2 ys.length c2)
        have z0 := cell_heap z 0 _ rfl
        have z1 := cell_heap z 1 _ rfl
        have z2 := cell_heap z 2 _ rfl
        refine bodyPost_ret (v := .tuple #[.agg #[.int .u64 wt, .slice A1 xs.length c1, .slice A2 ys.length c2], .int .i64 0]) ?_ rfl ?_
        · simp [results, Try.results17, go_sem, z0, z1, z2]
        · rw [hTe]
          exact ⟨_, _, rfl, Kd.R_lower (R_set3 (R_none HW1.out HUH.out) S1.out _ _ _) (Nat.le_of_lt S1.out), Kd.R_lower (R_set3 (R_none HW2.out HUH.out) S2.out _ _ _) (Nat.le_of_lt S2.out), upd3T (UG.out.trans HUH.out (fun _ _ f => f)) (Nat.lt_irrefl _) _ _ _⟩
      · have hzb : (z != 0) = true := by simp [hzz]
        rw [if_pos (.inr hzz)] at hTe
        go_wp2_with (fail)
        refine (Reader_Err br [] 0 _ HR5.out).mono ?_
        rintro e wH ⟨rfl, rfl⟩
        go_wp2_with (fail)
        refine (Reader_Rest br [] 0 _ HR5.out).mono ?_
        rintro e wH ⟨rfl, rfl⟩
        go_wp2_with (fail)
        refine HC.out.mono ?_
        rintro e wH ⟨rfl, hu⟩
        have hAH := hu.heap HAG.out (fun f => f)
        have g0 := cell_heap hAH 0 (.int .u64 0) rfl
        have g1 := cell_heap hAH 1 (.slice none 0 0) rfl
        have g2 := cell_heap hAH 2 (.slice none 0 0) rfl
        have k0 := free_heap hAH 0
        have k1 := free_heap hAH 1
        have k2 := free_heap hAH 2
        have HAH := Lib.hid hAH
        have HUH := Lib.hid hu
        clear hAH hu
        go_wp2
        have z := set3T HAH.out (.int .u64 0) (.slice none 0 0) (.slice none 0 0)
        have z0 := cell_heap z 0 _ rfl
        have z1 := cell_heap z 1 _ rfl
        have z2 := cell_heap z 2 _ rfl
        refine bodyPost_ret (v := .tuple #[.agg #[.int .u64 0, .slice none 0 0, .slice none 0 0], .int .i64 4]) ?_ rfl ?_
        · simp [results, Try.results17, go_sem, z0, z1, z2]
        · rw [hTe]
          exact ⟨.slice none 0 0, .slice none 0 0, rfl, Kd.R_nil _ _ _ _ _, Kd.R_nil _ _ _ _ _, upd3T (UG.out.trans HUH.out (fun _ _ f => f)) (Nat.lt_irrefl _) _ _ _⟩
    · have hl2 : (⟨L5.toArray⟩ : ByteArray).toList.isEmpty = false := by
        rw [Lib.toList_data]
        cases L5 with
        | nil => exact absurd rfl hL
        | cons _ _ => rfl
      rw [if_pos (.inl hL)] at hTe
      have g0 := cell_heap HAG.out 0 (.int .u64 0) rfl
      have g1 := cell_heap HAG.out 1 (.slice none 0 0) rfl
      have g2 := cell_heap HAG.out 2 (.slice none 0 0) rfl
      have k0 := free_heap HAG.out 0
      have k1 := free_heap HAG.out 1
      have k2 := free_heap HAG.out 2
      go_wp2_with (fail)
      refine (Reader_Err br L5 e5 _ HR5.out).mono ?_
      rintro e wH ⟨rfl, rfl⟩
      go_wp2_with (fail)
      refine (Reader_Rest br L5 e5 _ HR5.out).mono ?_
      rintro e wH ⟨rfl, rfl⟩
      go_wp2
      have z := set3T HAG.out (.int .u64 0) (.slice none 0 0) (.slice none 0 0)
      have z0 := cell_heap z 0 _ rfl
      have z1 := cell_heap z 1 _ rfl
      have z2 := cell_heap z 2 _ rfl
      refine bodyPost_ret (v := .tuple #[.agg #[.int .u64 0, .slice none 0 0, .slice none 0 0], .int .i64 4]) ?_ rfl ?_
      · simp [results, Try.results17, go_sem, z0, z1, z2]
      · rw [hTe]
        exact ⟨.slice none 0 0, .slice none 0 0, rfl, Kd.R_nil _ _ _ _ _, Kd.R_nil _ _ _ _ _, upd3T UG.out (Nat.lt_irrefl _) _ _ _⟩
  · have h5b : (e5 != 0) = true := by simp [h5]
    have hTe := HTT.out
    rw [if_pos h5] at hTe
    have g0 := cell_heap HAG.out 0 (.int .u64 0) rfl
    have g1 := cell_heap HAG.out 1 (.slice none 0 0) rfl
    have g2 := cell_heap HAG.out 2 (.slice none 0 0) rfl
    have k0 := free_heap HAG.out 0
    have k1 := free_heap HAG.out 1
    have k2 := free_heap HAG.out 2
    go_wp2_with (fail)
    refine (Reader_Err br L5 e5 _ HR5.out).mono ?_
    rintro e wH ⟨rfl, rfl⟩
    go_wp2
    have z := set3T HAG.out (.int .u64 0) (.slice none 0 0) (.slice none 0 0)
    have z0 := cell_heap z 0 _ rfl
    have z1 := cell_heap z 1 _ rfl
    have z2 := cell_heap z 2 _ rfl
    refine bodyPost_ret (v := .tuple #[.agg #[.int .u64 0, .slice none 0 0, .slice none 0 0], .int .i64 10]) ?_ rfl ?_
    · simp [results, Try.results17, go_sem, z0, z1, z2]
    · rw [hTe]
      exact ⟨.slice none 0 0, .slice none 0 0, rfl, Kd.R_nil _ _ _ _ _, Kd.R_nil _ _ _ _ _, upd3T UG.out (Nat.lt_irrefl _) _ _ _⟩

def table_Take.f (a0 : ByteArray) : Option (Int × List S53 × List S65 × Int) :=
  if a0.size ≤ 1000000 then some ((tkP a0.data.toList).1.1, (tkP a0.data.toList).1.2.1, (tkP a0.data.toList).1.2.2, (tkP a0.data.toList).2) else none
theorem table_Take.calls (a0 : ByteArray) (r1 : Int) (r2 : List S53) (r3 : List S65) (r4 : Int) (w : World) (h : table_Take.f a0 = some (r1, r2, r3, r4)) :
    Calls Try.prog 17 #[.string a0] w fun e w' => ∃ v1_ v2_ : Value, e = .returned (.tuple #[.agg #[.int .u64 r1, v1_, v2_], .int .i64 r4]) ∧ Kd.R k53 53 w' w.heap.size (fun _ => True) v1_ r2 ∧ Kd.R k65 65 w' w.heap.size (fun _ => True) v2_ r3 ∧ Below w.heap.size w w' := by
  unfold table_Take.f at h
  split at h
  · rename_i hc
    simp only [Option.some.injEq, Prod.mk.injEq] at h
    obtain ⟨rfl, rfl, rfl, rfl⟩ := h
    have := take_walk a0.data.toList w (by rw [← Lib.size_eq]; exact hc)
    exact this.mono fun e w' ⟨v1, v2, he, k1, k2, hu⟩ => ⟨v1, v2, he, k1, k2, hu.below (Nat.le_refl _) (fun _ f => f.elim)⟩
  · cases h

end Go.Proofs.Ytlhjhkmmgkfmpaa.Px
