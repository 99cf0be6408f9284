-- PRINTED by print.py (a twelfth state) out of the translation. Not trusted: Lean checks it.
import Derived.Test.YtnoimnijoklkdaaPx0
import Derived.Test.YtnoimnijoklkdaaNxChk
namespace Go.Proofs.Ytnoimnijoklkdaa.Px
open Go.RowKit Go.Proofs.YtnoimnijoklkdaaW.PrintWords Go.Proofs.YtnoimnijoklkdaaW.PrintLast Go.Proofs.YtnoimnijoklkdaaW.PrintMore
attribute [local go_sem] max2_int min2_int max_two min_two max_three min_three max_four min_four px_leq px_gtr px_geq   -- for this text's walks alone
set_option linter.unusedVariables false
set_option linter.unusedSimpArgs false

/-! ### node_Span: function 18 -/
def node_Span.j0 : Nat → Int → ByteArray → ByteArray → Bool → Bool → List (S75) → List ByteArray → List Int → List (S59) → Option (ByteArray × ByteArray)
  | 0, _, _, _, _, _, _, _, _, _ => none
  | k + 1, x1, x2, x3, x27, x507000, x507001, x507002, x507003, x507004 => if x27 = true then (some ((⟨#[]⟩ : ByteArray), (⟨#[]⟩ : ByteArray))) else (if x1 > 0 then (if 0 ≤ (wrap64 (x1 - 1)) then (if (wrap64 (x1 - 1)) < (x507002.length : Int) then (if x1 < (x507002.length : Int) then (if 0 ≤ x1 then (some (rdOf ByteArray.empty x507002 (wrap64 (x1 - 1)), rdOf ByteArray.empty x507002 x1)) else (none)) else (some (rdOf ByteArray.empty x507002 (wrap64 (x1 - 1)), x3))) else (none)) else (none)) else (if x1 < (x507002.length : Int) then (if 0 ≤ x1 then (some (x2, rdOf ByteArray.empty x507002 x1)) else (none)) else (some (x2, x3))))
def node_Span.f (k : Nat) (a0_0 : Bool) (l0_1 : List (S75)) (l0_2 : List ByteArray) (l0_3 : List Int) (l0_4 : List (S59)) (a1 : Int) (a2 : ByteArray) (a3 : ByteArray) : Option (ByteArray × ByteArray) := if a0_0 = true then (node_Span.j0 k a1 a2 a3 true a0_0 l0_1 l0_2 l0_3 l0_4) else ((node_Check.f a0_0 l0_1 l0_2 l0_3 l0_4).bind fun t507 => (if t507 = 0 then (if a1 < 0 then (node_Span.j0 k a1 a2 a3 true a0_0 l0_1 l0_2 l0_3 l0_4) else (node_Span.j0 k a1 a2 a3 (decide (a1 ≥ (l0_3.length : Int))) a0_0 l0_1 l0_2 l0_3 l0_4)) else (node_Span.j0 k a1 a2 a3 true a0_0 l0_1 l0_2 l0_3 l0_4)))
theorem node_Span.mono_l : ∀ k, (∀ y0 y1 y2 y3 y4 y5 y6 y7 y8, LeO (node_Span.j0 k y0 y1 y2 y3 y4 y5 y6 y7 y8) (node_Span.j0 (k + 1) y0 y1 y2 y3 y4 y5 y6 y7 y8))
  | 0 => fun _ _ _ _ _ _ _ _ _ r h => by simp [node_Span.j0] at h
  | k + 1 => by
    have ih0 := node_Span.mono_l k
    · intro y0 y1 y2 y3 y4 y5 y6 y7 y8
      unfold node_Span.j0
      repeat' first
      | (with_reducible exact ih0 _ _ _ _ _ _ _ _ _)
      | (with_reducible exact LeO.refl _)
      | (with_reducible exact LeO.none _)
      | (with_reducible refine LeO.ite ?_ ?_)
      | (with_reducible refine LeO.bind ?_ (fun _ => ?_))
      | exact ih0 _ _ _ _ _ _ _ _ _
      | exact LeO.none _
      | refine LeO.ite ?_ ?_
      | refine LeO.bind ?_ (fun _ => ?_)
theorem node_Span.mono : ∀ a0 a1 a2 a3 a4 a5 a6 a7 k, LeO (node_Span.f k a0 a1 a2 a3 a4 a5 a6 a7) (node_Span.f (k + 1) a0 a1 a2 a3 a4 a5 a6 a7) := by
  intro a0 a1 a2 a3 a4 a5 a6 a7 k
  have ih0 := node_Span.mono_l k
  unfold node_Span.f
  repeat' first
      | (with_reducible exact ih0 _ _ _ _ _ _ _ _ _)
      | (with_reducible exact LeO.refl _)
      | (with_reducible exact LeO.none _)
      | (with_reducible refine LeO.ite ?_ ?_)
      | (with_reducible refine LeO.bind ?_ (fun _ => ?_))
      | exact ih0 _ _ _ _ _ _ _ _ _
      | exact LeO.none _
      | refine LeO.ite ?_ ?_
      | refine LeO.bind ?_ (fun _ => ?_)
set_option maxHeartbeats 8000000 in
set_option maxRecDepth 100000 in
theorem node_Span.calls (k : Nat) (a0_0 : Bool) (A0_1 : Option Addr) (c0_1 : Nat) (l0_1 : List (S75)) (A0_2 : Option Addr) (c0_2 : Nat) (l0_2 : List ByteArray) (A0_3 : Option Addr) (c0_3 : Nat) (l0_3 : List Int) (A0_4 : Option Addr) (c0_4 : Nat) (l0_4 : List (S59)) (a1 : Int) (a2 : ByteArray) (a3 : ByteArray) (r1 : ByteArray) (r2 : ByteArray) (w : World) (hr0_1 : Kd.C k75 w A0_1 l0_1.length l0_1) (hc0_1 : l0_1.length ≤ c0_1) (hr0_2 : Kd.C Kd.string w A0_2 l0_2.length l0_2) (hc0_2 : l0_2.length ≤ c0_2) (hr0_3 : Kd.C (Kd.int .i64) w A0_3 l0_3.length l0_3) (hc0_3 : l0_3.length ≤ c0_3) (hr0_4 : Kd.C k59 w A0_4 l0_4.length l0_4) (hc0_4 : l0_4.length ≤ c0_4) (h : node_Span.f k a0_0 l0_1 l0_2 l0_3 l0_4 a1 a2 a3 = some (r1, r2)) :
    Calls Try.prog 18 #[.agg #[.bool a0_0, .slice A0_1 l0_1.length c0_1, .slice A0_2 l0_2.length c0_2, .slice A0_3 l0_3.length c0_3, .slice A0_4 l0_4.length c0_4], .int .i64 a1, .string a2, .string a3] w fun e w' => e = .returned (.tuple #[.string r1, .string r2]) ∧ Below w.heap.size w w' := by
  have hu28 := Try.underlying28
  have HR0_1 := Aside0.mk hr0_1
  have HC0_1 := Aside0.mk hc0_1
  clear hr0_1 hc0_1
  have HR0_2 := Aside0.mk hr0_2
  have HC0_2 := Aside0.mk hc0_2
  clear hr0_2 hc0_2
  have HR0_3 := Aside0.mk hr0_3
  have HC0_3 := Aside0.mk hc0_3
  clear hr0_3 hc0_3
  have HR0_4 := Aside0.mk hr0_4
  have HC0_4 := Aside0.mk hc0_4
  clear hr0_4 hc0_4
  have HB := Aside0.mk (Below.refl w.heap.size w)
  have H : (if a0_0 = true then (node_Span.j0 k a1 a2 a3 true a0_0 l0_1 l0_2 l0_3 l0_4) else ((node_Check.f a0_0 l0_1 l0_2 l0_3 l0_4).bind fun t507 => (if t507 = 0 then (if a1 < 0 then (node_Span.j0 k a1 a2 a3 true a0_0 l0_1 l0_2 l0_3 l0_4) else (node_Span.j0 k a1 a2 a3 (decide (a1 ≥ (l0_3.length : Int))) a0_0 l0_1 l0_2 l0_3 l0_4)) else (node_Span.j0 k a1 a2 a3 true a0_0 l0_1 l0_2 l0_3 l0_4)))) = some (r1, r2) := h
  clear h
  have HC5 := Aside0.mk H
  clear H
  go_enter Try.func18, Try.ntmps18
  go_upto_region 1 with (first | ((with_reducible refine gate_dst (N := 4) rfl ?_); (try (refine gate_guard (by rfl) ?_; dsimp only)); refine box_event ?hg (N := 4) ?hd (cs := #[.bool a0_0, .slice A0_1 l0_1.length c0_1, .slice A0_2 l0_2.length c0_2, .slice A0_3 l0_3.length c0_3, .slice A0_4 l0_4.length c0_4]) (t := 28) ?hr ?_; (case hd => rfl); (case hg => rfl); (case hr => first | (go_simp; done) | (go_simp; rfl)); intro gb506 hg w6 hbox hb; have n0_ := Aside0.mk (below_step (by repeat (first | (with_reducible first | exact HB.out | apply below_alloc | apply pw_below_drewN | apply below_drew1) | exact HB.out)) hb); have n1_ := Aside0.mk (hbox); have n2_ := Aside0.mk ((by rw [hg]; exact (below_size (by repeat (first | (with_reducible first | exact HB.out | apply below_alloc | apply pw_below_drewN | apply below_drew1) | exact HB.out))) : w.heap.size ≤ gb506)); have n3_ := Aside0.mk ((by rw [hg]; exact (below_size (by repeat (first | (with_reducible first | exact HB.out | apply below_alloc | apply pw_below_drewN | apply below_drew1) | exact HB.out))) : w.heap.size ≤ gb506)); clear HB; have HB := n0_; have BK506 := n1_; have GW506 := n2_; have GE506 := n3_; clear n0_ n1_ n2_ n3_; clear hb hbox hg))
  (try simp only [Act.put, List.setIfInBounds_toArray, List.set_cons_zero, List.set_cons_succ])
  go_cut [27] (fun v27 wc => ∃ (kq : Nat) (x27_4 : Bool), v27 = .bool x27_4 ∧ Aside0 (node_Span.j0 kq a1 a2 a3 x27_4 a0_0 l0_1 l0_2 l0_3 l0_4 = some (r1, r2)) ∧ Aside0 (kq ≤ k) ∧ Aside0 (wc.heap[gb506]? = some (.cells #[.bool a0_0, (.slice A0_1 l0_1.length c0_1), (.slice A0_2 l0_2.length c0_2), (.slice A0_3 l0_3.length c0_3), (.slice A0_4 l0_4.length c0_4)] 28 (0, 0))) ∧ Aside0 (Below w.heap.size w wc))
  case first =>
    have H := HC5.out
    clear HC5
    by_cases c7 : a0_0 = true
    · subst c7
      have H1 : (node_Span.j0 k a1 a2 a3 true true l0_1 l0_2 l0_3 l0_4) = some (r1, r2) := by rw [if_pos rfl] at H; exact H
      clear H
      have H := H1
      clear H1
      have H' := Aside0.mk H
      clear H
      have hcz8_0 : w6.cell? ⟨gb506, 0, none⟩ = some (.bool true) := (blk_cell BK506.out 0).trans rfl
      have hcz8_1 : w6.cell? ⟨gb506, 1, none⟩ = some (.slice A0_1 l0_1.length c0_1) := (blk_cell BK506.out 1).trans rfl
      have hcz8_2 : w6.cell? ⟨gb506, 2, none⟩ = some (.slice A0_2 l0_2.length c0_2) := (blk_cell BK506.out 2).trans rfl
      have hcz8_3 : w6.cell? ⟨gb506, 3, none⟩ = some (.slice A0_3 l0_3.length c0_3) := (blk_cell BK506.out 3).trans rfl
      have hcz8_4 : w6.cell? ⟨gb506, 4, none⟩ = some (.slice A0_4 l0_4.length c0_4) := (blk_cell BK506.out 4).trans rfl
      have hfz8_0 := blk_frozen BK506.out 0
      have hfz8_1 := blk_frozen BK506.out 1
      have hfz8_2 := blk_frozen BK506.out 2
      have hfz8_3 := blk_frozen BK506.out 3
      have hfz8_4 := blk_frozen BK506.out 4
      go_wp2
      go_meet
      case rel => exact ⟨_, (true), (by first | rfl | (simp; done) | (simp [*]; done)), H', ⟨by first | omega | exact Nat.le_refl _⟩, ⟨by (with_reducible repeat (first | refine blk_drewN ?_ _ | refine blk_drew ?_ | refine blk_alloc ?_ _)); exact BK506.out⟩, ⟨by repeat (first | (with_reducible first | exact HB.out | apply below_alloc | apply pw_below_drewN | apply below_drew1 | refine below_set ?_ GE506.out) | exact HB.out)⟩⟩
    · replace c7 := Bool.eq_false_iff.mpr c7
      subst c7
      have H1 : ((node_Check.f false l0_1 l0_2 l0_3 l0_4).bind fun t507 => (if t507 = 0 then (if a1 < 0 then (node_Span.j0 k a1 a2 a3 true false l0_1 l0_2 l0_3 l0_4) else (node_Span.j0 k a1 a2 a3 (decide (a1 ≥ (l0_3.length : Int))) false l0_1 l0_2 l0_3 l0_4)) else (node_Span.j0 k a1 a2 a3 true false l0_1 l0_2 l0_3 l0_4))) = some (r1, r2) := by rw [if_neg (show ¬ (false = true) by decide)] at H; exact H
      clear H
      have H := H1
      clear H1
      replace H := Option.bind_eq_some_iff.mp H
      obtain ⟨t507, A90, H⟩ := H
      replace H : (if t507 = 0 then (if a1 < 0 then (node_Span.j0 k a1 a2 a3 true false l0_1 l0_2 l0_3 l0_4) else (node_Span.j0 k a1 a2 a3 (decide (a1 ≥ (l0_3.length : Int))) false l0_1 l0_2 l0_3 l0_4)) else (node_Span.j0 k a1 a2 a3 true false l0_1 l0_2 l0_3 l0_4)) = some (r1, r2) := H
      have A9 := Aside0.mk A90
      clear A90
      by_cases c10 : t507 = 0
      · rw [if_pos c10] at H
        have c10b0 : (t507 == 0) = true := beq_iff_eq.mpr c10
        have c10b1 : (t507 != 0) = false := bne_eq_false_iff_eq.mpr c10
        clear c10
        (first | rw [c10b0] | (simp only [i64_w, i32_w]; rw [c10b0]) | skip)
        by_cases c11 : a1 < 0
        · rw [if_pos c11] at H
          have c11b0 : decide (a1 < 0) = true := decide_eq_true c11
          clear c11
          have H' := Aside0.mk H
          clear H
          have hcz12_0 : w6.cell? ⟨gb506, 0, none⟩ = some (.bool false) := (blk_cell BK506.out 0).trans rfl
          have hcz12_1 : w6.cell? ⟨gb506, 1, none⟩ = some (.slice A0_1 l0_1.length c0_1) := (blk_cell BK506.out 1).trans rfl
          have hcz12_2 : w6.cell? ⟨gb506, 2, none⟩ = some (.slice A0_2 l0_2.length c0_2) := (blk_cell BK506.out 2).trans rfl
          have hcz12_3 : w6.cell? ⟨gb506, 3, none⟩ = some (.slice A0_3 l0_3.length c0_3) := (blk_cell BK506.out 3).trans rfl
          have hcz12_4 : w6.cell? ⟨gb506, 4, none⟩ = some (.slice A0_4 l0_4.length c0_4) := (blk_cell BK506.out 4).trans rfl
          have hfz12_0 := blk_frozen BK506.out 0
          have hfz12_1 := blk_frozen BK506.out 1
          have hfz12_2 := blk_frozen BK506.out 2
          have hfz12_3 := blk_frozen BK506.out 3
          have hfz12_4 := blk_frozen BK506.out 4
          go_wp2_with (first | (go_at_call 22; (with_reducible refine (node_Check.calls false _ _ l0_1 _ _ l0_2 _ _ l0_3 _ _ l0_4 t507 _ ?side1 ?side2 ?side3 ?side4 ?side5 ?side6 ?side7 ?side8 A9.out).mono ?_); (case side1 => repeat (first | exact (Kd.C_below HR0_1.out HB.out) | (with_reducible refine Kd.C_alloc ?_ _) | (with_reducible refine Kd.C_drewN ?_ _) | (with_reducible refine Kd.C_drew ?_))); (case side2 => exact HC0_1.out); (case side3 => repeat (first | exact (Kd.C_below HR0_2.out HB.out) | (with_reducible refine Kd.C_alloc ?_ _) | (with_reducible refine Kd.C_drewN ?_ _) | (with_reducible refine Kd.C_drew ?_))); (case side4 => exact HC0_2.out); (case side5 => repeat (first | exact (Kd.C_below HR0_3.out HB.out) | (with_reducible refine Kd.C_alloc ?_ _) | (with_reducible refine Kd.C_drewN ?_ _) | (with_reducible refine Kd.C_drew ?_))); (case side6 => exact HC0_3.out); (case side7 => repeat (first | exact (Kd.C_below HR0_4.out HB.out) | (with_reducible refine Kd.C_alloc ?_ _) | (with_reducible refine Kd.C_drewN ?_ _) | (with_reducible refine Kd.C_drew ?_))); (case side8 => exact HC0_4.out); rintro e w13 ⟨rfl, hb⟩; have n0_ := Aside0.mk (blk_below (g := gb506) (o := .cells #[.bool false, .slice A0_1 l0_1.length c0_1, .slice A0_2 l0_2.length c0_2, .slice A0_3 l0_3.length c0_3, .slice A0_4 l0_4.length c0_4] 28 (0, 0)) (by (with_reducible repeat (first | refine blk_drewN ?_ _ | refine blk_drew ?_ | refine blk_alloc ?_ _)); exact BK506.out) hb); have n1_ := Aside0.mk (below_step (by repeat (first | (with_reducible first | exact HB.out | apply below_alloc | apply pw_below_drewN | apply below_drew1 | refine below_set ?_ GE506.out) | exact HB.out)) hb); clear BK506; clear HB; have BK506 := n0_; have HB := n1_; clear n0_ n1_; (try clear hb); (try clear hb2); (try clear hk); (try clear hi)))
          go_meet
          case rel => exact ⟨_, (true), (by first | rfl | (simp; done) | (simp [*]; done)), H', ⟨by first | omega | exact Nat.le_refl _⟩, ⟨by (with_reducible repeat (first | refine blk_drewN ?_ _ | refine blk_drew ?_ | refine blk_alloc ?_ _)); exact BK506.out⟩, ⟨by repeat (first | (with_reducible first | exact HB.out | apply below_alloc | apply pw_below_drewN | apply below_drew1 | refine below_set ?_ GE506.out) | exact HB.out)⟩⟩
        · rw [if_neg c11] at H
          have c11b0 : decide (a1 < 0) = false := decide_eq_false c11
          clear c11
          have H' := Aside0.mk H
          clear H
          have hcz14_0 : w6.cell? ⟨gb506, 0, none⟩ = some (.bool false) := (blk_cell BK506.out 0).trans rfl
          have hcz14_1 : w6.cell? ⟨gb506, 1, none⟩ = some (.slice A0_1 l0_1.length c0_1) := (blk_cell BK506.out 1).trans rfl
          have hcz14_2 : w6.cell? ⟨gb506, 2, none⟩ = some (.slice A0_2 l0_2.length c0_2) := (blk_cell BK506.out 2).trans rfl
          have hcz14_3 : w6.cell? ⟨gb506, 3, none⟩ = some (.slice A0_3 l0_3.length c0_3) := (blk_cell BK506.out 3).trans rfl
          have hcz14_4 : w6.cell? ⟨gb506, 4, none⟩ = some (.slice A0_4 l0_4.length c0_4) := (blk_cell BK506.out 4).trans rfl
          have hfz14_0 := blk_frozen BK506.out 0
          have hfz14_1 := blk_frozen BK506.out 1
          have hfz14_2 := blk_frozen BK506.out 2
          have hfz14_3 := blk_frozen BK506.out 3
          have hfz14_4 := blk_frozen BK506.out 4
          go_wp2_with (first | (go_at_call 22; (with_reducible refine (node_Check.calls false _ _ l0_1 _ _ l0_2 _ _ l0_3 _ _ l0_4 t507 _ ?side1 ?side2 ?side3 ?side4 ?side5 ?side6 ?side7 ?side8 A9.out).mono ?_); (case side1 => repeat (first | exact (Kd.C_below HR0_1.out HB.out) | (with_reducible refine Kd.C_alloc ?_ _) | (with_reducible refine Kd.C_drewN ?_ _) | (with_reducible refine Kd.C_drew ?_))); (case side2 => exact HC0_1.out); (case side3 => repeat (first | exact (Kd.C_below HR0_2.out HB.out) | (with_reducible refine Kd.C_alloc ?_ _) | (with_reducible refine Kd.C_drewN ?_ _) | (with_reducible refine Kd.C_drew ?_))); (case side4 => exact HC0_2.out); (case side5 => repeat (first | exact (Kd.C_below HR0_3.out HB.out) | (with_reducible refine Kd.C_alloc ?_ _) | (with_reducible refine Kd.C_drewN ?_ _) | (with_reducible refine Kd.C_drew ?_))); (case side6 => exact HC0_3.out); (case side7 => repeat (first | exact (Kd.C_below HR0_4.out HB.out) | (with_reducible refine Kd.C_alloc ?_ _) | (with_reducible refine Kd.C_drewN ?_ _) | (with_reducible refine Kd.C_drew ?_))); (case side8 => exact HC0_4.out); rintro e w15 ⟨rfl, hb⟩; have n0_ := Aside0.mk (blk_below (g := gb506) (o := .cells #[.bool false, .slice A0_1 l0_1.length c0_1, .slice A0_2 l0_2.length c0_2, .slice A0_3 l0_3.length c0_3, .slice A0_4 l0_4.length c0_4] 28 (0, 0)) (by (with_reducible repeat (first | refine blk_drewN ?_ _ | refine blk_drew ?_ | refine blk_alloc ?_ _)); exact BK506.out) hb); have n1_ := Aside0.mk (below_step (by repeat (first | (with_reducible first | exact HB.out | apply below_alloc | apply pw_below_drewN | apply below_drew1 | refine below_set ?_ GE506.out) | exact HB.out)) hb); clear BK506; clear HB; have BK506 := n0_; have HB := n1_; clear n0_ n1_; (try clear hb); (try clear hb2); (try clear hk); (try clear hi); have hcz16_0 : w15.cell? ⟨gb506, 0, none⟩ = some (.bool false) := (blk_cell BK506.out 0).trans rfl; have hcz16_1 : w15.cell? ⟨gb506, 1, none⟩ = some (.slice A0_1 l0_1.length c0_1) := (blk_cell BK506.out 1).trans rfl; have hcz16_2 : w15.cell? ⟨gb506, 2, none⟩ = some (.slice A0_2 l0_2.length c0_2) := (blk_cell BK506.out 2).trans rfl; have hcz16_3 : w15.cell? ⟨gb506, 3, none⟩ = some (.slice A0_3 l0_3.length c0_3) := (blk_cell BK506.out 3).trans rfl; have hcz16_4 : w15.cell? ⟨gb506, 4, none⟩ = some (.slice A0_4 l0_4.length c0_4) := (blk_cell BK506.out 4).trans rfl; have hfz16_0 := blk_frozen BK506.out 0; have hfz16_1 := blk_frozen BK506.out 1; have hfz16_2 := blk_frozen BK506.out 2; have hfz16_3 := blk_frozen BK506.out 3; have hfz16_4 := blk_frozen BK506.out 4))
          go_meet
          case rel => exact ⟨_, (decide (a1 ≥ (l0_3.length : Int))), (by first | rfl | (simp; done) | (simp [*]; done)), H', ⟨by first | omega | exact Nat.le_refl _⟩, ⟨by (with_reducible repeat (first | refine blk_drewN ?_ _ | refine blk_drew ?_ | refine blk_alloc ?_ _)); exact BK506.out⟩, ⟨by repeat (first | (with_reducible first | exact HB.out | apply below_alloc | apply pw_below_drewN | apply below_drew1 | refine below_set ?_ GE506.out) | exact HB.out)⟩⟩
      · rw [if_neg c10] at H
        have c10b0 : (t507 == 0) = false := beq_eq_false_iff_ne.mpr c10
        have c10b1 : (t507 != 0) = true := bne_iff_ne.mpr c10
        (first | rw [c10b0] | (simp only [i64_w, i32_w]; rw [c10b0]) | skip)
        have H' := Aside0.mk H
        clear H
        have hcz17_0 : w6.cell? ⟨gb506, 0, none⟩ = some (.bool false) := (blk_cell BK506.out 0).trans rfl
        have hcz17_1 : w6.cell? ⟨gb506, 1, none⟩ = some (.slice A0_1 l0_1.length c0_1) := (blk_cell BK506.out 1).trans rfl
        have hcz17_2 : w6.cell? ⟨gb506, 2, none⟩ = some (.slice A0_2 l0_2.length c0_2) := (blk_cell BK506.out 2).trans rfl
        have hcz17_3 : w6.cell? ⟨gb506, 3, none⟩ = some (.slice A0_3 l0_3.length c0_3) := (blk_cell BK506.out 3).trans rfl
        have hcz17_4 : w6.cell? ⟨gb506, 4, none⟩ = some (.slice A0_4 l0_4.length c0_4) := (blk_cell BK506.out 4).trans rfl
        have hfz17_0 := blk_frozen BK506.out 0
        have hfz17_1 := blk_frozen BK506.out 1
        have hfz17_2 := blk_frozen BK506.out 2
        have hfz17_3 := blk_frozen BK506.out 3
        have hfz17_4 := blk_frozen BK506.out 4
        go_wp2_with (first | (go_at_call 22; (with_reducible refine (node_Check.calls false _ _ l0_1 _ _ l0_2 _ _ l0_3 _ _ l0_4 t507 _ ?side1 ?side2 ?side3 ?side4 ?side5 ?side6 ?side7 ?side8 A9.out).mono ?_); (case side1 => repeat (first | exact (Kd.C_below HR0_1.out HB.out) | (with_reducible refine Kd.C_alloc ?_ _) | (with_reducible refine Kd.C_drewN ?_ _) | (with_reducible refine Kd.C_drew ?_))); (case side2 => exact HC0_1.out); (case side3 => repeat (first | exact (Kd.C_below HR0_2.out HB.out) | (with_reducible refine Kd.C_alloc ?_ _) | (with_reducible refine Kd.C_drewN ?_ _) | (with_reducible refine Kd.C_drew ?_))); (case side4 => exact HC0_2.out); (case side5 => repeat (first | exact (Kd.C_below HR0_3.out HB.out) | (with_reducible refine Kd.C_alloc ?_ _) | (with_reducible refine Kd.C_drewN ?_ _) | (with_reducible refine Kd.C_drew ?_))); (case side6 => exact HC0_3.out); (case side7 => repeat (first | exact (Kd.C_below HR0_4.out HB.out) | (with_reducible refine Kd.C_alloc ?_ _) | (with_reducible refine Kd.C_drewN ?_ _) | (with_reducible refine Kd.C_drew ?_))); (case side8 => exact HC0_4.out); rintro e w18 ⟨rfl, hb⟩; have n0_ := Aside0.mk (blk_below (g := gb506) (o := .cells #[.bool false, .slice A0_1 l0_1.length c0_1, .slice A0_2 l0_2.length c0_2, .slice A0_3 l0_3.length c0_3, .slice A0_4 l0_4.length c0_4] 28 (0, 0)) (by (with_reducible repeat (first | refine blk_drewN ?_ _ | refine blk_drew ?_ | refine blk_alloc ?_ _)); exact BK506.out) hb); have n1_ := Aside0.mk (below_step (by repeat (first | (with_reducible first | exact HB.out | apply below_alloc | apply pw_below_drewN | apply below_drew1 | refine below_set ?_ GE506.out) | exact HB.out)) hb); clear BK506; clear HB; have BK506 := n0_; have HB := n1_; clear n0_ n1_; (try clear hb); (try clear hb2); (try clear hk); (try clear hi)))
        go_meet
        case rel => exact ⟨_, (true), (by first | rfl | (simp; done) | (simp [*]; done)), H', ⟨by first | omega | exact Nat.le_refl _⟩, ⟨by (with_reducible repeat (first | refine blk_drewN ?_ _ | refine blk_drew ?_ | refine blk_alloc ?_ _)); exact BK506.out⟩, ⟨by repeat (first | (with_reducible first | exact HB.out | apply below_alloc | apply pw_below_drewN | apply below_drew1 | refine below_set ?_ GE506.out) | exact HB.out)⟩⟩
  case rest =>
    clear HC5
    try clear c1
    try clear p2
    try clear c7
    try clear c10
    try clear c10b0
    try clear c10b1
    try clear c11
    try clear c11b0
    try clear c18
    try clear hcz12_0
    try clear hcz12_1
    try clear hcz12_2
    try clear hcz12_3
    try clear hcz12_4
    try clear hcz14_0
    try clear hcz14_1
    try clear hcz14_2
    try clear hcz14_3
    try clear hcz14_4
    try clear hcz16_0
    try clear hcz16_1
    try clear hcz16_2
    try clear hcz16_3
    try clear hcz16_4
    try clear hcz17_0
    try clear hcz17_1
    try clear hcz17_2
    try clear hcz17_3
    try clear hcz17_4
    try clear hcz8_0
    try clear hcz8_1
    try clear hcz8_2
    try clear hcz8_3
    try clear hcz8_4
    try clear hfz12_0
    try clear hfz12_1
    try clear hfz12_2
    try clear hfz12_3
    try clear hfz12_4
    try clear hfz14_0
    try clear hfz14_1
    try clear hfz14_2
    try clear hfz14_3
    try clear hfz14_4
    try clear hfz16_0
    try clear hfz16_1
    try clear hfz16_2
    try clear hfz16_3
    try clear hfz16_4
    try clear hfz17_0
    try clear hfz17_1
    try clear hfz17_2
    try clear hfz17_3
    try clear hfz17_4
    try clear hfz8_0
    try clear hfz8_1
    try clear hfz8_2
    try clear hfz8_3
    try clear hfz8_4
    obtain ⟨kq, x27_4, rfl, HA, HJ4, BK506, HB⟩ := hcut
    cases kq with
    | zero => exact absurd HA.out (by simp [node_Span.j0])
    | succ kj4 =>
      have H := HA.out
      clear HA
      simp only [node_Span.j0] at H
      by_cases c19 : x27_4 = true
      · subst c19
        have H1 : (some ((⟨#[]⟩ : ByteArray), (⟨#[]⟩ : ByteArray))) = some (r1, r2) := by rw [if_pos rfl] at H; exact H
        clear H
        have H := H1
        clear H1
        simp only [Option.some.injEq, Prod.mk.injEq] at H
        obtain ⟨rfl, rfl⟩ := H
        go_wp2
        go_ret2
        exact ⟨by first | rfl | (simp [errW_none, errW_some] <;> rfl) | (simp [*, errW_none, errW_some] <;> rfl), by repeat (first | (with_reducible first | exact HB.out | apply below_alloc | apply pw_below_drewN | apply below_drew1 | refine below_set ?_ GE506.out) | exact HB.out)⟩
      · replace c19 := Bool.eq_false_iff.mpr c19
        subst c19
        have H1 : (if a1 > 0 then (if 0 ≤ (wrap64 (a1 - 1)) then (if (wrap64 (a1 - 1)) < (l0_2.length : Int) then (if a1 < (l0_2.length : Int) then (if 0 ≤ a1 then (some (rdOf ByteArray.empty l0_2 (wrap64 (a1 - 1)), rdOf ByteArray.empty l0_2 a1)) else (none)) else (some (rdOf ByteArray.empty l0_2 (wrap64 (a1 - 1)), a3))) else (none)) else (none)) else (if a1 < (l0_2.length : Int) then (if 0 ≤ a1 then (some (a2, rdOf ByteArray.empty l0_2 a1)) else (none)) else (some (a2, a3)))) = some (r1, r2) := by rw [if_neg (show ¬ (false = true) by decide)] at H; exact H
        clear H
        have H := H1
        clear H1
        by_cases c20 : a1 > 0
        · rw [if_pos c20] at H
          have c20b0 : decide (0 < a1) = true := decide_eq_true c20
          clear c20
          obtain ⟨ji21, hji21⟩ : ∃ j_ : Int, (wrap64 (a1 - 1)) = j_ := ⟨_, rfl⟩
          replace H : (if 0 ≤ (ji21) then (if (ji21) < (l0_2.length : Int) then (if a1 < (l0_2.length : Int) then (if 0 ≤ a1 then (some (rdOf ByteArray.empty l0_2 (ji21), rdOf ByteArray.empty l0_2 a1)) else (none)) else (some (rdOf ByteArray.empty l0_2 (ji21), a3))) else (none)) else (none)) = some (r1, r2) := by first | (rw [hji21] at H; exact H) | (simp only [hji21] at H ⊢; exact H)
          have hji21w : (IntKind.i64.wrap (a1 - 1)) = ji21 := (i64_w _).trans hji21
          by_cases c22 : 0 ≤ (ji21)
          · rw [if_pos c22] at H
            have c22b0 : decide (0 ≤ (ji21)) = true := decide_eq_true c22
            clear c22
            by_cases c23 : (ji21) < (l0_2.length : Int)
            · rw [if_pos c23] at H
              have c23b0 : decide ((ji21) < (l0_2.length : Int)) = true := decide_eq_true c23
              clear c23
              by_cases c24 : a1 < (l0_2.length : Int)
              · rw [if_pos c24] at H
                have c24b0 : decide (a1 < (l0_2.length : Int)) = true := decide_eq_true c24
                clear c24
                by_cases c25 : 0 ≤ a1
                · rw [if_pos c25] at H
                  have c25b0 : decide (0 ≤ a1) = true := decide_eq_true c25
                  clear c25
                  simp only [Option.some.injEq, Prod.mk.injEq] at H
                  obtain ⟨rfl, rfl⟩ := H
                  have hcz26_0 : wc.cell? ⟨gb506, 0, none⟩ = some (.bool a0_0) := (blk_cell BK506.out 0).trans rfl
                  have hcz26_1 : wc.cell? ⟨gb506, 1, none⟩ = some (.slice A0_1 l0_1.length c0_1) := (blk_cell BK506.out 1).trans rfl
                  have hcz26_2 : wc.cell? ⟨gb506, 2, none⟩ = some (.slice A0_2 l0_2.length c0_2) := (blk_cell BK506.out 2).trans rfl
                  have hcz26_3 : wc.cell? ⟨gb506, 3, none⟩ = some (.slice A0_3 l0_3.length c0_3) := (blk_cell BK506.out 3).trans rfl
                  have hcz26_4 : wc.cell? ⟨gb506, 4, none⟩ = some (.slice A0_4 l0_4.length c0_4) := (blk_cell BK506.out 4).trans rfl
                  have hfz26_0 := blk_frozen BK506.out 0
                  have hfz26_1 := blk_frozen BK506.out 1
                  have hfz26_2 := blk_frozen BK506.out 2
                  have hfz26_3 := blk_frozen BK506.out 3
                  have hfz26_4 := blk_frozen BK506.out 4
                  have p508 : 0 ≤ ((ji21) : Int) := of_decide_eq_true (by first | (with_reducible assumption) | assumption)
                  have q508 : (ji21) < (l0_2.length : Int) := of_decide_eq_true (by first | (with_reducible assumption) | assumption)
                  obtain ⟨ad508, e508, hx508_0⟩ := Kd.at_string HR0_2.out (ji21) p508 q508
                  cases e508
                  replace hx508_0 := (HB.out.cell (World.block_lt_of_cell? w _ hx508_0)).trans hx508_0
                  replace p508 := eq_true p508
                  replace q508 := eq_true q508
                  have p509 : 0 ≤ (a1 : Int) := of_decide_eq_true (by first | (with_reducible assumption) | assumption)
                  have q509 : a1 < (l0_2.length : Int) := of_decide_eq_true (by first | (with_reducible assumption) | assumption)
                  obtain ⟨ad509, e509, hx509_0⟩ := Kd.at_string HR0_2.out a1 p509 q509
                  obtain rfl : ad508 = ad509 := (by injection e509)
                  replace hx509_0 := (HB.out.cell (World.block_lt_of_cell? w _ hx509_0)).trans hx509_0
                  replace p509 := eq_true p509
                  replace q509 := eq_true q509
                  go_wp2
                  go_ret2
                  exact ⟨by first | rfl | (simp [errW_none, errW_some] <;> rfl) | (simp only [← hji21]; first | rfl | (simp [errW_none, errW_some] <;> rfl)) | (simp [*, errW_none, errW_some] <;> rfl), by repeat (first | (with_reducible first | exact HB.out | apply below_alloc | apply pw_below_drewN | apply below_drew1 | refine below_set ?_ GE506.out) | exact HB.out)⟩
                · rw [if_neg c25] at H
                  exact absurd H (by simp)
              · rw [if_neg c24] at H
                have c24b0 : decide (a1 < (l0_2.length : Int)) = false := decide_eq_false c24
                clear c24
                simp only [Option.some.injEq, Prod.mk.injEq] at H
                obtain ⟨rfl, rfl⟩ := H
                have hcz27_0 : wc.cell? ⟨gb506, 0, none⟩ = some (.bool a0_0) := (blk_cell BK506.out 0).trans rfl
                have hcz27_1 : wc.cell? ⟨gb506, 1, none⟩ = some (.slice A0_1 l0_1.length c0_1) := (blk_cell BK506.out 1).trans rfl
                have hcz27_2 : wc.cell? ⟨gb506, 2, none⟩ = some (.slice A0_2 l0_2.length c0_2) := (blk_cell BK506.out 2).trans rfl
                have hcz27_3 : wc.cell? ⟨gb506, 3, none⟩ = some (.slice A0_3 l0_3.length c0_3) := (blk_cell BK506.out 3).trans rfl
                have hcz27_4 : wc.cell? ⟨gb506, 4, none⟩ = some (.slice A0_4 l0_4.length c0_4) := (blk_cell BK506.out 4).trans rfl
                have hfz27_0 := blk_frozen BK506.out 0
                have hfz27_1 := blk_frozen BK506.out 1
                have hfz27_2 := blk_frozen BK506.out 2
                have hfz27_3 := blk_frozen BK506.out 3
                have hfz27_4 := blk_frozen BK506.out 4
                have p508 : 0 ≤ ((ji21) : Int) := of_decide_eq_true (by first | (with_reducible assumption) | assumption)
                have q508 : (ji21) < (l0_2.length : Int) := of_decide_eq_true (by first | (with_reducible assumption) | assumption)
                obtain ⟨ad508, e508, hx508_0⟩ := Kd.at_string HR0_2.out (ji21) p508 q508
                cases e508
                replace hx508_0 := (HB.out.cell (World.block_lt_of_cell? w _ hx508_0)).trans hx508_0
                replace p508 := eq_true p508
                replace q508 := eq_true q508
                go_wp2
                go_ret2
                exact ⟨by first | rfl | (simp [errW_none, errW_some] <;> rfl) | (simp only [← hji21]; first | rfl | (simp [errW_none, errW_some] <;> rfl)) | (simp [*, errW_none, errW_some] <;> rfl), by repeat (first | (with_reducible first | exact HB.out | apply below_alloc | apply pw_below_drewN | apply below_drew1 | refine below_set ?_ GE506.out) | exact HB.out)⟩
            · rw [if_neg c23] at H
              exact absurd H (by simp)
          · rw [if_neg c22] at H
            exact absurd H (by simp)
        · rw [if_neg c20] at H
          have c20b0 : decide (0 < a1) = false := decide_eq_false c20
          clear c20
          by_cases c28 : a1 < (l0_2.length : Int)
          · rw [if_pos c28] at H
            have c28b0 : decide (a1 < (l0_2.length : Int)) = true := decide_eq_true c28
            clear c28
            by_cases c29 : 0 ≤ a1
            · rw [if_pos c29] at H
              have c29b0 : decide (0 ≤ a1) = true := decide_eq_true c29
              clear c29
              simp only [Option.some.injEq, Prod.mk.injEq] at H
              obtain ⟨rfl, rfl⟩ := H
              have hcz30_0 : wc.cell? ⟨gb506, 0, none⟩ = some (.bool a0_0) := (blk_cell BK506.out 0).trans rfl
              have hcz30_1 : wc.cell? ⟨gb506, 1, none⟩ = some (.slice A0_1 l0_1.length c0_1) := (blk_cell BK506.out 1).trans rfl
              have hcz30_2 : wc.cell? ⟨gb506, 2, none⟩ = some (.slice A0_2 l0_2.length c0_2) := (blk_cell BK506.out 2).trans rfl
              have hcz30_3 : wc.cell? ⟨gb506, 3, none⟩ = some (.slice A0_3 l0_3.length c0_3) := (blk_cell BK506.out 3).trans rfl
              have hcz30_4 : wc.cell? ⟨gb506, 4, none⟩ = some (.slice A0_4 l0_4.length c0_4) := (blk_cell BK506.out 4).trans rfl
              have hfz30_0 := blk_frozen BK506.out 0
              have hfz30_1 := blk_frozen BK506.out 1
              have hfz30_2 := blk_frozen BK506.out 2
              have hfz30_3 := blk_frozen BK506.out 3
              have hfz30_4 := blk_frozen BK506.out 4
              have p510 : 0 ≤ (a1 : Int) := of_decide_eq_true (by first | (with_reducible assumption) | assumption)
              have q510 : a1 < (l0_2.length : Int) := of_decide_eq_true (by first | (with_reducible assumption) | assumption)
              obtain ⟨ad510, e510, hx510_0⟩ := Kd.at_string HR0_2.out a1 p510 q510
              cases e510
              replace hx510_0 := (HB.out.cell (World.block_lt_of_cell? w _ hx510_0)).trans hx510_0
              replace p510 := eq_true p510
              replace q510 := eq_true q510
              go_wp2
              go_ret2
              exact ⟨by first | rfl | (simp [errW_none, errW_some] <;> rfl) | (simp [*, errW_none, errW_some] <;> rfl), by repeat (first | (with_reducible first | exact HB.out | apply below_alloc | apply pw_below_drewN | apply below_drew1 | refine below_set ?_ GE506.out) | exact HB.out)⟩
            · rw [if_neg c29] at H
              exact absurd H (by simp)
          · rw [if_neg c28] at H
            have c28b0 : decide (a1 < (l0_2.length : Int)) = false := decide_eq_false c28
            clear c28
            simp only [Option.some.injEq, Prod.mk.injEq] at H
            obtain ⟨rfl, rfl⟩ := H
            have hcz31_0 : wc.cell? ⟨gb506, 0, none⟩ = some (.bool a0_0) := (blk_cell BK506.out 0).trans rfl
            have hcz31_1 : wc.cell? ⟨gb506, 1, none⟩ = some (.slice A0_1 l0_1.length c0_1) := (blk_cell BK506.out 1).trans rfl
            have hcz31_2 : wc.cell? ⟨gb506, 2, none⟩ = some (.slice A0_2 l0_2.length c0_2) := (blk_cell BK506.out 2).trans rfl
            have hcz31_3 : wc.cell? ⟨gb506, 3, none⟩ = some (.slice A0_3 l0_3.length c0_3) := (blk_cell BK506.out 3).trans rfl
            have hcz31_4 : wc.cell? ⟨gb506, 4, none⟩ = some (.slice A0_4 l0_4.length c0_4) := (blk_cell BK506.out 4).trans rfl
            have hfz31_0 := blk_frozen BK506.out 0
            have hfz31_1 := blk_frozen BK506.out 1
            have hfz31_2 := blk_frozen BK506.out 2
            have hfz31_3 := blk_frozen BK506.out 3
            have hfz31_4 := blk_frozen BK506.out 4
            go_wp2
            go_ret2
            exact ⟨by first | rfl | (simp [errW_none, errW_some] <;> rfl) | (simp [*, errW_none, errW_some] <;> rfl), by repeat (first | (with_reducible first | exact HB.out | apply below_alloc | apply pw_below_drewN | apply below_drew1 | refine below_set ?_ GE506.out) | exact HB.out)⟩

end Go.Proofs.Ytnoimnijoklkdaa.Px
