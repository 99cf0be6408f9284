-- PRINTED by print.py (a twelfth state) out of the translation. Not trusted: Lean checks it.
import Derived.Test.YtnoimnijoklkdaaPx0
namespace Go.Proofs.Ytnoimnijoklkdaa.Px
open Go.RowKit Go.Proofs.YtnoimnijoklkdaaW.PrintWords Go.Proofs.YtnoimnijoklkdaaW.PrintLast Go.Proofs.YtnoimnijoklkdaaW.PrintMore
attribute [local go_sem] max2_int min2_int max_two min_two max_three min_three max_four min_four px_leq px_gtr px_geq   -- for this text's walks alone
set_option linter.unusedVariables false
set_option linter.unusedSimpArgs false

/-! ### rillbedlaw18_few: function 13 -/
mutual
def rillbedlaw18_few.j0 : Nat → Bool → Bool → List (S75) → List ByteArray → List Int → List (S59) → Option (Bool)
  | 0, _, _, _, _, _, _ => none
  | k + 1, x27, x457000, x457001, x457002, x457003, x457004 => if x27 = true then (some false) else (rillbedlaw18_few.l0 k 0 x457000 x457001 x457002 x457003 x457004)
def rillbedlaw18_few.l0 : Nat → Int → Bool → List (S75) → List ByteArray → List Int → List (S59) → Option (Bool)
  | 0, _, _, _, _, _, _ => none
  | k + 1, x3, x457000, x457001, x457002, x457003, x457004 => if x3 < (x457001.length : Int) then (if 0 ≤ x3 then (if (((rd_T75 x457001 x3).f0).size : Int) > 300 then (some false) else (if (((rd_T75 x457001 x3).f1).size : Int) > 300 then (some false) else (rillbedlaw18_few.l0 k (wrap64 (x3 + 1)) x457000 x457001 x457002 x457003 x457004))) else (none)) else (rillbedlaw18_few.l1 k 0 x457000 x457001 x457002 x457003 x457004)
def rillbedlaw18_few.l1 : Nat → Int → Bool → List (S75) → List ByteArray → List Int → List (S59) → Option (Bool)
  | 0, _, _, _, _, _, _ => none
  | k + 1, x4, x457000, x457001, x457002, x457003, x457004 => if x4 < (x457002.length : Int) then (if 0 ≤ x4 then (if ((rdOf ByteArray.empty x457002 x4).size : Int) > 300 then (some false) else (rillbedlaw18_few.l1 k (wrap64 (x4 + 1)) x457000 x457001 x457002 x457003 x457004)) else (none)) else (rillbedlaw18_few.l2 k 0 x457000 x457001 x457002 x457003 x457004)
def rillbedlaw18_few.l2 : Nat → Int → Bool → List (S75) → List ByteArray → List Int → List (S59) → Option (Bool)
  | 0, _, _, _, _, _, _ => none
  | k + 1, x5, x457000, x457001, x457002, x457003, x457004 => if x5 < (x457004.length : Int) then (if 0 ≤ x5 then (if (((rd_T59 x457004 x5).f1).size : Int) > 300 then (some false) else (if (((rd_T59 x457004 x5).f2).size : Int) > 300 then (some false) else (if (((rd_T59 x457004 x5).f3).size : Int) > 300 then (some false) else (rillbedlaw18_few.l2 k (wrap64 (x5 + 1)) x457000 x457001 x457002 x457003 x457004)))) else (none)) else (some true)
end
def rillbedlaw18_few.f (k : Nat) (a0_0 : Bool) (l0_1 : List (S75)) (l0_2 : List ByteArray) (l0_3 : List Int) (l0_4 : List (S59)) : Option (Bool) := if (l0_1.length : Int) > 100 then (rillbedlaw18_few.j0 k true a0_0 l0_1 l0_2 l0_3 l0_4) else (if (l0_2.length : Int) > 100 then (rillbedlaw18_few.j0 k true a0_0 l0_1 l0_2 l0_3 l0_4) else (if (l0_3.length : Int) > 100 then (rillbedlaw18_few.j0 k true a0_0 l0_1 l0_2 l0_3 l0_4) else (rillbedlaw18_few.j0 k (decide ((l0_4.length : Int) > 100)) a0_0 l0_1 l0_2 l0_3 l0_4)))
theorem rillbedlaw18_few.mono_l : ∀ k, (∀ y0 y1 y2 y3 y4 y5, LeO (rillbedlaw18_few.j0 k y0 y1 y2 y3 y4 y5) (rillbedlaw18_few.j0 (k + 1) y0 y1 y2 y3 y4 y5)) ∧ (∀ y0 y1 y2 y3 y4 y5, LeO (rillbedlaw18_few.l0 k y0 y1 y2 y3 y4 y5) (rillbedlaw18_few.l0 (k + 1) y0 y1 y2 y3 y4 y5)) ∧ (∀ y0 y1 y2 y3 y4 y5, LeO (rillbedlaw18_few.l1 k y0 y1 y2 y3 y4 y5) (rillbedlaw18_few.l1 (k + 1) y0 y1 y2 y3 y4 y5)) ∧ (∀ y0 y1 y2 y3 y4 y5, LeO (rillbedlaw18_few.l2 k y0 y1 y2 y3 y4 y5) (rillbedlaw18_few.l2 (k + 1) y0 y1 y2 y3 y4 y5))
  | 0 => ⟨fun _ _ _ _ _ _ r h => by simp [rillbedlaw18_few.j0] at h, fun _ _ _ _ _ _ r h => by simp [rillbedlaw18_few.l0] at h, fun _ _ _ _ _ _ r h => by simp [rillbedlaw18_few.l1] at h, fun _ _ _ _ _ _ r h => by simp [rillbedlaw18_few.l2] at h⟩
  | k + 1 => by
    obtain ⟨ih0, ih1, ih2, ih3⟩ := rillbedlaw18_few.mono_l k
    refine ⟨?_, ?_, ?_, ?_⟩
    · intro y0 y1 y2 y3 y4 y5
      unfold rillbedlaw18_few.j0
      repeat' first
      | (with_reducible exact ih0 _ _ _ _ _ _)
      | (with_reducible exact ih1 _ _ _ _ _ _)
      | (with_reducible exact ih2 _ _ _ _ _ _)
      | (with_reducible exact ih3 _ _ _ _ _ _)
      | (with_reducible exact LeO.refl _)
      | (with_reducible exact LeO.none _)
      | (with_reducible refine LeO.ite ?_ ?_)
      | (with_reducible refine LeO.bind ?_ (fun _ => ?_))
      | exact ih0 _ _ _ _ _ _
      | exact ih1 _ _ _ _ _ _
      | exact ih2 _ _ _ _ _ _
      | exact ih3 _ _ _ _ _ _
      | exact LeO.none _
      | refine LeO.ite ?_ ?_
      | refine LeO.bind ?_ (fun _ => ?_)
    · intro y0 y1 y2 y3 y4 y5
      unfold rillbedlaw18_few.l0
      repeat' first
      | (with_reducible exact ih0 _ _ _ _ _ _)
      | (with_reducible exact ih1 _ _ _ _ _ _)
      | (with_reducible exact ih2 _ _ _ _ _ _)
      | (with_reducible exact ih3 _ _ _ _ _ _)
      | (with_reducible exact LeO.refl _)
      | (with_reducible exact LeO.none _)
      | (with_reducible refine LeO.ite ?_ ?_)
      | (with_reducible refine LeO.bind ?_ (fun _ => ?_))
      | exact ih0 _ _ _ _ _ _
      | exact ih1 _ _ _ _ _ _
      | exact ih2 _ _ _ _ _ _
      | exact ih3 _ _ _ _ _ _
      | exact LeO.none _
      | refine LeO.ite ?_ ?_
      | refine LeO.bind ?_ (fun _ => ?_)
    · intro y0 y1 y2 y3 y4 y5
      unfold rillbedlaw18_few.l1
      repeat' first
      | (with_reducible exact ih0 _ _ _ _ _ _)
      | (with_reducible exact ih1 _ _ _ _ _ _)
      | (with_reducible exact ih2 _ _ _ _ _ _)
      | (with_reducible exact ih3 _ _ _ _ _ _)
      | (with_reducible exact LeO.refl _)
      | (with_reducible exact LeO.none _)
      | (with_reducible refine LeO.ite ?_ ?_)
      | (with_reducible refine LeO.bind ?_ (fun _ => ?_))
      | exact ih0 _ _ _ _ _ _
      | exact ih1 _ _ _ _ _ _
      | exact ih2 _ _ _ _ _ _
      | exact ih3 _ _ _ _ _ _
      | exact LeO.none _
      | refine LeO.ite ?_ ?_
      | refine LeO.bind ?_ (fun _ => ?_)
    · intro y0 y1 y2 y3 y4 y5
      unfold rillbedlaw18_few.l2
      repeat' first
      | (with_reducible exact ih0 _ _ _ _ _ _)
      | (with_reducible exact ih1 _ _ _ _ _ _)
      | (with_reducible exact ih2 _ _ _ _ _ _)
      | (with_reducible exact ih3 _ _ _ _ _ _)
      | (with_reducible exact LeO.refl _)
      | (with_reducible exact LeO.none _)
      | (with_reducible refine LeO.ite ?_ ?_)
      | (with_reducible refine LeO.bind ?_ (fun _ => ?_))
      | exact ih0 _ _ _ _ _ _
      | exact ih1 _ _ _ _ _ _
      | exact ih2 _ _ _ _ _ _
      | exact ih3 _ _ _ _ _ _
      | exact LeO.none _
      | refine LeO.ite ?_ ?_
      | refine LeO.bind ?_ (fun _ => ?_)
theorem rillbedlaw18_few.mono : ∀ a0 a1 a2 a3 a4 k, LeO (rillbedlaw18_few.f k a0 a1 a2 a3 a4) (rillbedlaw18_few.f (k + 1) a0 a1 a2 a3 a4) := by
  intro a0 a1 a2 a3 a4 k
  obtain ⟨ih0, ih1, ih2, ih3⟩ := rillbedlaw18_few.mono_l k
  unfold rillbedlaw18_few.f
  repeat' first
      | (with_reducible exact ih0 _ _ _ _ _ _)
      | (with_reducible exact ih1 _ _ _ _ _ _)
      | (with_reducible exact ih2 _ _ _ _ _ _)
      | (with_reducible exact ih3 _ _ _ _ _ _)
      | (with_reducible exact LeO.refl _)
      | (with_reducible exact LeO.none _)
      | (with_reducible refine LeO.ite ?_ ?_)
      | (with_reducible refine LeO.bind ?_ (fun _ => ?_))
      | exact ih0 _ _ _ _ _ _
      | exact ih1 _ _ _ _ _ _
      | exact ih2 _ _ _ _ _ _
      | exact ih3 _ _ _ _ _ _
      | exact LeO.none _
      | refine LeO.ite ?_ ?_
      | refine LeO.bind ?_ (fun _ => ?_)
set_option maxHeartbeats 8000000 in
set_option maxRecDepth 100000 in
theorem rillbedlaw18_few.calls (k : Nat) (a0_0 : Bool) (A0_1 : Option Addr) (c0_1 : Nat) (l0_1 : List (S75)) (A0_2 : Option Addr) (c0_2 : Nat) (l0_2 : List ByteArray) (A0_3 : Option Addr) (c0_3 : Nat) (l0_3 : List Int) (A0_4 : Option Addr) (c0_4 : Nat) (l0_4 : List (S59)) (r : Bool) (w : World) (hr0_1 : Kd.C k75 w A0_1 l0_1.length l0_1) (hc0_1 : l0_1.length ≤ c0_1) (hr0_2 : Kd.C Kd.string w A0_2 l0_2.length l0_2) (hc0_2 : l0_2.length ≤ c0_2) (hr0_3 : Kd.C (Kd.int .i64) w A0_3 l0_3.length l0_3) (hc0_3 : l0_3.length ≤ c0_3) (hr0_4 : Kd.C k59 w A0_4 l0_4.length l0_4) (hc0_4 : l0_4.length ≤ c0_4) (h : rillbedlaw18_few.f k a0_0 l0_1 l0_2 l0_3 l0_4 = some r) :
    Calls Try.prog 13 #[.agg #[.bool a0_0, .slice A0_1 l0_1.length c0_1, .slice A0_2 l0_2.length c0_2, .slice A0_3 l0_3.length c0_3, .slice A0_4 l0_4.length c0_4]] w fun e w' => e = .returned (.bool r) ∧ Below w.heap.size w w' := by
  have hu28 := Try.underlying28
  have HR0_1 := Aside0.mk hr0_1
  have HC0_1 := Aside0.mk hc0_1
  clear hr0_1 hc0_1
  have HR0_2 := Aside0.mk hr0_2
  have HC0_2 := Aside0.mk hc0_2
  clear hr0_2 hc0_2
  have HR0_3 := Aside0.mk hr0_3
  have HC0_3 := Aside0.mk hc0_3
  clear hr0_3 hc0_3
  have HR0_4 := Aside0.mk hr0_4
  have HC0_4 := Aside0.mk hc0_4
  clear hr0_4 hc0_4
  have HB := Aside0.mk (Below.refl w.heap.size w)
  have H : (if (l0_1.length : Int) > 100 then (rillbedlaw18_few.j0 k true a0_0 l0_1 l0_2 l0_3 l0_4) else (if (l0_2.length : Int) > 100 then (rillbedlaw18_few.j0 k true a0_0 l0_1 l0_2 l0_3 l0_4) else (if (l0_3.length : Int) > 100 then (rillbedlaw18_few.j0 k true a0_0 l0_1 l0_2 l0_3 l0_4) else (rillbedlaw18_few.j0 k (decide ((l0_4.length : Int) > 100)) a0_0 l0_1 l0_2 l0_3 l0_4)))) = some r := h
  clear h
  have HC2 := Aside0.mk H
  clear H
  go_enter Try.func13, Try.ntmps13
  go_upto_region 1 with (first | ((with_reducible refine gate_dst (N := 1) rfl ?_); (try (refine gate_guard (by rfl) ?_; dsimp only)); refine box_event ?hg (N := 1) ?hd (cs := #[.bool a0_0, .slice A0_1 l0_1.length c0_1, .slice A0_2 l0_2.length c0_2, .slice A0_3 l0_3.length c0_3, .slice A0_4 l0_4.length c0_4]) (t := 28) ?hr ?_; (case hd => rfl); (case hg => rfl); (case hr => first | (go_simp; done) | (go_simp; rfl)); intro gb456 hg w3 hbox hb; have n0_ := Aside0.mk (below_step (by repeat (first | (with_reducible first | exact HB.out | apply below_alloc | apply pw_below_drewN | apply below_drew1) | exact HB.out)) hb); have n1_ := Aside0.mk (hbox); have n2_ := Aside0.mk ((by rw [hg]; exact (below_size (by repeat (first | (with_reducible first | exact HB.out | apply below_alloc | apply pw_below_drewN | apply below_drew1) | exact HB.out))) : w.heap.size ≤ gb456)); have n3_ := Aside0.mk ((by rw [hg]; exact (below_size (by repeat (first | (with_reducible first | exact HB.out | apply below_alloc | apply pw_below_drewN | apply below_drew1) | exact HB.out))) : w.heap.size ≤ gb456)); clear HB; have HB := n0_; have BK456 := n1_; have GW456 := n2_; have GE456 := n3_; clear n0_ n1_ n2_ n3_; clear hb hbox hg))
  (try simp only [Act.put, List.setIfInBounds_toArray, List.set_cons_zero, List.set_cons_succ])
  go_cut [27] (fun v27 wc => ∃ (kq : Nat) (x27_1 : Bool), v27 = .bool x27_1 ∧ Aside0 (rillbedlaw18_few.j0 kq x27_1 a0_0 l0_1 l0_2 l0_3 l0_4 = some r) ∧ Aside0 (kq ≤ k) ∧ Aside0 (wc.heap[gb456]? = some (.cells #[.bool a0_0, (.slice A0_1 l0_1.length c0_1), (.slice A0_2 l0_2.length c0_2), (.slice A0_3 l0_3.length c0_3), (.slice A0_4 l0_4.length c0_4)] 28 (0, 0))) ∧ Aside0 (Below w.heap.size w wc))
  case first =>
    have H := HC2.out
    clear HC2
    by_cases c4 : (l0_1.length : Int) > 100
    · rw [if_pos c4] at H
      have c4b0 : decide (100 < (l0_1.length : Int)) = true := decide_eq_true c4
      have c4b1 : decide (100 < l0_1.length) = true := decide_eq_true (by omega)
      clear c4
      (first | rw [c4b0] | (simp only [i64_w, i32_w]; rw [c4b0]) | skip)
      have H' := Aside0.mk H
      clear H
      have hcz5_0 : w3.cell? ⟨gb456, 0, none⟩ = some (.bool a0_0) := (blk_cell BK456.out 0).trans rfl
      have hcz5_1 : w3.cell? ⟨gb456, 1, none⟩ = some (.slice A0_1 l0_1.length c0_1) := (blk_cell BK456.out 1).trans rfl
      have hcz5_2 : w3.cell? ⟨gb456, 2, none⟩ = some (.slice A0_2 l0_2.length c0_2) := (blk_cell BK456.out 2).trans rfl
      have hcz5_3 : w3.cell? ⟨gb456, 3, none⟩ = some (.slice A0_3 l0_3.length c0_3) := (blk_cell BK456.out 3).trans rfl
      have hcz5_4 : w3.cell? ⟨gb456, 4, none⟩ = some (.slice A0_4 l0_4.length c0_4) := (blk_cell BK456.out 4).trans rfl
      have hfz5_0 := blk_frozen BK456.out 0
      have hfz5_1 := blk_frozen BK456.out 1
      have hfz5_2 := blk_frozen BK456.out 2
      have hfz5_3 := blk_frozen BK456.out 3
      have hfz5_4 := blk_frozen BK456.out 4
      go_wp2
      go_meet
      case rel => exact ⟨_, (true), (by first | rfl | (simp; done) | (simp [*]; done)), H', ⟨by first | omega | exact Nat.le_refl _⟩, ⟨by (with_reducible repeat (first | refine blk_drewN ?_ _ | refine blk_drew ?_ | refine blk_alloc ?_ _)); exact BK456.out⟩, ⟨by repeat (first | (with_reducible first | exact HB.out | apply below_alloc | apply pw_below_drewN | apply below_drew1 | refine below_set ?_ GE456.out) | exact HB.out)⟩⟩
    · rw [if_neg c4] at H
      have c4b0 : decide (100 < (l0_1.length : Int)) = false := decide_eq_false c4
      have c4b1 : decide (100 < l0_1.length) = false := decide_eq_false (by omega)
      clear c4
      (first | rw [c4b0] | (simp only [i64_w, i32_w]; rw [c4b0]) | skip)
      by_cases c6 : (l0_2.length : Int) > 100
      · rw [if_pos c6] at H
        have c6b0 : decide (100 < (l0_2.length : Int)) = true := decide_eq_true c6
        have c6b1 : decide (100 < l0_2.length) = true := decide_eq_true (by omega)
        clear c6
        have H' := Aside0.mk H
        clear H
        have hcz7_0 : w3.cell? ⟨gb456, 0, none⟩ = some (.bool a0_0) := (blk_cell BK456.out 0).trans rfl
        have hcz7_1 : w3.cell? ⟨gb456, 1, none⟩ = some (.slice A0_1 l0_1.length c0_1) := (blk_cell BK456.out 1).trans rfl
        have hcz7_2 : w3.cell? ⟨gb456, 2, none⟩ = some (.slice A0_2 l0_2.length c0_2) := (blk_cell BK456.out 2).trans rfl
        have hcz7_3 : w3.cell? ⟨gb456, 3, none⟩ = some (.slice A0_3 l0_3.length c0_3) := (blk_cell BK456.out 3).trans rfl
        have hcz7_4 : w3.cell? ⟨gb456, 4, none⟩ = some (.slice A0_4 l0_4.length c0_4) := (blk_cell BK456.out 4).trans rfl
        have hfz7_0 := blk_frozen BK456.out 0
        have hfz7_1 := blk_frozen BK456.out 1
        have hfz7_2 := blk_frozen BK456.out 2
        have hfz7_3 := blk_frozen BK456.out 3
        have hfz7_4 := blk_frozen BK456.out 4
        go_wp2
        go_meet
        case rel => exact ⟨_, (true), (by first | rfl | (simp; done) | (simp [*]; done)), H', ⟨by first | omega | exact Nat.le_refl _⟩, ⟨by (with_reducible repeat (first | refine blk_drewN ?_ _ | refine blk_drew ?_ | refine blk_alloc ?_ _)); exact BK456.out⟩, ⟨by repeat (first | (with_reducible first | exact HB.out | apply below_alloc | apply pw_below_drewN | apply below_drew1 | refine below_set ?_ GE456.out) | exact HB.out)⟩⟩
      · rw [if_neg c6] at H
        have c6b0 : decide (100 < (l0_2.length : Int)) = false := decide_eq_false c6
        have c6b1 : decide (100 < l0_2.length) = false := decide_eq_false (by omega)
        clear c6
        by_cases c8 : (l0_3.length : Int) > 100
        · rw [if_pos c8] at H
          have c8b0 : decide (100 < (l0_3.length : Int)) = true := decide_eq_true c8
          have c8b1 : decide (100 < l0_3.length) = true := decide_eq_true (by omega)
          clear c8
          have H' := Aside0.mk H
          clear H
          have hcz9_0 : w3.cell? ⟨gb456, 0, none⟩ = some (.bool a0_0) := (blk_cell BK456.out 0).trans rfl
          have hcz9_1 : w3.cell? ⟨gb456, 1, none⟩ = some (.slice A0_1 l0_1.length c0_1) := (blk_cell BK456.out 1).trans rfl
          have hcz9_2 : w3.cell? ⟨gb456, 2, none⟩ = some (.slice A0_2 l0_2.length c0_2) := (blk_cell BK456.out 2).trans rfl
          have hcz9_3 : w3.cell? ⟨gb456, 3, none⟩ = some (.slice A0_3 l0_3.length c0_3) := (blk_cell BK456.out 3).trans rfl
          have hcz9_4 : w3.cell? ⟨gb456, 4, none⟩ = some (.slice A0_4 l0_4.length c0_4) := (blk_cell BK456.out 4).trans rfl
          have hfz9_0 := blk_frozen BK456.out 0
          have hfz9_1 := blk_frozen BK456.out 1
          have hfz9_2 := blk_frozen BK456.out 2
          have hfz9_3 := blk_frozen BK456.out 3
          have hfz9_4 := blk_frozen BK456.out 4
          go_wp2
          go_meet
          case rel => exact ⟨_, (true), (by first | rfl | (simp; done) | (simp [*]; done)), H', ⟨by first | omega | exact Nat.le_refl _⟩, ⟨by (with_reducible repeat (first | refine blk_drewN ?_ _ | refine blk_drew ?_ | refine blk_alloc ?_ _)); exact BK456.out⟩, ⟨by repeat (first | (with_reducible first | exact HB.out | apply below_alloc | apply pw_below_drewN | apply below_drew1 | refine below_set ?_ GE456.out) | exact HB.out)⟩⟩
        · rw [if_neg c8] at H
          have c8b0 : decide (100 < (l0_3.length : Int)) = false := decide_eq_false c8
          have c8b1 : decide (100 < l0_3.length) = false := decide_eq_false (by omega)
          clear c8
          have H' := Aside0.mk H
          clear H
          have hcz10_0 : w3.cell? ⟨gb456, 0, none⟩ = some (.bool a0_0) := (blk_cell BK456.out 0).trans rfl
          have hcz10_1 : w3.cell? ⟨gb456, 1, none⟩ = some (.slice A0_1 l0_1.length c0_1) := (blk_cell BK456.out 1).trans rfl
          have hcz10_2 : w3.cell? ⟨gb456, 2, none⟩ = some (.slice A0_2 l0_2.length c0_2) := (blk_cell BK456.out 2).trans rfl
          have hcz10_3 : w3.cell? ⟨gb456, 3, none⟩ = some (.slice A0_3 l0_3.length c0_3) := (blk_cell BK456.out 3).trans rfl
          have hcz10_4 : w3.cell? ⟨gb456, 4, none⟩ = some (.slice A0_4 l0_4.length c0_4) := (blk_cell BK456.out 4).trans rfl
          have hfz10_0 := blk_frozen BK456.out 0
          have hfz10_1 := blk_frozen BK456.out 1
          have hfz10_2 := blk_frozen BK456.out 2
          have hfz10_3 := blk_frozen BK456.out 3
          have hfz10_4 := blk_frozen BK456.out 4
          go_wp2
          go_meet
          case rel => exact ⟨_, (decide ((l0_4.length : Int) > 100)), (by first | rfl | (simp; done) | (simp [*]; done)), H', ⟨by first | omega | exact Nat.le_refl _⟩, ⟨by (with_reducible repeat (first | refine blk_drewN ?_ _ | refine blk_drew ?_ | refine blk_alloc ?_ _)); exact BK456.out⟩, ⟨by repeat (first | (with_reducible first | exact HB.out | apply below_alloc | apply pw_below_drewN | apply below_drew1 | refine below_set ?_ GE456.out) | exact HB.out)⟩⟩
  case rest =>
    clear HC2
    try clear c1
    try clear p2
    try clear c4
    try clear c4b0
    try clear c4b1
    try clear c6
    try clear c6b0
    try clear c6b1
    try clear c8
    try clear c8b0
    try clear c8b1
    try clear hcz10_0
    try clear hcz10_1
    try clear hcz10_2
    try clear hcz10_3
    try clear hcz10_4
    try clear hcz5_0
    try clear hcz5_1
    try clear hcz5_2
    try clear hcz5_3
    try clear hcz5_4
    try clear hcz7_0
    try clear hcz7_1
    try clear hcz7_2
    try clear hcz7_3
    try clear hcz7_4
    try clear hcz9_0
    try clear hcz9_1
    try clear hcz9_2
    try clear hcz9_3
    try clear hcz9_4
    try clear hfz10_0
    try clear hfz10_1
    try clear hfz10_2
    try clear hfz10_3
    try clear hfz10_4
    try clear hfz5_0
    try clear hfz5_1
    try clear hfz5_2
    try clear hfz5_3
    try clear hfz5_4
    try clear hfz7_0
    try clear hfz7_1
    try clear hfz7_2
    try clear hfz7_3
    try clear hfz7_4
    try clear hfz9_0
    try clear hfz9_1
    try clear hfz9_2
    try clear hfz9_3
    try clear hfz9_4
    obtain ⟨kq, x27_1, rfl, HA, HJ1, BK456, HB⟩ := hcut
    cases kq with
    | zero => exact absurd HA.out (by simp [rillbedlaw18_few.j0])
    | succ kj1 =>
      have H := HA.out
      clear HA
      simp only [rillbedlaw18_few.j0] at H
      by_cases c11 : x27_1 = true
      · subst c11
        have H1 : (some false) = some r := by rw [if_pos rfl] at H; exact H
        clear H
        have H := H1
        clear H1
        obtain rfl := Option.some.inj H
        go_wp2
        go_ret
        exact ⟨by first | rfl | (simp [errW_none, errW_some] <;> rfl) | (simp [*, errW_none, errW_some] <;> rfl), by repeat (first | (with_reducible first | exact HB.out | apply below_alloc | apply pw_below_drewN | apply below_drew1 | refine below_set ?_ GE456.out) | exact HB.out)⟩
      · replace c11 := Bool.eq_false_iff.mpr c11
        subst c11
        have H1 : (rillbedlaw18_few.l0 kj1 0 a0_0 l0_1 l0_2 l0_3 l0_4) = some r := by rw [if_neg (show ¬ (false = true) by decide)] at H; exact H
        clear H
        have H := H1
        clear H1
        have H' := Aside0.mk H
        clear H
        go_wp2
        go_loopg [3] kj1 (fun kq v3 w' => ∃ (x3_2 : Int), v3 = .int .i64 x3_2 ∧ Aside0 (rillbedlaw18_few.l0 kq x3_2 a0_0 l0_1 l0_2 l0_3 l0_4 = some r) ∧ Aside0 (kq ≤ kj1) ∧ Aside0 (w'.heap[gb456]? = some (.cells #[.bool a0_0, (.slice A0_1 l0_1.length c0_1), (.slice A0_2 l0_2.length c0_2), (.slice A0_3 l0_3.length c0_3), (.slice A0_4 l0_4.length c0_4)] 28 (0, 0))) ∧ Aside0 (Below w.heap.size w w'))
        case atStart => exact ⟨(0), (by first | rfl | (simp; done) | (simp [*]; done)), H', ⟨Nat.le_refl _⟩, ⟨by (with_reducible repeat (first | refine blk_drewN ?_ _ | refine blk_drew ?_ | refine blk_alloc ?_ _)); exact BK456.out⟩, ⟨by repeat (first | (with_reducible first | exact HB.out | apply below_alloc | apply pw_below_drewN | apply below_drew1 | refine below_set ?_ GE456.out) | exact HB.out)⟩⟩
        case round =>
          clear H'
          try clear c1
          try clear p2
          try clear c4
          try clear c4b0
          try clear c4b1
          try clear c6
          try clear c6b0
          try clear c6b1
          try clear c8
          try clear c8b0
          try clear c8b1
          try clear c11
          try clear hcz10_0
          try clear hcz10_1
          try clear hcz10_2
          try clear hcz10_3
          try clear hcz10_4
          try clear hcz5_0
          try clear hcz5_1
          try clear hcz5_2
          try clear hcz5_3
          try clear hcz5_4
          try clear hcz7_0
          try clear hcz7_1
          try clear hcz7_2
          try clear hcz7_3
          try clear hcz7_4
          try clear hcz9_0
          try clear hcz9_1
          try clear hcz9_2
          try clear hcz9_3
          try clear hcz9_4
          try clear hfz10_0
          try clear hfz10_1
          try clear hfz10_2
          try clear hfz10_3
          try clear hfz10_4
          try clear hfz5_0
          try clear hfz5_1
          try clear hfz5_2
          try clear hfz5_3
          try clear hfz5_4
          try clear hfz7_0
          try clear hfz7_1
          try clear hfz7_2
          try clear hfz7_3
          try clear hfz7_4
          try clear hfz9_0
          try clear hfz9_1
          try clear hfz9_2
          try clear hfz9_3
          try clear hfz9_4
          try clear p2
          obtain ⟨x3_2, rfl, HA, HK2, BK456, HB⟩ := hrel
          cases gk with
          | zero => exact absurd HA.out (by simp [rillbedlaw18_few.l0])
          | succ k2 =>
            have H := HA.out
            clear HA
            simp only [rillbedlaw18_few.l0] at H
            by_cases c12 : x3_2 < (l0_1.length : Int)
            · rw [if_pos c12] at H
              have c12b0 : decide (x3_2 < (l0_1.length : Int)) = true := decide_eq_true c12
              clear c12
              by_cases c13 : 0 ≤ x3_2
              · rw [if_pos c13] at H
                have c13b0 : decide (0 ≤ x3_2) = true := decide_eq_true c13
                clear c13
                by_cases c14 : (((rd_T75 l0_1 x3_2).f0).size : Int) > 300
                · rw [if_pos c14] at H
                  have c14b0 : decide (300 < (((rd_T75 l0_1 x3_2).f0).size : Int)) = true := decide_eq_true c14
                  have c14b1 : decide (300 < ((rd_T75 l0_1 x3_2).f0).size) = true := decide_eq_true (by omega)
                  clear c14
                  obtain rfl := Option.some.inj H
                  have hcz15_0 : wr.cell? ⟨gb456, 0, none⟩ = some (.bool a0_0) := (blk_cell BK456.out 0).trans rfl
                  have hcz15_1 : wr.cell? ⟨gb456, 1, none⟩ = some (.slice A0_1 l0_1.length c0_1) := (blk_cell BK456.out 1).trans rfl
                  have hcz15_2 : wr.cell? ⟨gb456, 2, none⟩ = some (.slice A0_2 l0_2.length c0_2) := (blk_cell BK456.out 2).trans rfl
                  have hcz15_3 : wr.cell? ⟨gb456, 3, none⟩ = some (.slice A0_3 l0_3.length c0_3) := (blk_cell BK456.out 3).trans rfl
                  have hcz15_4 : wr.cell? ⟨gb456, 4, none⟩ = some (.slice A0_4 l0_4.length c0_4) := (blk_cell BK456.out 4).trans rfl
                  have hfz15_0 := blk_frozen BK456.out 0
                  have hfz15_1 := blk_frozen BK456.out 1
                  have hfz15_2 := blk_frozen BK456.out 2
                  have hfz15_3 := blk_frozen BK456.out 3
                  have hfz15_4 := blk_frozen BK456.out 4
                  have p457 : 0 ≤ (x3_2 : Int) := of_decide_eq_true (by first | (with_reducible assumption) | assumption)
                  have q457 : x3_2 < (l0_1.length : Int) := of_decide_eq_true (by first | (with_reducible assumption) | assumption)
                  obtain ⟨ad457, e457, hx457_0, hx457_1⟩ := at_T75 HR0_1.out x3_2 p457 q457
                  cases e457
                  replace hx457_0 := (HB.out.cell (World.block_lt_of_cell? w _ hx457_0)).trans hx457_0
                  replace hx457_1 := (HB.out.cell (World.block_lt_of_cell? w _ hx457_1)).trans hx457_1
                  replace p457 := eq_true p457
                  replace q457 := eq_true q457
                  go_wp2
                  go_ret
                  exact ⟨by first | rfl | (simp [errW_none, errW_some] <;> rfl) | (simp [*, errW_none, errW_some] <;> rfl), by repeat (first | (with_reducible first | exact HB.out | apply below_alloc | apply pw_below_drewN | apply below_drew1 | refine below_set ?_ GE456.out) | exact HB.out)⟩
                · rw [if_neg c14] at H
                  have c14b0 : decide (300 < (((rd_T75 l0_1 x3_2).f0).size : Int)) = false := decide_eq_false c14
                  have c14b1 : decide (300 < ((rd_T75 l0_1 x3_2).f0).size) = false := decide_eq_false (by omega)
                  clear c14
                  by_cases c16 : (((rd_T75 l0_1 x3_2).f1).size : Int) > 300
                  · rw [if_pos c16] at H
                    have c16b0 : decide (300 < (((rd_T75 l0_1 x3_2).f1).size : Int)) = true := decide_eq_true c16
                    have c16b1 : decide (300 < ((rd_T75 l0_1 x3_2).f1).size) = true := decide_eq_true (by omega)
                    clear c16
                    obtain rfl := Option.some.inj H
                    have hcz17_0 : wr.cell? ⟨gb456, 0, none⟩ = some (.bool a0_0) := (blk_cell BK456.out 0).trans rfl
                    have hcz17_1 : wr.cell? ⟨gb456, 1, none⟩ = some (.slice A0_1 l0_1.length c0_1) := (blk_cell BK456.out 1).trans rfl
                    have hcz17_2 : wr.cell? ⟨gb456, 2, none⟩ = some (.slice A0_2 l0_2.length c0_2) := (blk_cell BK456.out 2).trans rfl
                    have hcz17_3 : wr.cell? ⟨gb456, 3, none⟩ = some (.slice A0_3 l0_3.length c0_3) := (blk_cell BK456.out 3).trans rfl
                    have hcz17_4 : wr.cell? ⟨gb456, 4, none⟩ = some (.slice A0_4 l0_4.length c0_4) := (blk_cell BK456.out 4).trans rfl
                    have hfz17_0 := blk_frozen BK456.out 0
                    have hfz17_1 := blk_frozen BK456.out 1
                    have hfz17_2 := blk_frozen BK456.out 2
                    have hfz17_3 := blk_frozen BK456.out 3
                    have hfz17_4 := blk_frozen BK456.out 4
                    have p457 : 0 ≤ (x3_2 : Int) := of_decide_eq_true (by first | (with_reducible assumption) | assumption)
                    have q457 : x3_2 < (l0_1.length : Int) := of_decide_eq_true (by first | (with_reducible assumption) | assumption)
                    obtain ⟨ad457, e457, hx457_0, hx457_1⟩ := at_T75 HR0_1.out x3_2 p457 q457
                    cases e457
                    replace hx457_0 := (HB.out.cell (World.block_lt_of_cell? w _ hx457_0)).trans hx457_0
                    replace hx457_1 := (HB.out.cell (World.block_lt_of_cell? w _ hx457_1)).trans hx457_1
                    replace p457 := eq_true p457
                    replace q457 := eq_true q457
                    have p458 : 0 ≤ (x3_2 : Int) := of_decide_eq_true (by first | (with_reducible assumption) | assumption)
                    have q458 : x3_2 < (l0_1.length : Int) := of_decide_eq_true (by first | (with_reducible assumption) | assumption)
                    obtain ⟨ad458, e458, hx458_0, hx458_1⟩ := at_T75 HR0_1.out x3_2 p458 q458
                    obtain rfl : ad457 = ad458 := (by injection e458)
                    replace hx458_0 := (HB.out.cell (World.block_lt_of_cell? w _ hx458_0)).trans hx458_0
                    replace hx458_1 := (HB.out.cell (World.block_lt_of_cell? w _ hx458_1)).trans hx458_1
                    replace p458 := eq_true p458
                    replace q458 := eq_true q458
                    go_wp2
                    go_ret
                    exact ⟨by first | rfl | (simp [errW_none, errW_some] <;> rfl) | (simp [*, errW_none, errW_some] <;> rfl), by repeat (first | (with_reducible first | exact HB.out | apply below_alloc | apply pw_below_drewN | apply below_drew1 | refine below_set ?_ GE456.out) | exact HB.out)⟩
                  · rw [if_neg c16] at H
                    have c16b0 : decide (300 < (((rd_T75 l0_1 x3_2).f1).size : Int)) = false := decide_eq_false c16
                    have c16b1 : decide (300 < ((rd_T75 l0_1 x3_2).f1).size) = false := decide_eq_false (by omega)
                    clear c16
                    have H' := Aside0.mk H
                    clear H
                    have hcz18_0 : wr.cell? ⟨gb456, 0, none⟩ = some (.bool a0_0) := (blk_cell BK456.out 0).trans rfl
                    have hcz18_1 : wr.cell? ⟨gb456, 1, none⟩ = some (.slice A0_1 l0_1.length c0_1) := (blk_cell BK456.out 1).trans rfl
                    have hcz18_2 : wr.cell? ⟨gb456, 2, none⟩ = some (.slice A0_2 l0_2.length c0_2) := (blk_cell BK456.out 2).trans rfl
                    have hcz18_3 : wr.cell? ⟨gb456, 3, none⟩ = some (.slice A0_3 l0_3.length c0_3) := (blk_cell BK456.out 3).trans rfl
                    have hcz18_4 : wr.cell? ⟨gb456, 4, none⟩ = some (.slice A0_4 l0_4.length c0_4) := (blk_cell BK456.out 4).trans rfl
                    have hfz18_0 := blk_frozen BK456.out 0
                    have hfz18_1 := blk_frozen BK456.out 1
                    have hfz18_2 := blk_frozen BK456.out 2
                    have hfz18_3 := blk_frozen BK456.out 3
                    have hfz18_4 := blk_frozen BK456.out 4
                    have p457 : 0 ≤ (x3_2 : Int) := of_decide_eq_true (by first | (with_reducible assumption) | assumption)
                    have q457 : x3_2 < (l0_1.length : Int) := of_decide_eq_true (by first | (with_reducible assumption) | assumption)
                    obtain ⟨ad457, e457, hx457_0, hx457_1⟩ := at_T75 HR0_1.out x3_2 p457 q457
                    cases e457
                    replace hx457_0 := (HB.out.cell (World.block_lt_of_cell? w _ hx457_0)).trans hx457_0
                    replace hx457_1 := (HB.out.cell (World.block_lt_of_cell? w _ hx457_1)).trans hx457_1
                    replace p457 := eq_true p457
                    replace q457 := eq_true q457
                    have p458 : 0 ≤ (x3_2 : Int) := of_decide_eq_true (by first | (with_reducible assumption) | assumption)
                    have q458 : x3_2 < (l0_1.length : Int) := of_decide_eq_true (by first | (with_reducible assumption) | assumption)
                    obtain ⟨ad458, e458, hx458_0, hx458_1⟩ := at_T75 HR0_1.out x3_2 p458 q458
                    obtain rfl : ad457 = ad458 := (by injection e458)
                    replace hx458_0 := (HB.out.cell (World.block_lt_of_cell? w _ hx458_0)).trans hx458_0
                    replace hx458_1 := (HB.out.cell (World.block_lt_of_cell? w _ hx458_1)).trans hx458_1
                    replace p458 := eq_true p458
                    replace q458 := eq_true q458
                    go_wp2
                    go_roundg k2
                    case measure => have := HJ1.out; have := HK2.out; omega
                    case rel => exact ⟨(wrap64 (x3_2 + 1)), (by first | rfl | (simp; done) | (simp [*]; done)), H', ⟨by have := HJ1.out; have := HK2.out; omega⟩, ⟨by (with_reducible repeat (first | refine blk_drewN ?_ _ | refine blk_drew ?_ | refine blk_alloc ?_ _)); exact BK456.out⟩, ⟨by repeat (first | (with_reducible first | exact HB.out | apply below_alloc | apply pw_below_drewN | apply below_drew1 | refine below_set ?_ GE456.out) | exact HB.out)⟩⟩
              · rw [if_neg c13] at H
                exact absurd H (by simp)
            · rw [if_neg c12] at H
              have c12b0 : decide (x3_2 < (l0_1.length : Int)) = false := decide_eq_false c12
              clear c12
              have H' := Aside0.mk H
              clear H
              have hcz19_0 : wr.cell? ⟨gb456, 0, none⟩ = some (.bool a0_0) := (blk_cell BK456.out 0).trans rfl
              have hcz19_1 : wr.cell? ⟨gb456, 1, none⟩ = some (.slice A0_1 l0_1.length c0_1) := (blk_cell BK456.out 1).trans rfl
              have hcz19_2 : wr.cell? ⟨gb456, 2, none⟩ = some (.slice A0_2 l0_2.length c0_2) := (blk_cell BK456.out 2).trans rfl
              have hcz19_3 : wr.cell? ⟨gb456, 3, none⟩ = some (.slice A0_3 l0_3.length c0_3) := (blk_cell BK456.out 3).trans rfl
              have hcz19_4 : wr.cell? ⟨gb456, 4, none⟩ = some (.slice A0_4 l0_4.length c0_4) := (blk_cell BK456.out 4).trans rfl
              have hfz19_0 := blk_frozen BK456.out 0
              have hfz19_1 := blk_frozen BK456.out 1
              have hfz19_2 := blk_frozen BK456.out 2
              have hfz19_3 := blk_frozen BK456.out 3
              have hfz19_4 := blk_frozen BK456.out 4
              go_wp2
              go_loopg [4] k2 (fun kq v4 w' => ∃ (x4_3 : Int), v4 = .int .i64 x4_3 ∧ Aside0 (rillbedlaw18_few.l1 kq x4_3 a0_0 l0_1 l0_2 l0_3 l0_4 = some r) ∧ Aside0 (kq ≤ k2) ∧ Aside0 (w'.heap[gb456]? = some (.cells #[.bool a0_0, (.slice A0_1 l0_1.length c0_1), (.slice A0_2 l0_2.length c0_2), (.slice A0_3 l0_3.length c0_3), (.slice A0_4 l0_4.length c0_4)] 28 (0, 0))) ∧ Aside0 (Below w.heap.size w w'))
              case atStart => exact ⟨(0), (by first | rfl | (simp; done) | (simp [*]; done)), H', ⟨Nat.le_refl _⟩, ⟨by (with_reducible repeat (first | refine blk_drewN ?_ _ | refine blk_drew ?_ | refine blk_alloc ?_ _)); exact BK456.out⟩, ⟨by repeat (first | (with_reducible first | exact HB.out | apply below_alloc | apply pw_below_drewN | apply below_drew1 | refine below_set ?_ GE456.out) | exact HB.out)⟩⟩
              case round =>
                clear H'
                try clear c1
                try clear p2
                try clear c4
                try clear c4b0
                try clear c4b1
                try clear p4
                try clear q4
                try clear hx4
                try clear c6
                try clear c6b0
                try clear c6b1
                try clear p6
                try clear c8
                try clear c8b0
                try clear c8b1
                try clear c11
                try clear c12
                try clear c12b0
                try clear c13
                try clear c13b0
                try clear c14
                try clear c14b0
                try clear c14b1
                try clear c16
                try clear c16b0
                try clear c16b1
                try clear hcz10_0
                try clear hcz10_1
                try clear hcz10_2
                try clear hcz10_3
                try clear hcz10_4
                try clear hcz15_0
                try clear hcz15_1
                try clear hcz15_2
                try clear hcz15_3
                try clear hcz15_4
                try clear hcz17_0
                try clear hcz17_1
                try clear hcz17_2
                try clear hcz17_3
                try clear hcz17_4
                try clear hcz18_0
                try clear hcz18_1
                try clear hcz18_2
                try clear hcz18_3
                try clear hcz18_4
                try clear hcz19_0
                try clear hcz19_1
                try clear hcz19_2
                try clear hcz19_3
                try clear hcz19_4
                try clear hcz5_0
                try clear hcz5_1
                try clear hcz5_2
                try clear hcz5_3
                try clear hcz5_4
                try clear hcz7_0
                try clear hcz7_1
                try clear hcz7_2
                try clear hcz7_3
                try clear hcz7_4
                try clear hcz9_0
                try clear hcz9_1
                try clear hcz9_2
                try clear hcz9_3
                try clear hcz9_4
                try clear hfz10_0
                try clear hfz10_1
                try clear hfz10_2
                try clear hfz10_3
                try clear hfz10_4
                try clear hfz15_0
                try clear hfz15_1
                try clear hfz15_2
                try clear hfz15_3
                try clear hfz15_4
                try clear hfz17_0
                try clear hfz17_1
                try clear hfz17_2
                try clear hfz17_3
                try clear hfz17_4
                try clear hfz18_0
                try clear hfz18_1
                try clear hfz18_2
                try clear hfz18_3
                try clear hfz18_4
                try clear hfz19_0
                try clear hfz19_1
                try clear hfz19_2
                try clear hfz19_3
                try clear hfz19_4
                try clear hfz5_0
                try clear hfz5_1
                try clear hfz5_2
                try clear hfz5_3
                try clear hfz5_4
                try clear hfz7_0
                try clear hfz7_1
                try clear hfz7_2
                try clear hfz7_3
                try clear hfz7_4
                try clear hfz9_0
                try clear hfz9_1
                try clear hfz9_2
                try clear hfz9_3
                try clear hfz9_4
                try clear hx457_0
                try clear hx457_1
                try clear hx458_0
                try clear hx458_1
                try clear p2
                try clear p457
                try clear p458
                try clear q457
                try clear q458
                obtain ⟨x4_3, rfl, HA, HK3, BK456, HB⟩ := hrel
                cases gk with
                | zero => exact absurd HA.out (by simp [rillbedlaw18_few.l1])
                | succ k3 =>
                  have H := HA.out
                  clear HA
                  simp only [rillbedlaw18_few.l1] at H
                  by_cases c20 : x4_3 < (l0_2.length : Int)
                  · rw [if_pos c20] at H
                    have c20b0 : decide (x4_3 < (l0_2.length : Int)) = true := decide_eq_true c20
                    clear c20
                    by_cases c21 : 0 ≤ x4_3
                    · rw [if_pos c21] at H
                      have c21b0 : decide (0 ≤ x4_3) = true := decide_eq_true c21
                      clear c21
                      by_cases c22 : ((rdOf ByteArray.empty l0_2 x4_3).size : Int) > 300
                      · rw [if_pos c22] at H
                        have c22b0 : decide (300 < ((rdOf ByteArray.empty l0_2 x4_3).size : Int)) = true := decide_eq_true c22
                        have c22b1 : decide (300 < (rdOf ByteArray.empty l0_2 x4_3).size) = true := decide_eq_true (by omega)
                        clear c22
                        obtain rfl := Option.some.inj H
                        have hcz23_0 : wr.cell? ⟨gb456, 0, none⟩ = some (.bool a0_0) := (blk_cell BK456.out 0).trans rfl
                        have hcz23_1 : wr.cell? ⟨gb456, 1, none⟩ = some (.slice A0_1 l0_1.length c0_1) := (blk_cell BK456.out 1).trans rfl
                        have hcz23_2 : wr.cell? ⟨gb456, 2, none⟩ = some (.slice A0_2 l0_2.length c0_2) := (blk_cell BK456.out 2).trans rfl
                        have hcz23_3 : wr.cell? ⟨gb456, 3, none⟩ = some (.slice A0_3 l0_3.length c0_3) := (blk_cell BK456.out 3).trans rfl
                        have hcz23_4 : wr.cell? ⟨gb456, 4, none⟩ = some (.slice A0_4 l0_4.length c0_4) := (blk_cell BK456.out 4).trans rfl
                        have hfz23_0 := blk_frozen BK456.out 0
                        have hfz23_1 := blk_frozen BK456.out 1
                        have hfz23_2 := blk_frozen BK456.out 2
                        have hfz23_3 := blk_frozen BK456.out 3
                        have hfz23_4 := blk_frozen BK456.out 4
                        have p459 : 0 ≤ (x4_3 : Int) := of_decide_eq_true (by first | (with_reducible assumption) | assumption)
                        have q459 : x4_3 < (l0_2.length : Int) := of_decide_eq_true (by first | (with_reducible assumption) | assumption)
                        obtain ⟨ad459, e459, hx459_0⟩ := Kd.at_string HR0_2.out x4_3 p459 q459
                        cases e459
                        replace hx459_0 := (HB.out.cell (World.block_lt_of_cell? w _ hx459_0)).trans hx459_0
                        replace p459 := eq_true p459
                        replace q459 := eq_true q459
                        go_wp2
                        go_ret
                        exact ⟨by first | rfl | (simp [errW_none, errW_some] <;> rfl) | (simp [*, errW_none, errW_some] <;> rfl), by repeat (first | (with_reducible first | exact HB.out | apply below_alloc | apply pw_below_drewN | apply below_drew1 | refine below_set ?_ GE456.out) | exact HB.out)⟩
                      · rw [if_neg c22] at H
                        have c22b0 : decide (300 < ((rdOf ByteArray.empty l0_2 x4_3).size : Int)) = false := decide_eq_false c22
                        have c22b1 : decide (300 < (rdOf ByteArray.empty l0_2 x4_3).size) = false := decide_eq_false (by omega)
                        clear c22
                        have H' := Aside0.mk H
                        clear H
                        have hcz24_0 : wr.cell? ⟨gb456, 0, none⟩ = some (.bool a0_0) := (blk_cell BK456.out 0).trans rfl
                        have hcz24_1 : wr.cell? ⟨gb456, 1, none⟩ = some (.slice A0_1 l0_1.length c0_1) := (blk_cell BK456.out 1).trans rfl
                        have hcz24_2 : wr.cell? ⟨gb456, 2, none⟩ = some (.slice A0_2 l0_2.length c0_2) := (blk_cell BK456.out 2).trans rfl
                        have hcz24_3 : wr.cell? ⟨gb456, 3, none⟩ = some (.slice A0_3 l0_3.length c0_3) := (blk_cell BK456.out 3).trans rfl
                        have hcz24_4 : wr.cell? ⟨gb456, 4, none⟩ = some (.slice A0_4 l0_4.length c0_4) := (blk_cell BK456.out 4).trans rfl
                        have hfz24_0 := blk_frozen BK456.out 0
                        have hfz24_1 := blk_frozen BK456.out 1
                        have hfz24_2 := blk_frozen BK456.out 2
                        have hfz24_3 := blk_frozen BK456.out 3
                        have hfz24_4 := blk_frozen BK456.out 4
                        have p459 : 0 ≤ (x4_3 : Int) := of_decide_eq_true (by first | (with_reducible assumption) | assumption)
                        have q459 : x4_3 < (l0_2.length : Int) := of_decide_eq_true (by first | (with_reducible assumption) | assumption)
                        obtain ⟨ad459, e459, hx459_0⟩ := Kd.at_string HR0_2.out x4_3 p459 q459
                        cases e459
                        replace hx459_0 := (HB.out.cell (World.block_lt_of_cell? w _ hx459_0)).trans hx459_0
                        replace p459 := eq_true p459
                        replace q459 := eq_true q459
                        go_wp2
                        go_roundg k3
                        case measure => have := HJ1.out; have := HK2.out; have := HK3.out; omega
                        case rel => exact ⟨(wrap64 (x4_3 + 1)), (by first | rfl | (simp; done) | (simp [*]; done)), H', ⟨by have := HJ1.out; have := HK2.out; have := HK3.out; omega⟩, ⟨by (with_reducible repeat (first | refine blk_drewN ?_ _ | refine blk_drew ?_ | refine blk_alloc ?_ _)); exact BK456.out⟩, ⟨by repeat (first | (with_reducible first | exact HB.out | apply below_alloc | apply pw_below_drewN | apply below_drew1 | refine below_set ?_ GE456.out) | exact HB.out)⟩⟩
                    · rw [if_neg c21] at H
                      exact absurd H (by simp)
                  · rw [if_neg c20] at H
                    have c20b0 : decide (x4_3 < (l0_2.length : Int)) = false := decide_eq_false c20
                    clear c20
                    have H' := Aside0.mk H
                    clear H
                    have hcz25_0 : wr.cell? ⟨gb456, 0, none⟩ = some (.bool a0_0) := (blk_cell BK456.out 0).trans rfl
                    have hcz25_1 : wr.cell? ⟨gb456, 1, none⟩ = some (.slice A0_1 l0_1.length c0_1) := (blk_cell BK456.out 1).trans rfl
                    have hcz25_2 : wr.cell? ⟨gb456, 2, none⟩ = some (.slice A0_2 l0_2.length c0_2) := (blk_cell BK456.out 2).trans rfl
                    have hcz25_3 : wr.cell? ⟨gb456, 3, none⟩ = some (.slice A0_3 l0_3.length c0_3) := (blk_cell BK456.out 3).trans rfl
                    have hcz25_4 : wr.cell? ⟨gb456, 4, none⟩ = some (.slice A0_4 l0_4.length c0_4) := (blk_cell BK456.out 4).trans rfl
                    have hfz25_0 := blk_frozen BK456.out 0
                    have hfz25_1 := blk_frozen BK456.out 1
                    have hfz25_2 := blk_frozen BK456.out 2
                    have hfz25_3 := blk_frozen BK456.out 3
                    have hfz25_4 := blk_frozen BK456.out 4
                    go_wp2
                    go_loopg [5] k3 (fun kq v5 w' => ∃ (x5_4 : Int), v5 = .int .i64 x5_4 ∧ Aside0 (rillbedlaw18_few.l2 kq x5_4 a0_0 l0_1 l0_2 l0_3 l0_4 = some r) ∧ Aside0 (kq ≤ k3) ∧ Aside0 (w'.heap[gb456]? = some (.cells #[.bool a0_0, (.slice A0_1 l0_1.length c0_1), (.slice A0_2 l0_2.length c0_2), (.slice A0_3 l0_3.length c0_3), (.slice A0_4 l0_4.length c0_4)] 28 (0, 0))) ∧ Aside0 (Below w.heap.size w w'))
                    case atStart => exact ⟨(0), (by first | rfl | (simp; done) | (simp [*]; done)), H', ⟨Nat.le_refl _⟩, ⟨by (with_reducible repeat (first | refine blk_drewN ?_ _ | refine blk_drew ?_ | refine blk_alloc ?_ _)); exact BK456.out⟩, ⟨by repeat (first | (with_reducible first | exact HB.out | apply below_alloc | apply pw_below_drewN | apply below_drew1 | refine below_set ?_ GE456.out) | exact HB.out)⟩⟩
                    case round =>
                      clear H'
                      try clear c1
                      try clear c2
                      try clear p2
                      try clear c4
                      try clear c4b0
                      try clear c4b1
                      try clear p4
                      try clear q4
                      try clear hx4
                      try clear c6
                      try clear c6b0
                      try clear c6b1
                      try clear p6
                      try clear c8
                      try clear c8b0
                      try clear c8b1
                      try clear c11
                      try clear c12
                      try clear c12b0
                      try clear c13
                      try clear c13b0
                      try clear c14
                      try clear c14b0
                      try clear c14b1
                      try clear c16
                      try clear c16b0
                      try clear c16b1
                      try clear c20
                      try clear c20b0
                      try clear c21
                      try clear c21b0
                      try clear c22
                      try clear c22b0
                      try clear c22b1
                      try clear hcz10_0
                      try clear hcz10_1
                      try clear hcz10_2
                      try clear hcz10_3
                      try clear hcz10_4
                      try clear hcz15_0
                      try clear hcz15_1
                      try clear hcz15_2
                      try clear hcz15_3
                      try clear hcz15_4
                      try clear hcz17_0
                      try clear hcz17_1
                      try clear hcz17_2
                      try clear hcz17_3
                      try clear hcz17_4
                      try clear hcz18_0
                      try clear hcz18_1
                      try clear hcz18_2
                      try clear hcz18_3
                      try clear hcz18_4
                      try clear hcz19_0
                      try clear hcz19_1
                      try clear hcz19_2
                      try clear hcz19_3
                      try clear hcz19_4
                      try clear hcz23_0
                      try clear hcz23_1
                      try clear hcz23_2
                      try clear hcz23_3
                      try clear hcz23_4
                      try clear hcz24_0
                      try clear hcz24_1
                      try clear hcz24_2
                      try clear hcz24_3
                      try clear hcz24_4
                      try clear hcz25_0
                      try clear hcz25_1
                      try clear hcz25_2
                      try clear hcz25_3
                      try clear hcz25_4
                      try clear hcz5_0
                      try clear hcz5_1
                      try clear hcz5_2
                      try clear hcz5_3
                      try clear hcz5_4
                      try clear hcz7_0
                      try clear hcz7_1
                      try clear hcz7_2
                      try clear hcz7_3
                      try clear hcz7_4
                      try clear hcz9_0
                      try clear hcz9_1
                      try clear hcz9_2
                      try clear hcz9_3
                      try clear hcz9_4
                      try clear hfz10_0
                      try clear hfz10_1
                      try clear hfz10_2
                      try clear hfz10_3
                      try clear hfz10_4
                      try clear hfz15_0
                      try clear hfz15_1
                      try clear hfz15_2
                      try clear hfz15_3
                      try clear hfz15_4
                      try clear hfz17_0
                      try clear hfz17_1
                      try clear hfz17_2
                      try clear hfz17_3
                      try clear hfz17_4
                      try clear hfz18_0
                      try clear hfz18_1
                      try clear hfz18_2
                      try clear hfz18_3
                      try clear hfz18_4
                      try clear hfz19_0
                      try clear hfz19_1
                      try clear hfz19_2
                      try clear hfz19_3
                      try clear hfz19_4
                      try clear hfz23_0
                      try clear hfz23_1
                      try clear hfz23_2
                      try clear hfz23_3
                      try clear hfz23_4
                      try clear hfz24_0
                      try clear hfz24_1
                      try clear hfz24_2
                      try clear hfz24_3
                      try clear hfz24_4
                      try clear hfz25_0
                      try clear hfz25_1
                      try clear hfz25_2
                      try clear hfz25_3
                      try clear hfz25_4
                      try clear hfz5_0
                      try clear hfz5_1
                      try clear hfz5_2
                      try clear hfz5_3
                      try clear hfz5_4
                      try clear hfz7_0
                      try clear hfz7_1
                      try clear hfz7_2
                      try clear hfz7_3
                      try clear hfz7_4
                      try clear hfz9_0
                      try clear hfz9_1
                      try clear hfz9_2
                      try clear hfz9_3
                      try clear hfz9_4
                      try clear hx457_0
                      try clear hx457_1
                      try clear hx458_0
                      try clear hx458_1
                      try clear hx459_0
                      try clear p2
                      try clear p4
                      try clear p457
                      try clear p458
                      try clear p459
                      try clear p6
                      try clear q4
                      try clear q457
                      try clear q458
                      try clear q459
                      obtain ⟨x5_4, rfl, HA, HK4, BK456, HB⟩ := hrel
                      cases gk with
                      | zero => exact absurd HA.out (by simp [rillbedlaw18_few.l2])
                      | succ k4 =>
                        have H := HA.out
                        clear HA
                        simp only [rillbedlaw18_few.l2] at H
                        by_cases c26 : x5_4 < (l0_4.length : Int)
                        · rw [if_pos c26] at H
                          have c26b0 : decide (x5_4 < (l0_4.length : Int)) = true := decide_eq_true c26
                          clear c26
                          by_cases c27 : 0 ≤ x5_4
                          · rw [if_pos c27] at H
                            have c27b0 : decide (0 ≤ x5_4) = true := decide_eq_true c27
                            clear c27
                            by_cases c28 : (((rd_T59 l0_4 x5_4).f1).size : Int) > 300
                            · rw [if_pos c28] at H
                              have c28b0 : decide (300 < (((rd_T59 l0_4 x5_4).f1).size : Int)) = true := decide_eq_true c28
                              have c28b1 : decide (300 < ((rd_T59 l0_4 x5_4).f1).size) = true := decide_eq_true (by omega)
                              clear c28
                              obtain rfl := Option.some.inj H
                              have hcz29_0 : wr.cell? ⟨gb456, 0, none⟩ = some (.bool a0_0) := (blk_cell BK456.out 0).trans rfl
                              have hcz29_1 : wr.cell? ⟨gb456, 1, none⟩ = some (.slice A0_1 l0_1.length c0_1) := (blk_cell BK456.out 1).trans rfl
                              have hcz29_2 : wr.cell? ⟨gb456, 2, none⟩ = some (.slice A0_2 l0_2.length c0_2) := (blk_cell BK456.out 2).trans rfl
                              have hcz29_3 : wr.cell? ⟨gb456, 3, none⟩ = some (.slice A0_3 l0_3.length c0_3) := (blk_cell BK456.out 3).trans rfl
                              have hcz29_4 : wr.cell? ⟨gb456, 4, none⟩ = some (.slice A0_4 l0_4.length c0_4) := (blk_cell BK456.out 4).trans rfl
                              have hfz29_0 := blk_frozen BK456.out 0
                              have hfz29_1 := blk_frozen BK456.out 1
                              have hfz29_2 := blk_frozen BK456.out 2
                              have hfz29_3 := blk_frozen BK456.out 3
                              have hfz29_4 := blk_frozen BK456.out 4
                              have p460 : 0 ≤ (x5_4 : Int) := of_decide_eq_true (by first | (with_reducible assumption) | assumption)
                              have q460 : x5_4 < (l0_4.length : Int) := of_decide_eq_true (by first | (with_reducible assumption) | assumption)
                              obtain ⟨ad460, e460, hx460_0, hx460_1, hx460_2, hx460_3⟩ := at_T59 HR0_4.out x5_4 p460 q460
                              cases e460
                              replace hx460_0 := (HB.out.cell (World.block_lt_of_cell? w _ hx460_0)).trans hx460_0
                              replace hx460_1 := (HB.out.cell (World.block_lt_of_cell? w _ hx460_1)).trans hx460_1
                              replace hx460_2 := (HB.out.cell (World.block_lt_of_cell? w _ hx460_2)).trans hx460_2
                              replace hx460_3 := (HB.out.cell (World.block_lt_of_cell? w _ hx460_3)).trans hx460_3
                              replace p460 := eq_true p460
                              replace q460 := eq_true q460
                              go_wp2
                              go_ret
                              exact ⟨by first | rfl | (simp [errW_none, errW_some] <;> rfl) | (simp [*, errW_none, errW_some] <;> rfl), by repeat (first | (with_reducible first | exact HB.out | apply below_alloc | apply pw_below_drewN | apply below_drew1 | refine below_set ?_ GE456.out) | exact HB.out)⟩
                            · rw [if_neg c28] at H
                              have c28b0 : decide (300 < (((rd_T59 l0_4 x5_4).f1).size : Int)) = false := decide_eq_false c28
                              have c28b1 : decide (300 < ((rd_T59 l0_4 x5_4).f1).size) = false := decide_eq_false (by omega)
                              clear c28
                              by_cases c30 : (((rd_T59 l0_4 x5_4).f2).size : Int) > 300
                              · rw [if_pos c30] at H
                                have c30b0 : decide (300 < (((rd_T59 l0_4 x5_4).f2).size : Int)) = true := decide_eq_true c30
                                have c30b1 : decide (300 < ((rd_T59 l0_4 x5_4).f2).size) = true := decide_eq_true (by omega)
                                clear c30
                                obtain rfl := Option.some.inj H
                                have hcz31_0 : wr.cell? ⟨gb456, 0, none⟩ = some (.bool a0_0) := (blk_cell BK456.out 0).trans rfl
                                have hcz31_1 : wr.cell? ⟨gb456, 1, none⟩ = some (.slice A0_1 l0_1.length c0_1) := (blk_cell BK456.out 1).trans rfl
                                have hcz31_2 : wr.cell? ⟨gb456, 2, none⟩ = some (.slice A0_2 l0_2.length c0_2) := (blk_cell BK456.out 2).trans rfl
                                have hcz31_3 : wr.cell? ⟨gb456, 3, none⟩ = some (.slice A0_3 l0_3.length c0_3) := (blk_cell BK456.out 3).trans rfl
                                have hcz31_4 : wr.cell? ⟨gb456, 4, none⟩ = some (.slice A0_4 l0_4.length c0_4) := (blk_cell BK456.out 4).trans rfl
                                have hfz31_0 := blk_frozen BK456.out 0
                                have hfz31_1 := blk_frozen BK456.out 1
                                have hfz31_2 := blk_frozen BK456.out 2
                                have hfz31_3 := blk_frozen BK456.out 3
                                have hfz31_4 := blk_frozen BK456.out 4
                                have p460 : 0 ≤ (x5_4 : Int) := of_decide_eq_true (by first | (with_reducible assumption) | assumption)
                                have q460 : x5_4 < (l0_4.length : Int) := of_decide_eq_true (by first | (with_reducible assumption) | assumption)
                                obtain ⟨ad460, e460, hx460_0, hx460_1, hx460_2, hx460_3⟩ := at_T59 HR0_4.out x5_4 p460 q460
                                cases e460
                                replace hx460_0 := (HB.out.cell (World.block_lt_of_cell? w _ hx460_0)).trans hx460_0
                                replace hx460_1 := (HB.out.cell (World.block_lt_of_cell? w _ hx460_1)).trans hx460_1
                                replace hx460_2 := (HB.out.cell (World.block_lt_of_cell? w _ hx460_2)).trans hx460_2
                                replace hx460_3 := (HB.out.cell (World.block_lt_of_cell? w _ hx460_3)).trans hx460_3
                                replace p460 := eq_true p460
                                replace q460 := eq_true q460
                                have p461 : 0 ≤ (x5_4 : Int) := of_decide_eq_true (by first | (with_reducible assumption) | assumption)
                                have q461 : x5_4 < (l0_4.length : Int) := of_decide_eq_true (by first | (with_reducible assumption) | assumption)
                                obtain ⟨ad461, e461, hx461_0, hx461_1, hx461_2, hx461_3⟩ := at_T59 HR0_4.out x5_4 p461 q461
                                obtain rfl : ad460 = ad461 := (by injection e461)
                                replace hx461_0 := (HB.out.cell (World.block_lt_of_cell? w _ hx461_0)).trans hx461_0
                                replace hx461_1 := (HB.out.cell (World.block_lt_of_cell? w _ hx461_1)).trans hx461_1
                                replace hx461_2 := (HB.out.cell (World.block_lt_of_cell? w _ hx461_2)).trans hx461_2
                                replace hx461_3 := (HB.out.cell (World.block_lt_of_cell? w _ hx461_3)).trans hx461_3
                                replace p461 := eq_true p461
                                replace q461 := eq_true q461
                                go_wp2
                                go_ret
                                exact ⟨by first | rfl | (simp [errW_none, errW_some] <;> rfl) | (simp [*, errW_none, errW_some] <;> rfl), by repeat (first | (with_reducible first | exact HB.out | apply below_alloc | apply pw_below_drewN | apply below_drew1 | refine below_set ?_ GE456.out) | exact HB.out)⟩
                              · rw [if_neg c30] at H
                                have c30b0 : decide (300 < (((rd_T59 l0_4 x5_4).f2).size : Int)) = false := decide_eq_false c30
                                have c30b1 : decide (300 < ((rd_T59 l0_4 x5_4).f2).size) = false := decide_eq_false (by omega)
                                clear c30
                                by_cases c32 : (((rd_T59 l0_4 x5_4).f3).size : Int) > 300
                                · rw [if_pos c32] at H
                                  have c32b0 : decide (300 < (((rd_T59 l0_4 x5_4).f3).size : Int)) = true := decide_eq_true c32
                                  have c32b1 : decide (300 < ((rd_T59 l0_4 x5_4).f3).size) = true := decide_eq_true (by omega)
                                  clear c32
                                  obtain rfl := Option.some.inj H
                                  have hcz33_0 : wr.cell? ⟨gb456, 0, none⟩ = some (.bool a0_0) := (blk_cell BK456.out 0).trans rfl
                                  have hcz33_1 : wr.cell? ⟨gb456, 1, none⟩ = some (.slice A0_1 l0_1.length c0_1) := (blk_cell BK456.out 1).trans rfl
                                  have hcz33_2 : wr.cell? ⟨gb456, 2, none⟩ = some (.slice A0_2 l0_2.length c0_2) := (blk_cell BK456.out 2).trans rfl
                                  have hcz33_3 : wr.cell? ⟨gb456, 3, none⟩ = some (.slice A0_3 l0_3.length c0_3) := (blk_cell BK456.out 3).trans rfl
                                  have hcz33_4 : wr.cell? ⟨gb456, 4, none⟩ = some (.slice A0_4 l0_4.length c0_4) := (blk_cell BK456.out 4).trans rfl
                                  have hfz33_0 := blk_frozen BK456.out 0
                                  have hfz33_1 := blk_frozen BK456.out 1
                                  have hfz33_2 := blk_frozen BK456.out 2
                                  have hfz33_3 := blk_frozen BK456.out 3
                                  have hfz33_4 := blk_frozen BK456.out 4
                                  have p460 : 0 ≤ (x5_4 : Int) := of_decide_eq_true (by first | (with_reducible assumption) | assumption)
                                  have q460 : x5_4 < (l0_4.length : Int) := of_decide_eq_true (by first | (with_reducible assumption) | assumption)
                                  obtain ⟨ad460, e460, hx460_0, hx460_1, hx460_2, hx460_3⟩ := at_T59 HR0_4.out x5_4 p460 q460
                                  cases e460
                                  replace hx460_0 := (HB.out.cell (World.block_lt_of_cell? w _ hx460_0)).trans hx460_0
                                  replace hx460_1 := (HB.out.cell (World.block_lt_of_cell? w _ hx460_1)).trans hx460_1
                                  replace hx460_2 := (HB.out.cell (World.block_lt_of_cell? w _ hx460_2)).trans hx460_2
                                  replace hx460_3 := (HB.out.cell (World.block_lt_of_cell? w _ hx460_3)).trans hx460_3
                                  replace p460 := eq_true p460
                                  replace q460 := eq_true q460
                                  have p461 : 0 ≤ (x5_4 : Int) := of_decide_eq_true (by first | (with_reducible assumption) | assumption)
                                  have q461 : x5_4 < (l0_4.length : Int) := of_decide_eq_true (by first | (with_reducible assumption) | assumption)
                                  obtain ⟨ad461, e461, hx461_0, hx461_1, hx461_2, hx461_3⟩ := at_T59 HR0_4.out x5_4 p461 q461
                                  obtain rfl : ad460 = ad461 := (by injection e461)
                                  replace hx461_0 := (HB.out.cell (World.block_lt_of_cell? w _ hx461_0)).trans hx461_0
                                  replace hx461_1 := (HB.out.cell (World.block_lt_of_cell? w _ hx461_1)).trans hx461_1
                                  replace hx461_2 := (HB.out.cell (World.block_lt_of_cell? w _ hx461_2)).trans hx461_2
                                  replace hx461_3 := (HB.out.cell (World.block_lt_of_cell? w _ hx461_3)).trans hx461_3
                                  replace p461 := eq_true p461
                                  replace q461 := eq_true q461
                                  have p462 : 0 ≤ (x5_4 : Int) := of_decide_eq_true (by first | (with_reducible assumption) | assumption)
                                  have q462 : x5_4 < (l0_4.length : Int) := of_decide_eq_true (by first | (with_reducible assumption) | assumption)
                                  obtain ⟨ad462, e462, hx462_0, hx462_1, hx462_2, hx462_3⟩ := at_T59 HR0_4.out x5_4 p462 q462
                                  obtain rfl : ad460 = ad462 := (by injection e462)
                                  replace hx462_0 := (HB.out.cell (World.block_lt_of_cell? w _ hx462_0)).trans hx462_0
                                  replace hx462_1 := (HB.out.cell (World.block_lt_of_cell? w _ hx462_1)).trans hx462_1
                                  replace hx462_2 := (HB.out.cell (World.block_lt_of_cell? w _ hx462_2)).trans hx462_2
                                  replace hx462_3 := (HB.out.cell (World.block_lt_of_cell? w _ hx462_3)).trans hx462_3
                                  replace p462 := eq_true p462
                                  replace q462 := eq_true q462
                                  go_wp2
                                  go_ret
                                  exact ⟨by first | rfl | (simp [errW_none, errW_some] <;> rfl) | (simp [*, errW_none, errW_some] <;> rfl), by repeat (first | (with_reducible first | exact HB.out | apply below_alloc | apply pw_below_drewN | apply below_drew1 | refine below_set ?_ GE456.out) | exact HB.out)⟩
                                · rw [if_neg c32] at H
                                  have c32b0 : decide (300 < (((rd_T59 l0_4 x5_4).f3).size : Int)) = false := decide_eq_false c32
                                  have c32b1 : decide (300 < ((rd_T59 l0_4 x5_4).f3).size) = false := decide_eq_false (by omega)
                                  clear c32
                                  have H' := Aside0.mk H
                                  clear H
                                  have hcz34_0 : wr.cell? ⟨gb456, 0, none⟩ = some (.bool a0_0) := (blk_cell BK456.out 0).trans rfl
                                  have hcz34_1 : wr.cell? ⟨gb456, 1, none⟩ = some (.slice A0_1 l0_1.length c0_1) := (blk_cell BK456.out 1).trans rfl
                                  have hcz34_2 : wr.cell? ⟨gb456, 2, none⟩ = some (.slice A0_2 l0_2.length c0_2) := (blk_cell BK456.out 2).trans rfl
                                  have hcz34_3 : wr.cell? ⟨gb456, 3, none⟩ = some (.slice A0_3 l0_3.length c0_3) := (blk_cell BK456.out 3).trans rfl
                                  have hcz34_4 : wr.cell? ⟨gb456, 4, none⟩ = some (.slice A0_4 l0_4.length c0_4) := (blk_cell BK456.out 4).trans rfl
                                  have hfz34_0 := blk_frozen BK456.out 0
                                  have hfz34_1 := blk_frozen BK456.out 1
                                  have hfz34_2 := blk_frozen BK456.out 2
                                  have hfz34_3 := blk_frozen BK456.out 3
                                  have hfz34_4 := blk_frozen BK456.out 4
                                  have p460 : 0 ≤ (x5_4 : Int) := of_decide_eq_true (by first | (with_reducible assumption) | assumption)
                                  have q460 : x5_4 < (l0_4.length : Int) := of_decide_eq_true (by first | (with_reducible assumption) | assumption)
                                  obtain ⟨ad460, e460, hx460_0, hx460_1, hx460_2, hx460_3⟩ := at_T59 HR0_4.out x5_4 p460 q460
                                  cases e460
                                  replace hx460_0 := (HB.out.cell (World.block_lt_of_cell? w _ hx460_0)).trans hx460_0
                                  replace hx460_1 := (HB.out.cell (World.block_lt_of_cell? w _ hx460_1)).trans hx460_1
                                  replace hx460_2 := (HB.out.cell (World.block_lt_of_cell? w _ hx460_2)).trans hx460_2
                                  replace hx460_3 := (HB.out.cell (World.block_lt_of_cell? w _ hx460_3)).trans hx460_3
                                  replace p460 := eq_true p460
                                  replace q460 := eq_true q460
                                  have p461 : 0 ≤ (x5_4 : Int) := of_decide_eq_true (by first | (with_reducible assumption) | assumption)
                                  have q461 : x5_4 < (l0_4.length : Int) := of_decide_eq_true (by first | (with_reducible assumption) | assumption)
                                  obtain ⟨ad461, e461, hx461_0, hx461_1, hx461_2, hx461_3⟩ := at_T59 HR0_4.out x5_4 p461 q461
                                  obtain rfl : ad460 = ad461 := (by injection e461)
                                  replace hx461_0 := (HB.out.cell (World.block_lt_of_cell? w _ hx461_0)).trans hx461_0
                                  replace hx461_1 := (HB.out.cell (World.block_lt_of_cell? w _ hx461_1)).trans hx461_1
                                  replace hx461_2 := (HB.out.cell (World.block_lt_of_cell? w _ hx461_2)).trans hx461_2
                                  replace hx461_3 := (HB.out.cell (World.block_lt_of_cell? w _ hx461_3)).trans hx461_3
                                  replace p461 := eq_true p461
                                  replace q461 := eq_true q461
                                  have p462 : 0 ≤ (x5_4 : Int) := of_decide_eq_true (by first | (with_reducible assumption) | assumption)
                                  have q462 : x5_4 < (l0_4.length : Int) := of_decide_eq_true (by first | (with_reducible assumption) | assumption)
                                  obtain ⟨ad462, e462, hx462_0, hx462_1, hx462_2, hx462_3⟩ := at_T59 HR0_4.out x5_4 p462 q462
                                  obtain rfl : ad460 = ad462 := (by injection e462)
                                  replace hx462_0 := (HB.out.cell (World.block_lt_of_cell? w _ hx462_0)).trans hx462_0
                                  replace hx462_1 := (HB.out.cell (World.block_lt_of_cell? w _ hx462_1)).trans hx462_1
                                  replace hx462_2 := (HB.out.cell (World.block_lt_of_cell? w _ hx462_2)).trans hx462_2
                                  replace hx462_3 := (HB.out.cell (World.block_lt_of_cell? w _ hx462_3)).trans hx462_3
                                  replace p462 := eq_true p462
                                  replace q462 := eq_true q462
                                  go_wp2
                                  go_roundg k4
                                  case measure => have := HJ1.out; have := HK2.out; have := HK3.out; have := HK4.out; omega
                                  case rel => exact ⟨(wrap64 (x5_4 + 1)), (by first | rfl | (simp; done) | (simp [*]; done)), H', ⟨by have := HJ1.out; have := HK2.out; have := HK3.out; have := HK4.out; omega⟩, ⟨by (with_reducible repeat (first | refine blk_drewN ?_ _ | refine blk_drew ?_ | refine blk_alloc ?_ _)); exact BK456.out⟩, ⟨by repeat (first | (with_reducible first | exact HB.out | apply below_alloc | apply pw_below_drewN | apply below_drew1 | refine below_set ?_ GE456.out) | exact HB.out)⟩⟩
                          · rw [if_neg c27] at H
                            exact absurd H (by simp)
                        · rw [if_neg c26] at H
                          have c26b0 : decide (x5_4 < (l0_4.length : Int)) = false := decide_eq_false c26
                          clear c26
                          obtain rfl := Option.some.inj H
                          have hcz35_0 : wr.cell? ⟨gb456, 0, none⟩ = some (.bool a0_0) := (blk_cell BK456.out 0).trans rfl
                          have hcz35_1 : wr.cell? ⟨gb456, 1, none⟩ = some (.slice A0_1 l0_1.length c0_1) := (blk_cell BK456.out 1).trans rfl
                          have hcz35_2 : wr.cell? ⟨gb456, 2, none⟩ = some (.slice A0_2 l0_2.length c0_2) := (blk_cell BK456.out 2).trans rfl
                          have hcz35_3 : wr.cell? ⟨gb456, 3, none⟩ = some (.slice A0_3 l0_3.length c0_3) := (blk_cell BK456.out 3).trans rfl
                          have hcz35_4 : wr.cell? ⟨gb456, 4, none⟩ = some (.slice A0_4 l0_4.length c0_4) := (blk_cell BK456.out 4).trans rfl
                          have hfz35_0 := blk_frozen BK456.out 0
                          have hfz35_1 := blk_frozen BK456.out 1
                          have hfz35_2 := blk_frozen BK456.out 2
                          have hfz35_3 := blk_frozen BK456.out 3
                          have hfz35_4 := blk_frozen BK456.out 4
                          go_wp2
                          go_ret
                          exact ⟨by first | rfl | (simp [errW_none, errW_some] <;> rfl) | (simp [*, errW_none, errW_some] <;> rfl), by repeat (first | (with_reducible first | exact HB.out | apply below_alloc | apply pw_below_drewN | apply below_drew1 | refine below_set ?_ GE456.out) | exact HB.out)⟩

end Go.Proofs.Ytnoimnijoklkdaa.Px
