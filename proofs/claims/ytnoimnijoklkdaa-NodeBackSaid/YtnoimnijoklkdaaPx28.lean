-- PRINTED by print.py (a twelfth state) out of the translation. Not trusted: Lean checks it.
import Derived.Test.YtnoimnijoklkdaaPx0
import Derived.Test.YtnoimnijoklkdaaPx11
import Derived.Test.YtnoimnijoklkdaaPx12
import Derived.Test.YtnoimnijoklkdaaPx13
import Derived.Test.YtnoimnijoklkdaaPx27
import Derived.Test.YtnoimnijoklkdaaNxTake
namespace Go.Proofs.Ytnoimnijoklkdaa.Px
open Go.RowKit Go.Proofs.YtnoimnijoklkdaaW.PrintWords Go.Proofs.YtnoimnijoklkdaaW.PrintLast Go.Proofs.YtnoimnijoklkdaaW.PrintMore
attribute [local go_sem] max2_int min2_int max_two min_two max_three min_three max_four min_four px_leq px_gtr px_geq   -- for this text's walks alone
set_option linter.unusedVariables false
set_option linter.unusedSimpArgs false

/-! ### rillbedlaw18_NodeBack: function 4 -/
mutual
def rillbedlaw18_NodeBack.j0 : Nat → ByteArray → Int → Bool → Bool → List (S75) → List ByteArray → List Int → List (S59) → Option (Bool)
  | 0, _, _, _, _, _, _, _, _ => none
  | k + 1, x1, x2, x22, x464000, x464001, x464002, x464003, x464004 => if x22 = true then ((rillbedlaw18_works.f k).bind fun t465 => (some t465)) else ((node_Put.f x464000 x464001 x464002 x464003 x464004).bind fun bt466 => (if bt466.2 = 0 then ((node_Take.f bt466.1).bind fun bt468 => (if bt468.2.2.2.2.2 = 0 then ((node_Same.f k bt468.1 bt468.2.1 bt468.2.2.1 bt468.2.2.2.1 bt468.2.2.2.2.1 x464000 x464001 x464002 x464003 x464004).bind fun t483 => (if t483 = true then (if (bt466.1.size : Int) = 0 then (none) else ((node_Size.f x464000 x464001 x464002 x464003 x464004).bind fun t484 => (if t484 = (bt466.1.size : Int) then (if 0 ≤ (Int.tmod (wrap64 (x2)) (bt466.1.size : Int)) then (if (Int.tmod (wrap64 (x2)) (bt466.1.size : Int)) ≤ (bt466.1.size : Int) then ((rillbedlaw18_fails.f k (bt466.1.extract 0 ((Int.tmod (wrap64 (x2)) (bt466.1.size : Int)) : Int).toNat) 10).bind fun t485 => (if t485 = true then (rillbedlaw18_NodeBack.j1 k x1) else (none))) else (none)) else (none)) else (none)))) else (none))) else (none))) else (rillbedlaw18_NodeBack.j1 k x1)))
def rillbedlaw18_NodeBack.j1 : Nat → ByteArray → Option (Bool)
  | 0, _ => none
  | k + 1, x1 => (node_Take.f x1).bind fun bt486 => (if bt486.2.2.2.2.2 = 0 then ((node_Put.f bt486.1 bt486.2.1 bt486.2.2.1 bt486.2.2.2.1 bt486.2.2.2.2.1).bind fun bt501 => (if bt501.1.toList = x1.toList then (if bt501.2 = 0 then ((rillbedlaw18_works.f k).bind fun t503 => (some t503)) else (none)) else (none))) else ((rillbedlaw18_fails.f k x1 bt486.2.2.2.2.2).bind fun t504 => (if t504 = true then ((rillbedlaw18_works.f k).bind fun t505 => (some t505)) else (none))))
end
def rillbedlaw18_NodeBack.f (k : Nat) (a0_0 : Bool) (l0_1 : List (S75)) (l0_2 : List ByteArray) (l0_3 : List Int) (l0_4 : List (S59)) (a1 : ByteArray) (a2 : Int) : Option (Bool) := (rillbedlaw18_few.f k a0_0 l0_1 l0_2 l0_3 l0_4).bind fun t464 => (if t464 = true then (rillbedlaw18_NodeBack.j0 k a1 a2 (decide ((a1.size : Int) > 3000)) a0_0 l0_1 l0_2 l0_3 l0_4) else (rillbedlaw18_NodeBack.j0 k a1 a2 true a0_0 l0_1 l0_2 l0_3 l0_4))
theorem rillbedlaw18_NodeBack.mono_l : ∀ k, (∀ y0 y1 y2 y3 y4 y5 y6 y7, LeO (rillbedlaw18_NodeBack.j0 k y0 y1 y2 y3 y4 y5 y6 y7) (rillbedlaw18_NodeBack.j0 (k + 1) y0 y1 y2 y3 y4 y5 y6 y7)) ∧ (∀ y0, LeO (rillbedlaw18_NodeBack.j1 k y0) (rillbedlaw18_NodeBack.j1 (k + 1) y0))
  | 0 => ⟨fun _ _ _ _ _ _ _ _ r h => by simp [rillbedlaw18_NodeBack.j0] at h, fun _ r h => by simp [rillbedlaw18_NodeBack.j1] at h⟩
  | k + 1 => by
    obtain ⟨ih0, ih1⟩ := rillbedlaw18_NodeBack.mono_l k
    refine ⟨?_, ?_⟩
    · intro y0 y1 y2 y3 y4 y5 y6 y7
      unfold rillbedlaw18_NodeBack.j0
      repeat' first
      | (with_reducible exact ih0 _ _ _ _ _ _ _ _)
      | (with_reducible exact ih1 _)
      | (with_reducible exact node_Same.mono _ _ _ _ _ _ _ _ _ _ _)
      | (with_reducible exact rillbedlaw18_fails.mono _ _ _)
      | (with_reducible exact rillbedlaw18_few.mono _ _ _ _ _ _)
      | (with_reducible exact rillbedlaw18_works.mono _)
      | (with_reducible exact LeO.refl _)
      | (with_reducible exact LeO.none _)
      | (with_reducible refine LeO.ite ?_ ?_)
      | (with_reducible refine LeO.bind ?_ (fun _ => ?_))
      | exact ih0 _ _ _ _ _ _ _ _
      | exact ih1 _
      | exact node_Same.mono _ _ _ _ _ _ _ _ _ _ _
      | exact rillbedlaw18_fails.mono _ _ _
      | exact rillbedlaw18_few.mono _ _ _ _ _ _
      | exact rillbedlaw18_works.mono _
      | exact LeO.none _
      | refine LeO.ite ?_ ?_
      | refine LeO.bind ?_ (fun _ => ?_)
    · intro y0
      unfold rillbedlaw18_NodeBack.j1
      repeat' first
      | (with_reducible exact ih0 _ _ _ _ _ _ _ _)
      | (with_reducible exact ih1 _)
      | (with_reducible exact node_Same.mono _ _ _ _ _ _ _ _ _ _ _)
      | (with_reducible exact rillbedlaw18_fails.mono _ _ _)
      | (with_reducible exact rillbedlaw18_few.mono _ _ _ _ _ _)
      | (with_reducible exact rillbedlaw18_works.mono _)
      | (with_reducible exact LeO.refl _)
      | (with_reducible exact LeO.none _)
      | (with_reducible refine LeO.ite ?_ ?_)
      | (with_reducible refine LeO.bind ?_ (fun _ => ?_))
      | exact ih0 _ _ _ _ _ _ _ _
      | exact ih1 _
      | exact node_Same.mono _ _ _ _ _ _ _ _ _ _ _
      | exact rillbedlaw18_fails.mono _ _ _
      | exact rillbedlaw18_few.mono _ _ _ _ _ _
      | exact rillbedlaw18_works.mono _
      | exact LeO.none _
      | refine LeO.ite ?_ ?_
      | refine LeO.bind ?_ (fun _ => ?_)
theorem rillbedlaw18_NodeBack.mono : ∀ a0 a1 a2 a3 a4 a5 a6 k, LeO (rillbedlaw18_NodeBack.f k a0 a1 a2 a3 a4 a5 a6) (rillbedlaw18_NodeBack.f (k + 1) a0 a1 a2 a3 a4 a5 a6) := by
  intro a0 a1 a2 a3 a4 a5 a6 k
  obtain ⟨ih0, ih1⟩ := rillbedlaw18_NodeBack.mono_l k
  unfold rillbedlaw18_NodeBack.f
  repeat' first
      | (with_reducible exact ih0 _ _ _ _ _ _ _ _)
      | (with_reducible exact ih1 _)
      | (with_reducible exact node_Same.mono _ _ _ _ _ _ _ _ _ _ _)
      | (with_reducible exact rillbedlaw18_fails.mono _ _ _)
      | (with_reducible exact rillbedlaw18_few.mono _ _ _ _ _ _)
      | (with_reducible exact rillbedlaw18_works.mono _)
      | (with_reducible exact LeO.refl _)
      | (with_reducible exact LeO.none _)
      | (with_reducible refine LeO.ite ?_ ?_)
      | (with_reducible refine LeO.bind ?_ (fun _ => ?_))
      | exact ih0 _ _ _ _ _ _ _ _
      | exact ih1 _
      | exact node_Same.mono _ _ _ _ _ _ _ _ _ _ _
      | exact rillbedlaw18_fails.mono _ _ _
      | exact rillbedlaw18_few.mono _ _ _ _ _ _
      | exact rillbedlaw18_works.mono _
      | exact LeO.none _
      | refine LeO.ite ?_ ?_
      | refine LeO.bind ?_ (fun _ => ?_)
set_option maxHeartbeats 8000000 in
set_option maxRecDepth 100000 in
theorem rillbedlaw18_NodeBack.calls (k : Nat) (a0_0 : Bool) (A0_1 : Option Addr) (c0_1 : Nat) (l0_1 : List (S75)) (A0_2 : Option Addr) (c0_2 : Nat) (l0_2 : List ByteArray) (A0_3 : Option Addr) (c0_3 : Nat) (l0_3 : List Int) (A0_4 : Option Addr) (c0_4 : Nat) (l0_4 : List (S59)) (a1 : ByteArray) (a2 : Int) (r : Bool) (w : World) (hr0_1 : Kd.C k75 w A0_1 l0_1.length l0_1) (hc0_1 : l0_1.length ≤ c0_1) (hr0_2 : Kd.C Kd.string w A0_2 l0_2.length l0_2) (hc0_2 : l0_2.length ≤ c0_2) (hr0_3 : Kd.C (Kd.int .i64) w A0_3 l0_3.length l0_3) (hc0_3 : l0_3.length ≤ c0_3) (hr0_4 : Kd.C k59 w A0_4 l0_4.length l0_4) (hc0_4 : l0_4.length ≤ c0_4) (h : rillbedlaw18_NodeBack.f k a0_0 l0_1 l0_2 l0_3 l0_4 a1 a2 = some r) :
    Calls Try.prog 4 #[.agg #[.bool a0_0, .slice A0_1 l0_1.length c0_1, .slice A0_2 l0_2.length c0_2, .slice A0_3 l0_3.length c0_3, .slice A0_4 l0_4.length c0_4], .string a1, .int .u16 a2] w fun e w' => e = .returned (.bool r) ∧ Below w.heap.size w w' := by
  have hu28 := Try.underlying28
  have HR0_1 := Aside0.mk hr0_1
  have HC0_1 := Aside0.mk hc0_1
  clear hr0_1 hc0_1
  have HR0_2 := Aside0.mk hr0_2
  have HC0_2 := Aside0.mk hc0_2
  clear hr0_2 hc0_2
  have HR0_3 := Aside0.mk hr0_3
  have HC0_3 := Aside0.mk hc0_3
  clear hr0_3 hc0_3
  have HR0_4 := Aside0.mk hr0_4
  have HC0_4 := Aside0.mk hc0_4
  clear hr0_4 hc0_4
  have HB := Aside0.mk (Below.refl w.heap.size w)
  have H : ((rillbedlaw18_few.f k a0_0 l0_1 l0_2 l0_3 l0_4).bind fun t464 => (if t464 = true then (rillbedlaw18_NodeBack.j0 k a1 a2 (decide ((a1.size : Int) > 3000)) a0_0 l0_1 l0_2 l0_3 l0_4) else (rillbedlaw18_NodeBack.j0 k a1 a2 true a0_0 l0_1 l0_2 l0_3 l0_4))) = some r := h
  clear h
  have HC4 := Aside0.mk H
  clear H
  go_enter Try.func4, Try.ntmps4
  go_upto_region 1 with (first | ((with_reducible refine gate_dst (N := 3) rfl ?_); (try (refine gate_guard (by rfl) ?_; dsimp only)); refine box_event ?hg (N := 3) ?hd (cs := #[.bool a0_0, .slice A0_1 l0_1.length c0_1, .slice A0_2 l0_2.length c0_2, .slice A0_3 l0_3.length c0_3, .slice A0_4 l0_4.length c0_4]) (t := 28) ?hr ?_; (case hd => rfl); (case hg => rfl); (case hr => first | (go_simp; done) | (go_simp; rfl)); intro gb463 hg w5 hbox hb; have n0_ := Aside0.mk (below_step (by repeat (first | (with_reducible first | exact HB.out | apply below_alloc | apply pw_below_drewN | apply below_drew1) | exact HB.out)) hb); have n1_ := Aside0.mk (hbox); have n2_ := Aside0.mk ((by rw [hg]; exact (below_size (by repeat (first | (with_reducible first | exact HB.out | apply below_alloc | apply pw_below_drewN | apply below_drew1) | exact HB.out))) : w.heap.size ≤ gb463)); have n3_ := Aside0.mk ((by rw [hg]; exact (below_size (by repeat (first | (with_reducible first | exact HB.out | apply below_alloc | apply pw_below_drewN | apply below_drew1) | exact HB.out))) : w.heap.size ≤ gb463)); clear HB; have HB := n0_; have BK463 := n1_; have GW463 := n2_; have GE463 := n3_; clear n0_ n1_ n2_ n3_; clear hb hbox hg))
  (try simp only [Act.put, List.setIfInBounds_toArray, List.set_cons_zero, List.set_cons_succ])
  go_cut [22] (fun v22 wc => ∃ (kq : Nat) (x22_3 : Bool), v22 = .bool x22_3 ∧ Aside0 (rillbedlaw18_NodeBack.j0 kq a1 a2 x22_3 a0_0 l0_1 l0_2 l0_3 l0_4 = some r) ∧ Aside0 (kq ≤ k) ∧ Aside0 (wc.heap[gb463]? = some (.cells #[.bool a0_0, (.slice A0_1 l0_1.length c0_1), (.slice A0_2 l0_2.length c0_2), (.slice A0_3 l0_3.length c0_3), (.slice A0_4 l0_4.length c0_4)] 28 (0, 0))) ∧ Aside0 (Below w.heap.size w wc))
  case first =>
    have H := HC4.out
    clear HC4
    replace H := Option.bind_eq_some_iff.mp H
    obtain ⟨t464, A60, H⟩ := H
    replace H : (if t464 = true then (rillbedlaw18_NodeBack.j0 k a1 a2 (decide ((a1.size : Int) > 3000)) a0_0 l0_1 l0_2 l0_3 l0_4) else (rillbedlaw18_NodeBack.j0 k a1 a2 true a0_0 l0_1 l0_2 l0_3 l0_4)) = some r := H
    have A6 := Aside0.mk A60
    clear A60
    by_cases c7 : t464 = true
    · subst c7
      have H1 : (rillbedlaw18_NodeBack.j0 k a1 a2 (decide ((a1.size : Int) > 3000)) a0_0 l0_1 l0_2 l0_3 l0_4) = some r := by rw [if_pos rfl] at H; exact H
      clear H
      have H := H1
      clear H1
      have H' := Aside0.mk H
      clear H
      have hcz8_0 : w5.cell? ⟨gb463, 0, none⟩ = some (.bool a0_0) := (blk_cell BK463.out 0).trans rfl
      have hcz8_1 : w5.cell? ⟨gb463, 1, none⟩ = some (.slice A0_1 l0_1.length c0_1) := (blk_cell BK463.out 1).trans rfl
      have hcz8_2 : w5.cell? ⟨gb463, 2, none⟩ = some (.slice A0_2 l0_2.length c0_2) := (blk_cell BK463.out 2).trans rfl
      have hcz8_3 : w5.cell? ⟨gb463, 3, none⟩ = some (.slice A0_3 l0_3.length c0_3) := (blk_cell BK463.out 3).trans rfl
      have hcz8_4 : w5.cell? ⟨gb463, 4, none⟩ = some (.slice A0_4 l0_4.length c0_4) := (blk_cell BK463.out 4).trans rfl
      have hfz8_0 := blk_frozen BK463.out 0
      have hfz8_1 := blk_frozen BK463.out 1
      have hfz8_2 := blk_frozen BK463.out 2
      have hfz8_3 := blk_frozen BK463.out 3
      have hfz8_4 := blk_frozen BK463.out 4
      go_wp2_with (first | ((with_reducible refine gate_callee (f := 13) rfl ?_); refine goesL_ (some 16) rfl rfl Try.func13 (by kernel_rfl) rfl #[.agg #[.bool a0_0, .slice A0_1 l0_1.length c0_1, .slice A0_2 l0_2.length c0_2, .slice A0_3 l0_3.length c0_3, .slice A0_4 l0_4.length c0_4]] rfl (by (try simp only [List.map_toArray, List.map_cons, List.map_nil]); first | done | rfl | (simp only [List.length_drop, List.length_take]; rfl)) ?_; (with_reducible refine (rillbedlaw18_few.calls k a0_0 _ _ l0_1 _ _ l0_2 _ _ l0_3 _ _ l0_4 true _ ?side1 ?side2 ?side3 ?side4 ?side5 ?side6 ?side7 ?side8 A6.out).mono ?_); (case side1 => repeat (first | exact (Kd.C_below HR0_1.out HB.out) | (with_reducible refine Kd.C_alloc ?_ _) | (with_reducible refine Kd.C_drewN ?_ _) | (with_reducible refine Kd.C_drew ?_))); (case side2 => exact HC0_1.out); (case side3 => repeat (first | exact (Kd.C_below HR0_2.out HB.out) | (with_reducible refine Kd.C_alloc ?_ _) | (with_reducible refine Kd.C_drewN ?_ _) | (with_reducible refine Kd.C_drew ?_))); (case side4 => exact HC0_2.out); (case side5 => repeat (first | exact (Kd.C_below HR0_3.out HB.out) | (with_reducible refine Kd.C_alloc ?_ _) | (with_reducible refine Kd.C_drewN ?_ _) | (with_reducible refine Kd.C_drew ?_))); (case side6 => exact HC0_3.out); (case side7 => repeat (first | exact (Kd.C_below HR0_4.out HB.out) | (with_reducible refine Kd.C_alloc ?_ _) | (with_reducible refine Kd.C_drewN ?_ _) | (with_reducible refine Kd.C_drew ?_))); (case side8 => exact HC0_4.out); rintro e w9 ⟨rfl, hb⟩; refine ⟨_, rfl, ?_⟩; have n0_ := Aside0.mk (blk_below (g := gb463) (o := .cells #[.bool a0_0, .slice A0_1 l0_1.length c0_1, .slice A0_2 l0_2.length c0_2, .slice A0_3 l0_3.length c0_3, .slice A0_4 l0_4.length c0_4] 28 (0, 0)) (by (with_reducible repeat (first | refine blk_drewN ?_ _ | refine blk_drew ?_ | refine blk_alloc ?_ _)); exact BK463.out) hb); have n1_ := Aside0.mk (below_step (by repeat (first | (with_reducible first | exact HB.out | apply below_alloc | apply pw_below_drewN | apply below_drew1 | refine below_set ?_ GE463.out) | exact HB.out)) hb); clear BK463; clear HB; have BK463 := n0_; have HB := n1_; clear n0_ n1_; (try clear hb); (try clear hb2); (try clear hk); (try clear hi)))
      go_meet
      case rel => exact ⟨_, (decide ((a1.size : Int) > 3000)), (by first | rfl | (simp; done) | (simp [*]; done)), H', ⟨by first | omega | exact Nat.le_refl _⟩, ⟨by (with_reducible repeat (first | refine blk_drewN ?_ _ | refine blk_drew ?_ | refine blk_alloc ?_ _)); exact BK463.out⟩, ⟨by repeat (first | (with_reducible first | exact HB.out | apply below_alloc | apply pw_below_drewN | apply below_drew1 | refine below_set ?_ GE463.out) | exact HB.out)⟩⟩
    · replace c7 := Bool.eq_false_iff.mpr c7
      subst c7
      have H1 : (rillbedlaw18_NodeBack.j0 k a1 a2 true a0_0 l0_1 l0_2 l0_3 l0_4) = some r := by rw [if_neg (show ¬ (false = true) by decide)] at H; exact H
      clear H
      have H := H1
      clear H1
      have H' := Aside0.mk H
      clear H
      have hcz10_0 : w5.cell? ⟨gb463, 0, none⟩ = some (.bool a0_0) := (blk_cell BK463.out 0).trans rfl
      have hcz10_1 : w5.cell? ⟨gb463, 1, none⟩ = some (.slice A0_1 l0_1.length c0_1) := (blk_cell BK463.out 1).trans rfl
      have hcz10_2 : w5.cell? ⟨gb463, 2, none⟩ = some (.slice A0_2 l0_2.length c0_2) := (blk_cell BK463.out 2).trans rfl
      have hcz10_3 : w5.cell? ⟨gb463, 3, none⟩ = some (.slice A0_3 l0_3.length c0_3) := (blk_cell BK463.out 3).trans rfl
      have hcz10_4 : w5.cell? ⟨gb463, 4, none⟩ = some (.slice A0_4 l0_4.length c0_4) := (blk_cell BK463.out 4).trans rfl
      have hfz10_0 := blk_frozen BK463.out 0
      have hfz10_1 := blk_frozen BK463.out 1
      have hfz10_2 := blk_frozen BK463.out 2
      have hfz10_3 := blk_frozen BK463.out 3
      have hfz10_4 := blk_frozen BK463.out 4
      go_wp2_with (first | ((with_reducible refine gate_callee (f := 13) rfl ?_); refine goesL_ (some 16) rfl rfl Try.func13 (by kernel_rfl) rfl #[.agg #[.bool a0_0, .slice A0_1 l0_1.length c0_1, .slice A0_2 l0_2.length c0_2, .slice A0_3 l0_3.length c0_3, .slice A0_4 l0_4.length c0_4]] rfl (by (try simp only [List.map_toArray, List.map_cons, List.map_nil]); first | done | rfl | (simp only [List.length_drop, List.length_take]; rfl)) ?_; (with_reducible refine (rillbedlaw18_few.calls k a0_0 _ _ l0_1 _ _ l0_2 _ _ l0_3 _ _ l0_4 false _ ?side1 ?side2 ?side3 ?side4 ?side5 ?side6 ?side7 ?side8 A6.out).mono ?_); (case side1 => repeat (first | exact (Kd.C_below HR0_1.out HB.out) | (with_reducible refine Kd.C_alloc ?_ _) | (with_reducible refine Kd.C_drewN ?_ _) | (with_reducible refine Kd.C_drew ?_))); (case side2 => exact HC0_1.out); (case side3 => repeat (first | exact (Kd.C_below HR0_2.out HB.out) | (with_reducible refine Kd.C_alloc ?_ _) | (with_reducible refine Kd.C_drewN ?_ _) | (with_reducible refine Kd.C_drew ?_))); (case side4 => exact HC0_2.out); (case side5 => repeat (first | exact (Kd.C_below HR0_3.out HB.out) | (with_reducible refine Kd.C_alloc ?_ _) | (with_reducible refine Kd.C_drewN ?_ _) | (with_reducible refine Kd.C_drew ?_))); (case side6 => exact HC0_3.out); (case side7 => repeat (first | exact (Kd.C_below HR0_4.out HB.out) | (with_reducible refine Kd.C_alloc ?_ _) | (with_reducible refine Kd.C_drewN ?_ _) | (with_reducible refine Kd.C_drew ?_))); (case side8 => exact HC0_4.out); rintro e w11 ⟨rfl, hb⟩; refine ⟨_, rfl, ?_⟩; have n0_ := Aside0.mk (blk_below (g := gb463) (o := .cells #[.bool a0_0, .slice A0_1 l0_1.length c0_1, .slice A0_2 l0_2.length c0_2, .slice A0_3 l0_3.length c0_3, .slice A0_4 l0_4.length c0_4] 28 (0, 0)) (by (with_reducible repeat (first | refine blk_drewN ?_ _ | refine blk_drew ?_ | refine blk_alloc ?_ _)); exact BK463.out) hb); have n1_ := Aside0.mk (below_step (by repeat (first | (with_reducible first | exact HB.out | apply below_alloc | apply pw_below_drewN | apply below_drew1 | refine below_set ?_ GE463.out) | exact HB.out)) hb); clear BK463; clear HB; have BK463 := n0_; have HB := n1_; clear n0_ n1_; (try clear hb); (try clear hb2); (try clear hk); (try clear hi)))
      go_meet
      case rel => exact ⟨_, (true), (by first | rfl | (simp; done) | (simp [*]; done)), H', ⟨by first | omega | exact Nat.le_refl _⟩, ⟨by (with_reducible repeat (first | refine blk_drewN ?_ _ | refine blk_drew ?_ | refine blk_alloc ?_ _)); exact BK463.out⟩, ⟨by repeat (first | (with_reducible first | exact HB.out | apply below_alloc | apply pw_below_drewN | apply below_drew1 | refine below_set ?_ GE463.out) | exact HB.out)⟩⟩
  case rest =>
    clear HC4
    try clear c1
    try clear p2
    try clear c4
    try clear c7
    try clear hcz10_0
    try clear hcz10_1
    try clear hcz10_2
    try clear hcz10_3
    try clear hcz10_4
    try clear hcz8_0
    try clear hcz8_1
    try clear hcz8_2
    try clear hcz8_3
    try clear hcz8_4
    try clear hfz10_0
    try clear hfz10_1
    try clear hfz10_2
    try clear hfz10_3
    try clear hfz10_4
    try clear hfz8_0
    try clear hfz8_1
    try clear hfz8_2
    try clear hfz8_3
    try clear hfz8_4
    obtain ⟨kq, x22_3, rfl, HA, HJ3, BK463, HB⟩ := hcut
    cases kq with
    | zero => exact absurd HA.out (by simp [rillbedlaw18_NodeBack.j0])
    | succ kj3 =>
      have H := HA.out
      clear HA
      simp only [rillbedlaw18_NodeBack.j0] at H
      by_cases c12 : x22_3 = true
      · subst c12
        have H1 : ((rillbedlaw18_works.f kj3).bind fun t465 => (some t465)) = some r := by rw [if_pos rfl] at H; exact H
        clear H
        have H := H1
        clear H1
        replace H := Option.bind_eq_some_iff.mp H
        obtain ⟨t465, A130, H⟩ := H
        replace H : (some t465) = some r := H
        have A13 := Aside0.mk A130
        clear A130
        obtain rfl := Option.some.inj H
        go_wp2_with (first | ((with_reducible refine gate_callee (f := 8) rfl ?_); refine goesL_ (some 23) rfl rfl Try.func8 (by kernel_rfl) rfl #[] rfl (by (try simp only [List.map_toArray, List.map_cons, List.map_nil]); first | done | rfl | (simp only [List.length_drop, List.length_take]; rfl)) ?_; (with_reducible refine (rillbedlaw18_works.calls kj3  t465 _ A13.out).mono ?_); rintro e w14 ⟨rfl, hb⟩; refine ⟨_, rfl, ?_⟩; have n0_ := Aside0.mk (blk_below (g := gb463) (o := .cells #[.bool a0_0, .slice A0_1 l0_1.length c0_1, .slice A0_2 l0_2.length c0_2, .slice A0_3 l0_3.length c0_3, .slice A0_4 l0_4.length c0_4] 28 (0, 0)) (by (with_reducible repeat (first | refine blk_drewN ?_ _ | refine blk_drew ?_ | refine blk_alloc ?_ _)); exact BK463.out) hb); have n1_ := Aside0.mk (below_step (by repeat (first | (with_reducible first | exact HB.out | apply below_alloc | apply pw_below_drewN | apply below_drew1 | refine below_set ?_ GE463.out) | exact HB.out)) hb); clear BK463; clear HB; have BK463 := n0_; have HB := n1_; clear n0_ n1_; (try clear hb); (try clear hb2); (try clear hk); (try clear hi)))
        go_ret
        exact ⟨by first | rfl | (simp [errW_none, errW_some] <;> rfl) | (simp [*, errW_none, errW_some] <;> rfl), by repeat (first | (with_reducible first | exact HB.out | apply below_alloc | apply pw_below_drewN | apply below_drew1 | refine below_set ?_ GE463.out) | exact HB.out)⟩
      · replace c12 := Bool.eq_false_iff.mpr c12
        subst c12
        have H1 : ((node_Put.f a0_0 l0_1 l0_2 l0_3 l0_4).bind fun bt466 => (if bt466.2 = 0 then ((node_Take.f bt466.1).bind fun bt468 => (if bt468.2.2.2.2.2 = 0 then ((node_Same.f kj3 bt468.1 bt468.2.1 bt468.2.2.1 bt468.2.2.2.1 bt468.2.2.2.2.1 a0_0 l0_1 l0_2 l0_3 l0_4).bind fun t483 => (if t483 = true then (if (bt466.1.size : Int) = 0 then (none) else ((node_Size.f a0_0 l0_1 l0_2 l0_3 l0_4).bind fun t484 => (if t484 = (bt466.1.size : Int) then (if 0 ≤ (Int.tmod (wrap64 (a2)) (bt466.1.size : Int)) then (if (Int.tmod (wrap64 (a2)) (bt466.1.size : Int)) ≤ (bt466.1.size : Int) then ((rillbedlaw18_fails.f kj3 (bt466.1.extract 0 ((Int.tmod (wrap64 (a2)) (bt466.1.size : Int)) : Int).toNat) 10).bind fun t485 => (if t485 = true then (rillbedlaw18_NodeBack.j1 kj3 a1) else (none))) else (none)) else (none)) else (none)))) else (none))) else (none))) else (rillbedlaw18_NodeBack.j1 kj3 a1))) = some r := by rw [if_neg (show ¬ (false = true) by decide)] at H; exact H
        clear H
        have H := H1
        clear H1
        replace H := Option.bind_eq_some_iff.mp H
        obtain ⟨⟨t466, t467⟩, A150, H⟩ := H
        replace H : (if t467 = 0 then ((node_Take.f t466).bind fun bt468 => (if bt468.2.2.2.2.2 = 0 then ((node_Same.f kj3 bt468.1 bt468.2.1 bt468.2.2.1 bt468.2.2.2.1 bt468.2.2.2.2.1 a0_0 l0_1 l0_2 l0_3 l0_4).bind fun t483 => (if t483 = true then (if (t466.size : Int) = 0 then (none) else ((node_Size.f a0_0 l0_1 l0_2 l0_3 l0_4).bind fun t484 => (if t484 = (t466.size : Int) then (if 0 ≤ (Int.tmod (wrap64 (a2)) (t466.size : Int)) then (if (Int.tmod (wrap64 (a2)) (t466.size : Int)) ≤ (t466.size : Int) then ((rillbedlaw18_fails.f kj3 (t466.extract 0 ((Int.tmod (wrap64 (a2)) (t466.size : Int)) : Int).toNat) 10).bind fun t485 => (if t485 = true then (rillbedlaw18_NodeBack.j1 kj3 a1) else (none))) else (none)) else (none)) else (none)))) else (none))) else (none))) else (rillbedlaw18_NodeBack.j1 kj3 a1)) = some r := H
        have A15 := Aside0.mk A150
        clear A150
        have HC16 := Aside0.mk H
        clear H
        have hcz17_0 : wc.cell? ⟨gb463, 0, none⟩ = some (.bool a0_0) := (blk_cell BK463.out 0).trans rfl
        have hcz17_1 : wc.cell? ⟨gb463, 1, none⟩ = some (.slice A0_1 l0_1.length c0_1) := (blk_cell BK463.out 1).trans rfl
        have hcz17_2 : wc.cell? ⟨gb463, 2, none⟩ = some (.slice A0_2 l0_2.length c0_2) := (blk_cell BK463.out 2).trans rfl
        have hcz17_3 : wc.cell? ⟨gb463, 3, none⟩ = some (.slice A0_3 l0_3.length c0_3) := (blk_cell BK463.out 3).trans rfl
        have hcz17_4 : wc.cell? ⟨gb463, 4, none⟩ = some (.slice A0_4 l0_4.length c0_4) := (blk_cell BK463.out 4).trans rfl
        have hfz17_0 := blk_frozen BK463.out 0
        have hfz17_1 := blk_frozen BK463.out 1
        have hfz17_2 := blk_frozen BK463.out 2
        have hfz17_3 := blk_frozen BK463.out 3
        have hfz17_4 := blk_frozen BK463.out 4
        go_upto_if 30 with (first | ((with_reducible refine gate_callee (f := 14) rfl ?_); refine goesL_ (some 26) rfl rfl Try.func14 (by kernel_rfl) rfl #[.agg #[.bool a0_0, .slice A0_1 l0_1.length c0_1, .slice A0_2 l0_2.length c0_2, .slice A0_3 l0_3.length c0_3, .slice A0_4 l0_4.length c0_4]] rfl (by (try simp only [List.map_toArray, List.map_cons, List.map_nil]); first | done | rfl | (simp only [List.length_drop, List.length_take]; rfl)) ?_; (with_reducible refine (node_Put.calls a0_0 _ _ l0_1 _ _ l0_2 _ _ l0_3 _ _ l0_4 t466 t467 _ ?side1 ?side2 ?side3 ?side4 ?side5 ?side6 ?side7 ?side8 A15.out).mono ?_); (case side1 => repeat (first | exact (Kd.C_below HR0_1.out HB.out) | (with_reducible refine Kd.C_alloc ?_ _) | (with_reducible refine Kd.C_drewN ?_ _) | (with_reducible refine Kd.C_drew ?_))); (case side2 => exact HC0_1.out); (case side3 => repeat (first | exact (Kd.C_below HR0_2.out HB.out) | (with_reducible refine Kd.C_alloc ?_ _) | (with_reducible refine Kd.C_drewN ?_ _) | (with_reducible refine Kd.C_drew ?_))); (case side4 => exact HC0_2.out); (case side5 => repeat (first | exact (Kd.C_below HR0_3.out HB.out) | (with_reducible refine Kd.C_alloc ?_ _) | (with_reducible refine Kd.C_drewN ?_ _) | (with_reducible refine Kd.C_drew ?_))); (case side6 => exact HC0_3.out); (case side7 => repeat (first | exact (Kd.C_below HR0_4.out HB.out) | (with_reducible refine Kd.C_alloc ?_ _) | (with_reducible refine Kd.C_drewN ?_ _) | (with_reducible refine Kd.C_drew ?_))); (case side8 => exact HC0_4.out); rintro e w18 ⟨rfl, hb⟩; refine ⟨_, rfl, ?_⟩; have n0_ := Aside0.mk (blk_below (g := gb463) (o := .cells #[.bool a0_0, .slice A0_1 l0_1.length c0_1, .slice A0_2 l0_2.length c0_2, .slice A0_3 l0_3.length c0_3, .slice A0_4 l0_4.length c0_4] 28 (0, 0)) (by (with_reducible repeat (first | refine blk_drewN ?_ _ | refine blk_drew ?_ | refine blk_alloc ?_ _)); exact BK463.out) hb); have n1_ := Aside0.mk (below_step (by repeat (first | (with_reducible first | exact HB.out | apply below_alloc | apply pw_below_drewN | apply below_drew1 | refine below_set ?_ GE463.out) | exact HB.out)) hb); clear BK463; clear HB; have BK463 := n0_; have HB := n1_; clear n0_ n1_; (try clear hb); (try clear hb2); (try clear hk); (try clear hi)))
        (try simp only [Act.put, List.setIfInBounds_toArray, List.set_cons_zero, List.set_cons_succ])
        go_cut [] (fun wc => ∃ (kq : Nat), Aside0 (rillbedlaw18_NodeBack.j1 kq a1 = some r) ∧ Aside0 (kq ≤ kj3) ∧ Aside0 (wc.heap[gb463]? = some (.cells #[.bool a0_0, (.slice A0_1 l0_1.length c0_1), (.slice A0_2 l0_2.length c0_2), (.slice A0_3 l0_3.length c0_3), (.slice A0_4 l0_4.length c0_4)] 28 (0, 0))) ∧ Aside0 (Below w.heap.size w wc))
        case first =>
          have H := HC16.out
          clear HC16
          by_cases c19 : t467 = 0
          · rw [if_pos c19] at H
            have c19b0 : (t467 == 0) = true := beq_iff_eq.mpr c19
            have c19b1 : (t467 != 0) = false := bne_eq_false_iff_eq.mpr c19
            clear c19
            (first | rw [c19b0] | (simp only [i64_w, i32_w]; rw [c19b0]) | skip)
            replace H := Option.bind_eq_some_iff.mp H
            obtain ⟨⟨t468, t469, t472, t475, t478, t481⟩, A200, H⟩ := H
            replace H : (if t481 = 0 then ((node_Same.f kj3 t468 t469 t472 t475 t478 a0_0 l0_1 l0_2 l0_3 l0_4).bind fun t483 => (if t483 = true then (if (t466.size : Int) = 0 then (none) else ((node_Size.f a0_0 l0_1 l0_2 l0_3 l0_4).bind fun t484 => (if t484 = (t466.size : Int) then (if 0 ≤ (Int.tmod (wrap64 (a2)) (t466.size : Int)) then (if (Int.tmod (wrap64 (a2)) (t466.size : Int)) ≤ (t466.size : Int) then ((rillbedlaw18_fails.f kj3 (t466.extract 0 ((Int.tmod (wrap64 (a2)) (t466.size : Int)) : Int).toNat) 10).bind fun t485 => (if t485 = true then (rillbedlaw18_NodeBack.j1 kj3 a1) else (none))) else (none)) else (none)) else (none)))) else (none))) else (none)) = some r := H
            have A20 := Aside0.mk A200
            clear A200
            by_cases c21 : t481 = 0
            · rw [if_pos c21] at H
              have c21b0 : (t481 == 0) = true := beq_iff_eq.mpr c21
              have c21b1 : (t481 != 0) = false := bne_eq_false_iff_eq.mpr c21
              clear c21
              replace H := Option.bind_eq_some_iff.mp H
              obtain ⟨t483, A220, H⟩ := H
              replace H : (if t483 = true then (if (t466.size : Int) = 0 then (none) else ((node_Size.f a0_0 l0_1 l0_2 l0_3 l0_4).bind fun t484 => (if t484 = (t466.size : Int) then (if 0 ≤ (Int.tmod (wrap64 (a2)) (t466.size : Int)) then (if (Int.tmod (wrap64 (a2)) (t466.size : Int)) ≤ (t466.size : Int) then ((rillbedlaw18_fails.f kj3 (t466.extract 0 ((Int.tmod (wrap64 (a2)) (t466.size : Int)) : Int).toNat) 10).bind fun t485 => (if t485 = true then (rillbedlaw18_NodeBack.j1 kj3 a1) else (none))) else (none)) else (none)) else (none)))) else (none)) = some r := H
              have A22 := Aside0.mk A220
              clear A220
              by_cases c23 : t483 = true
              · subst c23
                have H1 : (if (t466.size : Int) = 0 then (none) else ((node_Size.f a0_0 l0_1 l0_2 l0_3 l0_4).bind fun t484 => (if t484 = (t466.size : Int) then (if 0 ≤ (Int.tmod (wrap64 (a2)) (t466.size : Int)) then (if (Int.tmod (wrap64 (a2)) (t466.size : Int)) ≤ (t466.size : Int) then ((rillbedlaw18_fails.f kj3 (t466.extract 0 ((Int.tmod (wrap64 (a2)) (t466.size : Int)) : Int).toNat) 10).bind fun t485 => (if t485 = true then (rillbedlaw18_NodeBack.j1 kj3 a1) else (none))) else (none)) else (none)) else (none)))) = some r := by rw [if_pos rfl] at H; exact H
                clear H
                have H := H1
                clear H1
                by_cases c24 : (t466.size : Int) = 0
                · rw [if_pos c24] at H
                  cases H
                · rw [if_neg c24] at H
                  have c24b0 : ((t466.size : Int) == 0) = false := beq_eq_false_iff_ne.mpr c24
                  have c24b1 : ((t466.size : Int) != 0) = true := bne_iff_ne.mpr c24
                  replace H := Option.bind_eq_some_iff.mp H
                  obtain ⟨t484, A350, H⟩ := H
                  replace H : (if t484 = (t466.size : Int) then (if 0 ≤ (Int.tmod (wrap64 (a2)) (t466.size : Int)) then (if (Int.tmod (wrap64 (a2)) (t466.size : Int)) ≤ (t466.size : Int) then ((rillbedlaw18_fails.f kj3 (t466.extract 0 ((Int.tmod (wrap64 (a2)) (t466.size : Int)) : Int).toNat) 10).bind fun t485 => (if t485 = true then (rillbedlaw18_NodeBack.j1 kj3 a1) else (none))) else (none)) else (none)) else (none)) = some r := H
                  have A35 := Aside0.mk A350
                  clear A350
                  by_cases c36 : t484 = (t466.size : Int)
                  · rw [if_pos c36] at H
                    have c36b0 : (t484 == (t466.size : Int)) = true := beq_iff_eq.mpr c36
                    have c36b1 : (t484 != (t466.size : Int)) = false := bne_eq_false_iff_eq.mpr c36
                    clear c36
                    obtain ⟨ji37, hji37⟩ : ∃ j_ : Int, (Int.tmod (wrap64 (a2)) (t466.size : Int)) = j_ := ⟨_, rfl⟩
                    replace H : (if 0 ≤ (ji37) then (if (ji37) ≤ (t466.size : Int) then ((rillbedlaw18_fails.f kj3 (t466.extract 0 ((ji37) : Int).toNat) 10).bind fun t485 => (if t485 = true then (rillbedlaw18_NodeBack.j1 kj3 a1) else (none))) else (none)) else (none)) = some r := by first | (rw [hji37] at H; exact H) | (simp only [hji37] at H ⊢; exact H)
                    (try rw [hji37] at A20)
                    (try rw [hji37] at A22)
                    (try rw [hji37] at A35)
                    by_cases c38 : 0 ≤ (ji37)
                    · rw [if_pos c38] at H
                      have c38b0 := eq_true c38
                      have c38b1 : decide (0 ≤ (ji37)) = true := decide_eq_true c38
                      clear c38
                      by_cases c39 : (ji37) ≤ (t466.size : Int)
                      · rw [if_pos c39] at H
                        have c39b0 := eq_true c39
                        have c39b1 : decide ((ji37) ≤ (t466.size : Int)) = true := decide_eq_true c39
                        clear c39
                        replace H := Option.bind_eq_some_iff.mp H
                        obtain ⟨t485, A400, H⟩ := H
                        replace H : (if t485 = true then (rillbedlaw18_NodeBack.j1 kj3 a1) else (none)) = some r := H
                        have A40 := Aside0.mk A400
                        clear A400
                        by_cases c41 : t485 = true
                        · subst c41
                          have H1 : (rillbedlaw18_NodeBack.j1 kj3 a1) = some r := by rw [if_pos rfl] at H; exact H
                          clear H
                          have H := H1
                          clear H1
                          have H' := Aside0.mk H
                          clear H
                          go_wp2_with (first | ((with_reducible refine gate_callee (f := 9) rfl ?_); refine goesL_ (some 33) rfl rfl Try.func9 (by kernel_rfl) rfl #[.string t466] rfl (by (try simp only [List.map_toArray, List.map_cons, List.map_nil]); first | done | rfl | (simp only [List.length_drop, List.length_take]; rfl)) ?_; (with_reducible refine (node_Take.calls t466 t468 t469 t472 t475 t478 t481 _ A20.out).mono ?_); rintro e w42 ⟨v470, v473, v476, v479, rfl, ho0, ho1, ho2, ho3, hb⟩; refine ⟨_, rfl, ?_⟩; have n0_ := Aside0.mk (Kd.R_lower ho0 (below_size (by repeat (first | (with_reducible first | exact HB.out | apply below_alloc | apply pw_below_drewN | apply below_drew1 | refine below_set ?_ GE463.out) | exact HB.out)))); have n1_ := Aside0.mk (Kd.R_lower ho1 (below_size (by repeat (first | (with_reducible first | exact HB.out | apply below_alloc | apply pw_below_drewN | apply below_drew1 | refine below_set ?_ GE463.out) | exact HB.out)))); have n2_ := Aside0.mk (Kd.R_lower ho2 (below_size (by repeat (first | (with_reducible first | exact HB.out | apply below_alloc | apply pw_below_drewN | apply below_drew1 | refine below_set ?_ GE463.out) | exact HB.out)))); have n3_ := Aside0.mk (Kd.R_lower ho3 (below_size (by repeat (first | (with_reducible first | exact HB.out | apply below_alloc | apply pw_below_drewN | apply below_drew1 | refine below_set ?_ GE463.out) | exact HB.out)))); have n4_ := Aside0.mk (blk_below (g := gb463) (o := .cells #[.bool a0_0, .slice A0_1 l0_1.length c0_1, .slice A0_2 l0_2.length c0_2, .slice A0_3 l0_3.length c0_3, .slice A0_4 l0_4.length c0_4] 28 (0, 0)) (by (with_reducible repeat (first | refine blk_drewN ?_ _ | refine blk_drew ?_ | refine blk_alloc ?_ _)); exact BK463.out) hb); have n5_ := Aside0.mk (below_step (by repeat (first | (with_reducible first | exact HB.out | apply below_alloc | apply pw_below_drewN | apply below_drew1 | refine below_set ?_ GE463.out) | exact HB.out)) hb); clear BK463; clear HB; have HO471 := n0_; have HO474 := n1_; have HO477 := n2_; have HO480 := n3_; have BK463 := n4_; have HB := n5_; clear n0_ n1_ n2_ n3_ n4_ n5_; (try clear hb); (try clear hb2); (try clear hk); (try clear hi); (try clear ho0); (try clear ho1); (try clear ho2); (try clear ho3)) | ((with_reducible refine gate_dst (N := 9) rfl ?_); (try (refine gate_guard (by rfl) ?_; dsimp only)); refine box_event ?hg (N := 9) ?hd (cs := #[.bool false, .slice none 0 0, .slice none 0 0, .slice none 0 0, .slice none 0 0]) (t := 28) ?hr ?_; (case hd => rfl); (case hg => rfl); (case hr => first | (go_simp; done) | (go_simp; rfl)); intro gb482 hg w43 hbox hb; have n0_ := Aside0.mk (Kd.R_below (by (with_reducible repeat (first | apply Kd.R_alloc | apply Kd.R_drewN | apply Kd.R_drew)); exact HO471.out) hb); have n1_ := Aside0.mk (Kd.R_below (by (with_reducible repeat (first | apply Kd.R_alloc | apply Kd.R_drewN | apply Kd.R_drew)); exact HO474.out) hb); have n2_ := Aside0.mk (Kd.R_below (by (with_reducible repeat (first | apply Kd.R_alloc | apply Kd.R_drewN | apply Kd.R_drew)); exact HO477.out) hb); have n3_ := Aside0.mk (Kd.R_below (by (with_reducible repeat (first | apply Kd.R_alloc | apply Kd.R_drewN | apply Kd.R_drew)); exact HO480.out) hb); have n4_ := Aside0.mk (blk_below (g := gb463) (o := .cells #[.bool a0_0, .slice A0_1 l0_1.length c0_1, .slice A0_2 l0_2.length c0_2, .slice A0_3 l0_3.length c0_3, .slice A0_4 l0_4.length c0_4] 28 (0, 0)) (by (with_reducible repeat (first | refine blk_drewN ?_ _ | refine blk_drew ?_ | refine blk_alloc ?_ _)); exact BK463.out) hb); have n5_ := Aside0.mk (below_step (by repeat (first | (with_reducible first | exact HB.out | apply below_alloc | apply pw_below_drewN | apply below_drew1 | refine below_set ?_ GE463.out) | exact HB.out)) hb); have n6_ := Aside0.mk (hbox); have n7_ := Aside0.mk ((by rw [hg]; exact (below_size (by repeat (first | (with_reducible first | exact HB.out | apply below_alloc | apply pw_below_drewN | apply below_drew1 | refine below_set ?_ GE463.out) | exact HB.out))) : w.heap.size ≤ gb482)); have n8_ := Aside0.mk ((by rw [hg]; exact (below_size (by repeat (first | (with_reducible first | exact HB.out | apply below_alloc | apply pw_below_drewN | apply below_drew1 | refine below_set ?_ GE463.out) | exact HB.out))) : w.heap.size ≤ gb482)); have n9_ := Aside0.mk ((by rw [hg]; exact Nat.ne_of_lt (blk_lt (g := gb463) (o := .cells #[.bool a0_0, .slice A0_1 l0_1.length c0_1, .slice A0_2 l0_2.length c0_2, .slice A0_3 l0_3.length c0_3, .slice A0_4 l0_4.length c0_4] 28 (0, 0)) (by (with_reducible repeat (first | refine blk_drewN ?_ _ | refine blk_drew ?_ | refine blk_alloc ?_ _)); exact BK463.out)) : gb463 ≠ gb482)); have n10_ := Aside0.mk ((by rw [hg]; exact Nat.ne_of_gt (blk_lt (g := gb463) (o := .cells #[.bool a0_0, .slice A0_1 l0_1.length c0_1, .slice A0_2 l0_2.length c0_2, .slice A0_3 l0_3.length c0_3, .slice A0_4 l0_4.length c0_4] 28 (0, 0)) (by (with_reducible repeat (first | refine blk_drewN ?_ _ | refine blk_drew ?_ | refine blk_alloc ?_ _)); exact BK463.out)) : gb482 ≠ gb463)); clear HO471; clear HO474; clear HO477; clear HO480; clear BK463; clear HB; have HO471 := n0_; have HO474 := n1_; have HO477 := n2_; have HO480 := n3_; have BK463 := n4_; have HB := n5_; have BK482 := n6_; have GW482 := n7_; have GE482 := n8_; have NB463_482 := n9_; have NB482_463 := n10_; clear n0_ n1_ n2_ n3_ n4_ n5_ n6_ n7_ n8_ n9_ n10_; clear hb hbox hg; have hnb44 := NB482_463.out; have hnc44 := NB463_482.out; have hcz45_0 : w43.cell? ⟨gb482, 0, none⟩ = some (.bool false) := (blk_cell BK482.out 0).trans rfl; have hcz45_1 : w43.cell? ⟨gb482, 1, none⟩ = some (.slice none 0 0) := (blk_cell BK482.out 1).trans rfl; have hcz45_2 : w43.cell? ⟨gb482, 2, none⟩ = some (.slice none 0 0) := (blk_cell BK482.out 2).trans rfl; have hcz45_3 : w43.cell? ⟨gb482, 3, none⟩ = some (.slice none 0 0) := (blk_cell BK482.out 3).trans rfl; have hcz45_4 : w43.cell? ⟨gb482, 4, none⟩ = some (.slice none 0 0) := (blk_cell BK482.out 4).trans rfl; have hfz45_0 := blk_frozen BK482.out 0; have hfz45_1 := blk_frozen BK482.out 1; have hfz45_2 := blk_frozen BK482.out 2; have hfz45_3 := blk_frozen BK482.out 3; have hfz45_4 := blk_frozen BK482.out 4; obtain ⟨Ao46, co46, eo46⟩ := Kd.R_slice HO471.out; subst eo46; obtain ⟨Ao47, co47, eo47⟩ := Kd.R_slice HO474.out; subst eo47; obtain ⟨Ao48, co48, eo48⟩ := Kd.R_slice HO477.out; subst eo48; obtain ⟨Ao49, co49, eo49⟩ := Kd.R_slice HO480.out; subst eo49; have hcz50_0 : w43.cell? ⟨gb463, 0, none⟩ = some (.bool a0_0) := (blk_cell BK463.out 0).trans rfl; have hcz50_1 : w43.cell? ⟨gb463, 1, none⟩ = some (.slice A0_1 l0_1.length c0_1) := (blk_cell BK463.out 1).trans rfl; have hcz50_2 : w43.cell? ⟨gb463, 2, none⟩ = some (.slice A0_2 l0_2.length c0_2) := (blk_cell BK463.out 2).trans rfl; have hcz50_3 : w43.cell? ⟨gb463, 3, none⟩ = some (.slice A0_3 l0_3.length c0_3) := (blk_cell BK463.out 3).trans rfl; have hcz50_4 : w43.cell? ⟨gb463, 4, none⟩ = some (.slice A0_4 l0_4.length c0_4) := (blk_cell BK463.out 4).trans rfl; have hfz50_0 := blk_frozen BK463.out 0; have hfz50_1 := blk_frozen BK463.out 1; have hfz50_2 := blk_frozen BK463.out 2; have hfz50_3 := blk_frozen BK463.out 3; have hfz50_4 := blk_frozen BK463.out 4) | (go_at_call 15; (with_reducible refine (node_Same.calls kj3 t468 _ _ t469 _ _ t472 _ _ t475 _ _ t478 a0_0 _ _ l0_1 _ _ l0_2 _ _ l0_3 _ _ l0_4 true _ ?side1 ?side2 ?side3 ?side4 ?side5 ?side6 ?side7 ?side8 ?side9 ?side10 ?side11 ?side12 ?side13 ?side14 ?side15 ?side16 A22.out).mono ?_); (case side1 => refine (Kd.R_reads' (e := 75) (base := w.heap.size) (ok := fun k_ => True) (n := t469.length) (c := co46) ?_).2.2; exact (by (with_reducible repeat (first | apply Kd.R_alloc | apply Kd.R_drewN | apply Kd.R_drew)); exact (Kd.R_mono (Kd.R_far (p := ⟨gb482, 4, none⟩) (Kd.R_far (p := ⟨gb482, 3, none⟩) (Kd.R_far (p := ⟨gb482, 2, none⟩) (Kd.R_far (p := ⟨gb482, 1, none⟩) (Kd.R_far (p := ⟨gb482, 0, none⟩) (Kd.R_types HO471.out BK482.out (by decide)) (fun _ hk => hk.2) (.bool t468)) (fun _ hk => hk.2) (.slice Ao46 t469.length co46)) (fun _ hk => hk.2) (.slice Ao47 t472.length co47)) (fun _ hk => hk.2) (.slice Ao48 t475.length co48)) (fun _ hk => hk.2) (.slice Ao49 t478.length co49)) (fun _ h_ => h_.1)))); (case side2 => exact (Kd.R_reads' HO471.out).2.1); (case side3 => refine (Kd.R_reads' (e := 9) (base := w.heap.size) (ok := fun k_ => True) (n := t472.length) (c := co47) ?_).2.2; exact (by (with_reducible repeat (first | apply Kd.R_alloc | apply Kd.R_drewN | apply Kd.R_drew)); exact (Kd.R_mono (Kd.R_far (p := ⟨gb482, 4, none⟩) (Kd.R_far (p := ⟨gb482, 3, none⟩) (Kd.R_far (p := ⟨gb482, 2, none⟩) (Kd.R_far (p := ⟨gb482, 1, none⟩) (Kd.R_far (p := ⟨gb482, 0, none⟩) (Kd.R_types HO474.out BK482.out (by decide)) (fun _ hk => hk.2) (.bool t468)) (fun _ hk => hk.2) (.slice Ao46 t469.length co46)) (fun _ hk => hk.2) (.slice Ao47 t472.length co47)) (fun _ hk => hk.2) (.slice Ao48 t475.length co48)) (fun _ hk => hk.2) (.slice Ao49 t478.length co49)) (fun _ h_ => h_.1)))); (case side4 => exact (Kd.R_reads' HO474.out).2.1); (case side5 => refine (Kd.R_reads' (e := 3) (base := w.heap.size) (ok := fun k_ => True) (n := t475.length) (c := co48) ?_).2.2; exact (by (with_reducible repeat (first | apply Kd.R_alloc | apply Kd.R_drewN | apply Kd.R_drew)); exact (Kd.R_mono (Kd.R_far (p := ⟨gb482, 4, none⟩) (Kd.R_far (p := ⟨gb482, 3, none⟩) (Kd.R_far (p := ⟨gb482, 2, none⟩) (Kd.R_far (p := ⟨gb482, 1, none⟩) (Kd.R_far (p := ⟨gb482, 0, none⟩) (Kd.R_types HO477.out BK482.out (by decide)) (fun _ hk => hk.2) (.bool t468)) (fun _ hk => hk.2) (.slice Ao46 t469.length co46)) (fun _ hk => hk.2) (.slice Ao47 t472.length co47)) (fun _ hk => hk.2) (.slice Ao48 t475.length co48)) (fun _ hk => hk.2) (.slice Ao49 t478.length co49)) (fun _ h_ => h_.1)))); (case side6 => exact (Kd.R_reads' HO477.out).2.1); (case side7 => refine (Kd.R_reads' (e := 59) (base := w.heap.size) (ok := fun k_ => True) (n := t478.length) (c := co49) ?_).2.2; exact (by (with_reducible repeat (first | apply Kd.R_alloc | apply Kd.R_drewN | apply Kd.R_drew)); exact (Kd.R_mono (Kd.R_far (p := ⟨gb482, 4, none⟩) (Kd.R_far (p := ⟨gb482, 3, none⟩) (Kd.R_far (p := ⟨gb482, 2, none⟩) (Kd.R_far (p := ⟨gb482, 1, none⟩) (Kd.R_far (p := ⟨gb482, 0, none⟩) (Kd.R_types HO480.out BK482.out (by decide)) (fun _ hk => hk.2) (.bool t468)) (fun _ hk => hk.2) (.slice Ao46 t469.length co46)) (fun _ hk => hk.2) (.slice Ao47 t472.length co47)) (fun _ hk => hk.2) (.slice Ao48 t475.length co48)) (fun _ hk => hk.2) (.slice Ao49 t478.length co49)) (fun _ h_ => h_.1)))); (case side8 => exact (Kd.R_reads' HO480.out).2.1); (case side9 => exact Kd.C_below HR0_1.out (by repeat (first | (with_reducible first | exact HB.out | apply below_alloc | apply pw_below_drewN | apply below_drew1 | refine below_set ?_ GE463.out | refine below_set ?_ GE482.out) | exact HB.out))); (case side10 => exact HC0_1.out); (case side11 => exact Kd.C_below HR0_2.out (by repeat (first | (with_reducible first | exact HB.out | apply below_alloc | apply pw_below_drewN | apply below_drew1 | refine below_set ?_ GE463.out | refine below_set ?_ GE482.out) | exact HB.out))); (case side12 => exact HC0_2.out); (case side13 => exact Kd.C_below HR0_3.out (by repeat (first | (with_reducible first | exact HB.out | apply below_alloc | apply pw_below_drewN | apply below_drew1 | refine below_set ?_ GE463.out | refine below_set ?_ GE482.out) | exact HB.out))); (case side14 => exact HC0_3.out); (case side15 => exact Kd.C_below HR0_4.out (by repeat (first | (with_reducible first | exact HB.out | apply below_alloc | apply pw_below_drewN | apply below_drew1 | refine below_set ?_ GE463.out | refine below_set ?_ GE482.out) | exact HB.out))); (case side16 => exact HC0_4.out); rintro e w51 ⟨rfl, hb⟩; have n0_ := Aside0.mk (Kd.R_below (by (with_reducible repeat (first | apply Kd.R_alloc | apply Kd.R_drewN | apply Kd.R_drew)); exact (Kd.R_mono (Kd.R_far (p := ⟨gb482, 4, none⟩) (Kd.R_far (p := ⟨gb482, 3, none⟩) (Kd.R_far (p := ⟨gb482, 2, none⟩) (Kd.R_far (p := ⟨gb482, 1, none⟩) (Kd.R_far (p := ⟨gb482, 0, none⟩) (Kd.R_types HO471.out BK482.out (by decide)) (fun _ hk => hk.2) (.bool t468)) (fun _ hk => hk.2) (.slice Ao46 t469.length co46)) (fun _ hk => hk.2) (.slice Ao47 t472.length co47)) (fun _ hk => hk.2) (.slice Ao48 t475.length co48)) (fun _ hk => hk.2) (.slice Ao49 t478.length co49)) (fun _ h_ => h_.1))) hb); have n1_ := Aside0.mk (Kd.R_below (by (with_reducible repeat (first | apply Kd.R_alloc | apply Kd.R_drewN | apply Kd.R_drew)); exact (Kd.R_mono (Kd.R_far (p := ⟨gb482, 4, none⟩) (Kd.R_far (p := ⟨gb482, 3, none⟩) (Kd.R_far (p := ⟨gb482, 2, none⟩) (Kd.R_far (p := ⟨gb482, 1, none⟩) (Kd.R_far (p := ⟨gb482, 0, none⟩) (Kd.R_types HO474.out BK482.out (by decide)) (fun _ hk => hk.2) (.bool t468)) (fun _ hk => hk.2) (.slice Ao46 t469.length co46)) (fun _ hk => hk.2) (.slice Ao47 t472.length co47)) (fun _ hk => hk.2) (.slice Ao48 t475.length co48)) (fun _ hk => hk.2) (.slice Ao49 t478.length co49)) (fun _ h_ => h_.1))) hb); have n2_ := Aside0.mk (Kd.R_below (by (with_reducible repeat (first | apply Kd.R_alloc | apply Kd.R_drewN | apply Kd.R_drew)); exact (Kd.R_mono (Kd.R_far (p := ⟨gb482, 4, none⟩) (Kd.R_far (p := ⟨gb482, 3, none⟩) (Kd.R_far (p := ⟨gb482, 2, none⟩) (Kd.R_far (p := ⟨gb482, 1, none⟩) (Kd.R_far (p := ⟨gb482, 0, none⟩) (Kd.R_types HO477.out BK482.out (by decide)) (fun _ hk => hk.2) (.bool t468)) (fun _ hk => hk.2) (.slice Ao46 t469.length co46)) (fun _ hk => hk.2) (.slice Ao47 t472.length co47)) (fun _ hk => hk.2) (.slice Ao48 t475.length co48)) (fun _ hk => hk.2) (.slice Ao49 t478.length co49)) (fun _ h_ => h_.1))) hb); have n3_ := Aside0.mk (Kd.R_below (by (with_reducible repeat (first | apply Kd.R_alloc | apply Kd.R_drewN | apply Kd.R_drew)); exact (Kd.R_mono (Kd.R_far (p := ⟨gb482, 4, none⟩) (Kd.R_far (p := ⟨gb482, 3, none⟩) (Kd.R_far (p := ⟨gb482, 2, none⟩) (Kd.R_far (p := ⟨gb482, 1, none⟩) (Kd.R_far (p := ⟨gb482, 0, none⟩) (Kd.R_types HO480.out BK482.out (by decide)) (fun _ hk => hk.2) (.bool t468)) (fun _ hk => hk.2) (.slice Ao46 t469.length co46)) (fun _ hk => hk.2) (.slice Ao47 t472.length co47)) (fun _ hk => hk.2) (.slice Ao48 t475.length co48)) (fun _ hk => hk.2) (.slice Ao49 t478.length co49)) (fun _ h_ => h_.1))) hb); have n4_ := Aside0.mk (blk_below (g := gb463) (o := .cells #[.bool a0_0, .slice A0_1 l0_1.length c0_1, .slice A0_2 l0_2.length c0_2, .slice A0_3 l0_3.length c0_3, .slice A0_4 l0_4.length c0_4] 28 (0, 0)) (by (with_reducible repeat (first | refine blk_drewN ?_ _ | refine blk_drew ?_ | refine blk_alloc ?_ _)); refine blk_far ?_ NB463_482.out _; (with_reducible repeat (first | refine blk_drewN ?_ _ | refine blk_drew ?_ | refine blk_alloc ?_ _)); refine blk_far ?_ NB463_482.out _; (with_reducible repeat (first | refine blk_drewN ?_ _ | refine blk_drew ?_ | refine blk_alloc ?_ _)); refine blk_far ?_ NB463_482.out _; (with_reducible repeat (first | refine blk_drewN ?_ _ | refine blk_drew ?_ | refine blk_alloc ?_ _)); refine blk_far ?_ NB463_482.out _; (with_reducible repeat (first | refine blk_drewN ?_ _ | refine blk_drew ?_ | refine blk_alloc ?_ _)); refine blk_far ?_ NB463_482.out _; (with_reducible repeat (first | refine blk_drewN ?_ _ | refine blk_drew ?_ | refine blk_alloc ?_ _)); exact BK463.out) hb); have n5_ := Aside0.mk (blk_below (g := gb482) (o := .cells #[.bool t468, .slice Ao46 t469.length co46, .slice Ao47 t472.length co47, .slice Ao48 t475.length co48, .slice Ao49 t478.length co49] 28 (0, 0)) (by (with_reducible repeat (first | refine blk_drewN ?_ _ | refine blk_drew ?_ | refine blk_alloc ?_ _)); refine blk_put (cs := #[.bool t468, .slice Ao46 t469.length co46, .slice Ao47 t472.length co47, .slice Ao48 t475.length co48, .slice none 0 0]) ?_ 4 _ rfl; (with_reducible repeat (first | refine blk_drewN ?_ _ | refine blk_drew ?_ | refine blk_alloc ?_ _)); refine blk_put (cs := #[.bool t468, .slice Ao46 t469.length co46, .slice Ao47 t472.length co47, .slice none 0 0, .slice none 0 0]) ?_ 3 _ rfl; (with_reducible repeat (first | refine blk_drewN ?_ _ | refine blk_drew ?_ | refine blk_alloc ?_ _)); refine blk_put (cs := #[.bool t468, .slice Ao46 t469.length co46, .slice none 0 0, .slice none 0 0, .slice none 0 0]) ?_ 2 _ rfl; (with_reducible repeat (first | refine blk_drewN ?_ _ | refine blk_drew ?_ | refine blk_alloc ?_ _)); refine blk_put (cs := #[.bool t468, .slice none 0 0, .slice none 0 0, .slice none 0 0, .slice none 0 0]) ?_ 1 _ rfl; (with_reducible repeat (first | refine blk_drewN ?_ _ | refine blk_drew ?_ | refine blk_alloc ?_ _)); refine blk_put (cs := #[.bool false, .slice none 0 0, .slice none 0 0, .slice none 0 0, .slice none 0 0]) ?_ 0 _ rfl; (with_reducible repeat (first | refine blk_drewN ?_ _ | refine blk_drew ?_ | refine blk_alloc ?_ _)); exact BK482.out) hb); have n6_ := Aside0.mk (below_step (by repeat (first | (with_reducible first | exact HB.out | apply below_alloc | apply pw_below_drewN | apply below_drew1 | refine below_set ?_ GE463.out | refine below_set ?_ GE482.out) | exact HB.out)) hb); clear HO471; clear HO474; clear HO477; clear HO480; clear BK463; clear BK482; clear HB; have HO471 := n0_; have HO474 := n1_; have HO477 := n2_; have HO480 := n3_; have BK463 := n4_; have BK482 := n5_; have HB := n6_; clear n0_ n1_ n2_ n3_ n4_ n5_ n6_; (try clear hb); (try clear hb2); (try clear hk); (try clear hi); have hcz52_0 : w51.cell? ⟨gb463, 0, none⟩ = some (.bool a0_0) := (blk_cell BK463.out 0).trans rfl; have hcz52_1 : w51.cell? ⟨gb463, 1, none⟩ = some (.slice A0_1 l0_1.length c0_1) := (blk_cell BK463.out 1).trans rfl; have hcz52_2 : w51.cell? ⟨gb463, 2, none⟩ = some (.slice A0_2 l0_2.length c0_2) := (blk_cell BK463.out 2).trans rfl; have hcz52_3 : w51.cell? ⟨gb463, 3, none⟩ = some (.slice A0_3 l0_3.length c0_3) := (blk_cell BK463.out 3).trans rfl; have hcz52_4 : w51.cell? ⟨gb463, 4, none⟩ = some (.slice A0_4 l0_4.length c0_4) := (blk_cell BK463.out 4).trans rfl; have hfz52_0 := blk_frozen BK463.out 0; have hfz52_1 := blk_frozen BK463.out 1; have hfz52_2 := blk_frozen BK463.out 2; have hfz52_3 := blk_frozen BK463.out 3; have hfz52_4 := blk_frozen BK463.out 4) | (go_at_call 16; (with_reducible refine (node_Size.calls a0_0 _ _ l0_1 _ _ l0_2 _ _ l0_3 _ _ l0_4 t484 _ ?side1 ?side2 ?side3 ?side4 ?side5 ?side6 ?side7 ?side8 A35.out).mono ?_); (case side1 => repeat (first | exact (Kd.C_below HR0_1.out HB.out) | (with_reducible refine Kd.C_alloc ?_ _) | (with_reducible refine Kd.C_drewN ?_ _) | (with_reducible refine Kd.C_drew ?_))); (case side2 => exact HC0_1.out); (case side3 => repeat (first | exact (Kd.C_below HR0_2.out HB.out) | (with_reducible refine Kd.C_alloc ?_ _) | (with_reducible refine Kd.C_drewN ?_ _) | (with_reducible refine Kd.C_drew ?_))); (case side4 => exact HC0_2.out); (case side5 => repeat (first | exact (Kd.C_below HR0_3.out HB.out) | (with_reducible refine Kd.C_alloc ?_ _) | (with_reducible refine Kd.C_drewN ?_ _) | (with_reducible refine Kd.C_drew ?_))); (case side6 => exact HC0_3.out); (case side7 => repeat (first | exact (Kd.C_below HR0_4.out HB.out) | (with_reducible refine Kd.C_alloc ?_ _) | (with_reducible refine Kd.C_drewN ?_ _) | (with_reducible refine Kd.C_drew ?_))); (case side8 => exact HC0_4.out); rintro e w53 ⟨rfl, hb⟩; have n0_ := Aside0.mk (Kd.R_below (by (with_reducible repeat (first | apply Kd.R_alloc | apply Kd.R_drewN | apply Kd.R_drew)); exact HO471.out) hb); have n1_ := Aside0.mk (Kd.R_below (by (with_reducible repeat (first | apply Kd.R_alloc | apply Kd.R_drewN | apply Kd.R_drew)); exact HO474.out) hb); have n2_ := Aside0.mk (Kd.R_below (by (with_reducible repeat (first | apply Kd.R_alloc | apply Kd.R_drewN | apply Kd.R_drew)); exact HO477.out) hb); have n3_ := Aside0.mk (Kd.R_below (by (with_reducible repeat (first | apply Kd.R_alloc | apply Kd.R_drewN | apply Kd.R_drew)); exact HO480.out) hb); have n4_ := Aside0.mk (blk_below (g := gb463) (o := .cells #[.bool a0_0, .slice A0_1 l0_1.length c0_1, .slice A0_2 l0_2.length c0_2, .slice A0_3 l0_3.length c0_3, .slice A0_4 l0_4.length c0_4] 28 (0, 0)) (by (with_reducible repeat (first | refine blk_drewN ?_ _ | refine blk_drew ?_ | refine blk_alloc ?_ _)); exact BK463.out) hb); have n5_ := Aside0.mk (blk_below (g := gb482) (o := .cells #[.bool t468, .slice Ao46 t469.length co46, .slice Ao47 t472.length co47, .slice Ao48 t475.length co48, .slice Ao49 t478.length co49] 28 (0, 0)) (by (with_reducible repeat (first | refine blk_drewN ?_ _ | refine blk_drew ?_ | refine blk_alloc ?_ _)); exact BK482.out) hb); have n6_ := Aside0.mk (below_step (by repeat (first | (with_reducible first | exact HB.out | apply below_alloc | apply pw_below_drewN | apply below_drew1 | refine below_set ?_ GE463.out | refine below_set ?_ GE482.out) | exact HB.out)) hb); clear HO471; clear HO474; clear HO477; clear HO480; clear BK463; clear BK482; clear HB; have HO471 := n0_; have HO474 := n1_; have HO477 := n2_; have HO480 := n3_; have BK463 := n4_; have BK482 := n5_; have HB := n6_; clear n0_ n1_ n2_ n3_ n4_ n5_ n6_; (try clear hb); (try clear hb2); (try clear hk); (try clear hi)) | (go_at_call 17; (with_reducible refine (rillbedlaw18_fails.calls kj3 (t466.extract 0 ((ji37) : Int).toNat) 10 true _ A40.out).mono ?_); rintro e w54 ⟨rfl, hb⟩; have n0_ := Aside0.mk (Kd.R_below (by (with_reducible repeat (first | apply Kd.R_alloc | apply Kd.R_drewN | apply Kd.R_drew)); exact HO471.out) hb); have n1_ := Aside0.mk (Kd.R_below (by (with_reducible repeat (first | apply Kd.R_alloc | apply Kd.R_drewN | apply Kd.R_drew)); exact HO474.out) hb); have n2_ := Aside0.mk (Kd.R_below (by (with_reducible repeat (first | apply Kd.R_alloc | apply Kd.R_drewN | apply Kd.R_drew)); exact HO477.out) hb); have n3_ := Aside0.mk (Kd.R_below (by (with_reducible repeat (first | apply Kd.R_alloc | apply Kd.R_drewN | apply Kd.R_drew)); exact HO480.out) hb); have n4_ := Aside0.mk (blk_below (g := gb463) (o := .cells #[.bool a0_0, .slice A0_1 l0_1.length c0_1, .slice A0_2 l0_2.length c0_2, .slice A0_3 l0_3.length c0_3, .slice A0_4 l0_4.length c0_4] 28 (0, 0)) (by (with_reducible repeat (first | refine blk_drewN ?_ _ | refine blk_drew ?_ | refine blk_alloc ?_ _)); exact BK463.out) hb); have n5_ := Aside0.mk (blk_below (g := gb482) (o := .cells #[.bool t468, .slice Ao46 t469.length co46, .slice Ao47 t472.length co47, .slice Ao48 t475.length co48, .slice Ao49 t478.length co49] 28 (0, 0)) (by (with_reducible repeat (first | refine blk_drewN ?_ _ | refine blk_drew ?_ | refine blk_alloc ?_ _)); exact BK482.out) hb); have n6_ := Aside0.mk (below_step (by repeat (first | (with_reducible first | exact HB.out | apply below_alloc | apply pw_below_drewN | apply below_drew1 | refine below_set ?_ GE463.out | refine below_set ?_ GE482.out) | exact HB.out)) hb); clear HO471; clear HO474; clear HO477; clear HO480; clear BK463; clear BK482; clear HB; have HO471 := n0_; have HO474 := n1_; have HO477 := n2_; have HO480 := n3_; have BK463 := n4_; have BK482 := n5_; have HB := n6_; clear n0_ n1_ n2_ n3_ n4_ n5_ n6_; (try clear hb); (try clear hb2); (try clear hk); (try clear hi)))
                          go_meet
                          case rel => exact ⟨_, H', ⟨by have := HJ3.out; first | omega | exact Nat.le_refl _⟩, ⟨by (with_reducible repeat (first | refine blk_drewN ?_ _ | refine blk_drew ?_ | refine blk_alloc ?_ _)); exact BK463.out⟩, ⟨by repeat (first | (with_reducible first | exact HB.out | apply below_alloc | apply pw_below_drewN | apply below_drew1 | refine below_set ?_ GE463.out | refine below_set ?_ GE482.out) | exact HB.out)⟩⟩
                        · replace c41 := Bool.eq_false_iff.mpr c41
                          subst c41
                          have H1 : (none) = some r := by rw [if_neg (show ¬ (false = true) by decide)] at H; exact H
                          cases H1
                      · rw [if_neg c39] at H
                        exact absurd H (by simp)
                    · rw [if_neg c38] at H
                      exact absurd H (by simp)
                  · rw [if_neg c36] at H
                    cases H
              · replace c23 := Bool.eq_false_iff.mpr c23
                subst c23
                have H1 : (none) = some r := by rw [if_neg (show ¬ (false = true) by decide)] at H; exact H
                cases H1
            · rw [if_neg c21] at H
              cases H
          · rw [if_neg c19] at H
            have c19b0 : (t467 == 0) = false := beq_eq_false_iff_ne.mpr c19
            have c19b1 : (t467 != 0) = true := bne_iff_ne.mpr c19
            (first | rw [c19b0] | (simp only [i64_w, i32_w]; rw [c19b0]) | skip)
            have H' := Aside0.mk H
            clear H
            go_wp2
            go_meet
            case rel => exact ⟨_, H', ⟨by have := HJ3.out; first | omega | exact Nat.le_refl _⟩, ⟨by (with_reducible repeat (first | refine blk_drewN ?_ _ | refine blk_drew ?_ | refine blk_alloc ?_ _)); exact BK463.out⟩, ⟨by repeat (first | (with_reducible first | exact HB.out | apply below_alloc | apply pw_below_drewN | apply below_drew1 | refine below_set ?_ GE463.out) | exact HB.out)⟩⟩
        case rest =>
          clear HC16
          try clear c1
          try clear c2
          try clear p2
          try clear c3
          try clear c4
          try clear c5
          try clear p6
          try clear c7
          try clear c8
          try clear c9
          try clear c12
          try clear c13
          try clear c14
          try clear c19
          try clear c19b0
          try clear c19b1
          try clear c21
          try clear c21b0
          try clear c21b1
          try clear c23
          try clear c24
          try clear c24b0
          try clear c24b1
          try clear c27
          try clear c36
          try clear c36b0
          try clear c36b1
          try clear c38
          try clear c38b0
          try clear c38b1
          try clear c39
          try clear c39b0
          try clear c39b1
          try clear c41
          try clear c44
          try clear c57
          try clear p64
          try clear c70
          try clear c82
          try clear c92
          try clear hcz10_0
          try clear hcz10_1
          try clear hcz10_2
          try clear hcz10_3
          try clear hcz10_4
          try clear hcz17_0
          try clear hcz17_1
          try clear hcz17_2
          try clear hcz17_3
          try clear hcz17_4
          try clear hcz28_0
          try clear hcz28_1
          try clear hcz28_2
          try clear hcz28_3
          try clear hcz28_4
          try clear hcz33_0
          try clear hcz33_1
          try clear hcz33_2
          try clear hcz33_3
          try clear hcz33_4
          try clear hcz45_0
          try clear hcz45_1
          try clear hcz45_2
          try clear hcz45_3
          try clear hcz45_4
          try clear hcz50_0
          try clear hcz50_1
          try clear hcz50_2
          try clear hcz50_3
          try clear hcz50_4
          try clear hcz52_0
          try clear hcz52_1
          try clear hcz52_2
          try clear hcz52_3
          try clear hcz52_4
          try clear hcz58_0
          try clear hcz58_1
          try clear hcz58_2
          try clear hcz58_3
          try clear hcz58_4
          try clear hcz63_0
          try clear hcz63_1
          try clear hcz63_2
          try clear hcz63_3
          try clear hcz63_4
          try clear hcz65_0
          try clear hcz65_1
          try clear hcz65_2
          try clear hcz65_3
          try clear hcz65_4
          try clear hcz71_0
          try clear hcz71_1
          try clear hcz71_2
          try clear hcz71_3
          try clear hcz71_4
          try clear hcz76_0
          try clear hcz76_1
          try clear hcz76_2
          try clear hcz76_3
          try clear hcz76_4
          try clear hcz78_0
          try clear hcz78_1
          try clear hcz78_2
          try clear hcz78_3
          try clear hcz78_4
          try clear hcz83_0
          try clear hcz83_1
          try clear hcz83_2
          try clear hcz83_3
          try clear hcz83_4
          try clear hcz88_0
          try clear hcz88_1
          try clear hcz88_2
          try clear hcz88_3
          try clear hcz88_4
          try clear hcz8_0
          try clear hcz8_1
          try clear hcz8_2
          try clear hcz8_3
          try clear hcz8_4
          try clear hcz93_0
          try clear hcz93_1
          try clear hcz93_2
          try clear hcz93_3
          try clear hcz93_4
          try clear hfz10_0
          try clear hfz10_1
          try clear hfz10_2
          try clear hfz10_3
          try clear hfz10_4
          try clear hfz17_0
          try clear hfz17_1
          try clear hfz17_2
          try clear hfz17_3
          try clear hfz17_4
          try clear hfz28_0
          try clear hfz28_1
          try clear hfz28_2
          try clear hfz28_3
          try clear hfz28_4
          try clear hfz33_0
          try clear hfz33_1
          try clear hfz33_2
          try clear hfz33_3
          try clear hfz33_4
          try clear hfz45_0
          try clear hfz45_1
          try clear hfz45_2
          try clear hfz45_3
          try clear hfz45_4
          try clear hfz50_0
          try clear hfz50_1
          try clear hfz50_2
          try clear hfz50_3
          try clear hfz50_4
          try clear hfz52_0
          try clear hfz52_1
          try clear hfz52_2
          try clear hfz52_3
          try clear hfz52_4
          try clear hfz58_0
          try clear hfz58_1
          try clear hfz58_2
          try clear hfz58_3
          try clear hfz58_4
          try clear hfz63_0
          try clear hfz63_1
          try clear hfz63_2
          try clear hfz63_3
          try clear hfz63_4
          try clear hfz65_0
          try clear hfz65_1
          try clear hfz65_2
          try clear hfz65_3
          try clear hfz65_4
          try clear hfz71_0
          try clear hfz71_1
          try clear hfz71_2
          try clear hfz71_3
          try clear hfz71_4
          try clear hfz76_0
          try clear hfz76_1
          try clear hfz76_2
          try clear hfz76_3
          try clear hfz76_4
          try clear hfz78_0
          try clear hfz78_1
          try clear hfz78_2
          try clear hfz78_3
          try clear hfz78_4
          try clear hfz83_0
          try clear hfz83_1
          try clear hfz83_2
          try clear hfz83_3
          try clear hfz83_4
          try clear hfz88_0
          try clear hfz88_1
          try clear hfz88_2
          try clear hfz88_3
          try clear hfz88_4
          try clear hfz8_0
          try clear hfz8_1
          try clear hfz8_2
          try clear hfz8_3
          try clear hfz8_4
          try clear hfz93_0
          try clear hfz93_1
          try clear hfz93_2
          try clear hfz93_3
          try clear hfz93_4
          try clear p2
          obtain ⟨kq, HA, HJ15, BK463, HB⟩ := hcut
          cases kq with
          | zero => exact absurd HA.out (by simp [rillbedlaw18_NodeBack.j1])
          | succ kj15 =>
            have H := HA.out
            clear HA
            simp only [rillbedlaw18_NodeBack.j1] at H
            replace H := Option.bind_eq_some_iff.mp H
            obtain ⟨⟨t486, t487, t490, t493, t496, t499⟩, A980, H⟩ := H
            replace H : (if t499 = 0 then ((node_Put.f t486 t487 t490 t493 t496).bind fun bt501 => (if bt501.1.toList = a1.toList then (if bt501.2 = 0 then ((rillbedlaw18_works.f kj15).bind fun t503 => (some t503)) else (none)) else (none))) else ((rillbedlaw18_fails.f kj15 a1 t499).bind fun t504 => (if t504 = true then ((rillbedlaw18_works.f kj15).bind fun t505 => (some t505)) else (none)))) = some r := H
            have A98 := Aside0.mk A980
            clear A980
            by_cases c99 : t499 = 0
            · rw [if_pos c99] at H
              have c99b0 : (t499 == 0) = true := beq_iff_eq.mpr c99
              have c99b1 : (t499 != 0) = false := bne_eq_false_iff_eq.mpr c99
              clear c99
              replace H := Option.bind_eq_some_iff.mp H
              obtain ⟨⟨t501, t502⟩, A1000, H⟩ := H
              replace H : (if t501.toList = a1.toList then (if t502 = 0 then ((rillbedlaw18_works.f kj15).bind fun t503 => (some t503)) else (none)) else (none)) = some r := H
              have A100 := Aside0.mk A1000
              clear A1000
              by_cases c101 : t501.toList = a1.toList
              · rw [if_pos c101] at H
                have c101b0 : (t501.toList == a1.toList) = true := beq_iff_eq.mpr c101
                have c101b1 : (t501.toList != a1.toList) = false := bne_eq_false_iff_eq.mpr c101
                clear c101
                by_cases c102 : t502 = 0
                · rw [if_pos c102] at H
                  have c102b0 : (t502 == 0) = true := beq_iff_eq.mpr c102
                  have c102b1 : (t502 != 0) = false := bne_eq_false_iff_eq.mpr c102
                  clear c102
                  replace H := Option.bind_eq_some_iff.mp H
                  obtain ⟨t503, A1030, H⟩ := H
                  replace H : (some t503) = some r := H
                  have A103 := Aside0.mk A1030
                  clear A1030
                  obtain rfl := Option.some.inj H
                  go_wp2_with (first | ((with_reducible refine gate_callee (f := 9) rfl ?_); refine goesL_ (some 69) rfl rfl Try.func9 (by kernel_rfl) rfl #[.string a1] rfl (by (try simp only [List.map_toArray, List.map_cons, List.map_nil]); first | done | rfl | (simp only [List.length_drop, List.length_take]; rfl)) ?_; (with_reducible refine (node_Take.calls a1 t486 t487 t490 t493 t496 t499 _ A98.out).mono ?_); rintro e w104 ⟨v488, v491, v494, v497, rfl, ho0, ho1, ho2, ho3, hb⟩; refine ⟨_, rfl, ?_⟩; have n0_ := Aside0.mk (Kd.R_lower ho0 (below_size (by repeat (first | (with_reducible first | exact HB.out | apply below_alloc | apply pw_below_drewN | apply below_drew1 | refine below_set ?_ GE463.out) | exact HB.out)))); have n1_ := Aside0.mk (Kd.R_lower ho1 (below_size (by repeat (first | (with_reducible first | exact HB.out | apply below_alloc | apply pw_below_drewN | apply below_drew1 | refine below_set ?_ GE463.out) | exact HB.out)))); have n2_ := Aside0.mk (Kd.R_lower ho2 (below_size (by repeat (first | (with_reducible first | exact HB.out | apply below_alloc | apply pw_below_drewN | apply below_drew1 | refine below_set ?_ GE463.out) | exact HB.out)))); have n3_ := Aside0.mk (Kd.R_lower ho3 (below_size (by repeat (first | (with_reducible first | exact HB.out | apply below_alloc | apply pw_below_drewN | apply below_drew1 | refine below_set ?_ GE463.out) | exact HB.out)))); have n4_ := Aside0.mk (blk_below (g := gb463) (o := .cells #[.bool a0_0, .slice A0_1 l0_1.length c0_1, .slice A0_2 l0_2.length c0_2, .slice A0_3 l0_3.length c0_3, .slice A0_4 l0_4.length c0_4] 28 (0, 0)) (by (with_reducible repeat (first | refine blk_drewN ?_ _ | refine blk_drew ?_ | refine blk_alloc ?_ _)); exact BK463.out) hb); have n5_ := Aside0.mk (below_step (by repeat (first | (with_reducible first | exact HB.out | apply below_alloc | apply pw_below_drewN | apply below_drew1 | refine below_set ?_ GE463.out) | exact HB.out)) hb); clear BK463; clear HB; have HO489 := n0_; have HO492 := n1_; have HO495 := n2_; have HO498 := n3_; have BK463 := n4_; have HB := n5_; clear n0_ n1_ n2_ n3_ n4_ n5_; (try clear hb); (try clear hb2); (try clear hk); (try clear hi); (try clear ho0); (try clear ho1); (try clear ho2); (try clear ho3)) | ((with_reducible refine gate_dst (N := 11) rfl ?_); (try (refine gate_guard (by rfl) ?_; dsimp only)); refine box_event ?hg (N := 11) ?hd (cs := #[.bool false, .slice none 0 0, .slice none 0 0, .slice none 0 0, .slice none 0 0]) (t := 28) ?hr ?_; (case hd => rfl); (case hg => rfl); (case hr => first | (go_simp; done) | (go_simp; rfl)); intro gb500 hg w105 hbox hb; have n0_ := Aside0.mk (Kd.R_below (by (with_reducible repeat (first | apply Kd.R_alloc | apply Kd.R_drewN | apply Kd.R_drew)); exact HO489.out) hb); have n1_ := Aside0.mk (Kd.R_below (by (with_reducible repeat (first | apply Kd.R_alloc | apply Kd.R_drewN | apply Kd.R_drew)); exact HO492.out) hb); have n2_ := Aside0.mk (Kd.R_below (by (with_reducible repeat (first | apply Kd.R_alloc | apply Kd.R_drewN | apply Kd.R_drew)); exact HO495.out) hb); have n3_ := Aside0.mk (Kd.R_below (by (with_reducible repeat (first | apply Kd.R_alloc | apply Kd.R_drewN | apply Kd.R_drew)); exact HO498.out) hb); have n4_ := Aside0.mk (blk_below (g := gb463) (o := .cells #[.bool a0_0, .slice A0_1 l0_1.length c0_1, .slice A0_2 l0_2.length c0_2, .slice A0_3 l0_3.length c0_3, .slice A0_4 l0_4.length c0_4] 28 (0, 0)) (by (with_reducible repeat (first | refine blk_drewN ?_ _ | refine blk_drew ?_ | refine blk_alloc ?_ _)); exact BK463.out) hb); have n5_ := Aside0.mk (below_step (by repeat (first | (with_reducible first | exact HB.out | apply below_alloc | apply pw_below_drewN | apply below_drew1 | refine below_set ?_ GE463.out) | exact HB.out)) hb); have n6_ := Aside0.mk (hbox); have n7_ := Aside0.mk ((by rw [hg]; exact (below_size (by repeat (first | (with_reducible first | exact HB.out | apply below_alloc | apply pw_below_drewN | apply below_drew1 | refine below_set ?_ GE463.out) | exact HB.out))) : w.heap.size ≤ gb500)); have n8_ := Aside0.mk ((by rw [hg]; exact (below_size (by repeat (first | (with_reducible first | exact HB.out | apply below_alloc | apply pw_below_drewN | apply below_drew1 | refine below_set ?_ GE463.out) | exact HB.out))) : w.heap.size ≤ gb500)); have n9_ := Aside0.mk ((by rw [hg]; exact Nat.ne_of_lt (blk_lt (g := gb463) (o := .cells #[.bool a0_0, .slice A0_1 l0_1.length c0_1, .slice A0_2 l0_2.length c0_2, .slice A0_3 l0_3.length c0_3, .slice A0_4 l0_4.length c0_4] 28 (0, 0)) (by (with_reducible repeat (first | refine blk_drewN ?_ _ | refine blk_drew ?_ | refine blk_alloc ?_ _)); exact BK463.out)) : gb463 ≠ gb500)); have n10_ := Aside0.mk ((by rw [hg]; exact Nat.ne_of_gt (blk_lt (g := gb463) (o := .cells #[.bool a0_0, .slice A0_1 l0_1.length c0_1, .slice A0_2 l0_2.length c0_2, .slice A0_3 l0_3.length c0_3, .slice A0_4 l0_4.length c0_4] 28 (0, 0)) (by (with_reducible repeat (first | refine blk_drewN ?_ _ | refine blk_drew ?_ | refine blk_alloc ?_ _)); exact BK463.out)) : gb500 ≠ gb463)); clear HO489; clear HO492; clear HO495; clear HO498; clear BK463; clear HB; have HO489 := n0_; have HO492 := n1_; have HO495 := n2_; have HO498 := n3_; have BK463 := n4_; have HB := n5_; have BK500 := n6_; have GW500 := n7_; have GE500 := n8_; have NB463_500 := n9_; have NB500_463 := n10_; clear n0_ n1_ n2_ n3_ n4_ n5_ n6_ n7_ n8_ n9_ n10_; clear hb hbox hg; have hnb106 := NB500_463.out; have hnc106 := NB463_500.out; have hcz107_0 : w105.cell? ⟨gb500, 0, none⟩ = some (.bool false) := (blk_cell BK500.out 0).trans rfl; have hcz107_1 : w105.cell? ⟨gb500, 1, none⟩ = some (.slice none 0 0) := (blk_cell BK500.out 1).trans rfl; have hcz107_2 : w105.cell? ⟨gb500, 2, none⟩ = some (.slice none 0 0) := (blk_cell BK500.out 2).trans rfl; have hcz107_3 : w105.cell? ⟨gb500, 3, none⟩ = some (.slice none 0 0) := (blk_cell BK500.out 3).trans rfl; have hcz107_4 : w105.cell? ⟨gb500, 4, none⟩ = some (.slice none 0 0) := (blk_cell BK500.out 4).trans rfl; have hfz107_0 := blk_frozen BK500.out 0; have hfz107_1 := blk_frozen BK500.out 1; have hfz107_2 := blk_frozen BK500.out 2; have hfz107_3 := blk_frozen BK500.out 3; have hfz107_4 := blk_frozen BK500.out 4; obtain ⟨Ao108, co108, eo108⟩ := Kd.R_slice HO489.out; subst eo108; obtain ⟨Ao109, co109, eo109⟩ := Kd.R_slice HO492.out; subst eo109; obtain ⟨Ao110, co110, eo110⟩ := Kd.R_slice HO495.out; subst eo110; obtain ⟨Ao111, co111, eo111⟩ := Kd.R_slice HO498.out; subst eo111) | ((with_reducible refine gate_callee (f := 14) rfl ?_); refine goesL_ (some 82) rfl rfl Try.func14 (by kernel_rfl) rfl #[.agg #[.bool t486, .slice Ao108 t487.length co108, .slice Ao109 t490.length co109, .slice Ao110 t493.length co110, .slice Ao111 t496.length co111]] rfl (by (try simp only [List.map_toArray, List.map_cons, List.map_nil]); first | done | rfl | (simp only [List.length_drop, List.length_take]; rfl)) ?_; (with_reducible refine (node_Put.calls t486 _ _ t487 _ _ t490 _ _ t493 _ _ t496 t501 t502 _ ?side1 ?side2 ?side3 ?side4 ?side5 ?side6 ?side7 ?side8 A100.out).mono ?_); (case side1 => refine (Kd.R_reads' (e := 75) (base := w.heap.size) (ok := fun k_ => True) (n := t487.length) (c := co108) ?_).2.2; exact (by (with_reducible repeat (first | apply Kd.R_alloc | apply Kd.R_drewN | apply Kd.R_drew)); exact (Kd.R_mono (Kd.R_far (p := ⟨gb500, 4, none⟩) (Kd.R_far (p := ⟨gb500, 3, none⟩) (Kd.R_far (p := ⟨gb500, 2, none⟩) (Kd.R_far (p := ⟨gb500, 1, none⟩) (Kd.R_far (p := ⟨gb500, 0, none⟩) (Kd.R_types HO489.out BK500.out (by decide)) (fun _ hk => hk.2) (.bool t486)) (fun _ hk => hk.2) (.slice Ao108 t487.length co108)) (fun _ hk => hk.2) (.slice Ao109 t490.length co109)) (fun _ hk => hk.2) (.slice Ao110 t493.length co110)) (fun _ hk => hk.2) (.slice Ao111 t496.length co111)) (fun _ h_ => h_.1)))); (case side2 => exact (Kd.R_reads' HO489.out).2.1); (case side3 => refine (Kd.R_reads' (e := 9) (base := w.heap.size) (ok := fun k_ => True) (n := t490.length) (c := co109) ?_).2.2; exact (by (with_reducible repeat (first | apply Kd.R_alloc | apply Kd.R_drewN | apply Kd.R_drew)); exact (Kd.R_mono (Kd.R_far (p := ⟨gb500, 4, none⟩) (Kd.R_far (p := ⟨gb500, 3, none⟩) (Kd.R_far (p := ⟨gb500, 2, none⟩) (Kd.R_far (p := ⟨gb500, 1, none⟩) (Kd.R_far (p := ⟨gb500, 0, none⟩) (Kd.R_types HO492.out BK500.out (by decide)) (fun _ hk => hk.2) (.bool t486)) (fun _ hk => hk.2) (.slice Ao108 t487.length co108)) (fun _ hk => hk.2) (.slice Ao109 t490.length co109)) (fun _ hk => hk.2) (.slice Ao110 t493.length co110)) (fun _ hk => hk.2) (.slice Ao111 t496.length co111)) (fun _ h_ => h_.1)))); (case side4 => exact (Kd.R_reads' HO492.out).2.1); (case side5 => refine (Kd.R_reads' (e := 3) (base := w.heap.size) (ok := fun k_ => True) (n := t493.length) (c := co110) ?_).2.2; exact (by (with_reducible repeat (first | apply Kd.R_alloc | apply Kd.R_drewN | apply Kd.R_drew)); exact (Kd.R_mono (Kd.R_far (p := ⟨gb500, 4, none⟩) (Kd.R_far (p := ⟨gb500, 3, none⟩) (Kd.R_far (p := ⟨gb500, 2, none⟩) (Kd.R_far (p := ⟨gb500, 1, none⟩) (Kd.R_far (p := ⟨gb500, 0, none⟩) (Kd.R_types HO495.out BK500.out (by decide)) (fun _ hk => hk.2) (.bool t486)) (fun _ hk => hk.2) (.slice Ao108 t487.length co108)) (fun _ hk => hk.2) (.slice Ao109 t490.length co109)) (fun _ hk => hk.2) (.slice Ao110 t493.length co110)) (fun _ hk => hk.2) (.slice Ao111 t496.length co111)) (fun _ h_ => h_.1)))); (case side6 => exact (Kd.R_reads' HO495.out).2.1); (case side7 => refine (Kd.R_reads' (e := 59) (base := w.heap.size) (ok := fun k_ => True) (n := t496.length) (c := co111) ?_).2.2; exact (by (with_reducible repeat (first | apply Kd.R_alloc | apply Kd.R_drewN | apply Kd.R_drew)); exact (Kd.R_mono (Kd.R_far (p := ⟨gb500, 4, none⟩) (Kd.R_far (p := ⟨gb500, 3, none⟩) (Kd.R_far (p := ⟨gb500, 2, none⟩) (Kd.R_far (p := ⟨gb500, 1, none⟩) (Kd.R_far (p := ⟨gb500, 0, none⟩) (Kd.R_types HO498.out BK500.out (by decide)) (fun _ hk => hk.2) (.bool t486)) (fun _ hk => hk.2) (.slice Ao108 t487.length co108)) (fun _ hk => hk.2) (.slice Ao109 t490.length co109)) (fun _ hk => hk.2) (.slice Ao110 t493.length co110)) (fun _ hk => hk.2) (.slice Ao111 t496.length co111)) (fun _ h_ => h_.1)))); (case side8 => exact (Kd.R_reads' HO498.out).2.1); rintro e w112 ⟨rfl, hb⟩; refine ⟨_, rfl, ?_⟩; have n0_ := Aside0.mk (Kd.R_below (by (with_reducible repeat (first | apply Kd.R_alloc | apply Kd.R_drewN | apply Kd.R_drew)); exact (Kd.R_mono (Kd.R_far (p := ⟨gb500, 4, none⟩) (Kd.R_far (p := ⟨gb500, 3, none⟩) (Kd.R_far (p := ⟨gb500, 2, none⟩) (Kd.R_far (p := ⟨gb500, 1, none⟩) (Kd.R_far (p := ⟨gb500, 0, none⟩) (Kd.R_types HO489.out BK500.out (by decide)) (fun _ hk => hk.2) (.bool t486)) (fun _ hk => hk.2) (.slice Ao108 t487.length co108)) (fun _ hk => hk.2) (.slice Ao109 t490.length co109)) (fun _ hk => hk.2) (.slice Ao110 t493.length co110)) (fun _ hk => hk.2) (.slice Ao111 t496.length co111)) (fun _ h_ => h_.1))) hb); have n1_ := Aside0.mk (Kd.R_below (by (with_reducible repeat (first | apply Kd.R_alloc | apply Kd.R_drewN | apply Kd.R_drew)); exact (Kd.R_mono (Kd.R_far (p := ⟨gb500, 4, none⟩) (Kd.R_far (p := ⟨gb500, 3, none⟩) (Kd.R_far (p := ⟨gb500, 2, none⟩) (Kd.R_far (p := ⟨gb500, 1, none⟩) (Kd.R_far (p := ⟨gb500, 0, none⟩) (Kd.R_types HO492.out BK500.out (by decide)) (fun _ hk => hk.2) (.bool t486)) (fun _ hk => hk.2) (.slice Ao108 t487.length co108)) (fun _ hk => hk.2) (.slice Ao109 t490.length co109)) (fun _ hk => hk.2) (.slice Ao110 t493.length co110)) (fun _ hk => hk.2) (.slice Ao111 t496.length co111)) (fun _ h_ => h_.1))) hb); have n2_ := Aside0.mk (Kd.R_below (by (with_reducible repeat (first | apply Kd.R_alloc | apply Kd.R_drewN | apply Kd.R_drew)); exact (Kd.R_mono (Kd.R_far (p := ⟨gb500, 4, none⟩) (Kd.R_far (p := ⟨gb500, 3, none⟩) (Kd.R_far (p := ⟨gb500, 2, none⟩) (Kd.R_far (p := ⟨gb500, 1, none⟩) (Kd.R_far (p := ⟨gb500, 0, none⟩) (Kd.R_types HO495.out BK500.out (by decide)) (fun _ hk => hk.2) (.bool t486)) (fun _ hk => hk.2) (.slice Ao108 t487.length co108)) (fun _ hk => hk.2) (.slice Ao109 t490.length co109)) (fun _ hk => hk.2) (.slice Ao110 t493.length co110)) (fun _ hk => hk.2) (.slice Ao111 t496.length co111)) (fun _ h_ => h_.1))) hb); have n3_ := Aside0.mk (Kd.R_below (by (with_reducible repeat (first | apply Kd.R_alloc | apply Kd.R_drewN | apply Kd.R_drew)); exact (Kd.R_mono (Kd.R_far (p := ⟨gb500, 4, none⟩) (Kd.R_far (p := ⟨gb500, 3, none⟩) (Kd.R_far (p := ⟨gb500, 2, none⟩) (Kd.R_far (p := ⟨gb500, 1, none⟩) (Kd.R_far (p := ⟨gb500, 0, none⟩) (Kd.R_types HO498.out BK500.out (by decide)) (fun _ hk => hk.2) (.bool t486)) (fun _ hk => hk.2) (.slice Ao108 t487.length co108)) (fun _ hk => hk.2) (.slice Ao109 t490.length co109)) (fun _ hk => hk.2) (.slice Ao110 t493.length co110)) (fun _ hk => hk.2) (.slice Ao111 t496.length co111)) (fun _ h_ => h_.1))) hb); have n4_ := Aside0.mk (blk_below (g := gb463) (o := .cells #[.bool a0_0, .slice A0_1 l0_1.length c0_1, .slice A0_2 l0_2.length c0_2, .slice A0_3 l0_3.length c0_3, .slice A0_4 l0_4.length c0_4] 28 (0, 0)) (by (with_reducible repeat (first | refine blk_drewN ?_ _ | refine blk_drew ?_ | refine blk_alloc ?_ _)); refine blk_far ?_ NB463_500.out _; (with_reducible repeat (first | refine blk_drewN ?_ _ | refine blk_drew ?_ | refine blk_alloc ?_ _)); refine blk_far ?_ NB463_500.out _; (with_reducible repeat (first | refine blk_drewN ?_ _ | refine blk_drew ?_ | refine blk_alloc ?_ _)); refine blk_far ?_ NB463_500.out _; (with_reducible repeat (first | refine blk_drewN ?_ _ | refine blk_drew ?_ | refine blk_alloc ?_ _)); refine blk_far ?_ NB463_500.out _; (with_reducible repeat (first | refine blk_drewN ?_ _ | refine blk_drew ?_ | refine blk_alloc ?_ _)); refine blk_far ?_ NB463_500.out _; (with_reducible repeat (first | refine blk_drewN ?_ _ | refine blk_drew ?_ | refine blk_alloc ?_ _)); exact BK463.out) hb); have n5_ := Aside0.mk (blk_below (g := gb500) (o := .cells #[.bool t486, .slice Ao108 t487.length co108, .slice Ao109 t490.length co109, .slice Ao110 t493.length co110, .slice Ao111 t496.length co111] 28 (0, 0)) (by (with_reducible repeat (first | refine blk_drewN ?_ _ | refine blk_drew ?_ | refine blk_alloc ?_ _)); refine blk_put (cs := #[.bool t486, .slice Ao108 t487.length co108, .slice Ao109 t490.length co109, .slice Ao110 t493.length co110, .slice none 0 0]) ?_ 4 _ rfl; (with_reducible repeat (first | refine blk_drewN ?_ _ | refine blk_drew ?_ | refine blk_alloc ?_ _)); refine blk_put (cs := #[.bool t486, .slice Ao108 t487.length co108, .slice Ao109 t490.length co109, .slice none 0 0, .slice none 0 0]) ?_ 3 _ rfl; (with_reducible repeat (first | refine blk_drewN ?_ _ | refine blk_drew ?_ | refine blk_alloc ?_ _)); refine blk_put (cs := #[.bool t486, .slice Ao108 t487.length co108, .slice none 0 0, .slice none 0 0, .slice none 0 0]) ?_ 2 _ rfl; (with_reducible repeat (first | refine blk_drewN ?_ _ | refine blk_drew ?_ | refine blk_alloc ?_ _)); refine blk_put (cs := #[.bool t486, .slice none 0 0, .slice none 0 0, .slice none 0 0, .slice none 0 0]) ?_ 1 _ rfl; (with_reducible repeat (first | refine blk_drewN ?_ _ | refine blk_drew ?_ | refine blk_alloc ?_ _)); refine blk_put (cs := #[.bool false, .slice none 0 0, .slice none 0 0, .slice none 0 0, .slice none 0 0]) ?_ 0 _ rfl; (with_reducible repeat (first | refine blk_drewN ?_ _ | refine blk_drew ?_ | refine blk_alloc ?_ _)); exact BK500.out) hb); have n6_ := Aside0.mk (below_step (by repeat (first | (with_reducible first | exact HB.out | apply below_alloc | apply pw_below_drewN | apply below_drew1 | refine below_set ?_ GE463.out | refine below_set ?_ GE500.out) | exact HB.out)) hb); clear HO489; clear HO492; clear HO495; clear HO498; clear BK463; clear BK500; clear HB; have HO489 := n0_; have HO492 := n1_; have HO495 := n2_; have HO498 := n3_; have BK463 := n4_; have BK500 := n5_; have HB := n6_; clear n0_ n1_ n2_ n3_ n4_ n5_ n6_; (try clear hb); (try clear hb2); (try clear hk); (try clear hi)) | (go_at_call 8; (with_reducible refine (rillbedlaw18_works.calls kj15  t503 _ A103.out).mono ?_); rintro e w113 ⟨rfl, hb⟩; have n0_ := Aside0.mk (Kd.R_below (by (with_reducible repeat (first | apply Kd.R_alloc | apply Kd.R_drewN | apply Kd.R_drew)); exact HO489.out) hb); have n1_ := Aside0.mk (Kd.R_below (by (with_reducible repeat (first | apply Kd.R_alloc | apply Kd.R_drewN | apply Kd.R_drew)); exact HO492.out) hb); have n2_ := Aside0.mk (Kd.R_below (by (with_reducible repeat (first | apply Kd.R_alloc | apply Kd.R_drewN | apply Kd.R_drew)); exact HO495.out) hb); have n3_ := Aside0.mk (Kd.R_below (by (with_reducible repeat (first | apply Kd.R_alloc | apply Kd.R_drewN | apply Kd.R_drew)); exact HO498.out) hb); have n4_ := Aside0.mk (blk_below (g := gb463) (o := .cells #[.bool a0_0, .slice A0_1 l0_1.length c0_1, .slice A0_2 l0_2.length c0_2, .slice A0_3 l0_3.length c0_3, .slice A0_4 l0_4.length c0_4] 28 (0, 0)) (by (with_reducible repeat (first | refine blk_drewN ?_ _ | refine blk_drew ?_ | refine blk_alloc ?_ _)); exact BK463.out) hb); have n5_ := Aside0.mk (blk_below (g := gb500) (o := .cells #[.bool t486, .slice Ao108 t487.length co108, .slice Ao109 t490.length co109, .slice Ao110 t493.length co110, .slice Ao111 t496.length co111] 28 (0, 0)) (by (with_reducible repeat (first | refine blk_drewN ?_ _ | refine blk_drew ?_ | refine blk_alloc ?_ _)); exact BK500.out) hb); have n6_ := Aside0.mk (below_step (by repeat (first | (with_reducible first | exact HB.out | apply below_alloc | apply pw_below_drewN | apply below_drew1 | refine below_set ?_ GE463.out | refine below_set ?_ GE500.out) | exact HB.out)) hb); clear HO489; clear HO492; clear HO495; clear HO498; clear BK463; clear BK500; clear HB; have HO489 := n0_; have HO492 := n1_; have HO495 := n2_; have HO498 := n3_; have BK463 := n4_; have BK500 := n5_; have HB := n6_; clear n0_ n1_ n2_ n3_ n4_ n5_ n6_; (try clear hb); (try clear hb2); (try clear hk); (try clear hi)))
                  go_ret
                  exact ⟨by first | rfl | (simp [errW_none, errW_some] <;> rfl) | (simp [*, errW_none, errW_some] <;> rfl), by repeat (first | (with_reducible first | exact HB.out | apply below_alloc | apply pw_below_drewN | apply below_drew1 | refine below_set ?_ GE463.out | refine below_set ?_ GE500.out) | exact HB.out)⟩
                · rw [if_neg c102] at H
                  cases H
              · rw [if_neg c101] at H
                cases H
            · rw [if_neg c99] at H
              have c99b0 : (t499 == 0) = false := beq_eq_false_iff_ne.mpr c99
              have c99b1 : (t499 != 0) = true := bne_iff_ne.mpr c99
              replace H := Option.bind_eq_some_iff.mp H
              obtain ⟨t504, A1320, H⟩ := H
              replace H : (if t504 = true then ((rillbedlaw18_works.f kj15).bind fun t505 => (some t505)) else (none)) = some r := H
              have A132 := Aside0.mk A1320
              clear A1320
              by_cases c133 : t504 = true
              · subst c133
                have H1 : ((rillbedlaw18_works.f kj15).bind fun t505 => (some t505)) = some r := by rw [if_pos rfl] at H; exact H
                clear H
                have H := H1
                clear H1
                replace H := Option.bind_eq_some_iff.mp H
                obtain ⟨t505, A1340, H⟩ := H
                replace H : (some t505) = some r := H
                have A134 := Aside0.mk A1340
                clear A1340
                obtain rfl := Option.some.inj H
                go_wp2_with (first | ((with_reducible refine gate_callee (f := 9) rfl ?_); refine goesL_ (some 69) rfl rfl Try.func9 (by kernel_rfl) rfl #[.string a1] rfl (by (try simp only [List.map_toArray, List.map_cons, List.map_nil]); first | done | rfl | (simp only [List.length_drop, List.length_take]; rfl)) ?_; (with_reducible refine (node_Take.calls a1 t486 t487 t490 t493 t496 t499 _ A98.out).mono ?_); rintro e w135 ⟨v488, v491, v494, v497, rfl, ho0, ho1, ho2, ho3, hb⟩; refine ⟨_, rfl, ?_⟩; have n0_ := Aside0.mk (Kd.R_lower ho0 (below_size (by repeat (first | (with_reducible first | exact HB.out | apply below_alloc | apply pw_below_drewN | apply below_drew1 | refine below_set ?_ GE463.out) | exact HB.out)))); have n1_ := Aside0.mk (Kd.R_lower ho1 (below_size (by repeat (first | (with_reducible first | exact HB.out | apply below_alloc | apply pw_below_drewN | apply below_drew1 | refine below_set ?_ GE463.out) | exact HB.out)))); have n2_ := Aside0.mk (Kd.R_lower ho2 (below_size (by repeat (first | (with_reducible first | exact HB.out | apply below_alloc | apply pw_below_drewN | apply below_drew1 | refine below_set ?_ GE463.out) | exact HB.out)))); have n3_ := Aside0.mk (Kd.R_lower ho3 (below_size (by repeat (first | (with_reducible first | exact HB.out | apply below_alloc | apply pw_below_drewN | apply below_drew1 | refine below_set ?_ GE463.out) | exact HB.out)))); have n4_ := Aside0.mk (blk_below (g := gb463) (o := .cells #[.bool a0_0, .slice A0_1 l0_1.length c0_1, .slice A0_2 l0_2.length c0_2, .slice A0_3 l0_3.length c0_3, .slice A0_4 l0_4.length c0_4] 28 (0, 0)) (by (with_reducible repeat (first | refine blk_drewN ?_ _ | refine blk_drew ?_ | refine blk_alloc ?_ _)); exact BK463.out) hb); have n5_ := Aside0.mk (below_step (by repeat (first | (with_reducible first | exact HB.out | apply below_alloc | apply pw_below_drewN | apply below_drew1 | refine below_set ?_ GE463.out) | exact HB.out)) hb); clear BK463; clear HB; have HO489 := n0_; have HO492 := n1_; have HO495 := n2_; have HO498 := n3_; have BK463 := n4_; have HB := n5_; clear n0_ n1_ n2_ n3_ n4_ n5_; (try clear hb); (try clear hb2); (try clear hk); (try clear hi); (try clear ho0); (try clear ho1); (try clear ho2); (try clear ho3)) | ((with_reducible refine gate_dst (N := 11) rfl ?_); (try (refine gate_guard (by rfl) ?_; dsimp only)); refine box_event ?hg (N := 11) ?hd (cs := #[.bool false, .slice none 0 0, .slice none 0 0, .slice none 0 0, .slice none 0 0]) (t := 28) ?hr ?_; (case hd => rfl); (case hg => rfl); (case hr => first | (go_simp; done) | (go_simp; rfl)); intro gb500 hg w136 hbox hb; have n0_ := Aside0.mk (Kd.R_below (by (with_reducible repeat (first | apply Kd.R_alloc | apply Kd.R_drewN | apply Kd.R_drew)); exact HO489.out) hb); have n1_ := Aside0.mk (Kd.R_below (by (with_reducible repeat (first | apply Kd.R_alloc | apply Kd.R_drewN | apply Kd.R_drew)); exact HO492.out) hb); have n2_ := Aside0.mk (Kd.R_below (by (with_reducible repeat (first | apply Kd.R_alloc | apply Kd.R_drewN | apply Kd.R_drew)); exact HO495.out) hb); have n3_ := Aside0.mk (Kd.R_below (by (with_reducible repeat (first | apply Kd.R_alloc | apply Kd.R_drewN | apply Kd.R_drew)); exact HO498.out) hb); have n4_ := Aside0.mk (blk_below (g := gb463) (o := .cells #[.bool a0_0, .slice A0_1 l0_1.length c0_1, .slice A0_2 l0_2.length c0_2, .slice A0_3 l0_3.length c0_3, .slice A0_4 l0_4.length c0_4] 28 (0, 0)) (by (with_reducible repeat (first | refine blk_drewN ?_ _ | refine blk_drew ?_ | refine blk_alloc ?_ _)); exact BK463.out) hb); have n5_ := Aside0.mk (below_step (by repeat (first | (with_reducible first | exact HB.out | apply below_alloc | apply pw_below_drewN | apply below_drew1 | refine below_set ?_ GE463.out) | exact HB.out)) hb); have n6_ := Aside0.mk (hbox); have n7_ := Aside0.mk ((by rw [hg]; exact (below_size (by repeat (first | (with_reducible first | exact HB.out | apply below_alloc | apply pw_below_drewN | apply below_drew1 | refine below_set ?_ GE463.out) | exact HB.out))) : w.heap.size ≤ gb500)); have n8_ := Aside0.mk ((by rw [hg]; exact (below_size (by repeat (first | (with_reducible first | exact HB.out | apply below_alloc | apply pw_below_drewN | apply below_drew1 | refine below_set ?_ GE463.out) | exact HB.out))) : w.heap.size ≤ gb500)); have n9_ := Aside0.mk ((by rw [hg]; exact Nat.ne_of_lt (blk_lt (g := gb463) (o := .cells #[.bool a0_0, .slice A0_1 l0_1.length c0_1, .slice A0_2 l0_2.length c0_2, .slice A0_3 l0_3.length c0_3, .slice A0_4 l0_4.length c0_4] 28 (0, 0)) (by (with_reducible repeat (first | refine blk_drewN ?_ _ | refine blk_drew ?_ | refine blk_alloc ?_ _)); exact BK463.out)) : gb463 ≠ gb500)); have n10_ := Aside0.mk ((by rw [hg]; exact Nat.ne_of_gt (blk_lt (g := gb463) (o := .cells #[.bool a0_0, .slice A0_1 l0_1.length c0_1, .slice A0_2 l0_2.length c0_2, .slice A0_3 l0_3.length c0_3, .slice A0_4 l0_4.length c0_4] 28 (0, 0)) (by (with_reducible repeat (first | refine blk_drewN ?_ _ | refine blk_drew ?_ | refine blk_alloc ?_ _)); exact BK463.out)) : gb500 ≠ gb463)); clear HO489; clear HO492; clear HO495; clear HO498; clear BK463; clear HB; have HO489 := n0_; have HO492 := n1_; have HO495 := n2_; have HO498 := n3_; have BK463 := n4_; have HB := n5_; have BK500 := n6_; have GW500 := n7_; have GE500 := n8_; have NB463_500 := n9_; have NB500_463 := n10_; clear n0_ n1_ n2_ n3_ n4_ n5_ n6_ n7_ n8_ n9_ n10_; clear hb hbox hg; have hnb137 := NB500_463.out; have hnc137 := NB463_500.out; have hcz138_0 : w136.cell? ⟨gb500, 0, none⟩ = some (.bool false) := (blk_cell BK500.out 0).trans rfl; have hcz138_1 : w136.cell? ⟨gb500, 1, none⟩ = some (.slice none 0 0) := (blk_cell BK500.out 1).trans rfl; have hcz138_2 : w136.cell? ⟨gb500, 2, none⟩ = some (.slice none 0 0) := (blk_cell BK500.out 2).trans rfl; have hcz138_3 : w136.cell? ⟨gb500, 3, none⟩ = some (.slice none 0 0) := (blk_cell BK500.out 3).trans rfl; have hcz138_4 : w136.cell? ⟨gb500, 4, none⟩ = some (.slice none 0 0) := (blk_cell BK500.out 4).trans rfl; have hfz138_0 := blk_frozen BK500.out 0; have hfz138_1 := blk_frozen BK500.out 1; have hfz138_2 := blk_frozen BK500.out 2; have hfz138_3 := blk_frozen BK500.out 3; have hfz138_4 := blk_frozen BK500.out 4; obtain ⟨Ao139, co139, eo139⟩ := Kd.R_slice HO489.out; subst eo139; obtain ⟨Ao140, co140, eo140⟩ := Kd.R_slice HO492.out; subst eo140; obtain ⟨Ao141, co141, eo141⟩ := Kd.R_slice HO495.out; subst eo141; obtain ⟨Ao142, co142, eo142⟩ := Kd.R_slice HO498.out; subst eo142) | ((with_reducible refine gate_callee (f := 17) rfl ?_); refine goesL_ (some 76) rfl rfl Try.func17 (by kernel_rfl) rfl #[.string a1, .int .i64 t499] rfl (by (try simp only [List.map_toArray, List.map_cons, List.map_nil]); first | done | rfl | (simp only [List.length_drop, List.length_take]; rfl)) ?_; (with_reducible refine (rillbedlaw18_fails.calls kj15 a1 t499 true _ A132.out).mono ?_); rintro e w143 ⟨rfl, hb⟩; refine ⟨_, rfl, ?_⟩; have n0_ := Aside0.mk (Kd.R_below (by (with_reducible repeat (first | apply Kd.R_alloc | apply Kd.R_drewN | apply Kd.R_drew)); exact (Kd.R_mono (Kd.R_far (p := ⟨gb500, 4, none⟩) (Kd.R_far (p := ⟨gb500, 3, none⟩) (Kd.R_far (p := ⟨gb500, 2, none⟩) (Kd.R_far (p := ⟨gb500, 1, none⟩) (Kd.R_far (p := ⟨gb500, 0, none⟩) (Kd.R_types HO489.out BK500.out (by decide)) (fun _ hk => hk.2) (.bool t486)) (fun _ hk => hk.2) (.slice Ao139 t487.length co139)) (fun _ hk => hk.2) (.slice Ao140 t490.length co140)) (fun _ hk => hk.2) (.slice Ao141 t493.length co141)) (fun _ hk => hk.2) (.slice Ao142 t496.length co142)) (fun _ h_ => h_.1))) hb); have n1_ := Aside0.mk (Kd.R_below (by (with_reducible repeat (first | apply Kd.R_alloc | apply Kd.R_drewN | apply Kd.R_drew)); exact (Kd.R_mono (Kd.R_far (p := ⟨gb500, 4, none⟩) (Kd.R_far (p := ⟨gb500, 3, none⟩) (Kd.R_far (p := ⟨gb500, 2, none⟩) (Kd.R_far (p := ⟨gb500, 1, none⟩) (Kd.R_far (p := ⟨gb500, 0, none⟩) (Kd.R_types HO492.out BK500.out (by decide)) (fun _ hk => hk.2) (.bool t486)) (fun _ hk => hk.2) (.slice Ao139 t487.length co139)) (fun _ hk => hk.2) (.slice Ao140 t490.length co140)) (fun _ hk => hk.2) (.slice Ao141 t493.length co141)) (fun _ hk => hk.2) (.slice Ao142 t496.length co142)) (fun _ h_ => h_.1))) hb); have n2_ := Aside0.mk (Kd.R_below (by (with_reducible repeat (first | apply Kd.R_alloc | apply Kd.R_drewN | apply Kd.R_drew)); exact (Kd.R_mono (Kd.R_far (p := ⟨gb500, 4, none⟩) (Kd.R_far (p := ⟨gb500, 3, none⟩) (Kd.R_far (p := ⟨gb500, 2, none⟩) (Kd.R_far (p := ⟨gb500, 1, none⟩) (Kd.R_far (p := ⟨gb500, 0, none⟩) (Kd.R_types HO495.out BK500.out (by decide)) (fun _ hk => hk.2) (.bool t486)) (fun _ hk => hk.2) (.slice Ao139 t487.length co139)) (fun _ hk => hk.2) (.slice Ao140 t490.length co140)) (fun _ hk => hk.2) (.slice Ao141 t493.length co141)) (fun _ hk => hk.2) (.slice Ao142 t496.length co142)) (fun _ h_ => h_.1))) hb); have n3_ := Aside0.mk (Kd.R_below (by (with_reducible repeat (first | apply Kd.R_alloc | apply Kd.R_drewN | apply Kd.R_drew)); exact (Kd.R_mono (Kd.R_far (p := ⟨gb500, 4, none⟩) (Kd.R_far (p := ⟨gb500, 3, none⟩) (Kd.R_far (p := ⟨gb500, 2, none⟩) (Kd.R_far (p := ⟨gb500, 1, none⟩) (Kd.R_far (p := ⟨gb500, 0, none⟩) (Kd.R_types HO498.out BK500.out (by decide)) (fun _ hk => hk.2) (.bool t486)) (fun _ hk => hk.2) (.slice Ao139 t487.length co139)) (fun _ hk => hk.2) (.slice Ao140 t490.length co140)) (fun _ hk => hk.2) (.slice Ao141 t493.length co141)) (fun _ hk => hk.2) (.slice Ao142 t496.length co142)) (fun _ h_ => h_.1))) hb); have n4_ := Aside0.mk (blk_below (g := gb463) (o := .cells #[.bool a0_0, .slice A0_1 l0_1.length c0_1, .slice A0_2 l0_2.length c0_2, .slice A0_3 l0_3.length c0_3, .slice A0_4 l0_4.length c0_4] 28 (0, 0)) (by (with_reducible repeat (first | refine blk_drewN ?_ _ | refine blk_drew ?_ | refine blk_alloc ?_ _)); refine blk_far ?_ NB463_500.out _; (with_reducible repeat (first | refine blk_drewN ?_ _ | refine blk_drew ?_ | refine blk_alloc ?_ _)); refine blk_far ?_ NB463_500.out _; (with_reducible repeat (first | refine blk_drewN ?_ _ | refine blk_drew ?_ | refine blk_alloc ?_ _)); refine blk_far ?_ NB463_500.out _; (with_reducible repeat (first | refine blk_drewN ?_ _ | refine blk_drew ?_ | refine blk_alloc ?_ _)); refine blk_far ?_ NB463_500.out _; (with_reducible repeat (first | refine blk_drewN ?_ _ | refine blk_drew ?_ | refine blk_alloc ?_ _)); refine blk_far ?_ NB463_500.out _; (with_reducible repeat (first | refine blk_drewN ?_ _ | refine blk_drew ?_ | refine blk_alloc ?_ _)); exact BK463.out) hb); have n5_ := Aside0.mk (blk_below (g := gb500) (o := .cells #[.bool t486, .slice Ao139 t487.length co139, .slice Ao140 t490.length co140, .slice Ao141 t493.length co141, .slice Ao142 t496.length co142] 28 (0, 0)) (by (with_reducible repeat (first | refine blk_drewN ?_ _ | refine blk_drew ?_ | refine blk_alloc ?_ _)); refine blk_put (cs := #[.bool t486, .slice Ao139 t487.length co139, .slice Ao140 t490.length co140, .slice Ao141 t493.length co141, .slice none 0 0]) ?_ 4 _ rfl; (with_reducible repeat (first | refine blk_drewN ?_ _ | refine blk_drew ?_ | refine blk_alloc ?_ _)); refine blk_put (cs := #[.bool t486, .slice Ao139 t487.length co139, .slice Ao140 t490.length co140, .slice none 0 0, .slice none 0 0]) ?_ 3 _ rfl; (with_reducible repeat (first | refine blk_drewN ?_ _ | refine blk_drew ?_ | refine blk_alloc ?_ _)); refine blk_put (cs := #[.bool t486, .slice Ao139 t487.length co139, .slice none 0 0, .slice none 0 0, .slice none 0 0]) ?_ 2 _ rfl; (with_reducible repeat (first | refine blk_drewN ?_ _ | refine blk_drew ?_ | refine blk_alloc ?_ _)); refine blk_put (cs := #[.bool t486, .slice none 0 0, .slice none 0 0, .slice none 0 0, .slice none 0 0]) ?_ 1 _ rfl; (with_reducible repeat (first | refine blk_drewN ?_ _ | refine blk_drew ?_ | refine blk_alloc ?_ _)); refine blk_put (cs := #[.bool false, .slice none 0 0, .slice none 0 0, .slice none 0 0, .slice none 0 0]) ?_ 0 _ rfl; (with_reducible repeat (first | refine blk_drewN ?_ _ | refine blk_drew ?_ | refine blk_alloc ?_ _)); exact BK500.out) hb); have n6_ := Aside0.mk (below_step (by repeat (first | (with_reducible first | exact HB.out | apply below_alloc | apply pw_below_drewN | apply below_drew1 | refine below_set ?_ GE463.out | refine below_set ?_ GE500.out) | exact HB.out)) hb); clear HO489; clear HO492; clear HO495; clear HO498; clear BK463; clear BK500; clear HB; have HO489 := n0_; have HO492 := n1_; have HO495 := n2_; have HO498 := n3_; have BK463 := n4_; have BK500 := n5_; have HB := n6_; clear n0_ n1_ n2_ n3_ n4_ n5_ n6_; (try clear hb); (try clear hb2); (try clear hk); (try clear hi)) | (go_at_call 8; (with_reducible refine (rillbedlaw18_works.calls kj15  t505 _ A134.out).mono ?_); rintro e w144 ⟨rfl, hb⟩; have n0_ := Aside0.mk (Kd.R_below (by (with_reducible repeat (first | apply Kd.R_alloc | apply Kd.R_drewN | apply Kd.R_drew)); exact HO489.out) hb); have n1_ := Aside0.mk (Kd.R_below (by (with_reducible repeat (first | apply Kd.R_alloc | apply Kd.R_drewN | apply Kd.R_drew)); exact HO492.out) hb); have n2_ := Aside0.mk (Kd.R_below (by (with_reducible repeat (first | apply Kd.R_alloc | apply Kd.R_drewN | apply Kd.R_drew)); exact HO495.out) hb); have n3_ := Aside0.mk (Kd.R_below (by (with_reducible repeat (first | apply Kd.R_alloc | apply Kd.R_drewN | apply Kd.R_drew)); exact HO498.out) hb); have n4_ := Aside0.mk (blk_below (g := gb463) (o := .cells #[.bool a0_0, .slice A0_1 l0_1.length c0_1, .slice A0_2 l0_2.length c0_2, .slice A0_3 l0_3.length c0_3, .slice A0_4 l0_4.length c0_4] 28 (0, 0)) (by (with_reducible repeat (first | refine blk_drewN ?_ _ | refine blk_drew ?_ | refine blk_alloc ?_ _)); exact BK463.out) hb); have n5_ := Aside0.mk (blk_below (g := gb500) (o := .cells #[.bool t486, .slice Ao139 t487.length co139, .slice Ao140 t490.length co140, .slice Ao141 t493.length co141, .slice Ao142 t496.length co142] 28 (0, 0)) (by (with_reducible repeat (first | refine blk_drewN ?_ _ | refine blk_drew ?_ | refine blk_alloc ?_ _)); exact BK500.out) hb); have n6_ := Aside0.mk (below_step (by repeat (first | (with_reducible first | exact HB.out | apply below_alloc | apply pw_below_drewN | apply below_drew1 | refine below_set ?_ GE463.out | refine below_set ?_ GE500.out) | exact HB.out)) hb); clear HO489; clear HO492; clear HO495; clear HO498; clear BK463; clear BK500; clear HB; have HO489 := n0_; have HO492 := n1_; have HO495 := n2_; have HO498 := n3_; have BK463 := n4_; have BK500 := n5_; have HB := n6_; clear n0_ n1_ n2_ n3_ n4_ n5_ n6_; (try clear hb); (try clear hb2); (try clear hk); (try clear hi)))
                go_ret
                exact ⟨by first | rfl | (simp [errW_none, errW_some] <;> rfl) | (simp [*, errW_none, errW_some] <;> rfl), by repeat (first | (with_reducible first | exact HB.out | apply below_alloc | apply pw_below_drewN | apply below_drew1 | refine below_set ?_ GE463.out | refine below_set ?_ GE500.out) | exact HB.out)⟩
              · replace c133 := Bool.eq_false_iff.mpr c133
                subst c133
                have H1 : (none) = some r := by rw [if_neg (show ¬ (false = true) by decide)] at H; exact H
                cases H1
end Go.Proofs.Ytnoimnijoklkdaa.Px
