/- AllocKnown: the walk. -/
import Derived.Test.YtieohjibccjliaaAlM
set_option linter.unusedVariables false
set_option linter.unusedSimpArgs false
namespace Go.Proofs.Ytieohjibccjliaa
open Go.RowKit Go.Shelf Go.Maps
set_option maxRecDepth 100000

set_option maxHeartbeats 4000000 in
theorem walk_AllocKnown (w : World) : Calls Try.prog 6 #[] w fun e w' => e = .returned (.bool true) ∧ Upd (fun _ => False) w w' := by
  have H0 := Lib.hid (al_New w 2 8 (by omega))
  go_enter Try.func6, Try.ntmps6
  go_wp2_with (fail)
  refine H0.out.mono ?_
  rintro e w1 ⟨b, rfl, k1⟩
  clear H0
  have K1 := Lib.hid (show Al _ w1 _ { n := 8, free := [(2, 6)], ch := [], wait := [] } from k1)
  clear k1
  have H1 := Lib.hid (al_takes (k := 2) (K1.out.later ((Upd.refl _ w1).alloc (.cells #[.int .i64 2, .int .i64 3] 3))) (introw_new w1 [2, 3] (by decide)) (s' := { n := 8, free := [(4, 4)], ch := [(2, [2, 3], 1, false)], wait := [] }) rfl (by decide))
  go_wp2_with (fail)
  refine H1.out.mono ?_
  rintro e w2 ⟨rfl, k2, _⟩
  clear H1
  have Ka2 := Lib.hid (show Al _ w2 _ { n := 8, free := [(4, 4)], ch := [(2, [2, 3], 1, false)], wait := [] } from k2)
  clear k2 K1
  have H2 := Lib.hid (al_Alloc Ka2.out 5)
  rw [show allocA ({ n := 8, free := [(4, 4)], ch := [(2, [2, 3], 1, false)], wait := [] } : AlS) 5 = ([], 7, { n := 8, free := [(4, 4)], ch := [(2, [2, 3], 1, false)], wait := [] }) from rfl] at H2
  dsimp only at H2
  go_wp2_with (fail)
  refine H2.out.mono ?_
  rintro e w3 ⟨v2, rfl, o2, k3, _⟩
  clear H2
  clear o2
  have Ka3 := Lib.hid (show Al _ w3 _ { n := 8, free := [(4, 4)], ch := [(2, [2, 3], 1, false)], wait := [] } from k3)
  clear k3 Ka2
  have H3 := Lib.hid (al_Alloc Ka3.out 0)
  rw [show allocA ({ n := 8, free := [(4, 4)], ch := [(2, [2, 3], 1, false)], wait := [] } : AlS) 0 = ([], 2, { n := 8, free := [(4, 4)], ch := [(2, [2, 3], 1, false)], wait := [] }) from rfl] at H3
  dsimp only at H3
  go_wp2_with (fail)
  refine H3.out.mono ?_
  rintro e w4 ⟨v3, rfl, o3, k4, _⟩
  clear H3
  clear o3
  have Ka4 := Lib.hid (show Al _ w4 _ { n := 8, free := [(4, 4)], ch := [(2, [2, 3], 1, false)], wait := [] } from k4)
  clear k4 Ka3
  have H4 := Lib.hid (al_takes (k := 3) (Ka4.out.later ((Upd.refl _ w4).alloc (.cells #[.int .i64 4, .int .i64 5, .int .i64 6] 3))) (introw_new w4 [4, 5, 6] (by decide)) (s' := { n := 8, free := [(7, 1)], ch := [(2, [2, 3], 1, false), (4, [4, 5, 6], 1, false)], wait := [] }) rfl (by decide))
  go_wp2_with (fail)
  refine H4.out.mono ?_
  rintro e w5 ⟨rfl, k5, _⟩
  clear H4
  have Ka5 := Lib.hid (show Al _ w5 _ { n := 8, free := [(7, 1)], ch := [(2, [2, 3], 1, false), (4, [4, 5, 6], 1, false)], wait := [] } from k5)
  clear k5 Ka4
  have H5 := Lib.hid (al_Hold Ka5.out 2 (by unfold inI; omega))
  rw [show holdA ({ n := 8, free := [(7, 1)], ch := [(2, [2, 3], 1, false), (4, [4, 5, 6], 1, false)], wait := [] } : AlS) 2 = (0, { n := 8, free := [(7, 1)], ch := [(2, [2, 3], 2, false), (4, [4, 5, 6], 1, false)], wait := [] }) from rfl] at H5
  dsimp only at H5
  go_wp2_with (fail)
  refine H5.out.mono ?_
  rintro e w6 ⟨rfl, k6, _⟩
  clear H5
  have Ka6 := Lib.hid (show Al _ w6 _ { n := 8, free := [(7, 1)], ch := [(2, [2, 3], 2, false), (4, [4, 5, 6], 1, false)], wait := [] } from k6)
  clear k6 Ka5
  have HS := Lib.hid (al_Refs Ka6.out 2 (by unfold inI; omega))
  rw [show refsA ({ n := 8, free := [(7, 1)], ch := [(2, [2, 3], 2, false), (4, [4, 5, 6], 1, false)], wait := [] } : AlS) 2 = 2 from rfl] at HS
  go_wp2_with (fail)
  refine HS.out.mono ?_
  rintro e wz ⟨rfl, rfl⟩
  clear HS
  have H6 := Lib.hid (al_drops (p := 2) (last := false) (want := 0) Ka6.out (by unfold inI; omega) (s' := { n := 8, free := [(7, 1)], ch := [(2, [2, 3], 1, false), (4, [4, 5, 6], 1, false)], wait := [] }) rfl)
  go_wp2_with (fail)
  refine H6.out.mono ?_
  rintro e w7 ⟨rfl, k7, _⟩
  clear H6
  have Ka7 := Lib.hid (show Al _ w7 _ { n := 8, free := [(7, 1)], ch := [(2, [2, 3], 1, false), (4, [4, 5, 6], 1, false)], wait := [] } from k7)
  clear k7 Ka6
  have H7 := Lib.hid (al_drops (p := 2) (last := true) (want := 0) Ka7.out (by unfold inI; omega) (s' := { n := 8, free := [(2, 2), (7, 1)], ch := [(4, [4, 5, 6], 1, false)], wait := [] }) rfl)
  go_wp2_with (fail)
  refine H7.out.mono ?_
  rintro e w8 ⟨rfl, k8, _⟩
  clear H7
  have Ka8 := Lib.hid (show Al _ w8 _ { n := 8, free := [(2, 2), (7, 1)], ch := [(4, [4, 5, 6], 1, false)], wait := [] } from k8)
  clear k8 Ka7
  have H8 := Lib.hid (al_Free Ka8.out)
  rw [show cntE ([(2, 2), (7, 1)] : List Ex) = 3 from by decide +kernel] at H8
  go_wp2_with (fail)
  refine H8.out.mono ?_
  rintro e w9 ⟨rfl, u9⟩
  clear H8
  have Ka9 := Lib.hid (Ka8.out.later u9)
  clear Ka8
  clear u9
  have H9 := Lib.hid (al_drops (p := 2) (last := false) (want := 5) Ka9.out (by unfold inI; omega) (s' := { n := 8, free := [(2, 2), (7, 1)], ch := [(4, [4, 5, 6], 1, false)], wait := [] }) rfl)
  go_wp2_with (fail)
  refine H9.out.mono ?_
  rintro e w10 ⟨rfl, k10, _⟩
  clear H9
  have Ka10 := Lib.hid (show Al _ w10 _ { n := 8, free := [(2, 2), (7, 1)], ch := [(4, [4, 5, 6], 1, false)], wait := [] } from k10)
  clear k10 Ka9
  have H10 := Lib.hid (al_Hold Ka10.out 3 (by unfold inI; omega))
  rw [show holdA ({ n := 8, free := [(2, 2), (7, 1)], ch := [(4, [4, 5, 6], 1, false)], wait := [] } : AlS) 3 = (5, { n := 8, free := [(2, 2), (7, 1)], ch := [(4, [4, 5, 6], 1, false)], wait := [] }) from rfl] at H10
  dsimp only at H10
  go_wp2_with (fail)
  refine H10.out.mono ?_
  rintro e w11 ⟨rfl, k11, _⟩
  clear H10
  have Ka11 := Lib.hid (show Al _ w11 _ { n := 8, free := [(2, 2), (7, 1)], ch := [(4, [4, 5, 6], 1, false)], wait := [] } from k11)
  clear k11 Ka10
  have HS := Lib.hid (al_Sure Ka11.out 4 (by unfold inI; omega))
  rw [show sureA ({ n := 8, free := [(2, 2), (7, 1)], ch := [(4, [4, 5, 6], 1, false)], wait := [] } : AlS) 4 = false from rfl] at HS
  go_wp2_with (fail)
  refine HS.out.mono ?_
  rintro e wz ⟨rfl, rfl⟩
  clear HS
  have H11 := Lib.hid (al_Commit Ka11.out)
  go_wp2_with (fail)
  refine H11.out.mono ?_
  rintro e w12 ⟨rfl, k12, _⟩
  clear H11
  have Ka12 := Lib.hid (show Al _ w12 _ { n := 8, free := [(2, 2), (7, 1)], ch := [(4, [4, 5, 6], 1, true)], wait := [] } from k12)
  clear k12 Ka11
  have HS := Lib.hid (al_Sure Ka12.out 4 (by unfold inI; omega))
  rw [show sureA ({ n := 8, free := [(2, 2), (7, 1)], ch := [(4, [4, 5, 6], 1, true)], wait := [] } : AlS) 4 = true from rfl] at HS
  go_wp2_with (fail)
  refine HS.out.mono ?_
  rintro e wz ⟨rfl, rfl⟩
  clear HS
  have H12 := Lib.hid (al_drops (p := 4) (last := true) (want := 0) Ka12.out (by unfold inI; omega) (s' := { n := 8, free := [(2, 2), (7, 1)], ch := [], wait := [(4, ()), (5, ()), (6, ())] }) rfl)
  go_wp2_with (fail)
  refine H12.out.mono ?_
  rintro e w13 ⟨rfl, k13, _⟩
  clear H12
  have Ka13 := Lib.hid (show Al _ w13 _ { n := 8, free := [(2, 2), (7, 1)], ch := [], wait := [(4, ()), (5, ()), (6, ())] } from k13)
  clear k13 Ka12
  have H13 := Lib.hid (al_Free Ka13.out)
  rw [show cntE ([(2, 2), (7, 1)] : List Ex) = 3 from by decide +kernel] at H13
  go_wp2_with (fail)
  refine H13.out.mono ?_
  rintro e w14 ⟨rfl, u14⟩
  clear H13
  have Ka14 := Lib.hid (Ka13.out.later u14)
  clear Ka13
  clear u14
  have HS := Lib.hid (al_Waiting Ka14.out)
  go_wp2_with (fail)
  refine HS.out.mono ?_
  rintro e wz ⟨rfl, rfl⟩
  clear HS
  have H14 := Lib.hid (al_List Ka14.out)
  rw [show listA ({ n := 8, free := [(2, 2), (7, 1)], ch := [], wait := [(4, ()), (5, ()), (6, ())] } : AlS) = [] from rfl] at H14
  go_wp2_with (fail)
  refine H14.out.mono ?_
  rintro e w15 ⟨vl, rfl, ol, u15⟩
  clear H14
  obtain ⟨adl, cpl, hvl, _⟩ := ol.rd
  rw [show ([] : List Own).length = 0 from rfl] at hvl
  subst hvl
  clear ol
  have Ka15 := Lib.hid (Ka14.out.later u15)
  clear Ka14
  clear u15
  have H15 := Lib.hid (al_Commit Ka15.out)
  go_wp2_with (fail)
  refine H15.out.mono ?_
  rintro e w16 ⟨rfl, k16, _⟩
  clear H15
  have Ka16 := Lib.hid (show Al _ w16 _ { n := 8, free := [(2, 6)], ch := [], wait := [] } from k16)
  clear k16 Ka15
  have rd16 : OwnRd ((w16.alloc (.cells #[.int .i64 7] 3)).alloc (.cells #[.int .i64 4, .int .i64 2, .slice (some ⟨w16.heap.size, 0, none⟩) 1 1] 39)) (.slice (some ⟨w16.heap.size + 1, 0, none⟩) 1 1) [(4, 2, [7])] := ownrd1 w16 4 2 [7] (by decide)
  have u16a := (((Upd.refl (fun _ => False) w16).alloc (.cells #[.int .i64 7] 3)).alloc (.cells #[.int .i64 4, .int .i64 2, .slice (some ⟨w16.heap.size, 0, none⟩) 1 1] 39))
  have H16 := Lib.hid (load_yes ((w16.alloc (.cells #[.int .i64 7] 3)).alloc (.cells #[.int .i64 4, .int .i64 2, .slice (some ⟨w16.heap.size, 0, none⟩) 1 1] 39)) 2 8 (by omega) rd16 (by decide) (one_in (by unfold inI; omega) (by intro y hy; simp at hy <;> (subst hy; unfold inI; omega)) (by decide)))
  rw [show loadL 2 8 [((4, 2, [7]) : Own)] [] [] = some ([4, 7], [(4, [4, 7], 2, true)]) from by rfl] at H16
  clear rd16
  go_wp2_with (fail)
  refine H16.out.mono ?_
  rintro e w17 ⟨lb, frlb, rfl, klb, folb, fflb⟩
  clear H16
  have u17 := klb.upd
  have uu17 := u16a.trans u17 (fun _ _ f => f)
  clear u16a u17
  have Ka17 := Lib.hid (Ka16.out.later uu17)
  clear Ka16
  clear uu17
  have hfr : frlb = [(2, 2), (5, 2)] := SpOk.ext (n := 8) _ _ folb ⟨by omega, by decide, by decide⟩ (fun k => by rw [fflb, Bool.eq_iff_iff, hasB_iff]; simp; omega)
  subst hfr
  have Kb := Lib.hid (show Al _ w17 _ { n := 8, free := [(2, 2), (5, 2)], ch := [(4, [4, 7], 2, true)], wait := [] } from klb)
  clear klb folb fflb
  have H17 := Lib.hid (al_Free Ka17.out)
  rw [show cntE ([(2, 6)] : List Ex) = 6 from by decide +kernel] at H17
  go_wp2_with (fail)
  refine H17.out.mono ?_
  rintro e w18 ⟨rfl, u18⟩
  clear H17
  have Ka18 := Lib.hid (Ka17.out.later u18)
  clear Ka17
  have Kb18 := Lib.hid (Kb.out.later u18)
  clear Kb
  clear u18
  have HS := Lib.hid (al_Waiting Ka18.out)
  go_wp2_with (fail)
  refine HS.out.mono ?_
  rintro e wz ⟨rfl, rfl⟩
  clear HS
  have H18 := Lib.hid (al_Chain Kb18.out 4 (by unfold inI; omega))
  rw [show chainA ({ n := 8, free := [(2, 2), (5, 2)], ch := [(4, [4, 7], 2, true)], wait := [] } : AlS) 4 = [4, 7] from rfl] at H18
  go_wp2_with (fail)
  refine H18.out.mono ?_
  rintro e w19 ⟨vc18, rfl, oc18, u19⟩
  clear H18
  obtain ⟨rc18, hrc18, _, _⟩ := IntRow.of_owns oc18 (by simp)
  obtain ⟨off18, cap18, cur18, hv18, hrow18, _, _, hg18⟩ := hrc18
  rw [show ([4, 7] : List Int).length = 2 from rfl] at hv18
  subst hv18
  have cc18 := cell_heap hrow18 _ _ (hg18 1 7 rfl)
  clear oc18 hrow18 hg18
  have Ka19 := Lib.hid (Ka18.out.later u19)
  clear Ka18
  have Kb19 := Lib.hid (Kb18.out.later u19)
  clear Kb18
  clear u19
  have H19 := Lib.hid (al_Chain Kb19.out 4 (by unfold inI; omega))
  rw [show chainA ({ n := 8, free := [(2, 2), (5, 2)], ch := [(4, [4, 7], 2, true)], wait := [] } : AlS) 4 = [4, 7] from rfl] at H19
  go_wp2_with (fail)
  refine H19.out.mono ?_
  rintro e w20 ⟨vc19, rfl, oc19, u20⟩
  clear H19
  obtain ⟨rc19, hrc19, _, _⟩ := IntRow.of_owns oc19 (by simp)
  obtain ⟨off19, cap19, cur19, hv19, hrow19, _, _, hg19⟩ := hrc19
  rw [show ([4, 7] : List Int).length = 2 from rfl] at hv19
  subst hv19
  have cc19 := cell_heap hrow19 _ _ (hg19 1 7 rfl)
  clear oc19 hrow19 hg19
  have Ka20 := Lib.hid (Ka19.out.later u20)
  clear Ka19
  have Kb20 := Lib.hid (Kb19.out.later u20)
  clear Kb19
  clear u20
  have HS := Lib.hid (al_Sure Kb20.out 4 (by unfold inI; omega))
  rw [show sureA ({ n := 8, free := [(2, 2), (5, 2)], ch := [(4, [4, 7], 2, true)], wait := [] } : AlS) 4 = true from rfl] at HS
  go_wp2_with (fail)
  refine HS.out.mono ?_
  rintro e wz ⟨rfl, rfl⟩
  clear HS
  have H20 := Lib.hid (al_Free Kb20.out)
  rw [show cntE ([(2, 2), (5, 2)] : List Ex) = 4 from by decide +kernel] at H20
  go_wp2_with (fail)
  refine H20.out.mono ?_
  rintro e w21 ⟨rfl, u21⟩
  clear H20
  have Ka21 := Lib.hid (Ka20.out.later u21)
  clear Ka20
  have Kb21 := Lib.hid (Kb20.out.later u21)
  clear Kb20
  clear u21
  have HS := Lib.hid (al_Refs Kb21.out 7 (by unfold inI; omega))
  rw [show refsA ({ n := 8, free := [(2, 2), (5, 2)], ch := [(4, [4, 7], 2, true)], wait := [] } : AlS) 7 = 0 from rfl] at HS
  go_wp2_with (fail)
  refine HS.out.mono ?_
  rintro e wz ⟨rfl, rfl⟩
  clear HS
  clear Kb21
  have rd21 : OwnRd ((w21.alloc (.cells #[.int .i64 4] 3)).alloc (.cells #[.int .i64 4, .int .i64 2, .slice (some ⟨w21.heap.size, 0, none⟩) 1 1] 39)) (.slice (some ⟨w21.heap.size + 1, 0, none⟩) 1 1) [(4, 2, [4])] := ownrd1 w21 4 2 [4] (by decide)
  have u21a := (((Upd.refl (fun _ => False) w21).alloc (.cells #[.int .i64 4] 3)).alloc (.cells #[.int .i64 4, .int .i64 2, .slice (some ⟨w21.heap.size, 0, none⟩) 1 1] 39))
  have H21 := Lib.hid (load_yes ((w21.alloc (.cells #[.int .i64 4] 3)).alloc (.cells #[.int .i64 4, .int .i64 2, .slice (some ⟨w21.heap.size, 0, none⟩) 1 1] 39)) 2 8 (by omega) rd21 (by decide) (one_in (by unfold inI; omega) (by intro y hy; simp at hy <;> (subst hy; unfold inI; omega)) (by decide)))
  rw [show loadL 2 8 [((4, 2, [4]) : Own)] [] [] = none from by rfl] at H21
  clear rd21
  go_wp2_with (fail)
  refine H21.out.mono ?_
  rintro e w22 ⟨rfl, u22⟩
  clear H21
  have uu22 := u21a.trans u22 (fun _ _ f => f)
  clear u21a u22
  have Ka22 := Lib.hid (Ka21.out.later uu22)
  clear Ka21
  clear uu22
  have rd22 : OwnRd ((w22.alloc (.cells #[.int .i64 8] 3)).alloc (.cells #[.int .i64 4, .int .i64 2, .slice (some ⟨w22.heap.size, 0, none⟩) 1 1] 39)) (.slice (some ⟨w22.heap.size + 1, 0, none⟩) 1 1) [(4, 2, [8])] := ownrd1 w22 4 2 [8] (by decide)
  have u22a := (((Upd.refl (fun _ => False) w22).alloc (.cells #[.int .i64 8] 3)).alloc (.cells #[.int .i64 4, .int .i64 2, .slice (some ⟨w22.heap.size, 0, none⟩) 1 1] 39))
  have H22 := Lib.hid (load_yes ((w22.alloc (.cells #[.int .i64 8] 3)).alloc (.cells #[.int .i64 4, .int .i64 2, .slice (some ⟨w22.heap.size, 0, none⟩) 1 1] 39)) 2 8 (by omega) rd22 (by decide) (one_in (by unfold inI; omega) (by intro y hy; simp at hy <;> (subst hy; unfold inI; omega)) (by decide)))
  rw [show loadL 2 8 [((4, 2, [8]) : Own)] [] [] = none from by rfl] at H22
  clear rd22
  go_wp2_with (fail)
  refine H22.out.mono ?_
  rintro e w23 ⟨rfl, u23⟩
  clear H22
  have uu23 := u22a.trans u23 (fun _ _ f => f)
  clear u22a u23
  have Ka23 := Lib.hid (Ka22.out.later uu23)
  clear Ka22
  clear uu23
  have rd23 : OwnRd (w23.alloc (.cells #[.int .i64 4, .int .i64 0, .slice none 0 0] 39)) (.slice (some ⟨w23.heap.size, 0, none⟩) 1 1) [(4, 0, [])] := ownrd0 w23 4 0
  have u23a := ((Upd.refl (fun _ => False) w23).alloc (.cells #[.int .i64 4, .int .i64 0, .slice none 0 0] 39))
  have H23 := Lib.hid (load_yes (w23.alloc (.cells #[.int .i64 4, .int .i64 0, .slice none 0 0] 39)) 2 8 (by omega) rd23 (by decide) (one_in (by unfold inI; omega) (by intro y hy; simp at hy <;> (subst hy; unfold inI; omega)) (by decide)))
  rw [show loadL 2 8 [((4, 0, []) : Own)] [] [] = none from by rfl] at H23
  clear rd23
  go_wp2_with (fail)
  refine H23.out.mono ?_
  rintro e w24 ⟨rfl, u24⟩
  clear H23
  have uu24 := u23a.trans u24 (fun _ _ f => f)
  clear u23a u24
  have Ka24 := Lib.hid (Ka23.out.later uu24)
  clear Ka23
  clear uu24
  have HS := Lib.hid (load_no w24 5 5 (.slice none 0 0) (by omega))
  go_wp2_with (fail)
  refine HS.out.mono ?_
  rintro e wz ⟨rfl, rfl⟩
  clear HS
  have HC0 := Lib.hid (Ka24.out.upd.alloc (.cells #[.int .i64 2, .int .i64 65535, .slice none 0 0] 39))
  have rd24 : OwnRd (w24.alloc (.cells #[.int .i64 2, .int .i64 65535, .slice none 0 0] 39)) (.slice (some ⟨w24.heap.size, 0, none⟩) 1 1) [(2, 65535, [])] := ownrd0 w24 2 65535
  have u24a := ((Upd.refl (fun _ => False) w24).alloc (.cells #[.int .i64 2, .int .i64 65535, .slice none 0 0] 39))
  have H24 := Lib.hid (load_yes (w24.alloc (.cells #[.int .i64 2, .int .i64 65535, .slice none 0 0] 39)) 2 8 (by omega) rd24 (by decide) (one_in (by unfold inI; omega) (by intro y hy; simp at hy <;> (subst hy; unfold inI; omega)) (by decide)))
  rw [show loadL 2 8 [((2, 65535, []) : Own)] [] [] = some ([2], [(2, [2], 65535, true)]) from by rfl] at H24
  clear rd24
  go_wp2_with (fail)
  refine H24.out.mono ?_
  rintro e w25 ⟨lc, frlc, rfl, klc, folc, fflc⟩
  clear H24
  have u25 := klc.upd
  have uu25 := u24a.trans u25 (fun _ _ f => f)
  clear u24a u25
  have Ka25 := Lib.hid (Ka24.out.later uu25)
  clear Ka24
  clear uu25
  have HU := Lib.hid (Ka25.out.upd)
  clear Ka25
  have KC := Lib.hid klc
  clear klc folc fflc
  have uz := (Upd.refl (fun _ => False) w25).alloc (.cells #[.pointer none, .map none, .map none] 66)
  have ZA := Lib.hid (show ZAl (w25.alloc (.cells #[.pointer none, .map none, .map none] 66)) w25.heap.size from heap_alloc_new w25 _)
  have KC2 := Lib.hid (KC.out.later uz)
  have HU2 := Lib.hid (HU.out.trans uz (fun _ _ f => f))
  clear uz KC HU
  have HS := Lib.hid (noal_Commit (w25.alloc (.cells #[.pointer none, .map none, .map none] 66)))
  go_wp2_with (fail)
  refine HS.out.mono ?_
  rintro e wz ⟨rfl, rfl⟩
  clear HS
  have HS := Lib.hid (zal_Alloc ZA.out 1)
  go_wp2_with (fail)
  refine HS.out.mono ?_
  rintro e wz ⟨rfl, rfl⟩
  clear HS
  have H25 := Lib.hid (al_Hold KC2.out 2 (by unfold inI; omega))
  rw [show (holdA _ 2).1 = 3 from rfl] at H25
  go_wp2_with (fail)
  refine H25.out.mono ?_
  rintro e w26 ⟨rfl, k26, kk26⟩
  clear H25
  have ZA2 := Lib.hid (show ZAl w26 w25.heap.size from kk26.cells _ _ _ _ (by decide) (by decide) (by decide) ZA.out)
  have HU3 := Lib.hid (HC0.out.trans k26.upd (fun _ _ f => f))
  clear k26 kk26 KC2 ZA HU2
  have HS := Lib.hid (al_New_no w26 5 5 (by omega))
  go_wp2_with (fail)
  refine HS.out.mono ?_
  rintro e wz ⟨rfl, rfl⟩
  clear HS
  have HS := Lib.hid (al_New_no w26 0 4097 (by omega))
  go_wp2_with (fail)
  refine HS.out.mono ?_
  rintro e wz ⟨rfl, rfl⟩
  clear HS
  have HS := Lib.hid (al_New_no w26 (-1) 5 (by omega))
  go_wp2_with (fail)
  refine HS.out.mono ?_
  rintro e wz ⟨rfl, rfl⟩
  clear HS
  have HS := Lib.hid (noal_Hold w26 2)
  go_wp2_with (fail)
  refine HS.out.mono ?_
  rintro e wz ⟨rfl, rfl⟩
  clear HS
  have HS := Lib.hid (zal_drops ZA2.out 1)
  go_wp2_with (fail)
  refine HS.out.mono ?_
  rintro e wz ⟨rfl, rfl⟩
  clear HS
  have HS := Lib.hid (noal_Free w26)
  go_wp2_with (fail)
  refine HS.out.mono ?_
  rintro e wz ⟨rfl, rfl⟩
  clear HS
  have HS := Lib.hid (zal_Waiting ZA2.out)
  go_wp2_with (fail)
  refine HS.out.mono ?_
  rintro e wz ⟨rfl, rfl⟩
  clear HS
  have HS := Lib.hid (noal_List w26)
  go_wp2_with (fail)
  refine HS.out.mono ?_
  rintro e wz ⟨rfl, rfl⟩
  clear HS
  have HS := Lib.hid (noal_Refs w26 2)
  go_wp2_with (fail)
  refine HS.out.mono ?_
  rintro e wz ⟨rfl, rfl⟩
  clear HS
  have H26 := Lib.hid (awake_ok w26)
  go_wp2_with (fail)
  refine H26.out.mono ?_
  rintro e w27 ⟨rfl, u27⟩
  clear H26
  have HU4 := Lib.hid (HU3.out.trans u27 (fun _ _ f => f))
  clear u27
  go_wp2
  go_ret
  exact ⟨rfl, HU4.out⟩

end Go.Proofs.Ytieohjibccjliaa
