/- Sets that are none; SpansKnown. -/
import Derived.Test.YtoblihckojnffaaSpL
set_option linter.unusedVariables false
set_option linter.unusedSimpArgs false
namespace Go.Proofs.Ytoblihckojnffaa
open Go.RowKit Go.Shelf
set_option maxRecDepth 100000

theorem NoSp.upd {w w' : World} {p : Option Addr} (h : NoSp w p) (hu : Upd (fun _ => False) w w') : NoSp w' p := by
  rcases h with h | ⟨b, v, fr, rfl, hb⟩
  · exact .inl h
  · exact .inr ⟨b, v, fr, rfl, hu.heap hb (fun f => f)⟩
theorem nosp_isAny {w : World} {p : Option Addr} (h : NoSp w p) : Calls Try.prog 29 #[.pointer p] w fun e w' => e = .returned (.bool false) ∧ w = w' := by
  rcases h with rfl | ⟨b, v, fr, rfl, hb⟩
  · exact nosp_is w
  · have c0 := cell_heap hb 0 _ rfl
    clear hb
    go_enter Try.func29, Try.ntmps29
    go_wp2
    go_ret
    exact ⟨rfl, rfl⟩
theorem nosp_Has {w : World} {p : Option Addr} (h : NoSp w p) (k : Int) : Calls Try.prog 10 #[.pointer p, .int .i64 k] w fun e w' => e = .returned (.bool false) ∧ w = w' := by
  have HI := Lib.hid (nosp_isAny h)
  clear h
  go_enter Try.func10, Try.ntmps10
  go_wp2_with (go_at_call 29; refine HI.out.mono ?_; rintro e w' ⟨rfl, rfl⟩)
  go_ret
  exact ⟨rfl, rfl⟩
theorem nosp_Count {w : World} {p : Option Addr} (h : NoSp w p) : Calls Try.prog 12 #[.pointer p] w fun e w' => e = .returned (.int .i64 0) ∧ w = w' := by
  have HI := Lib.hid (nosp_isAny h)
  clear h
  go_enter Try.func12, Try.ntmps12
  go_wp2_with (go_at_call 29; refine HI.out.mono ?_; rintro e w' ⟨rfl, rfl⟩)
  go_ret
  exact ⟨rfl, rfl⟩
theorem nosp_List {w : World} {p : Option Addr} (h : NoSp w p) : Calls Try.prog 15 #[.pointer p] w fun e w' => e = .returned (.slice none 0 0) ∧ w = w' := by
  have HI := Lib.hid (nosp_isAny h)
  clear h
  go_enter Try.func15, Try.ntmps15
  go_wp2_with (go_at_call 29; refine HI.out.mono ?_; rintro e w' ⟨rfl, rfl⟩)
  go_ret
  exact ⟨rfl, rfl⟩
theorem nosp_Copy {w : World} {p : Option Addr} (h : NoSp w p) : Calls Try.prog 20 #[.pointer p] w fun e w' => e = .returned (.pointer none) ∧ w = w' := by
  have HI := Lib.hid (nosp_isAny h)
  clear h
  go_enter Try.func20, Try.ntmps20
  go_wp2_with (go_at_call 29; refine HI.out.mono ?_; rintro e w' ⟨rfl, rfl⟩)
  go_ret
  exact ⟨rfl, rfl⟩
theorem nosp_Take {w : World} {p : Option Addr} (h : NoSp w p) (k : Int) : Calls Try.prog 19 #[.pointer p, .int .i64 k] w fun e w' => e = .returned (.tuple #[.slice none 0 0, .int .i64 1]) ∧ Upd (fun _ => False) w w' := by
  have u1 : Upd (fun _ => False) w (w.alloc (.cells #[.int .i64 k] 3)) := (Upd.refl _ _).alloc _
  have HI := Lib.hid (nosp_isAny (h.upd u1))
  have HC := Lib.hid (nosp_Count (h.upd u1))
  have HU := Lib.hid u1
  clear h u1
  go_enter Try.func19, Try.ntmps19
  go_wp2_with (first | (go_at_call 12; refine HC.out.mono ?_; rintro e w' ⟨rfl, rfl⟩) | (go_at_call 29; refine HI.out.mono ?_; rintro e w' ⟨rfl, rfl⟩))
  go_ret2
  exact ⟨rfl, HU.out⟩
theorem known_ok (w : World) : Calls Try.prog 5 #[] w fun e w' => e = .returned (.bool true) ∧ Upd (fun _ => False) w w' := by
  have HG := Lib.hid (given_ok w)
  go_enter Try.func5, Try.ntmps5
  go_wp2_with (fail)
  refine HG.out.mono ?_
  rintro e w1 ⟨b, rfl, k1⟩
  have HW := Lib.hid (works_ok w1)
  have K1 := Lib.hid k1
  clear k1
  go_wp2_with (fail)
  refine HW.out.mono ?_
  rintro e w2 ⟨rfl, u2⟩
  have k2 := K1.out.later u2
  clear u2
  have H2 := Lib.hid (new_give k2 (by unfold SpOk; decide) (10))
  rw [show giveA 10 [(2, 4), (8, 1)] (10) = ([(2, 4), (8, 1)], 2) by decide +kernel] at H2
  clear k2
  go_wp2_with (fail)
  refine H2.out.mono ?_
  rintro e w3 ⟨rfl, k3⟩
  have H3 := Lib.hid (new_give k3 (by unfold SpOk; decide) (-1))
  rw [show giveA 10 [(2, 4), (8, 1)] (-1) = ([(2, 4), (8, 1)], 2) by decide +kernel] at H3
  clear k3
  go_wp2_with (fail)
  refine H3.out.mono ?_
  rintro e w4 ⟨rfl, k4⟩
  have H4 := Lib.hid (new_fill k4 (by unfold SpOk; decide) (5) (9))
  rw [show fillA 10 [(2, 4), (8, 1)] (5) (9) = ([(2, 4), (8, 1)], 6) by decide +kernel] at H4
  clear k4
  go_wp2_with (fail)
  refine H4.out.mono ?_
  rintro e w5 ⟨rfl, k5⟩
  have H5 := Lib.hid (new_fill k5 (by unfold SpOk; decide) (6) (8))
  rw [show fillA 10 [(2, 4), (8, 1)] (6) (8) = ([(2, 7)], 0) by decide +kernel] at H5
  clear k5
  go_wp2_with (fail)
  refine H5.out.mono ?_
  rintro e w6 ⟨rfl, k6⟩
  have H6 := Lib.hid (new_fill k6 (by unfold SpOk; decide) (9) (11))
  rw [show fillA 10 [(2, 7)] (9) (11) = ([(2, 7)], 2) by decide +kernel] at H6
  clear k6
  go_wp2_with (fail)
  refine H6.out.mono ?_
  rintro e w7 ⟨rfl, k7⟩
  have H7 := Lib.hid (new_fill k7 (by unfold SpOk; decide) (3) (2))
  rw [show fillA 10 [(2, 7)] (3) (2) = ([(2, 7)], 2) by decide +kernel] at H7
  clear k7
  go_wp2_with (fail)
  refine H7.out.mono ?_
  rintro e w8 ⟨rfl, k8⟩
  have H8 := Lib.hid (new_fill k8 (by unfold SpOk; decide) (10) (10))
  rw [show fillA 10 [(2, 7)] (10) (10) = ([(2, 7)], 0) by decide +kernel] at H8
  clear k8
  go_wp2_with (fail)
  refine H8.out.mono ?_
  rintro e w9 ⟨rfl, k9⟩
  have H9 := Lib.hid (new_give k9 (by unfold SpOk; decide) (9223372036854775807))
  rw [show giveA 10 [(2, 7)] (9223372036854775807) = ([(2, 7)], 2) by decide +kernel] at H9
  clear k9
  go_wp2_with (fail)
  refine H9.out.mono ?_
  rintro e w10 ⟨rfl, k10⟩
  have HL := Lib.hid (new_list k10 (by unfold SpOk; decide))
  have KL := Lib.hid k10
  clear k10
  go_wp2_with (fail)
  refine HL.out.mono ?_
  rintro e w11 ⟨vl, rl, rfl, pl, gl, ul⟩
  have ul2 : Upd (fun _ => False) w11 (w11.alloc (.cells #[.int .i64 2, .int .i64 7] 50)) := (Upd.refl _ _).alloc _
  have HS := Lib.hid (same_eq (pl.upd ul2 (fun _ _ f => f)) (show PairsAt (w11.alloc (.cells #[.int .i64 2, .int .i64 7] 50)) (.slice (some ⟨w11.heap.size, 0, none⟩) 1 1) (some w11.heap.size) [(2, 7)] from pairs_new w11 [(2, 7)] (by decide)) (by decide))
  rw [show decide (([(2, 7)] : List Ex) = [(2, 7)]) = true by decide] at HS
  obtain ⟨adl, cpl, rfl, _⟩ := id pl
  have KL2 := Lib.hid ((KL.out.later ul).later ul2)
  clear pl ul ul2
  go_wp2_with (fail)
  refine HS.out.mono ?_
  rintro e w12 ⟨rfl, us⟩
  have k12 := KL2.out.later us
  clear us
  have HTa := Lib.hid (new_take k12 (by unfold SpOk; decide) (8))
  rw [show takeA [(2, 7)] (8) = ([], 7, [(2, 7)]) by decide +kernel] at HTa
  clear k12
  go_wp2_with (fail)
  refine HTa.out.mono ?_
  rintro e w13 ⟨va, ra, rfl, ia, ga, k13⟩
  obtain ⟨ada, cpa, rfl, _⟩ := id ia
  have Ia := Lib.hid ia
  clear ia
  have HTb := Lib.hid (new_take k13 (by unfold SpOk; decide) (0))
  rw [show takeA [(2, 7)] (0) = ([], 2, [(2, 7)]) by decide +kernel] at HTb
  clear k13
  go_wp2_with (fail)
  refine HTb.out.mono ?_
  rintro e w14 ⟨vb, rb, rfl, ib, gb, k14⟩
  obtain ⟨adb, cpb, rfl, _⟩ := id ib
  have Ib := Lib.hid ib
  clear ib
  have HTc := Lib.hid (new_take k14 (by unfold SpOk; decide) (7))
  rw [show takeA [(2, 7)] (7) = ([2, 3, 4, 5, 6, 7, 8], 0, []) by decide +kernel] at HTc
  clear k14
  go_wp2_with (fail)
  refine HTc.out.mono ?_
  rintro e w15 ⟨vc, rc, rfl, ic, gc, k15⟩
  obtain ⟨adc, cpc, rfl, _⟩ := id ic
  have Ic := Lib.hid ic
  clear ic
  have u7 : Upd (fun _ => False) w15 (w15.alloc (.cells #[.int .i64 2, .int .i64 3, .int .i64 4, .int .i64 5, .int .i64 6, .int .i64 7, .int .i64 8] 3)) := (Upd.refl _ _).alloc _
  have HIs := Lib.hid (is_eq (Ic.out.upd u7 (fun _ _ f => f)) (show IntsAt (w15.alloc (.cells #[.int .i64 2, .int .i64 3, .int .i64 4, .int .i64 5, .int .i64 6, .int .i64 7, .int .i64 8] 3)) (.slice (some ⟨w15.heap.size, 0, none⟩) 7 7) (some w15.heap.size) [2, 3, 4, 5, 6, 7, 8] from ints_new w15 [2, 3, 4, 5, 6, 7, 8] (by decide)) (by decide))
  rw [show decide (([2, 3, 4, 5, 6, 7, 8] : List Int) = [2, 3, 4, 5, 6, 7, 8]) = true by decide] at HIs
  have K7 := Lib.hid (k15.later u7)
  clear k15 u7
  go_wp2_with (fail)
  refine HIs.out.mono ?_
  rintro e w16 ⟨rfl, u8⟩
  have k16 := K7.out.later u8
  clear u8
  have HCn := Lib.hid (new_count k16 (by unfold SpOk; decide))
  rw [show cntE [] = 0 by decide +kernel] at HCn
  have K16 := Lib.hid k16
  clear k16
  go_wp2_with (fail)
  refine HCn.out.mono ?_
  rintro e w17 ⟨rfl, u17⟩
  have k17 := K16.out.later u17
  clear u17
  have HLl := Lib.hid (new_list k17 (by unfold SpOk; decide))
  have KLl := Lib.hid k17
  clear k17
  go_wp2_with (fail)
  refine HLl.out.mono ?_
  rintro e w18 ⟨vq, rq, rfl, pq, gq, uq⟩
  obtain ⟨adq, cpq, rfl, _⟩ := pq
  have k18 := KLl.out.later uq
  clear uq
  have H18 := Lib.hid (new_give k18 (by unfold SpOk; decide) (3))
  rw [show giveA 10 [] (3) = ([(3, 1)], 0) by decide +kernel] at H18
  clear k18
  go_wp2_with (fail)
  refine H18.out.mono ?_
  rintro e w19 ⟨rfl, k19⟩
  have HHx := Lib.hid (new_has k19 (by unfold SpOk; decide) (3))
  rw [show (decide ((0 : Int) ≤ 3) && decide ((3 : Int) < 10) && hasB [(3, 1)] (3)) = true by decide +kernel] at HHx
  have K19 := Lib.hid k19
  clear k19
  go_wp2_with (fail)
  refine HHx.out.mono ?_
  rintro e w20 ⟨rfl, u20⟩
  have k20 := K19.out.later u20
  clear u20
  have HHy := Lib.hid (new_has k20 (by unfold SpOk; decide) (10))
  rw [show (decide ((0 : Int) ≤ 10) && decide ((10 : Int) < 10) && hasB [(3, 1)] (10)) = false by decide +kernel] at HHy
  have K20 := Lib.hid k20
  clear k20
  go_wp2_with (fail)
  refine HHy.out.mono ?_
  rintro e w21 ⟨rfl, u21⟩
  have k21 := K20.out.later u21
  clear u21
  have HHz := Lib.hid (new_has k21 (by unfold SpOk; decide) (-1))
  rw [show (decide ((0 : Int) ≤ (-1)) && decide (((-1) : Int) < 10) && hasB [(3, 1)] (-1)) = false by decide +kernel] at HHz
  have K21 := Lib.hid k21
  clear k21
  go_wp2_with (fail)
  refine HHz.out.mono ?_
  rintro e w22 ⟨rfl, u22⟩
  have k22 := K21.out.later u22
  clear u22
  have uz0 : Upd (fun _ => False) w w22 := k22.upd
  clear k22
  have uz : Upd (fun _ => False) w (w22.alloc (.cells #[.int .i64 0, .slice none 0 0] 53)) := uz0.alloc _
  have zz : NoSp (w22.alloc (.cells #[.int .i64 0, .slice none 0 0] 53)) (some ⟨w22.heap.size, 0, none⟩) := .inr ⟨_, _, _, rfl, heap_alloc_new w22 (.cells #[.int .i64 0, .slice none 0 0] 53)⟩
  obtain ⟨zb, hzb⟩ : ∃ zb, zb = w22.heap.size := ⟨_, rfl⟩
  rw [← hzb] at zz
  have ZZ := Lib.hid zz
  have UZ := Lib.hid uz
  have HZB := Lib.hid hzb
  clear uz0 uz zz hzb
  have HN1 := Lib.hid (nosp_Take (w := w22.alloc (.cells #[.int .i64 0, .slice none 0 0] 53)) (.inl rfl) 1)
  go_wp2_with (fail)
  refine HN1.out.mono ?_
  rintro e w23 ⟨rfl, u23⟩
  rw [← HZB.out]
  have UU23 := Lib.hid (UZ.out.trans u23 (fun _ _ f => f))
  have Z23 := Lib.hid (ZZ.out.upd u23)
  clear u23
  have HN2 := Lib.hid (sp_New_no w23 0 (by omega))
  go_wp2_with (fail)
  refine HN2.out.mono ?_
  rintro e w' ⟨rfl, rfl⟩
  have HN3 := Lib.hid (sp_New_no w23 4097 (by omega))
  go_wp2_with (fail)
  refine HN3.out.mono ?_
  rintro e w' ⟨rfl, rfl⟩
  have HN4 := Lib.hid (new0 w23 4096 (by omega))
  go_wp2_with (fail)
  refine HN4.out.mono ?_
  rintro e w24 ⟨b2, rfl, k24⟩
  have UU24 := Lib.hid (UU23.out.trans k24.upd (fun _ _ f => f))
  have Z24 := Lib.hid (Z23.out.upd k24.upd)
  clear k24
  have HN5 := Lib.hid (give_zero (w := w24) (.inl rfl) 0)
  go_wp2_with (fail)
  refine HN5.out.mono ?_
  rintro e w' ⟨rfl, rfl⟩
  have HN6 := Lib.hid (fill_zero Z24.out 0 0)
  go_wp2_with (fail)
  refine HN6.out.mono ?_
  rintro e w' ⟨rfl, rfl⟩
  have HN7 := Lib.hid (nosp_Has (w := w24) (.inl rfl) 0)
  go_wp2_with (fail)
  refine HN7.out.mono ?_
  rintro e w' ⟨rfl, rfl⟩
  have HN8 := Lib.hid (nosp_Count Z24.out)
  go_wp2_with (fail)
  refine HN8.out.mono ?_
  rintro e w' ⟨rfl, rfl⟩
  have HN9 := Lib.hid (nosp_List (w := w24) (.inl rfl))
  go_wp2_with (fail)
  refine HN9.out.mono ?_
  rintro e w' ⟨rfl, rfl⟩
  have HN10 := Lib.hid (nosp_Copy Z24.out)
  go_wp2_with (fail)
  refine HN10.out.mono ?_
  rintro e w' ⟨rfl, rfl⟩
  have HN11 := Lib.hid (works_ok w24)
  go_wp2_with (fail)
  refine HN11.out.mono ?_
  rintro e w25 ⟨rfl, u25⟩
  go_wp2
  go_ret
  exact ⟨rfl, UU24.out.trans u25 (fun _ _ f => f)⟩
theorem walk_SpansKnown (w : World) : Calls Try.prog 5 #[] w fun e w' => e = .returned (.bool true) ∧ Upd (fun _ => False) w w' := known_ok w

end Go.Proofs.Ytoblihckojnffaa
