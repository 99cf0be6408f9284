/- works. -/
import Derived.Test.YtoblihckojnffaaSpK
set_option linter.unusedVariables false
set_option linter.unusedSimpArgs false
namespace Go.Proofs.Ytoblihckojnffaa
open Go.RowKit Go.Shelf
set_option maxRecDepth 100000

theorem ints_new (w : World) (xs : List Int) (hl : xs.length ≤ maxLen) : IntsAt (w.alloc (.cells (xs.map (Value.int .i64)).toArray 3)) (.slice (some ⟨w.heap.size, 0, none⟩) xs.length xs.length) (some w.heap.size) xs := by
  refine ⟨_, _, rfl, Nat.le_refl _, hl, fun j x hj => ⟨w.heap.size, 0, rfl, rfl, ?_⟩⟩
  rw [Nat.zero_add]
  refine cell_heap (heap_alloc_new w _) j _ ?_
  simp [hj]
theorem pairs_new (w : World) (xs : List Ex) (hl : xs.length ≤ maxLen) : PairsAt (w.alloc (.cells (exs xs).toArray 50)) (.slice (some ⟨w.heap.size, 0, none⟩) xs.length xs.length) (some w.heap.size) xs := by
  refine ⟨_, _, rfl, Nat.le_refl _, hl, fun j x hj => ⟨w.heap.size, 0, rfl, rfl, ?_⟩⟩
  obtain ⟨e1, e2⟩ := exs_get xs j x hj
  rw [Nat.zero_add]
  refine ⟨cell_heap (heap_alloc_new w _) _ _ ?_, cell_heap (heap_alloc_new w _) _ _ ?_⟩
  · rw [Nat.mul_comm]; simpa using e1
  · rw [Nat.mul_comm]; simpa using e2
theorem works_ok (w : World) : Calls Try.prog 8 #[] w fun e w' => e = .returned (.bool true) ∧ Upd (fun _ => False) w w' := by
  have H1 := Lib.hid (given_ok w)
  go_enter Try.func8, Try.ntmps8
  go_wp2_with (fail)
  refine H1.out.mono ?_
  rintro e w1 ⟨b, rfl, k1⟩
  have H2 := Lib.hid (new_take k1 (by unfold SpOk; decide) 2)
  rw [show takeA [(2, 4), (8, 1)] 2 = ([2, 3], 0, [(4, 2), (8, 1)]) by decide +kernel] at H2
  go_wp2_with (fail)
  refine H2.out.mono ?_
  rintro e w2 ⟨vt, rt, rfl, i2, g2, k2⟩
  have H3 := Lib.hid (new_count k2 (by unfold SpOk; decide))
  rw [show cntE [(4, 2), (8, 1)] = 3 by decide +kernel] at H3
  obtain ⟨adt, cpt, rfl, _⟩ := id i2
  have I2 := Lib.hid i2
  have K2 := Lib.hid k2
  clear i2 k2 k1
  go_wp2_with (fail)
  refine H3.out.mono ?_
  rintro e w3 ⟨rfl, u3⟩
  have u4 : Upd (fun _ => False) w2 (w3.alloc (.cells #[.int .i64 2, .int .i64 3] 3)) := u3.alloc _
  have H4 := Lib.hid (is_eq (I2.out.upd u4 (fun _ _ f => f)) (show IntsAt (w3.alloc (.cells #[.int .i64 2, .int .i64 3] 3)) (.slice (some ⟨w3.heap.size, 0, none⟩) 2 2) (some w3.heap.size) [2, 3] from ints_new w3 [2, 3] (by decide)) (by decide))
  rw [show decide (([2, 3] : List Int) = [2, 3]) = true by decide] at H4
  have U4 := Lib.hid u4
  clear u4 u3
  go_wp2_with (fail)
  refine H4.out.mono ?_
  rintro e w5 ⟨rfl, u5⟩
  have k5 := (K2.out.later U4.out).later u5
  have H5 := Lib.hid (new_give k5 (by unfold SpOk; decide) 8)
  rw [show giveA 10 [(4, 2), (8, 1)] 8 = ([(4, 2), (8, 1)], 6) by decide +kernel] at H5
  clear k5 u5
  go_wp2_with (fail)
  refine H5.out.mono ?_
  rintro e w6 ⟨rfl, k6⟩
  have H6 := Lib.hid (new_list k6 (by unfold SpOk; decide))
  have K6 := Lib.hid k6
  clear k6
  go_wp2_with (fail)
  refine H6.out.mono ?_
  rintro e w7 ⟨vl, rl, rfl, p7, g7, u7⟩
  have u8 : Upd (fun _ => False) w7 (w7.alloc (.cells #[.int .i64 4, .int .i64 2, .int .i64 8, .int .i64 1] 50)) := (Upd.refl _ _).alloc _
  have H7 := Lib.hid (same_eq (p7.upd u8 (fun _ _ f => f)) (show PairsAt (w7.alloc (.cells #[.int .i64 4, .int .i64 2, .int .i64 8, .int .i64 1] 50)) (.slice (some ⟨w7.heap.size, 0, none⟩) 2 2) (some w7.heap.size) [(4, 2), (8, 1)] from pairs_new w7 [(4, 2), (8, 1)] (by decide)) (by decide))
  rw [show decide (([(4, 2), (8, 1)] : List Ex) = [(4, 2), (8, 1)]) = true by decide] at H7
  obtain ⟨adl, cpl, rfl, _⟩ := id p7
  have K8 := Lib.hid ((K6.out.later u7).later u8)
  clear p7 u7 u8
  go_wp2_with (fail)
  refine H7.out.mono ?_
  rintro e w9 ⟨rfl, u9⟩
  have K9 := Lib.hid (K8.out.later u9)
  clear u9
  go_wp2
  go_ret
  exact ⟨rfl, K9.out.upd⟩

end Go.Proofs.Ytoblihckojnffaa
