/- The walk of SealTorn. -/
import Derived.Test.YtfkmoooeaijndaaDoorSealA
import Derived.Test.YtfkmoooeaijndaaDoorSealP
set_option linter.unusedVariables false
set_option linter.unusedSimpArgs false
namespace Go.Proofs.YtfkmoooeaijndaaDoor
open Go.RowKit

set_option maxHeartbeats 3200000 in
set_option maxRecDepth 100000 in
theorem torn_same (ga ia gb ib : Nat) (sa : List UInt8) (ma : Nat) (sb : List UInt8) (mb c n k : Nat) (w : World) (h4 : ma < 256) (h9 : c < 65536) (hsa : sa.length ≤ 2000) (hsb : sb.length ≤ 2000) (hn : n = 26 + max sa.length sb.length + ma % 64) (hk : k = c % (n + 1)) (x y : List UInt8) (hx : Sl.stamp ga ia sa n = (x, 0)) (hy : Sl.stamp gb ib sb n = (y, 0)) (hxl : x.length = n) (hyl : y.length = n) (hga : ga < 18446744073709551616) (hia : ia < 4294967296) (hgb : gb < 18446744073709551616) (hib : ib < 4294967296) (hs1 : ga = gb) (hs2 : ia = ib) (hT : Fours w) (hg : 0 < w.heap.size) :
    Calls Tryd.prog 8 #[.agg #[.int .u64 ga, .int .u32 ia, .string ⟨sa.toArray⟩, .int .u8 ma], .agg #[.int .u64 gb, .int .u32 ib, .string ⟨sb.toArray⟩, .int .u8 mb], .int .u16 c] w (TrueR w) := by
  have h1 : ∀ (g i : Nat) (s r : List UInt8) (w : World), (g = ga ∧ i = ia ∧ s = sa ∧ r = x) ∨ (g = gb ∧ i = ib ∧ s = sb ∧ r = y) → Calls Tryd.prog 23 #[.agg #[.int .u64 g, .int .u32 i], .string ⟨s.toArray⟩, .int .i64 n] w (StrR r w) := by
    rintro g i s r w (⟨rfl, rfl, rfl, rfl⟩ | ⟨rfl, rfl, rfl, rfl⟩)
    · have h := law_stamped g i s n w hga hia (by omega)
      rw [hx] at h; exact h
    · have h := law_stamped g i s n w hgb hib (by omega)
      rw [hy] at h; exact h
  have H1 := Lib.hid h1
  have hnl : n ≤ 2100 := by omega
  have hn0 : 26 ≤ n := by omega
  have hni : 26 + max (sa.length : Int) (sb.length : Int) + (ma : Int) % 64 = (n : Int) := by omega
  have hu0 := ((Upd.refl (fun _ => False) w).alloc (.cells #[.int .u64 ga, .int .u32 ia, .string ⟨sa.toArray⟩, .int .u8 ma] 57)).alloc (.cells #[.int .u64 gb, .int .u32 ib, .string ⟨sb.toArray⟩, .int .u8 mb] 57)
  have HT := Lib.hid hT
  have ha := heap_alloc_lt (heap_alloc_new w (.cells #[.int .u64 ga, .int .u32 ia, .string ⟨sa.toArray⟩, .int .u8 ma] 57)) (.cells #[.int .u64 gb, .int .u32 ib, .string ⟨sb.toArray⟩, .int .u8 mb] 57)
  have hb := heap_alloc_new2 w (.cells #[.int .u64 ga, .int .u32 ia, .string ⟨sa.toArray⟩, .int .u8 ma] 57) (.cells #[.int .u64 gb, .int .u32 ib, .string ⟨sb.toArray⟩, .int .u8 mb] 57)
  have a0 := cell_heap ha 0 (.int .u64 ga) rfl
  have a1 := cell_heap ha 1 (.int .u32 ia) rfl
  have a2 := cell_heap ha 2 (.string ⟨sa.toArray⟩) rfl
  have b0 := cell_heap hb 0 (.int .u64 gb) rfl
  have b1 := cell_heap hb 1 (.int .u32 ib) rfl
  have b2 := cell_heap hb 2 (.string ⟨sb.toArray⟩) rfl
  have u0 := hu0.drew
  clear h1 hx hy hT
  subst hs1 hs2
  clear hn
  go_enter Tryd.func8, Tryd.ntmps8
  go_wp2
  go_region_held3 (fun w' => w'.cell? ⟨w.heap.size, 0, none⟩ = some (.int .u64 ga) ∧ w'.cell? ⟨w.heap.size, 1, none⟩ = some (.int .u32 ia) ∧ w'.cell? ⟨w.heap.size, 2, none⟩ = some (.string ⟨sa.toArray⟩) ∧ w'.cell? ⟨w.heap.size + 1, 0, none⟩ = some (.int .u64 ga) ∧ w'.cell? ⟨w.heap.size + 1, 1, none⟩ = some (.int .u32 ia) ∧ w'.cell? ⟨w.heap.size + 1, 2, none⟩ = some (.string ⟨sb.toArray⟩) ∧ Upd (fun _ => False) w w')
    (first
      | exact ⟨a0, a1, a2, b0, b1, b2, u0⟩
      | (have h := ‹_ ∧ _ ∧ _ ∧ _ ∧ _ ∧ _ ∧ Upd _ _ _›; exact ⟨uz.cell h.1 (fun f => f), uz.cell h.2.1 (fun f => f), uz.cell h.2.2.1 (fun f => f), uz.cell h.2.2.2.1 (fun f => f), uz.cell h.2.2.2.2.1 (fun f => f), uz.cell h.2.2.2.2.2.1 (fun f => f), h.2.2.2.2.2.2.trans uz (fun _ _ f => f)⟩))
    (first
      | (go_at_call 23; refine (H1.out _ _ _ _ _ (by first | exact Or.inl ⟨rfl, rfl, rfl, rfl⟩ | exact Or.inr ⟨rfl, rfl, rfl, rfl⟩)).mono ?_; rintro e wz ⟨rfl, uz⟩))
  have hS := ‹_ ∧ _ ∧ _ ∧ _ ∧ _ ∧ _ ∧ Upd _ _ _›
  clear a0 a1 a2 b0 b1 b2
  obtain ⟨a0, a1, a2, b0, b1, b2, uu⟩ := hS
  have hTz := Lib.hid (HT.out.upd uu (fun f => f))
  have gz := uu.size
  clear ha hb hu0 u0
  go_wp2_with (fail)
  refine (law_works _ hTz.out (by omega)).mono ?_
  rintro e wy ⟨rfl, uy⟩
  go_wp2
  go_ret
  exact ⟨rfl, uu.trans uy (fun _ _ f => f)⟩

set_option maxHeartbeats 3200000 in
set_option maxRecDepth 100000 in
theorem torn_x (ga ia gb ib : Nat) (sa : List UInt8) (ma : Nat) (sb : List UInt8) (mb c n k : Nat) (w : World) (h4 : ma < 256) (h9 : c < 65536) (hsa : sa.length ≤ 2000) (hsb : sb.length ≤ 2000) (hn : n = 26 + max sa.length sb.length + ma % 64) (hk : k = c % (n + 1)) (x y : List UInt8) (hx : Sl.stamp ga ia sa n = (x, 0)) (hy : Sl.stamp gb ib sb n = (y, 0)) (hxl : x.length = n) (hyl : y.length = n) (hga : ga < 18446744073709551616) (hia : ia < 4294967296) (hgb : gb < 18446744073709551616) (hib : ib < 4294967296) (hne : ¬ (ga = gb ∧ ia = ib)) (ht : x.take k ++ y.drop k = x) (hT : Fours w) (hg : 0 < w.heap.size) :
    Calls Tryd.prog 8 #[.agg #[.int .u64 ga, .int .u32 ia, .string ⟨sa.toArray⟩, .int .u8 ma], .agg #[.int .u64 gb, .int .u32 ib, .string ⟨sb.toArray⟩, .int .u8 mb], .int .u16 c] w (TrueR w) := by
  have h1 : ∀ (g i : Nat) (s r : List UInt8) (w : World), (g = ga ∧ i = ia ∧ s = sa ∧ r = x) ∨ (g = gb ∧ i = ib ∧ s = sb ∧ r = y) → Calls Tryd.prog 23 #[.agg #[.int .u64 g, .int .u32 i], .string ⟨s.toArray⟩, .int .i64 n] w (StrR r w) := by
    rintro g i s r w (⟨rfl, rfl, rfl, rfl⟩ | ⟨rfl, rfl, rfl, rfl⟩)
    · have h := law_stamped g i s n w hga hia (by omega)
      rw [hx] at h; exact h
    · have h := law_stamped g i s n w hgb hib (by omega)
      rw [hy] at h; exact h
  have H1 := Lib.hid h1
  have hnl : n ≤ 2100 := by omega
  have hn0 : 26 ≤ n := by omega
  have hni : 26 + max (sa.length : Int) (sb.length : Int) + (ma : Int) % 64 = (n : Int) := by omega
  have hu0 := ((Upd.refl (fun _ => False) w).alloc (.cells #[.int .u64 ga, .int .u32 ia, .string ⟨sa.toArray⟩, .int .u8 ma] 57)).alloc (.cells #[.int .u64 gb, .int .u32 ib, .string ⟨sb.toArray⟩, .int .u8 mb] 57)
  have HT := Lib.hid hT
  have ha := heap_alloc_lt (heap_alloc_new w (.cells #[.int .u64 ga, .int .u32 ia, .string ⟨sa.toArray⟩, .int .u8 ma] 57)) (.cells #[.int .u64 gb, .int .u32 ib, .string ⟨sb.toArray⟩, .int .u8 mb] 57)
  have hb := heap_alloc_new2 w (.cells #[.int .u64 ga, .int .u32 ia, .string ⟨sa.toArray⟩, .int .u8 ma] 57) (.cells #[.int .u64 gb, .int .u32 ib, .string ⟨sb.toArray⟩, .int .u8 mb] 57)
  have a0 := cell_heap ha 0 (.int .u64 ga) rfl
  have a1 := cell_heap ha 1 (.int .u32 ia) rfl
  have a2 := cell_heap ha 2 (.string ⟨sa.toArray⟩) rfl
  have b0 := cell_heap hb 0 (.int .u64 gb) rfl
  have b1 := cell_heap hb 1 (.int .u32 ib) rfl
  have b2 := cell_heap hb 2 (.string ⟨sb.toArray⟩) rfl
  have u0 := hu0.drew
  clear h1 hx hy hT
  have hkn : k ≤ n := by have := Nat.mod_lt c (show 0 < n + 1 by omega); omega
  have e1 : IntKind.i64.wrap ((n : Int) + 1) = ((n + 1 : Nat) : Int) := by rw [show (n : Int) + 1 = ((n + 1 : Nat) : Int) by omega]; exact IntWalk.i64_in _ (by omega)
  have e1' : (n : Int) + 1 = ((n + 1 : Nat) : Int) := by omega
  obtain ⟨n1, hn1⟩ : ∃ m, m = n + 1 := ⟨_, rfl⟩
  rw [← hn1] at e1 e1'
  have e1'' : IntKind.i64.wrap (n1 : Int) = (n1 : Int) := IntWalk.i64_in _ (by omega)
  have e2 : Int.tmod (c : Int) (n1 : Int) = (k : Int) := by rw [hk, ← hn1]; exact (Int.ofNat_tmod _ _).symm
  have e2b : ((n1 : Int) == 0) = false := beq_eq_false_iff_ne.2 (by omega)
  have e2c : ¬ n1 = 0 := by omega
  obtain ⟨X, hX⟩ : ∃ X, X = x.take k := ⟨_, rfl⟩
  obtain ⟨Y, hY⟩ : ∃ Y, Y = y.drop k := ⟨_, rfl⟩
  have hXl : X.length = k := by rw [hX, List.length_take]; omega
  have hYl : Y.length = n - k := by rw [hY, List.length_drop]; omega
  have x1 : (⟨x.toArray⟩ : ByteArray).extract 0 k = ⟨X.toArray⟩ := by have := ext_list x 0 k; rw [hX]; simpa using this
  have x2 : (⟨y.toArray⟩ : ByteArray).extract k n = ⟨Y.toArray⟩ := by rw [ext_list, hY, List.take_of_length_le (by rw [List.length_drop]; omega)]
  have x3 := append_list X Y
  obtain ⟨T, hTT⟩ : ∃ T, T = X ++ Y := ⟨_, rfl⟩
  rw [← hTT] at x3
  have hlen : ¬ 9223372036854775807 < X.length + Y.length := by omega
  have hTl : T.length ≤ 2100 := by rw [hTT, List.length_append]; omega
  have i1 : (0 : Int) ≤ (k : Int) := by omega
  have i2 : (k : Int) ≤ (n : Int) := by omega
  have q1 : T = x := by rw [hTT, hX, hY, ht]
  subst q1
  have HN := Lib.hid hne
  clear ht  hX hY hk hne hTT hn1
  clear hn
  go_enter Tryd.func8, Tryd.ntmps8
  go_wp2
  go_region_held3 (fun w' => w'.cell? ⟨w.heap.size, 0, none⟩ = some (.int .u64 ga) ∧ w'.cell? ⟨w.heap.size, 1, none⟩ = some (.int .u32 ia) ∧ w'.cell? ⟨w.heap.size, 2, none⟩ = some (.string ⟨sa.toArray⟩) ∧ w'.cell? ⟨w.heap.size + 1, 0, none⟩ = some (.int .u64 gb) ∧ w'.cell? ⟨w.heap.size + 1, 1, none⟩ = some (.int .u32 ib) ∧ w'.cell? ⟨w.heap.size + 1, 2, none⟩ = some (.string ⟨sb.toArray⟩) ∧ Upd (fun _ => False) w w')
    (first
      | exact ⟨a0, a1, a2, b0, b1, b2, u0⟩
      | (have h := ‹_ ∧ _ ∧ _ ∧ _ ∧ _ ∧ _ ∧ Upd _ _ _›; exact ⟨uz.cell h.1 (fun f => f), uz.cell h.2.1 (fun f => f), uz.cell h.2.2.1 (fun f => f), uz.cell h.2.2.2.1 (fun f => f), uz.cell h.2.2.2.2.1 (fun f => f), uz.cell h.2.2.2.2.2.1 (fun f => f), h.2.2.2.2.2.2.trans uz (fun _ _ f => f)⟩))
    (first
      | (go_at_call 23; refine (H1.out _ _ _ _ _ (by first | exact Or.inl ⟨rfl, rfl, rfl, rfl⟩ | exact Or.inr ⟨rfl, rfl, rfl, rfl⟩)).mono ?_; rintro e wz ⟨rfl, uz⟩))
  have hS := ‹_ ∧ _ ∧ _ ∧ _ ∧ _ ∧ _ ∧ Upd _ _ _›
  clear a0 a1 a2 b0 b1 b2
  obtain ⟨a0, a1, a2, b0, b1, b2, uu⟩ := hS
  have hTz := Lib.hid (HT.out.upd uu (fun f => f))
  have gz := uu.size
  clear ha hb hu0 u0
  go_wp2_with (fail)
  all_goals first
    | (exfalso; exact HN.out ⟨by omega, by omega⟩)
    | skip
  all_goals
    go_quiet (fail)
    go_wp2_with (fail)
    refine (law_works _ (hTz.out.upd ((Upd.refl (fun _ => False) _).drewN _) (fun f => f)) (by simp; omega)).mono ?_
    rintro e wy ⟨rfl, uy⟩
    go_wp2
    go_ret
    exact ⟨rfl, (uu.drewN _).trans uy (fun _ _ f => f)⟩

set_option maxHeartbeats 3200000 in
set_option maxRecDepth 100000 in
theorem torn_y (ga ia gb ib : Nat) (sa : List UInt8) (ma : Nat) (sb : List UInt8) (mb c n k : Nat) (w : World) (h4 : ma < 256) (h9 : c < 65536) (hsa : sa.length ≤ 2000) (hsb : sb.length ≤ 2000) (hn : n = 26 + max sa.length sb.length + ma % 64) (hk : k = c % (n + 1)) (x y : List UInt8) (hx : Sl.stamp ga ia sa n = (x, 0)) (hy : Sl.stamp gb ib sb n = (y, 0)) (hxl : x.length = n) (hyl : y.length = n) (hga : ga < 18446744073709551616) (hia : ia < 4294967296) (hgb : gb < 18446744073709551616) (hib : ib < 4294967296) (hne : ¬ (ga = gb ∧ ia = ib)) (ht0 : x.take k ++ y.drop k ≠ x) (ht : x.take k ++ y.drop k = y) (hT : Fours w) (hg : 0 < w.heap.size) :
    Calls Tryd.prog 8 #[.agg #[.int .u64 ga, .int .u32 ia, .string ⟨sa.toArray⟩, .int .u8 ma], .agg #[.int .u64 gb, .int .u32 ib, .string ⟨sb.toArray⟩, .int .u8 mb], .int .u16 c] w (TrueR w) := by
  have h1 : ∀ (g i : Nat) (s r : List UInt8) (w : World), (g = ga ∧ i = ia ∧ s = sa ∧ r = x) ∨ (g = gb ∧ i = ib ∧ s = sb ∧ r = y) → Calls Tryd.prog 23 #[.agg #[.int .u64 g, .int .u32 i], .string ⟨s.toArray⟩, .int .i64 n] w (StrR r w) := by
    rintro g i s r w (⟨rfl, rfl, rfl, rfl⟩ | ⟨rfl, rfl, rfl, rfl⟩)
    · have h := law_stamped g i s n w hga hia (by omega)
      rw [hx] at h; exact h
    · have h := law_stamped g i s n w hgb hib (by omega)
      rw [hy] at h; exact h
  have H1 := Lib.hid h1
  have hnl : n ≤ 2100 := by omega
  have hn0 : 26 ≤ n := by omega
  have hni : 26 + max (sa.length : Int) (sb.length : Int) + (ma : Int) % 64 = (n : Int) := by omega
  have hu0 := ((Upd.refl (fun _ => False) w).alloc (.cells #[.int .u64 ga, .int .u32 ia, .string ⟨sa.toArray⟩, .int .u8 ma] 57)).alloc (.cells #[.int .u64 gb, .int .u32 ib, .string ⟨sb.toArray⟩, .int .u8 mb] 57)
  have HT := Lib.hid hT
  have ha := heap_alloc_lt (heap_alloc_new w (.cells #[.int .u64 ga, .int .u32 ia, .string ⟨sa.toArray⟩, .int .u8 ma] 57)) (.cells #[.int .u64 gb, .int .u32 ib, .string ⟨sb.toArray⟩, .int .u8 mb] 57)
  have hb := heap_alloc_new2 w (.cells #[.int .u64 ga, .int .u32 ia, .string ⟨sa.toArray⟩, .int .u8 ma] 57) (.cells #[.int .u64 gb, .int .u32 ib, .string ⟨sb.toArray⟩, .int .u8 mb] 57)
  have a0 := cell_heap ha 0 (.int .u64 ga) rfl
  have a1 := cell_heap ha 1 (.int .u32 ia) rfl
  have a2 := cell_heap ha 2 (.string ⟨sa.toArray⟩) rfl
  have b0 := cell_heap hb 0 (.int .u64 gb) rfl
  have b1 := cell_heap hb 1 (.int .u32 ib) rfl
  have b2 := cell_heap hb 2 (.string ⟨sb.toArray⟩) rfl
  have u0 := hu0.drew
  clear h1 hx hy hT
  have hkn : k ≤ n := by have := Nat.mod_lt c (show 0 < n + 1 by omega); omega
  have e1 : IntKind.i64.wrap ((n : Int) + 1) = ((n + 1 : Nat) : Int) := by rw [show (n : Int) + 1 = ((n + 1 : Nat) : Int) by omega]; exact IntWalk.i64_in _ (by omega)
  have e1' : (n : Int) + 1 = ((n + 1 : Nat) : Int) := by omega
  obtain ⟨n1, hn1⟩ : ∃ m, m = n + 1 := ⟨_, rfl⟩
  rw [← hn1] at e1 e1'
  have e1'' : IntKind.i64.wrap (n1 : Int) = (n1 : Int) := IntWalk.i64_in _ (by omega)
  have e2 : Int.tmod (c : Int) (n1 : Int) = (k : Int) := by rw [hk, ← hn1]; exact (Int.ofNat_tmod _ _).symm
  have e2b : ((n1 : Int) == 0) = false := beq_eq_false_iff_ne.2 (by omega)
  have e2c : ¬ n1 = 0 := by omega
  obtain ⟨X, hX⟩ : ∃ X, X = x.take k := ⟨_, rfl⟩
  obtain ⟨Y, hY⟩ : ∃ Y, Y = y.drop k := ⟨_, rfl⟩
  have hXl : X.length = k := by rw [hX, List.length_take]; omega
  have hYl : Y.length = n - k := by rw [hY, List.length_drop]; omega
  have x1 : (⟨x.toArray⟩ : ByteArray).extract 0 k = ⟨X.toArray⟩ := by have := ext_list x 0 k; rw [hX]; simpa using this
  have x2 : (⟨y.toArray⟩ : ByteArray).extract k n = ⟨Y.toArray⟩ := by rw [ext_list, hY, List.take_of_length_le (by rw [List.length_drop]; omega)]
  have x3 := append_list X Y
  obtain ⟨T, hTT⟩ : ∃ T, T = X ++ Y := ⟨_, rfl⟩
  rw [← hTT] at x3
  have hlen : ¬ 9223372036854775807 < X.length + Y.length := by omega
  have hTl : T.length ≤ 2100 := by rw [hTT, List.length_append]; omega
  have i1 : (0 : Int) ≤ (k : Int) := by omega
  have i2 : (k : Int) ≤ (n : Int) := by omega
  have q0 : (T == x) = false := by have : T ≠ x := by rw [hTT, hX, hY]; exact ht0
                                   simpa using this
  have q1 : T = y := by rw [hTT, hX, hY, ht]
  subst q1
  have HN := Lib.hid hne
  clear ht ht0 hX hY hk hne hTT hn1
  clear hn
  go_enter Tryd.func8, Tryd.ntmps8
  go_wp2
  go_region_held3 (fun w' => w'.cell? ⟨w.heap.size, 0, none⟩ = some (.int .u64 ga) ∧ w'.cell? ⟨w.heap.size, 1, none⟩ = some (.int .u32 ia) ∧ w'.cell? ⟨w.heap.size, 2, none⟩ = some (.string ⟨sa.toArray⟩) ∧ w'.cell? ⟨w.heap.size + 1, 0, none⟩ = some (.int .u64 gb) ∧ w'.cell? ⟨w.heap.size + 1, 1, none⟩ = some (.int .u32 ib) ∧ w'.cell? ⟨w.heap.size + 1, 2, none⟩ = some (.string ⟨sb.toArray⟩) ∧ Upd (fun _ => False) w w')
    (first
      | exact ⟨a0, a1, a2, b0, b1, b2, u0⟩
      | (have h := ‹_ ∧ _ ∧ _ ∧ _ ∧ _ ∧ _ ∧ Upd _ _ _›; exact ⟨uz.cell h.1 (fun f => f), uz.cell h.2.1 (fun f => f), uz.cell h.2.2.1 (fun f => f), uz.cell h.2.2.2.1 (fun f => f), uz.cell h.2.2.2.2.1 (fun f => f), uz.cell h.2.2.2.2.2.1 (fun f => f), h.2.2.2.2.2.2.trans uz (fun _ _ f => f)⟩))
    (first
      | (go_at_call 23; refine (H1.out _ _ _ _ _ (by first | exact Or.inl ⟨rfl, rfl, rfl, rfl⟩ | exact Or.inr ⟨rfl, rfl, rfl, rfl⟩)).mono ?_; rintro e wz ⟨rfl, uz⟩))
  have hS := ‹_ ∧ _ ∧ _ ∧ _ ∧ _ ∧ _ ∧ Upd _ _ _›
  clear a0 a1 a2 b0 b1 b2
  obtain ⟨a0, a1, a2, b0, b1, b2, uu⟩ := hS
  have hTz := Lib.hid (HT.out.upd uu (fun f => f))
  have gz := uu.size
  clear ha hb hu0 u0
  go_wp2_with (fail)
  all_goals first
    | (exfalso; exact HN.out ⟨by omega, by omega⟩)
    | skip
  all_goals
    go_quiet (fail)
    go_wp2_with (fail)
    refine (law_works _ (hTz.out.upd ((Upd.refl (fun _ => False) _).drewN _) (fun f => f)) (by simp; omega)).mono ?_
    rintro e wy ⟨rfl, uy⟩
    go_wp2
    go_ret
    exact ⟨rfl, (uu.drewN _).trans uy (fun _ _ f => f)⟩

set_option maxHeartbeats 3200000 in
set_option maxRecDepth 100000 in
theorem torn_no (ga ia gb ib : Nat) (sa : List UInt8) (ma : Nat) (sb : List UInt8) (mb c n k : Nat) (w : World) (h4 : ma < 256) (h9 : c < 65536) (hsa : sa.length ≤ 2000) (hsb : sb.length ≤ 2000) (hn : n = 26 + max sa.length sb.length + ma % 64) (hk : k = c % (n + 1)) (x y : List UInt8) (hx : Sl.stamp ga ia sa n = (x, 0)) (hy : Sl.stamp gb ib sb n = (y, 0)) (hxl : x.length = n) (hyl : y.length = n) (hga : ga < 18446744073709551616) (hia : ia < 4294967296) (hgb : gb < 18446744073709551616) (hib : ib < 4294967296) (hne : ¬ (ga = gb ∧ ia = ib)) (ht0 : x.take k ++ y.drop k ≠ x) (ht : x.take k ++ y.drop k ≠ y) (hu : Sl.unstampR (x.take k ++ y.drop k) = (0, 0, [], 4)) (hT : Fours w) (hg : 0 < w.heap.size) :
    Calls Tryd.prog 8 #[.agg #[.int .u64 ga, .int .u32 ia, .string ⟨sa.toArray⟩, .int .u8 ma], .agg #[.int .u64 gb, .int .u32 ib, .string ⟨sb.toArray⟩, .int .u8 mb], .int .u16 c] w (TrueR w) := by
  have h1 : ∀ (g i : Nat) (s r : List UInt8) (w : World), (g = ga ∧ i = ia ∧ s = sa ∧ r = x) ∨ (g = gb ∧ i = ib ∧ s = sb ∧ r = y) → Calls Tryd.prog 23 #[.agg #[.int .u64 g, .int .u32 i], .string ⟨s.toArray⟩, .int .i64 n] w (StrR r w) := by
    rintro g i s r w (⟨rfl, rfl, rfl, rfl⟩ | ⟨rfl, rfl, rfl, rfl⟩)
    · have h := law_stamped g i s n w hga hia (by omega)
      rw [hx] at h; exact h
    · have h := law_stamped g i s n w hgb hib (by omega)
      rw [hy] at h; exact h
  have H1 := Lib.hid h1
  have hnl : n ≤ 2100 := by omega
  have hn0 : 26 ≤ n := by omega
  have hni : 26 + max (sa.length : Int) (sb.length : Int) + (ma : Int) % 64 = (n : Int) := by omega
  have hu0 := ((Upd.refl (fun _ => False) w).alloc (.cells #[.int .u64 ga, .int .u32 ia, .string ⟨sa.toArray⟩, .int .u8 ma] 57)).alloc (.cells #[.int .u64 gb, .int .u32 ib, .string ⟨sb.toArray⟩, .int .u8 mb] 57)
  have HT := Lib.hid hT
  have ha := heap_alloc_lt (heap_alloc_new w (.cells #[.int .u64 ga, .int .u32 ia, .string ⟨sa.toArray⟩, .int .u8 ma] 57)) (.cells #[.int .u64 gb, .int .u32 ib, .string ⟨sb.toArray⟩, .int .u8 mb] 57)
  have hb := heap_alloc_new2 w (.cells #[.int .u64 ga, .int .u32 ia, .string ⟨sa.toArray⟩, .int .u8 ma] 57) (.cells #[.int .u64 gb, .int .u32 ib, .string ⟨sb.toArray⟩, .int .u8 mb] 57)
  have a0 := cell_heap ha 0 (.int .u64 ga) rfl
  have a1 := cell_heap ha 1 (.int .u32 ia) rfl
  have a2 := cell_heap ha 2 (.string ⟨sa.toArray⟩) rfl
  have b0 := cell_heap hb 0 (.int .u64 gb) rfl
  have b1 := cell_heap hb 1 (.int .u32 ib) rfl
  have b2 := cell_heap hb 2 (.string ⟨sb.toArray⟩) rfl
  have u0 := hu0.drew
  clear h1 hx hy hT
  have hkn : k ≤ n := by have := Nat.mod_lt c (show 0 < n + 1 by omega); omega
  have e1 : IntKind.i64.wrap ((n : Int) + 1) = ((n + 1 : Nat) : Int) := by rw [show (n : Int) + 1 = ((n + 1 : Nat) : Int) by omega]; exact IntWalk.i64_in _ (by omega)
  have e1' : (n : Int) + 1 = ((n + 1 : Nat) : Int) := by omega
  obtain ⟨n1, hn1⟩ : ∃ m, m = n + 1 := ⟨_, rfl⟩
  rw [← hn1] at e1 e1'
  have e1'' : IntKind.i64.wrap (n1 : Int) = (n1 : Int) := IntWalk.i64_in _ (by omega)
  have e2 : Int.tmod (c : Int) (n1 : Int) = (k : Int) := by rw [hk, ← hn1]; exact (Int.ofNat_tmod _ _).symm
  have e2b : ((n1 : Int) == 0) = false := beq_eq_false_iff_ne.2 (by omega)
  have e2c : ¬ n1 = 0 := by omega
  obtain ⟨X, hX⟩ : ∃ X, X = x.take k := ⟨_, rfl⟩
  obtain ⟨Y, hY⟩ : ∃ Y, Y = y.drop k := ⟨_, rfl⟩
  have hXl : X.length = k := by rw [hX, List.length_take]; omega
  have hYl : Y.length = n - k := by rw [hY, List.length_drop]; omega
  have x1 : (⟨x.toArray⟩ : ByteArray).extract 0 k = ⟨X.toArray⟩ := by have := ext_list x 0 k; rw [hX]; simpa using this
  have x2 : (⟨y.toArray⟩ : ByteArray).extract k n = ⟨Y.toArray⟩ := by rw [ext_list, hY, List.take_of_length_le (by rw [List.length_drop]; omega)]
  have x3 := append_list X Y
  obtain ⟨T, hTT⟩ : ∃ T, T = X ++ Y := ⟨_, rfl⟩
  rw [← hTT] at x3
  have hlen : ¬ 9223372036854775807 < X.length + Y.length := by omega
  have hTl : T.length ≤ 2100 := by rw [hTT, List.length_append]; omega
  have i1 : (0 : Int) ≤ (k : Int) := by omega
  have i2 : (k : Int) ≤ (n : Int) := by omega
  have q0 : (T == x) = false := by have : T ≠ x := by rw [hTT, hX, hY]; exact ht0
                                   simpa using this
  have q1 : (T == y) = false := by have : T ≠ y := by rw [hTT, hX, hY]; exact ht
                                   simpa using this
  have h2 := fun w => law_none T 4 w (by omega) (by rw [hTT, hX, hY]; exact hu)
  have H2 := Lib.hid h2
  clear h2 hu
  have HN := Lib.hid hne
  clear ht ht0 hX hY hk hne hTT hn1
  clear hn
  go_enter Tryd.func8, Tryd.ntmps8
  go_wp2
  go_region_held3 (fun w' => w'.cell? ⟨w.heap.size, 0, none⟩ = some (.int .u64 ga) ∧ w'.cell? ⟨w.heap.size, 1, none⟩ = some (.int .u32 ia) ∧ w'.cell? ⟨w.heap.size, 2, none⟩ = some (.string ⟨sa.toArray⟩) ∧ w'.cell? ⟨w.heap.size + 1, 0, none⟩ = some (.int .u64 gb) ∧ w'.cell? ⟨w.heap.size + 1, 1, none⟩ = some (.int .u32 ib) ∧ w'.cell? ⟨w.heap.size + 1, 2, none⟩ = some (.string ⟨sb.toArray⟩) ∧ Upd (fun _ => False) w w')
    (first
      | exact ⟨a0, a1, a2, b0, b1, b2, u0⟩
      | (have h := ‹_ ∧ _ ∧ _ ∧ _ ∧ _ ∧ _ ∧ Upd _ _ _›; exact ⟨uz.cell h.1 (fun f => f), uz.cell h.2.1 (fun f => f), uz.cell h.2.2.1 (fun f => f), uz.cell h.2.2.2.1 (fun f => f), uz.cell h.2.2.2.2.1 (fun f => f), uz.cell h.2.2.2.2.2.1 (fun f => f), h.2.2.2.2.2.2.trans uz (fun _ _ f => f)⟩))
    (first
      | (go_at_call 23; refine (H1.out _ _ _ _ _ (by first | exact Or.inl ⟨rfl, rfl, rfl, rfl⟩ | exact Or.inr ⟨rfl, rfl, rfl, rfl⟩)).mono ?_; rintro e wz ⟨rfl, uz⟩))
  have hS := ‹_ ∧ _ ∧ _ ∧ _ ∧ _ ∧ _ ∧ Upd _ _ _›
  clear a0 a1 a2 b0 b1 b2
  obtain ⟨a0, a1, a2, b0, b1, b2, uu⟩ := hS
  have hTz := Lib.hid (HT.out.upd uu (fun f => f))
  have gz := uu.size
  clear ha hb hu0 u0
  go_wp2_with (fail)
  all_goals first
    | (exfalso; exact HN.out ⟨by omega, by omega⟩)
    | skip
  all_goals
    go_quiet (fail)
    go_wp2_with (fail)
    refine (H2.out _).mono ?_
    rintro e wn ⟨rfl, un⟩
    have hTz2 := Lib.hid ((hTz.out.upd ((Upd.refl (fun _ => False) _).drewN _) (fun f => f)).upd un (fun f => f))
    have gz2 := un.size
    go_wp2_with (fail)
    refine (law_works _ hTz2.out (by simp at gz2; omega)).mono ?_
    rintro e wy ⟨rfl, uy⟩
    go_wp2
    go_ret
    exact ⟨rfl, (((uu.drewN _).trans un (fun _ _ f => f)).trans uy (fun _ _ f => f))⟩

end Go.Proofs.YtfkmoooeaijndaaDoor
