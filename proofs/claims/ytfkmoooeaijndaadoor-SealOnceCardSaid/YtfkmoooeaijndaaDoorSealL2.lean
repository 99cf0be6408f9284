/- The walk of SealOnce. -/
import Derived.Test.YtfkmoooeaijndaaDoorSealA
import Derived.Test.YtfkmoooeaijndaaDoorSealP
set_option linter.unusedVariables false
set_option linter.unusedSimpArgs false
namespace Go.Proofs.YtfkmoooeaijndaaDoor
open Go.RowKit

set_option maxHeartbeats 1600000 in
set_option maxRecDepth 100000 in
theorem once_0 (g i : Nat) (s t : List UInt8) (w : World) (hgb : g < 18446744073709551616) (hib : i < 4294967296) (hs : s.length ≤ 3000) (ht : t.length ≤ 3000) (hT : Fours w) (hg : 0 < w.heap.size) (f : Int) (hf : f ≠ 0) (hu : Sl.unstampR t = (0, 0, [], f)) :
    Calls Tryd.prog 7 #[.agg #[.int .u64 g, .int .u32 i], .string ⟨s.toArray⟩, .string ⟨t.toArray⟩] w (TrueR w) := by
  obtain ⟨u, k1, k2, k3, _⟩ := stamp_told g i s 0 (26 + s.length) hgb hib (by omega) (by omega)
  have h1 := fun w => law_stamped g i s ((26 + s.length : Nat) : Int) w hgb hib (by omega)
  rw [k1] at h1
  have h2 := fun w => sl_Unstamp u w (by omega)
  rw [unstamp_eq, k3] at h2
  have h3 := fun w => sl_Unstamp t w (by omega)
  rw [unstamp_eq, hu] at h3
  have e1 : IntKind.i64.wrap ((s.length : Int) + 26) = ((26 + s.length : Nat) : Int) := by rw [show (s.length : Int) + 26 = ((26 + s.length : Nat) : Int) by omega]; exact IntWalk.i64_in _ (by omega)
  have e1' : (s.length : Int) + 26 = ((26 + s.length : Nat) : Int) := by omega
  obtain ⟨m, hm⟩ : ∃ m, m = 26 + s.length := ⟨_, rfl⟩
  rw [← hm] at h1 e1 e1'
  have e1'' : IntKind.i64.wrap (m : Int) = (m : Int) := IntWalk.i64_in _ (by omega)
  have h4 := fun w => law_none t f w (by omega) hu
  have hf2 : (f != 0) = true := bne_iff_ne.2 hf
  have hu0 := (Upd.refl (fun _ => False) w).alloc (.cells #[.int .u64 g, .int .u32 i] 38)
  have hT0 := Lib.hid (hT.upd hu0 (fun f => f))
  have H1 := Lib.hid h1
  have H2 := Lib.hid h2
  have H3 := Lib.hid h3
  have H4 := Lib.hid h4
  clear h1 h2 h3 h4 hT hu k1 k2 k3 hm hf
  go_enter Tryd.func7, Tryd.ntmps7
  have hb := heap_alloc_new w (.cells #[.int .u64 g, .int .u32 i] 38)
  have c0 := cell_heap hb 0 (.int .u64 g) rfl
  have c1 := cell_heap hb 1 (.int .u32 i) rfl
  go_wp2_with (fail)
  refine (H1.out _).mono ?_
  rintro e w1 ⟨rfl, u1⟩
  have hT1 := Lib.hid (hT0.out.upd u1 (fun f => f))
  have g11 := u1.size
  have hb1 := u1.heap hb (fun f => f)
  have d10 := cell_heap hb1 0 (.int .u64 g) rfl
  have d11 := cell_heap hb1 1 (.int .u32 i) rfl
  have dl1 := lt_of_heap hb1
  go_wp2_with (fail)
  refine (H2.out _).mono ?_
  rintro e w2 ⟨rfl, u2⟩
  have hT2 := Lib.hid (hT1.out.upd u2 (fun f => f))
  have g12 := u2.size
  have hb2 := u2.heap hb1 (fun f => f)
  have d20 := cell_heap hb2 0 (.int .u64 g) rfl
  have d21 := cell_heap hb2 1 (.int .u32 i) rfl
  have dl2 := lt_of_heap hb2
  go_wp2_with (fail)
  refine (H3.out _).mono ?_
  rintro e w3 ⟨rfl, u3⟩
  have hT3 := Lib.hid (hT2.out.upd u3 (fun f => f))
  have g13 := u3.size
  go_wp2_with (fail)
  refine (H4.out _).mono ?_
  rintro e w4 ⟨rfl, u4⟩
  have hT4 := Lib.hid (hT3.out.upd u4 (fun f => f))
  have g14 := u4.size
  go_wp2_with (fail)
  refine (law_works _ hT4.out (by simp at g11; omega)).mono ?_
  rintro e w5 ⟨rfl, u5⟩
  go_wp2
  go_ret
  exact ⟨rfl, by repeat (first | exact Upd.refl _ _ | refine Upd.alloc ?_ _ | refine Upd.drew ?_ | refine Upd.trans ?_ (by assumption) (fun _ _ f => f))⟩

set_option maxHeartbeats 1600000 in
set_option maxRecDepth 100000 in
theorem once_1 (g i : Nat) (s t : List UInt8) (w : World) (hgb : g < 18446744073709551616) (hib : i < 4294967296) (hs : s.length ≤ 3000) (ht : t.length ≤ 3000) (hT : Fours w) (hg : 0 < w.heap.size) (g2 i2 : Nat) (x : List UInt8) (hu : Sl.unstampR t = (g2, i2, x, 0)) (hg2 : g2 < 18446744073709551616) (hi2 : i2 < 4294967296) (hx : x.length ≤ t.length) (hst : Sl.stamp g2 i2 x t.length = (t, 0)) :
    Calls Tryd.prog 7 #[.agg #[.int .u64 g, .int .u32 i], .string ⟨s.toArray⟩, .string ⟨t.toArray⟩] w (TrueR w) := by
  obtain ⟨u, k1, k2, k3, _⟩ := stamp_told g i s 0 (26 + s.length) hgb hib (by omega) (by omega)
  have h1 := fun w => law_stamped g i s ((26 + s.length : Nat) : Int) w hgb hib (by omega)
  rw [k1] at h1
  have h2 := fun w => sl_Unstamp u w (by omega)
  rw [unstamp_eq, k3] at h2
  have h3 := fun w => sl_Unstamp t w (by omega)
  rw [unstamp_eq, hu] at h3
  have e1 : IntKind.i64.wrap ((s.length : Int) + 26) = ((26 + s.length : Nat) : Int) := by rw [show (s.length : Int) + 26 = ((26 + s.length : Nat) : Int) by omega]; exact IntWalk.i64_in _ (by omega)
  have e1' : (s.length : Int) + 26 = ((26 + s.length : Nat) : Int) := by omega
  obtain ⟨m, hm⟩ : ∃ m, m = 26 + s.length := ⟨_, rfl⟩
  rw [← hm] at h1 e1 e1'
  have e1'' : IntKind.i64.wrap (m : Int) = (m : Int) := IntWalk.i64_in _ (by omega)
  have h4 := fun w => law_stamped g2 i2 x t.length w hg2 hi2 (by omega)
  rw [hst] at h4
  have hu0 := (Upd.refl (fun _ => False) w).alloc (.cells #[.int .u64 g, .int .u32 i] 38)
  have hT0 := Lib.hid (hT.upd hu0 (fun f => f))
  have H1 := Lib.hid h1
  have H2 := Lib.hid h2
  have H3 := Lib.hid h3
  have H4 := Lib.hid h4
  clear h1 h2 h3 h4 hT hu k1 k2 k3 hm hst
  go_enter Tryd.func7, Tryd.ntmps7
  have hb := heap_alloc_new w (.cells #[.int .u64 g, .int .u32 i] 38)
  have c0 := cell_heap hb 0 (.int .u64 g) rfl
  have c1 := cell_heap hb 1 (.int .u32 i) rfl
  go_wp2_with (fail)
  refine (H1.out _).mono ?_
  rintro e w1 ⟨rfl, u1⟩
  have hT1 := Lib.hid (hT0.out.upd u1 (fun f => f))
  have g11 := u1.size
  have hb1 := u1.heap hb (fun f => f)
  have d10 := cell_heap hb1 0 (.int .u64 g) rfl
  have d11 := cell_heap hb1 1 (.int .u32 i) rfl
  have dl1 := lt_of_heap hb1
  go_wp2_with (fail)
  refine (H2.out _).mono ?_
  rintro e w2 ⟨rfl, u2⟩
  have hT2 := Lib.hid (hT1.out.upd u2 (fun f => f))
  have g12 := u2.size
  have hb2 := u2.heap hb1 (fun f => f)
  have d20 := cell_heap hb2 0 (.int .u64 g) rfl
  have d21 := cell_heap hb2 1 (.int .u32 i) rfl
  have dl2 := lt_of_heap hb2
  go_wp2_with (fail)
  refine (H3.out _).mono ?_
  rintro e w3 ⟨rfl, u3⟩
  have hT3 := Lib.hid (hT2.out.upd u3 (fun f => f))
  have g13 := u3.size
  go_wp2_with (fail)
  refine (H4.out _).mono ?_
  rintro e w4 ⟨rfl, u4⟩
  have hT4 := Lib.hid (hT3.out.upd u4 (fun f => f))
  have g14 := u4.size
  go_wp2_with (fail)
  refine (law_works _ hT4.out (by simp at g11; omega)).mono ?_
  rintro e w5 ⟨rfl, u5⟩
  go_wp2
  go_ret
  exact ⟨rfl, by repeat (first | exact Upd.refl _ _ | refine Upd.alloc ?_ _ | refine Upd.drew ?_ | refine Upd.trans ?_ (by assumption) (fun _ _ f => f))⟩

set_option maxRecDepth 100000 in
theorem walk_SealOnce (g i : Nat) (s t : List UInt8) (w : World) (hgb : g < 18446744073709551616) (hib : i < 4294967296) (hs : s.length ≤ 9223372036854775807) (ht : t.length ≤ 9223372036854775807) (hT : Fours w) (hg : 0 < w.heap.size) :
    Calls Tryd.prog 7 #[.agg #[.int .u64 g, .int .u32 i], .string ⟨s.toArray⟩, .string ⟨t.toArray⟩] w (TrueR w) := by
  by_cases hl : 3000 < s.length ∨ 3000 < t.length
  · have hu0 := (Upd.refl (fun _ => False) w).alloc (.cells #[.int .u64 g, .int .u32 i] 38)
    have hT0 := Lib.hid (hT.upd hu0 (fun f => f))
    clear hT
    by_cases ha : 3000 < s.length
    · go_enter Tryd.func7, Tryd.ntmps7
      go_wp2_with (fail)
      refine (law_works _ hT0.out (by simp)).mono ?_
      rintro e w1 ⟨rfl, u1⟩
      go_wp2
      go_ret
      exact ⟨rfl, by repeat (first | exact Upd.refl _ _ | refine Upd.alloc ?_ _ | refine Upd.drew ?_ | refine Upd.trans ?_ (by assumption) (fun _ _ f => f))⟩
    · have hb : 3000 < t.length := by omega
      go_enter Tryd.func7, Tryd.ntmps7
      go_wp2_with (fail)
      refine (law_works _ hT0.out (by simp)).mono ?_
      rintro e w1 ⟨rfl, u1⟩
      go_wp2
      go_ret
      exact ⟨rfl, by repeat (first | exact Upd.refl _ _ | refine Upd.alloc ?_ _ | refine Upd.drew ?_ | refine Upd.trans ?_ (by assumption) (fun _ _ f => f))⟩
  · rcases told_stamped t with ⟨f, h1, h2⟩ | ⟨g2, i2, x, h1, h2, h3, h4, h5⟩
    · exact once_0 g i s t w hgb hib (by omega) (by omega) hT hg f h1 h2
    · exact once_1 g i s t w hgb hib (by omega) (by omega) hT hg g2 i2 x h1 h2 h3 h4 h5

end Go.Proofs.YtfkmoooeaijndaaDoor
