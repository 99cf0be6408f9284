/- The walks of SealTells and SealStamps. -/
import Derived.Test.YtfkmoooeaijndaaDoorSealA
set_option linter.unusedVariables false
set_option linter.unusedSimpArgs false
namespace Go.Proofs.YtfkmoooeaijndaaDoor
open Go.RowKit

set_option maxHeartbeats 800000 in
set_option maxRecDepth 100000 in
theorem walk_SealTells (s : List UInt8) (n : Int) (w : World) (hs : s.length ≤ 9223372036854775807) (_ : -9223372036854775808 ≤ n) (_ : n ≤ 9223372036854775807) (hT : Fours w) (hg : 0 < w.heap.size) :
    Calls Tryd.prog 3 #[.string ⟨s.toArray⟩, .int .i64 n] w (TrueR w) := by
  by_cases hl : 5000 < s.length
  · have hW := law_works w hT hg
    have HW := Lib.hid hW
    clear hW hT
    go_enter Tryd.func3, Tryd.ntmps3
    go_wp2_with (fail)
    refine HW.out.mono ?_
    rintro e w1 ⟨rfl, u1⟩
    go_wp2
    go_ret
    exact ⟨rfl, u1⟩
  · have h1 := fun w hT hg => sl_Seal s w (by omega) hT hg
    have h2 := fun w => ref_Seal s w (by omega)
    have h3 := fun w hT hg => sl_Open s w (by omega) hT hg
    have h4 := fun w => ref_Open s w (by omega)
    have h5 := fun w => sl_Pad s n w (by omega)
    have h6 := fun w => ref_Pad s n w (by omega)
    generalize Sl.close s = a at h1 h2
    generalize Sl.openS s = b at h3 h4
    generalize Sl.pad s n = c at h5 h6
    obtain ⟨a1, a2⟩ := a
    obtain ⟨b1, b2, b3⟩ := b
    obtain ⟨c1, c2⟩ := c
    have H1 := Lib.hid h1
    have H2 := Lib.hid h2
    have H3 := Lib.hid h3
    have H4 := Lib.hid h4
    have H5 := Lib.hid h5
    have H6 := Lib.hid h6
    have HT := Lib.hid hT
    clear h1 h2 h3 h4 h5 h6 hT
    go_enter Tryd.func3, Tryd.ntmps3
    go_wp2_with (fail)
    refine (H1.out _ HT.out hg).mono ?_
    rintro e w1 ⟨rfl, u1⟩
    have hT1 := Lib.hid (HT.out.upd u1 (fun f => f))
    have g1 := u1.size
    go_wp2_with (fail)
    refine (H2.out _).mono ?_
    rintro e w2 ⟨rfl, u2⟩
    have hT2 := Lib.hid (hT1.out.upd u2 (fun f => f))
    have g2 := u2.size
    go_wp2_with (fail)
    refine (H3.out _ hT2.out (by omega)).mono ?_
    rintro e w3 ⟨rfl, u3⟩
    have hT3 := Lib.hid (hT2.out.upd u3 (fun f => f))
    have g3 := u3.size
    go_wp2_with (fail)
    refine (H4.out _).mono ?_
    rintro e w4 ⟨rfl, u4⟩
    have hT4 := Lib.hid (hT3.out.upd u4 (fun f => f))
    have g4 := u4.size
    go_wp2_with (fail)
    refine (H5.out _).mono ?_
    rintro e w5 ⟨rfl, u5⟩
    have hT5 := Lib.hid (hT4.out.upd u5 (fun f => f))
    have g5 := u5.size
    go_wp2_with (fail)
    refine (H6.out _).mono ?_
    rintro e w6 ⟨rfl, u6⟩
    have hT6 := Lib.hid (hT5.out.upd u6 (fun f => f))
    have g6 := u6.size
    go_wp2_with (fail)
    refine (law_works _ hT6.out (by omega)).mono ?_
    rintro e w7 ⟨rfl, u7⟩
    go_wp2
    go_ret
    exact ⟨rfl, by repeat (first | exact Upd.refl _ _ | refine Upd.alloc ?_ _ | refine Upd.drew ?_ | refine Upd.trans ?_ (by assumption) (fun _ _ f => f))⟩

set_option maxHeartbeats 800000 in
set_option maxRecDepth 100000 in
theorem walk_SealStamps (g i : Nat) (s : List UInt8) (n : Int) (w : World) (hgb : g < 18446744073709551616) (hib : i < 4294967296) (hs : s.length ≤ 9223372036854775807) (_ : -9223372036854775808 ≤ n) (_ : n ≤ 9223372036854775807) (hT : Fours w) (hg : 0 < w.heap.size) :
    Calls Tryd.prog 4 #[.agg #[.int .u64 g, .int .u32 i], .string ⟨s.toArray⟩, .int .i64 n] w (TrueR w) := by
  have hu0 := (Upd.refl (fun _ => False) w).alloc (.cells #[.int .u64 g, .int .u32 i] 38)
  have hT0 := Lib.hid (hT.upd hu0 (fun f => f))
  by_cases hl : 5000 < s.length
  · have hW := fun w hT hg => law_works w hT hg
    have HW := Lib.hid hW
    clear hW hT
    go_enter Tryd.func4, Tryd.ntmps4
    go_wp2_with (fail)
    refine (HW.out _ hT0.out (by simp)).mono ?_
    rintro e w1 ⟨rfl, u1⟩
    go_wp2
    go_ret
    exact ⟨rfl, by repeat (first | exact Upd.refl _ _ | refine Upd.alloc ?_ _ | refine Upd.drew ?_ | refine Upd.trans ?_ (by assumption) (fun _ _ f => f))⟩
  · have h1 := fun w => sl_Stamp g i g i s n w rfl rfl hgb hib (by omega)
    have h2 := fun w => ref_Stamp g i g i s n w rfl rfl hgb hib (by omega)
    have h3 := fun w => sl_Unstamp s w (by omega)
    have h4 := fun w => ref_Unstamp s w (by omega)
    rw [unstamp_eq] at h3
    generalize Sl.stamp g i s n = a at h1 h2
    generalize Sl.unstampR s = b at h3 h4
    obtain ⟨a1, a2⟩ := a
    obtain ⟨b1, b2, b3, b4⟩ := b
    have H1 := Lib.hid h1
    have H2 := Lib.hid h2
    have H3 := Lib.hid h3
    have H4 := Lib.hid h4
    clear h1 h2 h3 h4 hT
    go_enter Tryd.func4, Tryd.ntmps4
    have hb := heap_alloc_new w (.cells #[.int .u64 g, .int .u32 i] 38)
    have c0 := cell_heap hb 0 (.int .u64 g) rfl
    have c1 := cell_heap hb 1 (.int .u32 i) rfl
    go_wp2_with (fail)
    refine (H1.out _).mono ?_
    rintro e w1 ⟨rfl, u1⟩
    have hT1 := Lib.hid (hT0.out.upd u1 (fun f => f))
    have g1 := u1.size
    have hb1 := u1.heap hb (fun f => f)
    have d0 := cell_heap hb1 0 (.int .u64 g) rfl
    have d1 := cell_heap hb1 1 (.int .u32 i) rfl
    have dl := lt_of_heap hb1
    go_wp2_with (fail)
    refine (H2.out _).mono ?_
    rintro e w2 ⟨rfl, u2⟩
    have hT2 := Lib.hid (hT1.out.upd u2 (fun f => f))
    have g2 := u2.size
    go_wp2_with (fail)
    refine (H3.out _).mono ?_
    rintro e w3 ⟨rfl, u3⟩
    have hT3 := Lib.hid (hT2.out.upd u3 (fun f => f))
    have g3 := u3.size
    go_wp2_with (fail)
    refine (H4.out _).mono ?_
    rintro e w4 ⟨rfl, u4⟩
    have hT4 := Lib.hid (hT3.out.upd u4 (fun f => f))
    have g4 := u4.size
    go_wp2_with (fail)
    refine (law_works _ hT4.out (by omega)).mono ?_
    rintro e w7 ⟨rfl, u7⟩
    go_wp2
    go_ret
    exact ⟨rfl, by repeat (first | exact Upd.refl _ _ | refine Upd.alloc ?_ _ | refine Upd.drew ?_ | refine Upd.trans ?_ (by assumption) (fun _ _ f => f))⟩

end Go.Proofs.YtfkmoooeaijndaaDoor
