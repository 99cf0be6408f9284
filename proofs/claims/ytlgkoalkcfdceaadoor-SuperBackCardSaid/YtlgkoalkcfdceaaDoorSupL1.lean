/- The walks of SuperPuts and SuperBack. -/
import Derived.Test.YtlgkoalkcfdceaaDoorSup5
set_option linter.unusedVariables false
set_option linter.unusedSimpArgs false
namespace Go.Proofs.YtlgkoalkcfdceaaDoor
open Go.RowKit

set_option maxHeartbeats 3200000 in
set_option maxRecDepth 100000 in
theorem walk_SuperPuts (g c : Nat) (r t n : Int) (l : List UInt8) (w : World) (hg : g < 18446744073709551616) (hc : c < 18446744073709551616) (_ : -9223372036854775808 ≤ r) (_ : r ≤ 9223372036854775807) (_ : -9223372036854775808 ≤ t) (_ : t ≤ 9223372036854775807) (_ : -9223372036854775808 ≤ n) (_ : n ≤ 9223372036854775807) (hl : l.length ≤ 9223372036854775807) :
    Calls Tryd.prog 3 #[.agg #[.int .u64 g, .int .u64 c, .int .i64 r, .int .i64 t, .int .i64 n], .string ⟨l.toArray⟩] w (BoolR true w) := by
  by_cases hlong : 5000 < l.length
  · have hu := (Upd.refl (fun _ => False) w).alloc (.cells #[.int .u64 g, .int .u64 c, .int .i64 r, .int .i64 t, .int .i64 n] 24)
    go_enter Tryd.func3, Tryd.ntmps3
    go_wp2_with (fail)
    refine (law_worksS _).mono ?_
    rintro e w1 ⟨rfl, u1⟩
    go_wp2
    go_ret
    exact ⟨rfl, by repeat (first | exact Upd.refl _ _ | refine Upd.alloc ?_ _ | refine Upd.drew ?_ | refine Upd.trans ?_ (by assumption) (fun _ _ f => f))⟩
  · have h1 := fun w => sup_Put ⟨g, c, r, t, n⟩ w hg hc
    have h2 := fun w => ref_PutS ⟨g, c, r, t, n⟩ w hg hc
    have h3 := fun w => sup_Take l w (by omega)
    have h4 := fun w => ref_TakeS l w (by omega)
    have h5 := fun w => sup_Slot g w hg
    have h6 := fun w => ref_Slot g w hg
    obtain ⟨k, hk⟩ : ∃ k, k = g % 2 := ⟨_, rfl⟩
    rw [← hk] at h5 h6
    generalize Sp.put ⟨g, c, r, t, n⟩ = q at h1 h2
    generalize Sp.take l = z at h3 h4
    obtain ⟨a, e⟩ := q
    obtain ⟨⟨yg, yc, yr, yt, yn⟩, f⟩ := z
    unfold supV at h1 h2
    unfold SupE supV at h3 h4
    dsimp only at h1 h2 h3 h4
    have hb := heap_alloc_new w (.cells #[.int .u64 g, .int .u64 c, .int .i64 r, .int .i64 t, .int .i64 n] 24)
    have hu := (Upd.refl (fun _ => False) w).alloc (.cells #[.int .u64 g, .int .u64 c, .int .i64 r, .int .i64 t, .int .i64 n] 24)
    have H1 := Lib.hid h1
    have H2 := Lib.hid h2
    have H3 := Lib.hid h3
    have H4 := Lib.hid h4
    have H5 := Lib.hid h5
    have H6 := Lib.hid h6
    clear h1 h2 h3 h4 h5 h6 hk
    go_enter Tryd.func3, Tryd.ntmps3
    go_wp2_with (fail)
    refine (H1.out _).mono ?_
    rintro e1 w1 ⟨rfl, u1⟩
    have hb1 := u1.heap hb (fun f => f)
    have a0 := cell_heap hb1 0 (.int .u64 g) rfl
    have a1 := cell_heap hb1 1 (.int .u64 c) rfl
    have a2 := cell_heap hb1 2 (.int .i64 r) rfl
    have a3 := cell_heap hb1 3 (.int .i64 t) rfl
    have a4 := cell_heap hb1 4 (.int .i64 n) rfl
    go_wp2_with (fail)
    refine (H2.out _).mono ?_
    rintro e1 w2 ⟨rfl, u2⟩
    have hb2 := u2.heap hb1 (fun f => f)
    clear a0 a1 a2 a3 a4
    go_wp2_with (fail)
    refine (H3.out _).mono ?_
    rintro e1 w3 ⟨rfl, u3⟩
    have hb3 := heap_alloc_lt (u3.heap hb2 (fun f => f)) (.cells #[.int .u64 yg, .int .u64 yc, .int .i64 yr, .int .i64 yt, .int .i64 yn] 24)
    have hx3 := heap_alloc_new w3 (.cells #[.int .u64 yg, .int .u64 yc, .int .i64 yr, .int .i64 yt, .int .i64 yn] 24)
    go_wp2_with (fail)
    refine (H4.out _).mono ?_
    rintro e1 w4 ⟨rfl, u4⟩
    have hb4 := heap_alloc_lt (u4.heap hb3 (fun f => f)) (.cells #[.int .u64 yg, .int .u64 yc, .int .i64 yr, .int .i64 yt, .int .i64 yn] 31)
    have hx4 := heap_alloc_lt (u4.heap hx3 (fun f => f)) (.cells #[.int .u64 yg, .int .u64 yc, .int .i64 yr, .int .i64 yt, .int .i64 yn] 31)
    have hy4 := heap_alloc_new w4 (.cells #[.int .u64 yg, .int .u64 yc, .int .i64 yr, .int .i64 yt, .int .i64 yn] 31)
    have s0 := cell_heap hb4 0 (.int .u64 g) rfl
    have x0 := cell_heap hx4 0 (.int .u64 yg) rfl
    have y0 := cell_heap hy4 0 (.int .u64 yg) rfl
    have x1 := cell_heap hx4 1 (.int .u64 yc) rfl
    have y1 := cell_heap hy4 1 (.int .u64 yc) rfl
    have x2 := cell_heap hx4 2 (.int .i64 yr) rfl
    have y2 := cell_heap hy4 2 (.int .i64 yr) rfl
    have x3 := cell_heap hx4 3 (.int .i64 yt) rfl
    have y3 := cell_heap hy4 3 (.int .i64 yt) rfl
    have x4 := cell_heap hx4 4 (.int .i64 yn) rfl
    have y4 := cell_heap hy4 4 (.int .i64 yn) rfl
    have hd2 : Upd (fun _ => False) w (w4.alloc (.cells #[.int .u64 yg, .int .u64 yc, .int .i64 yr, .int .i64 yt, .int .i64 yn] 31)).drew := by repeat (first | exact Upd.refl _ _ | refine Upd.alloc ?_ _ | refine Upd.drew ?_ | refine Upd.trans ?_ (by assumption) (fun _ _ f => f))
    clear hb hb1 hb2 hb3 hb4 hx3 hx4 hy4 hu u1 u2 u3 u4
    go_wp2
    go_region_held3 (fun w' => w'.cell? ⟨w.heap.size, 0, none⟩ = some (.int .u64 g) ∧ w'.cell? ⟨w3.heap.size, 0, none⟩ = some (.int .u64 yg) ∧ w'.cell? ⟨w3.heap.size, 1, none⟩ = some (.int .u64 yc) ∧ w'.cell? ⟨w3.heap.size, 2, none⟩ = some (.int .i64 yr) ∧ w'.cell? ⟨w3.heap.size, 3, none⟩ = some (.int .i64 yt) ∧ w'.cell? ⟨w3.heap.size, 4, none⟩ = some (.int .i64 yn) ∧ w'.cell? ⟨w4.heap.size, 0, none⟩ = some (.int .u64 yg) ∧ w'.cell? ⟨w4.heap.size, 1, none⟩ = some (.int .u64 yc) ∧ w'.cell? ⟨w4.heap.size, 2, none⟩ = some (.int .i64 yr) ∧ w'.cell? ⟨w4.heap.size, 3, none⟩ = some (.int .i64 yt) ∧ w'.cell? ⟨w4.heap.size, 4, none⟩ = some (.int .i64 yn) ∧ Upd (fun _ => False) w w')
      (first
        | exact ⟨s0, x0, x1, x2, x3, x4, y0, y1, y2, y3, y4, hd2⟩
        | exact ‹_ ∧ _ ∧ _ ∧ _ ∧ _ ∧ _ ∧ _ ∧ _ ∧ _ ∧ _ ∧ _ ∧ Upd _ _ _›
        | (have h := ‹_ ∧ _ ∧ _ ∧ _ ∧ _ ∧ _ ∧ _ ∧ _ ∧ _ ∧ _ ∧ _ ∧ Upd _ _ _›; exact ⟨uz.cell h.1 (fun f => f), uz.cell h.2.1 (fun f => f), uz.cell h.2.2.1 (fun f => f), uz.cell h.2.2.2.1 (fun f => f), uz.cell h.2.2.2.2.1 (fun f => f), uz.cell h.2.2.2.2.2.1 (fun f => f), uz.cell h.2.2.2.2.2.2.1 (fun f => f), uz.cell h.2.2.2.2.2.2.2.1 (fun f => f), uz.cell h.2.2.2.2.2.2.2.2.1 (fun f => f), uz.cell h.2.2.2.2.2.2.2.2.2.1 (fun f => f), uz.cell h.2.2.2.2.2.2.2.2.2.2.1 (fun f => f), h.2.2.2.2.2.2.2.2.2.2.2.trans uz (fun _ _ f => f)⟩))
      (first
        | (go_at_call 10; refine (H5.out _).mono ?_; rintro e wz ⟨rfl, rfl⟩)
        | (go_at_call 11; refine (H6.out _).mono ?_; rintro e wz ⟨rfl, rfl⟩)
        | (go_at_call 5; refine (law_worksS _).mono ?_; rintro e wz ⟨rfl, uz⟩))
    have hS := ‹_ ∧ _ ∧ _ ∧ _ ∧ _ ∧ _ ∧ _ ∧ _ ∧ _ ∧ _ ∧ _ ∧ Upd _ _ _›
    have uu := hS.2.2.2.2.2.2.2.2.2.2.2
    go_wp2
    go_ret
    exact ⟨rfl, uu⟩

set_option maxHeartbeats 3200000 in
set_option maxRecDepth 100000 in
theorem sback_11 (g c : Nat) (r t n : Int) (l : List UInt8) (w : World) (hg : g < 18446744073709551616) (hc : c < 18446744073709551616) (hl : l.length ≤ 5000) (u : List UInt8) (hu1 : Sp.put ⟨g, c, r, t, n⟩ = (u, 0)) (hul : u.length = 128) (hu2 : Sp.take u = (⟨g, c, r, t, n⟩, 0)) (yg yc : Nat) (yr yt yn : Int) (hy : Sp.take l = (⟨yg, yc, yr, yt, yn⟩, 0)) (hyg : yg < 18446744073709551616) (hyc : yc < 18446744073709551616) (hyp : Sp.put ⟨yg, yc, yr, yt, yn⟩ = (l, 0)) :
    Calls Tryd.prog 4 #[.agg #[.int .u64 g, .int .u64 c, .int .i64 r, .int .i64 t, .int .i64 n], .string ⟨l.toArray⟩] w (BoolR true w) := by
  have h1 := fun w => sup_Put ⟨g, c, r, t, n⟩ w hg hc
  rw [hu1] at h1
  unfold supV at h1
  have h2 := fun w => sup_Take u w (by omega)
  rw [hu2] at h2
  unfold SupE supV at h2
  dsimp only at h2
  dsimp only at h1
  have h3 := fun w => sup_Take l w (by omega)
  rw [hy] at h3
  unfold SupE supV  at h3
  dsimp only at h3
  have h4 := fun w => law_text ⟨yg, yc, yr, yt, yn⟩ w hyg hyc
  rw [hyp] at h4
  unfold supV at h4
  dsimp only at h4
  have hb := heap_alloc_new w (.cells #[.int .u64 g, .int .u64 c, .int .i64 r, .int .i64 t, .int .i64 n] 24)
  have hu := (Upd.refl (fun _ => False) w).alloc (.cells #[.int .u64 g, .int .u64 c, .int .i64 r, .int .i64 t, .int .i64 n] 24)
  have H1 := Lib.hid h1
  have H2 := Lib.hid h2
  have H3 := Lib.hid h3
  have H4 := Lib.hid h4
  clear h1 h2 h3 h4 hu1 hy hu2 hyp
  go_enter Tryd.func4, Tryd.ntmps4
  go_wp2_with (fail)
  refine (H1.out _).mono ?_
  rintro e1 w1 ⟨rfl, u1⟩
  have hb1 := u1.heap hb (fun f => f)
  go_wp2_with (fail)
  refine (H2.out _).mono ?_
  rintro e1 w2 ⟨rfl, u2⟩
  have hb2 := heap_alloc_lt (u2.heap hb1 (fun f => f)) (.cells #[.int .u64 g, .int .u64 c, .int .i64 r, .int .i64 t, .int .i64 n] 24)
  have hx2 := heap_alloc_new w2 (.cells #[.int .u64 g, .int .u64 c, .int .i64 r, .int .i64 t, .int .i64 n] 24)
  have a0 := cell_heap hb2 0 (.int .u64 g) rfl
  have x0 := cell_heap hx2 0 (.int .u64 g) rfl
  have a1 := cell_heap hb2 1 (.int .u64 c) rfl
  have x1 := cell_heap hx2 1 (.int .u64 c) rfl
  have a2 := cell_heap hb2 2 (.int .i64 r) rfl
  have x2 := cell_heap hx2 2 (.int .i64 r) rfl
  have a3 := cell_heap hb2 3 (.int .i64 t) rfl
  have x3 := cell_heap hx2 3 (.int .i64 t) rfl
  have a4 := cell_heap hb2 4 (.int .i64 n) rfl
  have x4 := cell_heap hx2 4 (.int .i64 n) rfl
  go_wp2_with (fail)
  refine (H3.out _).mono ?_
  rintro e1 w3 ⟨rfl, u3⟩
  go_wp2_with (fail)
  refine (H4.out _).mono ?_
  rintro e1 w4 ⟨rfl, u4⟩
  go_wp2_with (fail)
  refine (law_worksS _).mono ?_
  rintro e1 w5 ⟨rfl, u5⟩
  go_wp2
  go_ret
  exact ⟨rfl, by repeat (first | exact Upd.refl _ _ | refine Upd.alloc ?_ _ | refine Upd.drew ?_ | refine Upd.trans ?_ (by assumption) (fun _ _ f => f))⟩

set_option maxHeartbeats 3200000 in
set_option maxRecDepth 100000 in
theorem sback_10 (g c : Nat) (r t n : Int) (l : List UInt8) (w : World) (hg : g < 18446744073709551616) (hc : c < 18446744073709551616) (hl : l.length ≤ 5000) (u : List UInt8) (hu1 : Sp.put ⟨g, c, r, t, n⟩ = (u, 0)) (hul : u.length = 128) (hu2 : Sp.take u = (⟨g, c, r, t, n⟩, 0)) (f : Int) (hf : f ≠ 0) (hy : Sp.take l = (Sp.zero, f)) :
    Calls Tryd.prog 4 #[.agg #[.int .u64 g, .int .u64 c, .int .i64 r, .int .i64 t, .int .i64 n], .string ⟨l.toArray⟩] w (BoolR true w) := by
  have h1 := fun w => sup_Put ⟨g, c, r, t, n⟩ w hg hc
  rw [hu1] at h1
  unfold supV at h1
  have h2 := fun w => sup_Take u w (by omega)
  rw [hu2] at h2
  unfold SupE supV at h2
  dsimp only at h2
  dsimp only at h1
  have h3 := fun w => sup_Take l w (by omega)
  rw [hy] at h3
  unfold SupE supV Sp.zero at h3
  dsimp only at h3
  have h4 := fun w => law_failsS l f w (by omega) hy
  have hf2 : (f != 0) = true := bne_iff_ne.2 hf
  have hb := heap_alloc_new w (.cells #[.int .u64 g, .int .u64 c, .int .i64 r, .int .i64 t, .int .i64 n] 24)
  have hu := (Upd.refl (fun _ => False) w).alloc (.cells #[.int .u64 g, .int .u64 c, .int .i64 r, .int .i64 t, .int .i64 n] 24)
  have H1 := Lib.hid h1
  have H2 := Lib.hid h2
  have H3 := Lib.hid h3
  have H4 := Lib.hid h4
  clear h1 h2 h3 h4 hu1 hy hu2 hf
  go_enter Tryd.func4, Tryd.ntmps4
  go_wp2_with (fail)
  refine (H1.out _).mono ?_
  rintro e1 w1 ⟨rfl, u1⟩
  have hb1 := u1.heap hb (fun f => f)
  go_wp2_with (fail)
  refine (H2.out _).mono ?_
  rintro e1 w2 ⟨rfl, u2⟩
  have hb2 := heap_alloc_lt (u2.heap hb1 (fun f => f)) (.cells #[.int .u64 g, .int .u64 c, .int .i64 r, .int .i64 t, .int .i64 n] 24)
  have hx2 := heap_alloc_new w2 (.cells #[.int .u64 g, .int .u64 c, .int .i64 r, .int .i64 t, .int .i64 n] 24)
  have a0 := cell_heap hb2 0 (.int .u64 g) rfl
  have x0 := cell_heap hx2 0 (.int .u64 g) rfl
  have a1 := cell_heap hb2 1 (.int .u64 c) rfl
  have x1 := cell_heap hx2 1 (.int .u64 c) rfl
  have a2 := cell_heap hb2 2 (.int .i64 r) rfl
  have x2 := cell_heap hx2 2 (.int .i64 r) rfl
  have a3 := cell_heap hb2 3 (.int .i64 t) rfl
  have x3 := cell_heap hx2 3 (.int .i64 t) rfl
  have a4 := cell_heap hb2 4 (.int .i64 n) rfl
  have x4 := cell_heap hx2 4 (.int .i64 n) rfl
  go_wp2_with (fail)
  refine (H3.out _).mono ?_
  rintro e1 w3 ⟨rfl, u3⟩
  go_wp2_with (fail)
  refine (H4.out _).mono ?_
  rintro e1 w4 ⟨rfl, u4⟩
  go_wp2_with (fail)
  refine (law_worksS _).mono ?_
  rintro e1 w5 ⟨rfl, u5⟩
  go_wp2
  go_ret
  exact ⟨rfl, by repeat (first | exact Upd.refl _ _ | refine Upd.alloc ?_ _ | refine Upd.drew ?_ | refine Upd.trans ?_ (by assumption) (fun _ _ f => f))⟩

set_option maxHeartbeats 3200000 in
set_option maxRecDepth 100000 in
theorem sback_01 (g c : Nat) (r t n : Int) (l : List UInt8) (w : World) (hg : g < 18446744073709551616) (hc : c < 18446744073709551616) (hl : l.length ≤ 5000) (hu1 : Sp.put ⟨g, c, r, t, n⟩ = ([], 4)) (yg yc : Nat) (yr yt yn : Int) (hy : Sp.take l = (⟨yg, yc, yr, yt, yn⟩, 0)) (hyg : yg < 18446744073709551616) (hyc : yc < 18446744073709551616) (hyp : Sp.put ⟨yg, yc, yr, yt, yn⟩ = (l, 0)) :
    Calls Tryd.prog 4 #[.agg #[.int .u64 g, .int .u64 c, .int .i64 r, .int .i64 t, .int .i64 n], .string ⟨l.toArray⟩] w (BoolR true w) := by
  have h1 := fun w => sup_Put ⟨g, c, r, t, n⟩ w hg hc
  rw [hu1] at h1
  unfold supV at h1
  have h2 := fun w => law_refused ⟨g, c, r, t, n⟩ w hg hc hu1
  unfold supV at h2
  dsimp only at h2
  dsimp only at h1
  have h3 := fun w => sup_Take l w (by omega)
  rw [hy] at h3
  unfold SupE supV  at h3
  dsimp only at h3
  have h4 := fun w => law_text ⟨yg, yc, yr, yt, yn⟩ w hyg hyc
  rw [hyp] at h4
  unfold supV at h4
  dsimp only at h4
  have hb := heap_alloc_new w (.cells #[.int .u64 g, .int .u64 c, .int .i64 r, .int .i64 t, .int .i64 n] 24)
  have hu := (Upd.refl (fun _ => False) w).alloc (.cells #[.int .u64 g, .int .u64 c, .int .i64 r, .int .i64 t, .int .i64 n] 24)
  have H1 := Lib.hid h1
  have H2 := Lib.hid h2
  have H3 := Lib.hid h3
  have H4 := Lib.hid h4
  clear h1 h2 h3 h4 hu1 hy  hyp
  go_enter Tryd.func4, Tryd.ntmps4
  go_wp2_with (fail)
  refine (H1.out _).mono ?_
  rintro e1 w1 ⟨rfl, u1⟩
  have hb1 := u1.heap hb (fun f => f)
  have a0 := cell_heap hb1 0 (.int .u64 g) rfl
  have a1 := cell_heap hb1 1 (.int .u64 c) rfl
  have a2 := cell_heap hb1 2 (.int .i64 r) rfl
  have a3 := cell_heap hb1 3 (.int .i64 t) rfl
  have a4 := cell_heap hb1 4 (.int .i64 n) rfl
  go_wp2_with (fail)
  refine (H2.out _).mono ?_
  rintro e1 w2 ⟨rfl, u2⟩
  go_wp2_with (fail)
  refine (H3.out _).mono ?_
  rintro e1 w3 ⟨rfl, u3⟩
  go_wp2_with (fail)
  refine (H4.out _).mono ?_
  rintro e1 w4 ⟨rfl, u4⟩
  go_wp2_with (fail)
  refine (law_worksS _).mono ?_
  rintro e1 w5 ⟨rfl, u5⟩
  go_wp2
  go_ret
  exact ⟨rfl, by repeat (first | exact Upd.refl _ _ | refine Upd.alloc ?_ _ | refine Upd.drew ?_ | refine Upd.trans ?_ (by assumption) (fun _ _ f => f))⟩

set_option maxHeartbeats 3200000 in
set_option maxRecDepth 100000 in
theorem sback_00 (g c : Nat) (r t n : Int) (l : List UInt8) (w : World) (hg : g < 18446744073709551616) (hc : c < 18446744073709551616) (hl : l.length ≤ 5000) (hu1 : Sp.put ⟨g, c, r, t, n⟩ = ([], 4)) (f : Int) (hf : f ≠ 0) (hy : Sp.take l = (Sp.zero, f)) :
    Calls Tryd.prog 4 #[.agg #[.int .u64 g, .int .u64 c, .int .i64 r, .int .i64 t, .int .i64 n], .string ⟨l.toArray⟩] w (BoolR true w) := by
  have h1 := fun w => sup_Put ⟨g, c, r, t, n⟩ w hg hc
  rw [hu1] at h1
  unfold supV at h1
  have h2 := fun w => law_refused ⟨g, c, r, t, n⟩ w hg hc hu1
  unfold supV at h2
  dsimp only at h2
  dsimp only at h1
  have h3 := fun w => sup_Take l w (by omega)
  rw [hy] at h3
  unfold SupE supV Sp.zero at h3
  dsimp only at h3
  have h4 := fun w => law_failsS l f w (by omega) hy
  have hf2 : (f != 0) = true := bne_iff_ne.2 hf
  have hb := heap_alloc_new w (.cells #[.int .u64 g, .int .u64 c, .int .i64 r, .int .i64 t, .int .i64 n] 24)
  have hu := (Upd.refl (fun _ => False) w).alloc (.cells #[.int .u64 g, .int .u64 c, .int .i64 r, .int .i64 t, .int .i64 n] 24)
  have H1 := Lib.hid h1
  have H2 := Lib.hid h2
  have H3 := Lib.hid h3
  have H4 := Lib.hid h4
  clear h1 h2 h3 h4 hu1 hy  hf
  go_enter Tryd.func4, Tryd.ntmps4
  go_wp2_with (fail)
  refine (H1.out _).mono ?_
  rintro e1 w1 ⟨rfl, u1⟩
  have hb1 := u1.heap hb (fun f => f)
  have a0 := cell_heap hb1 0 (.int .u64 g) rfl
  have a1 := cell_heap hb1 1 (.int .u64 c) rfl
  have a2 := cell_heap hb1 2 (.int .i64 r) rfl
  have a3 := cell_heap hb1 3 (.int .i64 t) rfl
  have a4 := cell_heap hb1 4 (.int .i64 n) rfl
  go_wp2_with (fail)
  refine (H2.out _).mono ?_
  rintro e1 w2 ⟨rfl, u2⟩
  go_wp2_with (fail)
  refine (H3.out _).mono ?_
  rintro e1 w3 ⟨rfl, u3⟩
  go_wp2_with (fail)
  refine (H4.out _).mono ?_
  rintro e1 w4 ⟨rfl, u4⟩
  go_wp2_with (fail)
  refine (law_worksS _).mono ?_
  rintro e1 w5 ⟨rfl, u5⟩
  go_wp2
  go_ret
  exact ⟨rfl, by repeat (first | exact Upd.refl _ _ | refine Upd.alloc ?_ _ | refine Upd.drew ?_ | refine Upd.trans ?_ (by assumption) (fun _ _ f => f))⟩

set_option maxHeartbeats 1600000 in
set_option maxRecDepth 100000 in
theorem walk_SuperBack (g c : Nat) (r t n : Int) (l : List UInt8) (w : World) (hg : g < 18446744073709551616) (hc : c < 18446744073709551616) (_ : -9223372036854775808 ≤ r) (_ : r ≤ 9223372036854775807) (_ : -9223372036854775808 ≤ t) (_ : t ≤ 9223372036854775807) (_ : -9223372036854775808 ≤ n) (_ : n ≤ 9223372036854775807) (hl : l.length ≤ 9223372036854775807) :
    Calls Tryd.prog 4 #[.agg #[.int .u64 g, .int .u64 c, .int .i64 r, .int .i64 t, .int .i64 n], .string ⟨l.toArray⟩] w (BoolR true w) := by
  by_cases hlong : 5000 < l.length
  · have hu := (Upd.refl (fun _ => False) w).alloc (.cells #[.int .u64 g, .int .u64 c, .int .i64 r, .int .i64 t, .int .i64 n] 24)
    go_enter Tryd.func4, Tryd.ntmps4
    go_wp2_with (fail)
    refine (law_worksS _).mono ?_
    rintro e w1 ⟨rfl, u1⟩
    go_wp2
    go_ret
    exact ⟨rfl, by repeat (first | exact Upd.refl _ _ | refine Upd.alloc ?_ _ | refine Upd.drew ?_ | refine Upd.trans ?_ (by assumption) (fun _ _ f => f))⟩
  · have hl2 : l.length ≤ 5000 := by omega
    cases hm : Sp.may ⟨g, c, r, t, n⟩ with
    | true =>
      obtain ⟨u, k1, k2, k3⟩ := Sp.put_ok ⟨g, c, r, t, n⟩ hg hc hm
      rcases Sp.take_cases l with ⟨f, hf, hy⟩ | ⟨⟨yg, yc, yr, yt, yn⟩, hy, y1, y2, y3⟩
      · exact sback_10 g c r t n l w hg hc hl2 u k1 k2 k3 f hf hy
      · exact sback_11 g c r t n l w hg hc hl2 u k1 k2 k3 yg yc yr yt yn hy y1 y2 y3
    | false =>
      have k1 := Sp.put_no ⟨g, c, r, t, n⟩ hm
      rcases Sp.take_cases l with ⟨f, hf, hy⟩ | ⟨⟨yg, yc, yr, yt, yn⟩, hy, y1, y2, y3⟩
      · exact sback_00 g c r t n l w hg hc hl2 k1 f hf hy
      · exact sback_01 g c r t n l w hg hc hl2 k1 yg yc yr yt yn hy y1 y2 y3

end Go.Proofs.YtlgkoalkcfdceaaDoor
