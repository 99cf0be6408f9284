/- The walks of BlockTells, BlockPuts and BlockApplies. -/
import Derived.Test.YtiabomfkmfokeaaDoorBlk9
set_option linter.unusedVariables false
set_option linter.unusedSimpArgs false
namespace Go.Proofs.YtiabomfkmfokeaaDoor
open Go.RowKit

set_option maxRecDepth 100000 in
theorem walk_BlockTells (v : List UInt8) (frm n : Int) (w : World) (hv : v.length ≤ 9223372036854775807) (_ : -9223372036854775808 ≤ frm) (hf : frm ≤ 9223372036854775807) (_ : -9223372036854775808 ≤ n) (_ : n ≤ 9223372036854775807) :
    Calls Tryd.prog 6 #[.string ⟨v.toArray⟩, .int .i64 frm, .int .i64 n] w (TrueR w) := by
  by_cases hl : 3000 < v.length
  · go_enter Tryd.func6, Tryd.ntmps6
    go_wp2_with (fail)
    refine (law_works _).mono ?_
    rintro e w1 ⟨rfl, u1⟩
    go_wp2
    go_ret
    exact ⟨rfl, u1⟩
  · have h1 := fun w => block_Check v w (by omega)
    have h2 := fun w => ref_Check v w (by omega)
    have h3 := fun w => block_Trim v w (by omega)
    have h4 := fun w => ref_Trim v w (by omega)
    have h5 := fun w => block_At v frm n w (by omega) hf
    have h6 := fun w => ref_At v frm n w (by omega) hf
    generalize Blk.check v = c at h1 h2
    generalize Blk.trim v = t at h3 h4
    generalize Blk.at_ v frm n = a at h5 h6
    have H1 := Lib.hid h1
    have H2 := Lib.hid h2
    have H3 := Lib.hid h3
    have H4 := Lib.hid h4
    have H5 := Lib.hid h5
    have H6 := Lib.hid h6
    clear h1 h2 h3 h4 h5 h6
    go_enter Tryd.func6, Tryd.ntmps6
    go_wp2_with (fail)
    refine (H1.out _).mono ?_
    rintro e w1 ⟨rfl, rfl⟩
    go_wp2_with (fail)
    refine (H2.out _).mono ?_
    rintro e w1 ⟨rfl, rfl⟩
    go_wp2_with (fail)
    refine (H3.out _).mono ?_
    rintro e w1 ⟨rfl, rfl⟩
    go_wp2_with (fail)
    refine (H4.out _).mono ?_
    rintro e w1 ⟨rfl, rfl⟩
    go_wp2_with (fail)
    refine (H5.out _).mono ?_
    rintro e w1 ⟨rfl, u1⟩
    go_wp2_with (fail)
    refine (H6.out _).mono ?_
    rintro e w2 ⟨rfl, u2⟩
    go_wp2_with (fail)
    refine (law_works _).mono ?_
    rintro e w3 ⟨rfl, u3⟩
    go_wp2
    go_ret
    exact ⟨rfl, u1.trans (u2.trans u3 (fun _ _ f => f)) (fun _ _ f => f)⟩

set_option maxRecDepth 100000 in
theorem walk_BlockPuts (p : Blk.Pt) (s : List UInt8) (w : World) (hp : p.s.length ≤ 9223372036854775807) (hs : s.length ≤ 9223372036854775807) :
    Calls Tryd.prog 3 #[ptV p, .string ⟨s.toArray⟩] w (TrueR w) := by
  by_cases hl : 3000 < p.s.length ∨ 3000 < s.length
  · obtain ⟨cut, at_, n, t⟩ := p
    unfold ptV
    dsimp only at hp hl ⊢
    go_enter Tryd.func3, Tryd.ntmps3
    by_cases ha : 3000 < t.length
    · go_wp2_with (fail)
      refine (law_works _).mono ?_
      rintro e w1 ⟨rfl, u1⟩
      go_wp2
      go_ret
      exact ⟨rfl, ((Upd.refl _ _).alloc _).trans u1 (fun _ _ f => f)⟩
    · have hb : 3000 < s.length := by omega
      go_wp2_with (fail)
      refine (law_works _).mono ?_
      rintro e w1 ⟨rfl, u1⟩
      go_wp2
      go_ret
      exact ⟨rfl, ((Upd.refl _ _).alloc _).trans u1 (fun _ _ f => f)⟩
  · have hl1 : p.s.length ≤ 3000 := by omega
    have hl2 : s.length ≤ 3000 := by omega
    have h1 := fun w => block_Put p w (by omega)
    have h2 := fun w => ref_Put p w (by omega)
    have h3 := fun w => block_Take s w (by omega)
    have h4 := fun w => ref_TakeI s w (by omega)
    generalize Blk.put p = c at h1 h2
    generalize takeI s = t at h3 h4
    clear hl
    obtain ⟨cut, at_, n, l⟩ := p
    obtain ⟨⟨cut2, at2, n2, l2⟩, e2⟩ := t
    unfold TakeR ptV at h3 h4
    unfold ptV at h1 h2 ⊢
    dsimp only at h1 h2 h3 h4 hl1 ⊢
    have H1 := Lib.hid h1
    have H2 := Lib.hid h2
    have H3 := Lib.hid h3
    have H4 := Lib.hid h4
    clear h1 h2 h3 h4
    go_enter Tryd.func3, Tryd.ntmps3
    go_wp2_with (fail)
    refine (H1.out _).mono ?_
    rintro e w1 ⟨rfl, u1⟩
    have hb := u1.heap (heap_alloc_new w _) (fun f => f)
    have hlb := lt_of_heap hb
    have c0 : w1.cell? ⟨w.heap.size, 0, none⟩ = some (.bool cut) := cell_heap hb 0 _ rfl
    have c1 : w1.cell? ⟨w.heap.size, 1, none⟩ = some (.int .i64 at_) := cell_heap hb 1 _ rfl
    have c2 : w1.cell? ⟨w.heap.size, 2, none⟩ = some (.int .i64 n) := cell_heap hb 2 _ rfl
    have c3 : w1.cell? ⟨w.heap.size, 3, none⟩ = some (.string ⟨l.toArray⟩) := cell_heap hb 3 _ rfl
    go_wp2_with (fail)
    refine (H2.out _).mono ?_
    rintro e w2 ⟨rfl, u2⟩
    clear c0 c1 c2 c3
    go_wp2_with (fail)
    refine (H3.out _).mono ?_
    rintro e w3 ⟨rfl, u3⟩
    go_wp2_with (fail)
    refine (H4.out _).mono ?_
    rintro e w4 ⟨rfl, u4⟩
    have hq := u4.heap (heap_alloc_new w3 _) (fun f => f)
    have hlq := lt_of_heap hq
    have c0 : w4.cell? ⟨w3.heap.size, 0, none⟩ = some (.bool cut2) := cell_heap hq 0 _ rfl
    have c1 : w4.cell? ⟨w3.heap.size, 1, none⟩ = some (.int .i64 at2) := cell_heap hq 1 _ rfl
    have c2 : w4.cell? ⟨w3.heap.size, 2, none⟩ = some (.int .i64 n2) := cell_heap hq 2 _ rfl
    have c3 : w4.cell? ⟨w3.heap.size, 3, none⟩ = some (.string ⟨l2.toArray⟩) := cell_heap hq 3 _ rfl
    go_wp2_with (fail)
    refine (law_works _).mono ?_
    rintro e w5 ⟨rfl, u5⟩
    go_wp2
    go_ret
    exact ⟨rfl, ((((((Upd.refl _ _).alloc _).trans u1 (fun _ _ f => f)).trans u2 (fun _ _ f => f)).trans u3 (fun _ _ f => f)).alloc _).trans ((u4.alloc _).trans u5 (fun _ _ f => f)) (fun _ _ f => f)⟩

set_option maxRecDepth 100000 in
theorem walk_BlockApplies (v : List UInt8) (p : Blk.Pt) (w : World) (hv : v.length ≤ 9223372036854775807) (hp : p.s.length ≤ 9223372036854775807) :
    Calls Tryd.prog 4 #[.string ⟨v.toArray⟩, ptV p] w (TrueR w) := by
  by_cases hl : 3000 < v.length ∨ 3000 < p.s.length
  · obtain ⟨cut, at_, n, t⟩ := p
    unfold ptV
    dsimp only at hp hl ⊢
    go_enter Tryd.func4, Tryd.ntmps4
    by_cases ha : 3000 < v.length
    · go_wp2_with (fail)
      refine (law_works _).mono ?_
      rintro e w1 ⟨rfl, u1⟩
      go_wp2
      go_ret
      exact ⟨rfl, ((Upd.refl _ _).alloc _).trans u1 (fun _ _ f => f)⟩
    · have hb : 3000 < t.length := by omega
      go_wp2_with (fail)
      refine (law_works _).mono ?_
      rintro e w1 ⟨rfl, u1⟩
      go_wp2
      go_ret
      exact ⟨rfl, ((Upd.refl _ _).alloc _).trans u1 (fun _ _ f => f)⟩
  · have hl1 : p.s.length ≤ 3000 := by omega
    have hl2 : v.length ≤ 3000 := by omega
    have h1 := fun w => block_Apply v p w (by omega) (by omega)
    have h2 := fun w => ref_Apply v p w (by omega) (by omega)
    generalize Blk.apply v p = c at h1 h2
    clear hl
    obtain ⟨cut, at_, n, l⟩ := p
    unfold ptV at h1 h2 ⊢
    dsimp only at h1 h2 hl1 ⊢
    have H1 := Lib.hid h1
    have H2 := Lib.hid h2
    clear h1 h2
    go_enter Tryd.func4, Tryd.ntmps4
    have hb := heap_alloc_new w (.cells #[.bool cut, .int .i64 at_, .int .i64 n, .string ⟨l.toArray⟩] 23)
    have c0 := cell_heap hb 0 (.bool cut) rfl
    have c1 := cell_heap hb 1 (.int .i64 at_) rfl
    have c2 := cell_heap hb 2 (.int .i64 n) rfl
    have c3 := cell_heap hb 3 (.string ⟨l.toArray⟩) rfl
    have hu0 := ((Upd.refl (fun _ => False) w).alloc (.cells #[.bool cut, .int .i64 at_, .int .i64 n, .string ⟨l.toArray⟩] 23)).drew
    go_wp2
    go_region_held3 (fun w' => w'.cell? ⟨w.heap.size, 0, none⟩ = some (.bool cut) ∧ w'.cell? ⟨w.heap.size, 1, none⟩ = some (.int .i64 at_) ∧ w'.cell? ⟨w.heap.size, 2, none⟩ = some (.int .i64 n) ∧ w'.cell? ⟨w.heap.size, 3, none⟩ = some (.string ⟨l.toArray⟩) ∧ Upd (fun _ => False) w w')
      (first
        | exact ⟨c0, c1, c2, c3, hu0⟩
        | (have h := ‹_ ∧ _ ∧ _ ∧ _ ∧ Upd _ _ _›; exact ⟨u1.cell h.1 (fun f => f), u1.cell h.2.1 (fun f => f), u1.cell h.2.2.1 (fun f => f), u1.cell h.2.2.2.1 (fun f => f), h.2.2.2.2.trans u1 (fun _ _ f => f)⟩)
        | (have h := ‹_ ∧ _ ∧ _ ∧ _ ∧ Upd _ _ _›; exact ⟨u2.cell h.1 (fun f => f), u2.cell h.2.1 (fun f => f), u2.cell h.2.2.1 (fun f => f), u2.cell h.2.2.2.1 (fun f => f), h.2.2.2.2.trans u2 (fun _ _ f => f)⟩)
        | (have h := ‹_ ∧ _ ∧ _ ∧ _ ∧ Upd _ _ _›; exact ⟨u3.cell h.1 (fun f => f), u3.cell h.2.1 (fun f => f), u3.cell h.2.2.1 (fun f => f), u3.cell h.2.2.2.1 (fun f => f), h.2.2.2.2.trans u3 (fun _ _ f => f)⟩))
      (first
        | (go_at_call 14; refine (H1.out _).mono ?_; rintro e w1 ⟨rfl, u1⟩)
        | (go_at_call 15; refine (H2.out _).mono ?_; rintro e w2 ⟨rfl, u2⟩)
        | (go_at_call 9; refine (law_works _).mono ?_; rintro e w3 ⟨rfl, u3⟩))
    have hS := ‹_ ∧ _ ∧ _ ∧ _ ∧ Upd _ _ _›
    go_wp2
    go_ret
    exact ⟨rfl, hS.2.2.2.2⟩

end Go.Proofs.YtiabomfkmfokeaaDoor
