/- The statements' own helpers: puts, refused, fails, works. -/
import Derived.Test.YtiabomfkmfokeaaDoorBlk8
set_option linter.unusedVariables false
set_option linter.unusedSimpArgs false
namespace Go.Proofs.YtiabomfkmfokeaaDoor
open Go.RowKit

/-- true, and the old memory is as it was. -/
def TrueR (w : World) (e : Ending) (w' : World) : Prop := e = .returned (.bool true) ∧ Upd (fun _ => False) w w'

theorem block_Apply (l : List UInt8) (p : Blk.Pt) (w : World) (hl : l.length ≤ 1000000000) (hs : p.s.length ≤ 1000000000) :
    Calls Tryd.prog 14 #[.string ⟨l.toArray⟩, ptV p] w (StrR (Blk.apply l p) w) := by
  rw [← applyW_eq]; exact block_ApplyW l p w hl hs
theorem block_Take (l : List UInt8) (w : World) (hl : l.length ≤ 1000000000) : Calls Tryd.prog 12 #[.string ⟨l.toArray⟩] w (TakeR (takeI l) w) := by
  rw [← takeR_eq]; exact block_TakeR l w hl

set_option maxRecDepth 100000 in
theorem law_puts (p : Blk.Pt) (want : List UInt8) (w : World) (hl : p.s.length ≤ 1000000000) (h : Blk.put p = (want, 0)) :
    Calls Tryd.prog 24 #[ptV p, .string ⟨want.toArray⟩] w (TrueR w) := by
  have hP := fun w => block_Put p w hl
  rw [h] at hP
  have HP := Lib.hid hP
  clear hP h
  obtain ⟨cut, at_, n, s⟩ := p
  unfold ptV at HP ⊢
  dsimp only at HP ⊢
  go_enter Tryd.func24, Tryd.ntmps24
  go_wp2_with (fail)
  refine (HP.out _).mono ?_
  rintro e w1 ⟨rfl, hu⟩
  go_wp2
  go_ret
  exact ⟨rfl, ((Upd.refl _ _).alloc _).trans hu (fun _ _ f => f)⟩

set_option maxRecDepth 100000 in
theorem law_refused (p : Blk.Pt) (w : World) (hl : p.s.length ≤ 1000000000) (h : Blk.put p = ([], 4)) (h2 : Blk.apply [97, 98, 0] p = [97, 98]) :
    Calls Tryd.prog 25 #[ptV p] w (TrueR w) := by
  have hP := fun w => block_Put p w hl
  rw [h] at hP
  have hA := fun w => block_Apply [97, 98, 0] p w (by decide) hl
  rw [h2] at hA
  have HP := Lib.hid hP
  have HA := Lib.hid hA
  clear hP h hA h2
  obtain ⟨cut, at_, n, s⟩ := p
  unfold ptV at HP HA ⊢
  dsimp only at HP HA ⊢
  go_enter Tryd.func25, Tryd.ntmps25
  go_wp2_with (fail)
  refine (HP.out _).mono ?_
  rintro e w1 ⟨rfl, hu⟩
  have hb := hu.heap (heap_alloc_new w _) (fun f => f)
  have hlb := lt_of_heap hb
  have c0 : w1.cell? ⟨w.heap.size, 0, none⟩ = some (.bool cut) := cell_heap hb 0 _ rfl
  have c1 : w1.cell? ⟨w.heap.size, 1, none⟩ = some (.int .i64 at_) := cell_heap hb 1 _ rfl
  have c2 : w1.cell? ⟨w.heap.size, 2, none⟩ = some (.int .i64 n) := cell_heap hb 2 _ rfl
  have c3 : w1.cell? ⟨w.heap.size, 3, none⟩ = some (.string ⟨s.toArray⟩) := cell_heap hb 3 _ rfl
  go_wp2_with (fail)
  refine (HA.out _).mono ?_
  rintro e w2 ⟨rfl, hu2⟩
  go_wp2
  go_ret
  exact ⟨rfl, ((Upd.refl _ _).alloc _).trans (hu.trans hu2 (fun _ _ f => f)) (fun _ _ f => f)⟩

set_option maxRecDepth 100000 in
theorem law_fails (l : List UInt8) (want : Int) (w : World) (hl : l.length ≤ 1000000000) (h : takeI l = (Blk.zero, want)) :
    Calls Tryd.prog 16 #[.string ⟨l.toArray⟩, .int .i64 want] w (TrueR w) := by
  have hP := fun w => block_Take l w hl
  rw [h] at hP
  have HP := Lib.hid hP
  clear hP h
  go_enter Tryd.func16, Tryd.ntmps16
  go_wp2_with (fail)
  refine (HP.out _).mono ?_
  rintro e w1 ⟨rfl, hu⟩
  simp only [ptV, Blk.zero]
  go_wp2
  go_ret
  exact ⟨rfl, hu.alloc _⟩

set_option maxRecDepth 100000 in
theorem law_works (w : World) : Calls Tryd.prog 9 #[] w (TrueR w) := by
  have h1 := fun w => law_puts ⟨false, 2, 0, [120, 121]⟩ [1, 2, 0, 2, 120, 121] w (by decide) (by decide)
  have h2 := fun w => block_Apply [97, 98] ⟨false, 2, 0, [120, 121]⟩ w (by decide) (by decide)
  have h3 := fun w => block_Trim [97, 0, 98, 0, 0] w (by decide)
  have h4 := fun w => law_fails [] 10 w (by decide) rfl
  rw [show Blk.apply [97, 98] ⟨false, 2, 0, [120, 121]⟩ = [97, 98, 120, 121] by decide] at h2
  rw [show Blk.trim [97, 0, 98, 0, 0] = [97, 0, 98] by decide] at h3
  have H1 := Lib.hid h1
  have H2 := Lib.hid h2
  have H3 := Lib.hid h3
  have H4 := Lib.hid h4
  clear h1 h2 h3 h4
  go_enter Tryd.func9, Tryd.ntmps9
  go_wp2_with (fail)
  refine (H1.out _).mono ?_
  rintro e w1 ⟨rfl, u1⟩
  have hb := u1.heap (heap_alloc_new w _) (fun f => f)
  have hlb := lt_of_heap hb
  have c0 : w1.cell? ⟨w.heap.size, 0, none⟩ = some (.bool false) := cell_heap hb 0 _ rfl
  have c1 : w1.cell? ⟨w.heap.size, 1, none⟩ = some (.int .i64 2) := cell_heap hb 1 _ rfl
  have c2 : w1.cell? ⟨w.heap.size, 2, none⟩ = some (.int .i64 0) := cell_heap hb 2 _ rfl
  have c3 : w1.cell? ⟨w.heap.size, 3, none⟩ = some (.string ⟨#[120, 121]⟩) := cell_heap hb 3 _ rfl
  go_wp2_with (fail)
  refine (H2.out _).mono ?_
  rintro e w2 ⟨rfl, u2⟩
  go_wp2_with (fail)
  refine (H3.out _).mono ?_
  rintro e w3 ⟨rfl, rfl⟩
  go_wp2_with (fail)
  refine (H4.out _).mono ?_
  rintro e w4 ⟨rfl, u4⟩
  go_wp2
  go_ret
  exact ⟨rfl, ((Upd.refl _ _).alloc _).trans (u1.trans (u2.trans u4 (fun _ _ f => f)) (fun _ _ f => f)) (fun _ _ f => f)⟩

end Go.Proofs.YtiabomfkmfokeaaDoor
