/- Allocators that are none; short lists of chains. -/
import Derived.Test.YtieohjibccjliaaAlE
import Derived.Test.YtieohjibccjliaaAlL
set_option linter.unusedVariables false
set_option linter.unusedSimpArgs false
namespace Go.Proofs.Ytieohjibccjliaa
open Go.RowKit Go.Shelf Go.Maps
set_option maxRecDepth 100000

theorem ownrd1 (w : World) (p q : Int) (rest : List Int) (hl : rest.length ≤ maxLen) : OwnRd ((w.alloc (.cells (rest.map (Value.int .i64)).toArray 3)).alloc (.cells #[.int .i64 p, .int .i64 q, .slice (some ⟨w.heap.size, 0, none⟩) rest.length rest.length] 39)) (.slice (some ⟨w.heap.size + 1, 0, none⟩) 1 1) [(p, q, rest)] := by
  have hb := heap_alloc_new2 w (.cells (rest.map (Value.int .i64)).toArray 3) (.cells #[.int .i64 p, .int .i64 q, .slice (some ⟨w.heap.size, 0, none⟩) rest.length rest.length] 39)
  have hr := (introw_new w rest hl).upd ((Upd.refl (fun _ => False) _).alloc (.cells #[.int .i64 p, .int .i64 q, .slice (some ⟨w.heap.size, 0, none⟩) rest.length rest.length] 39)) (fun f => f)
  refine ⟨_, 1, rfl, Nat.le_refl _, by decide, fun j x hj => ?_⟩
  cases j with
  | zero =>
    simp only [List.getElem?_cons_zero, Option.some.injEq] at hj
    subst hj
    exact ⟨w.heap.size + 1, 0, _, _, rfl, cell_heap hb 0 _ rfl, cell_heap hb 1 _ rfl, cell_heap hb 2 _ rfl, hr.ints, fun n c e => by cases e⟩
  | succ j => simp at hj
theorem ownrd0 (w : World) (p q : Int) : OwnRd (w.alloc (.cells #[.int .i64 p, .int .i64 q, .slice none 0 0] 39)) (.slice (some ⟨w.heap.size, 0, none⟩) 1 1) [(p, q, [])] := by
  have hb := heap_alloc_new w (.cells #[.int .i64 p, .int .i64 q, .slice none 0 0] 39)
  refine ⟨_, 1, rfl, Nat.le_refl _, by decide, fun j x hj => ?_⟩
  cases j with
  | zero =>
    simp only [List.getElem?_cons_zero, Option.some.injEq] at hj
    subst hj
    exact ⟨w.heap.size, 0, _, none, rfl, cell_heap hb 0 _ rfl, cell_heap hb 1 _ rfl, cell_heap hb 2 _ rfl, ⟨none, 0, rfl, Nat.le_refl _, Nat.zero_le _, fun j x hj => by cases hj⟩, fun n c e => by cases e; exact ⟨rfl, rfl⟩⟩
  | succ j => simp at hj
theorem one_in {p q : Int} {rest : List Int} (h1 : inI p) (h2 : ∀ y ∈ rest, inI y) (h3 : rest.length ≤ 5000) : ∀ x ∈ [((p, q, rest) : Own)], inI x.1 ∧ (∀ y ∈ x.2.2, inI y) ∧ x.2.2.length ≤ 5000 := fun x hx => by
  simp only [List.mem_singleton] at hx; subst hx; exact ⟨h1, h2, h3⟩
/-- nil, or what New and Load did not make -/
def ZAl (w : World) (z : Nat) : Prop := w.heap[z]? = some (.cells #[.pointer none, .map none, .map none] 66 (0, 0))
theorem zal_is {w : World} {z : Nat} (h : ZAl w z) : Calls Try.prog 33 #[.pointer (some ⟨z, 0, none⟩)] w fun e w' => e = .returned (.bool false) ∧ w = w' := by
  have c1 := cell_heap h 1 _ rfl
  have hq := fun w : World => neq_map_nil (P := Try.prog) w none Try.underlying63
  simp only [Option.isSome_none] at hq
  clear h
  go_enter Try.func33, Try.ntmps33
  go_wp2
  go_ret
  exact ⟨rfl, rfl⟩
theorem noal_find (w : World) (p : Int) : Calls Try.prog 36 #[.pointer none, .int .i64 p] w fun e w' => e = .returned (.tuple #[.pointer none, .int .i64 1]) ∧ w = w' := by
  have HI := Lib.hid (noal_is w)
  go_enter Try.func36, Try.ntmps36
  go_wp2_with (go_at_call 33; refine HI.out.mono ?_; rintro e w' ⟨rfl, rfl⟩)
  go_ret2
  exact ⟨rfl, rfl⟩
theorem zal_find {w : World} {z : Nat} (h : ZAl w z) (p : Int) : Calls Try.prog 36 #[.pointer (some ⟨z, 0, none⟩), .int .i64 p] w fun e w' => e = .returned (.tuple #[.pointer none, .int .i64 1]) ∧ w = w' := by
  have HI := Lib.hid (zal_is h)
  go_enter Try.func36, Try.ntmps36
  go_wp2_with (go_at_call 33; refine HI.out.mono ?_; rintro e w' ⟨rfl, rfl⟩)
  go_ret2
  exact ⟨rfl, rfl⟩
theorem noal_Hold (w : World) (p : Int) : Calls Try.prog 10 #[.pointer none, .int .i64 p] w fun e w' => e = .returned (.int .i64 1) ∧ w = w' := by
  have HF := Lib.hid (noal_find w p)
  go_enter Try.func10, Try.ntmps10
  go_wp2_with (go_at_call 36; refine HF.out.mono ?_; rintro e w' ⟨rfl, rfl⟩)
  go_ret
  exact ⟨rfl, rfl⟩
theorem noal_Refs (w : World) (p : Int) : Calls Try.prog 27 #[.pointer none, .int .i64 p] w fun e w' => e = .returned (.int .i64 0) ∧ w = w' := by
  have HF := Lib.hid (noal_find w p)
  go_enter Try.func27, Try.ntmps27
  go_wp2_with (go_at_call 36; refine HF.out.mono ?_; rintro e w' ⟨rfl, rfl⟩)
  go_ret
  exact ⟨rfl, rfl⟩
theorem noal_Free (w : World) : Calls Try.prog 29 #[.pointer none] w fun e w' => e = .returned (.int .i64 0) ∧ w = w' := by
  have HI := Lib.hid (noal_is w)
  go_enter Try.func29, Try.ntmps29
  go_wp2_with (go_at_call 33; refine HI.out.mono ?_; rintro e w' ⟨rfl, rfl⟩)
  go_ret
  exact ⟨rfl, rfl⟩
theorem noal_List (w : World) : Calls Try.prog 13 #[.pointer none] w fun e w' => e = .returned (.slice none 0 0) ∧ w = w' := by
  have HI := Lib.hid (noal_is w)
  go_enter Try.func13, Try.ntmps13
  go_wp2_with (go_at_call 33; refine HI.out.mono ?_; rintro e w' ⟨rfl, rfl⟩)
  go_ret
  exact ⟨rfl, rfl⟩
theorem noal_Commit (w : World) : Calls Try.prog 12 #[.pointer none] w fun e w' => e = .returned (.tuple #[]) ∧ w = w' := by
  have HI := Lib.hid (noal_is w)
  go_enter Try.func12, Try.ntmps12
  go_wp2_with (go_at_call 33; refine HI.out.mono ?_; rintro e w' ⟨rfl, rfl⟩)
  refine bodyPost_ret (results_none rfl _ _ _) rfl ?_
  exact ⟨rfl, rfl⟩
theorem zal_Waiting {w : World} {z : Nat} (h : ZAl w z) : Calls Try.prog 15 #[.pointer (some ⟨z, 0, none⟩)] w fun e w' => e = .returned (.int .i64 0) ∧ w = w' := by
  have HI := Lib.hid (zal_is h)
  go_enter Try.func15, Try.ntmps15
  go_wp2_with (go_at_call 33; refine HI.out.mono ?_; rintro e w' ⟨rfl, rfl⟩)
  go_ret
  exact ⟨rfl, rfl⟩
theorem zal_Alloc {w : World} {z : Nat} (h : ZAl w z) (k : Int) : Calls Try.prog 9 #[.pointer (some ⟨z, 0, none⟩), .int .i64 k] w fun e w' => e = .returned (.tuple #[.slice none 0 0, .int .i64 1]) ∧ w = w' := by
  have HI := Lib.hid (zal_is h)
  go_enter Try.func9, Try.ntmps9
  go_wp2_with (go_at_call 33; refine HI.out.mono ?_; rintro e w' ⟨rfl, rfl⟩)
  go_ret2
  exact ⟨rfl, rfl⟩
theorem zal_drops {w : World} {z : Nat} (h : ZAl w z) (p : Int) : Calls Try.prog 28 #[.pointer (some ⟨z, 0, none⟩), .int .i64 p, .bool false, .int .i64 1] w fun e w' => e = .returned (.bool true) ∧ w = w' := by
  have HF := Lib.hid (zal_find h p)
  have HD := Lib.hid (show Calls Try.prog 11 #[.pointer (some ⟨z, 0, none⟩), .int .i64 p] w fun e w' => e = .returned (.tuple #[.bool false, .int .i64 1]) ∧ w = w' by
    go_enter Try.func11, Try.ntmps11
    go_wp2_with (go_at_call 36; refine HF.out.mono ?_; rintro e w' ⟨rfl, rfl⟩)
    go_ret2
    exact ⟨rfl, rfl⟩)
  go_enter Try.func28, Try.ntmps28
  go_wp2_with (go_at_call 11; refine HD.out.mono ?_; rintro e w1 ⟨rfl, rfl⟩)
  go_ret
  exact ⟨by simp, rfl⟩

end Go.Proofs.Ytieohjibccjliaa
