/- The contracts of patches: may they be, their texts, of block and of its reference. -/
import Derived.Test.YtiabomfkmfokeaaDoorBlk2
set_option linter.unusedVariables false
set_option linter.unusedSimpArgs false
namespace Go.Proofs.YtiabomfkmfokeaaDoor
open Go.RowKit

/-- A patch as a value. -/
def ptV (p : Blk.Pt) : Value := .agg #[.bool p.cut, .int .i64 p.at_, .int .i64 p.n, .string ⟨p.s.toArray⟩]

set_option maxHeartbeats 800000 in
set_option maxRecDepth 100000 in
theorem may_any (p : Blk.Pt) (w : World) (hl : p.s.length ≤ 1000000000) :
    Calls Tryd.prog 26 #[ptV p] w fun e w' => e = .returned (.bool (Blk.may p)) ∧ Upd (fun _ => False) w w' := by
  obtain ⟨cut, at_, n, s⟩ := p
  unfold ptV
  dsimp only at hl ⊢
  cases cut with
  | true =>
    by_cases h0 : s.length = 0
    · obtain rfl : s = [] := List.eq_nil_of_length_eq_zero h0
      obtain ⟨r, hr⟩ : ∃ r, r = Blk.may ⟨true, at_, n, []⟩ := ⟨_, rfl⟩
      rw [← hr]
      have HR := Lib.hid hr
      clear hr h0
      go_enter Tryd.func26, Tryd.ntmps26
      go_wp2
      all_goals go_ret
      all_goals refine ⟨ret_bool ?_, (Upd.refl _ _).alloc _⟩
      all_goals (rw [HR.out, Bool.eq_iff_iff]; simp [Blk.may]; try (first | omega | simp_all))
    · have h3 : s.isEmpty = false := by cases s <;> simp at h0 ⊢
      have hs : s = [] ↔ False := by cases s <;> simp at h0 ⊢
      obtain ⟨r, hr⟩ : ∃ r, r = Blk.may ⟨true, at_, n, s⟩ := ⟨_, rfl⟩
      rw [← hr]
      have HR := Lib.hid hr
      clear hr h0
      go_enter Tryd.func26, Tryd.ntmps26
      go_wp2
      all_goals go_ret
      all_goals refine ⟨ret_bool ?_, (Upd.refl _ _).alloc _⟩
      all_goals (rw [HR.out]; simp [Blk.may, hs])
  | false =>
    by_cases h0 : s.length = 0
    · obtain rfl : s = [] := List.eq_nil_of_length_eq_zero h0
      have hr : Blk.may ⟨false, at_, n, []⟩ = false := by simp [Blk.may]
      rw [hr]
      clear hr h0
      go_enter Tryd.func26, Tryd.ntmps26
      go_wp2
      all_goals go_ret
      all_goals exact ⟨rfl, (Upd.refl _ _).alloc _⟩
    · have h3 : s.isEmpty = false := by cases s <;> simp at h0 ⊢
      have hs : s = [] ↔ False := by cases s <;> simp at h0 ⊢
      obtain ⟨r, hr⟩ : ∃ r, r = Blk.may ⟨false, at_, n, s⟩ := ⟨_, rfl⟩
      rw [← hr]
      have HR := Lib.hid hr
      clear hr
      have h1 : 0 < s.length := by omega
      clear h0
      go_enter Tryd.func26, Tryd.ntmps26
      go_wp2
      all_goals go_ret
      all_goals refine ⟨ret_bool ?_, (Upd.refl _ _).alloc _⟩
      all_goals (rw [HR.out, Bool.eq_iff_iff]; simp [Blk.may]; try (first | omega | simp_all))

set_option maxHeartbeats 800000 in
set_option maxRecDepth 100000 in
theorem May_any (p : Blk.Pt) (w : World) (hl : p.s.length ≤ 1000000000) :
    Calls Tryd.prog 30 #[ptV p] w fun e w' => e = .returned (.bool (Blk.may p)) ∧ Upd (fun _ => False) w w' := by
  obtain ⟨cut, at_, n, s⟩ := p
  unfold ptV
  dsimp only at hl ⊢
  cases cut with
  | true =>
    obtain ⟨r, hr⟩ : ∃ r, r = Blk.may ⟨true, at_, n, s⟩ := ⟨_, rfl⟩
    rw [← hr]
    have HR := Lib.hid hr
    clear hr
    go_enter Tryd.func30, Tryd.ntmps30
    go_wp2
    all_goals go_ret
    all_goals refine ⟨ret_bool ?_, (Upd.refl _ _).alloc _⟩
    all_goals (rw [HR.out, Bool.eq_iff_iff]; simp [Blk.may]; try (first | omega | simp_all))
  | false =>
    obtain ⟨r, hr⟩ : ∃ r, r = Blk.may ⟨false, at_, n, s⟩ := ⟨_, rfl⟩
    rw [← hr]
    have HR := Lib.hid hr
    clear hr
    go_enter Tryd.func30, Tryd.ntmps30
    go_wp2
    all_goals go_ret
    all_goals refine ⟨ret_bool ?_, (Upd.refl _ _).alloc _⟩
    all_goals (rw [HR.out, Bool.eq_iff_iff]; simp [Blk.may]; try (first | omega | simp_all))

set_option maxHeartbeats 800000 in
set_option maxRecDepth 100000 in
theorem block_Put (p : Blk.Pt) (w : World) (hl : p.s.length ≤ 1000000000) :
    Calls Tryd.prog 10 #[ptV p] w fun e w' => e = .returned (.tuple #[.string ⟨(Blk.put p).1.toArray⟩, .int .i64 (Blk.put p).2]) ∧ Upd (fun _ => False) w w' := by
  have hM := fun w => may_any p w hl
  cases hm : Blk.may p with
  | false =>
    rw [hm] at hM
    have hp : Blk.put p = ([], 4) := by unfold Blk.put; rw [if_pos hm]
    rw [hp]
    have HM := Lib.hid hM
    clear hM hp hm
    obtain ⟨cut, at_, n, s⟩ := p
    unfold ptV
    dsimp only at hl ⊢
    go_enter Tryd.func10, Tryd.ntmps10
    go_wp2_with (go_at_call 26; refine (HM.out _).mono ?_; rintro e w' ⟨rfl, hu⟩)
    go_ret2
    exact ⟨rfl, ((Upd.refl _ _).alloc _).trans hu (fun _ _ h => h)⟩
  | true =>
    rw [hm] at hM
    obtain ⟨cut, at_, n, s⟩ := p
    dsimp only at hl
    cases cut with
    | true =>
      have hp : Blk.put ⟨true, at_, n, s⟩ = ([2, UInt8.ofNat n.toNat], 0) := by simp [Blk.put, hm]
      have hn : 0 ≤ n ∧ n < 64 := by simp [Blk.may] at hm; omega
      rw [hp]
      have HM := Lib.hid hM
      clear hM hp hm
      obtain ⟨hn0, hn1⟩ := hn
      obtain ⟨m, rfl⟩ := Int.eq_ofNat_of_zero_le hn0
      have e1 : IntKind.u8.wrap (m : Int) = (m : Int) := IntWalk.u8_in _ (by omega)
      unfold ptV
      dsimp only
      go_enter Tryd.func10, Tryd.ntmps10
      go_wp2_with (fail)
      refine (HM.out _).mono ?_
      rintro e w1 ⟨rfl, hu⟩
      have hb := hu.heap (heap_alloc_new w _) (by simp)
      have hlb := lt_of_heap hb
      have c0 : w1.cell? ⟨w.heap.size, 0, none⟩ = some (.bool true) := cell_heap hb 0 _ rfl
      have c2 : w1.cell? ⟨w.heap.size, 2, none⟩ = some (.int .i64 m) := cell_heap hb 2 _ rfl
      go_wp2_with (fail)
      have hW := Wk.new w1
      have d2 := cell_heap (heap_alloc_lt hb (.cells #[.slice none 0 0, .int .i64 0] 50)) 2 (.int .i64 m) rfl
      refine (Wk_U8 hW _ 2 rfl (by decide) (by decide)).mono ?_
      rintro e w2 ⟨rfl, hW2⟩
      have k2 : w2.cell? ⟨w.heap.size, 2, none⟩ = some (.int .i64 m) := hW2.cell d2 (by simp; omega)
      go_wp2_with (fail)
      refine (Wk_U8 hW2 _ m rfl (by unfold Two8; omega) (by simp [be])).mono ?_
      rintro e w3 ⟨rfl, hW3⟩
      go_wp2_with (fail)
      refine (Wk_Bytes hW3 (by simp [be])).mono ?_
      rintro e w4 ⟨rfl, rfl⟩
      go_wp2_with (fail)
      go_ret2
      refine ⟨by simp [be], (((Upd.refl _ _).alloc _).trans hu (fun _ _ h => h)).trans (((Upd.refl _ _).alloc _).trans hW3.upd (fun _ _ h => h)) (fun i hi h => ?_)⟩
      have := hlb; omega
    | false =>
      have hp : Blk.put ⟨false, at_, n, s⟩ = ([1, UInt8.ofNat at_.toNat, 0, UInt8.ofNat s.length] ++ s, 0) := by simp [Blk.put, hm]
      have hn : 0 ≤ at_ ∧ at_ < 64 ∧ s.length ≤ 64 := by simp [Blk.may] at hm; omega
      rw [hp]
      have HM := Lib.hid hM
      clear hM hp hm
      obtain ⟨hn0, hn1, hs⟩ := hn
      obtain ⟨m, rfl⟩ := Int.eq_ofNat_of_zero_le hn0
      have e1 : IntKind.u8.wrap (m : Int) = (m : Int) := IntWalk.u8_in _ (by omega)
      unfold ptV
      dsimp only
      go_enter Tryd.func10, Tryd.ntmps10
      go_wp2_with (fail)
      refine (HM.out _).mono ?_
      rintro e w1 ⟨rfl, hu⟩
      have hb := hu.heap (heap_alloc_new w _) (by simp)
      have hlb := lt_of_heap hb
      have c0 : w1.cell? ⟨w.heap.size, 0, none⟩ = some (.bool false) := cell_heap hb 0 _ rfl
      go_wp2_with (fail)
      have hW := Wk.new w1
      have d1 := cell_heap (heap_alloc_lt hb (.cells #[.slice none 0 0, .int .i64 0] 50)) 1 (.int .i64 m) rfl
      have d3 := cell_heap (heap_alloc_lt hb (.cells #[.slice none 0 0, .int .i64 0] 50)) 3 (.string ⟨s.toArray⟩) rfl
      refine (Wk_U8 hW _ 1 rfl (by decide) (by decide)).mono ?_
      rintro e w2 ⟨rfl, hW2⟩
      have k1 : w2.cell? ⟨w.heap.size, 1, none⟩ = some (.int .i64 m) := hW2.cell d1 (by simp; omega)
      go_wp2_with (fail)
      refine (Wk_U8 hW2 _ m rfl (by unfold Two8; omega) (by simp [be])).mono ?_
      rintro e w3 ⟨rfl, hW3⟩
      have k3 : w3.cell? ⟨w.heap.size, 3, none⟩ = some (.string ⟨s.toArray⟩) := hW3.cell d3 (by simp; omega)
      go_wp2_with (fail)
      refine (Wk_Text hW3 s (by simp [be]) (by omega)).mono ?_
      rintro e w4 ⟨rfl, hW4⟩
      go_wp2_with (fail)
      refine (Wk_Bytes hW4 (by simp [be]; omega)).mono ?_
      rintro e w5 ⟨rfl, rfl⟩
      go_wp2_with (fail)
      go_ret2
      refine ⟨?_, (((Upd.refl _ _).alloc _).trans hu (fun _ _ h => h)).trans (((Upd.refl _ _).alloc _).trans hW4.upd (fun _ _ h => h)) (fun i hi h => ?_)⟩
      · have : s.length / 256 = 0 := by omega
        rw [be1, be1, be2, this]; simp
      · have := hlb; omega

end Go.Proofs.YtiabomfkmfokeaaDoor
