/- The walk of BlockKnown: the chapter's examples, call by call. -/
import Derived.Test.YtiabomfkmfokeaaDoorBlkL2
set_option linter.unusedVariables false
set_option linter.unusedSimpArgs false
namespace Go.Proofs.YtiabomfkmfokeaaDoor
open Go.RowKit
/-- A number, and the old memory as it was. -/
def NumR (n : Int) (w : World) (e : Ending) (w' : World) : Prop := e = .returned (.int .i64 n) ∧ Upd (fun _ => False) w w'

theorem k_rep (c : Nat) (w : World) (hc : c ≤ 1000) : Calls Tryd.prog 23 #[.string ⟨#[120]⟩, .int .i64 c] w (StrR (List.replicate c 120) w) := by
  refine (Tryd.strings_Repeat ⟨#[120]⟩ c w (by omega) (by show 1 * c ≤ _; omega)).mono ?_
  rintro e w' ⟨rfl, hb⟩
  refine ⟨?_, (Upd.of_below hb).mono (fun i hi h => by omega)⟩
  have : Lib.repeatL (⟨#[120]⟩ : ByteArray).data.toList c = List.replicate c 120 := by
    show Lib.repeatL [120] c = _
    clear hc hb
    induction c with
    | zero => rfl
    | succ c ih => rw [List.replicate_succ, ← ih]; rfl
  rw [this]

theorem k_0 (w : World) : Calls Tryd.prog 17 #[.string ⟨[97].toArray⟩] w (NumR 0 w) := by
  refine (block_Check [97] w (by decide)).mono ?_
  rintro e w' ⟨rfl, rfl⟩
  exact ⟨by rw [show Blk.check [97] = 0 by decide +kernel], Upd.refl _ _⟩
theorem k_1 (w : World) : Calls Tryd.prog 17 #[.string ⟨[].toArray⟩] w (NumR 4 w) := by
  refine (block_Check [] w (by decide)).mono ?_
  rintro e w' ⟨rfl, rfl⟩
  exact ⟨by rw [show Blk.check [] = 4 by decide +kernel], Upd.refl _ _⟩
theorem k_2 (w : World) : Calls Tryd.prog 17 #[.string ⟨[97, 0].toArray⟩] w (NumR 4 w) := by
  refine (block_Check [97, 0] w (by decide)).mono ?_
  rintro e w' ⟨rfl, rfl⟩
  exact ⟨by rw [show Blk.check [97, 0] = 4 by decide +kernel], Upd.refl _ _⟩
theorem k_3 (w : World) : Calls Tryd.prog 17 #[.string ⟨(List.replicate 65 120).toArray⟩] w (NumR 4 w) := by
  refine (block_Check (List.replicate 65 120) w (by decide)).mono ?_
  rintro e w' ⟨rfl, rfl⟩
  exact ⟨by rw [show Blk.check (List.replicate 65 120) = 4 by decide +kernel], Upd.refl _ _⟩
theorem k_4 (w : World) : Calls Tryd.prog 17 #[.string ⟨(List.replicate 64 120).toArray⟩] w (NumR 0 w) := by
  refine (block_Check (List.replicate 64 120) w (by decide)).mono ?_
  rintro e w' ⟨rfl, rfl⟩
  exact ⟨by rw [show Blk.check (List.replicate 64 120) = 0 by decide +kernel], Upd.refl _ _⟩
theorem k_5 (w : World) : Calls Tryd.prog 21 #[.string ⟨[97, 98, 99].toArray⟩, .int .i64 1, .int .i64 4] w (StrR [98, 99, 0, 0] w) := by
  have h := block_At [97, 98, 99] 1 4 w (by decide) (by decide)
  rw [show Blk.at_ [97, 98, 99] 1 4 = [98, 99, 0, 0] by decide +kernel] at h
  exact h
theorem k_6 (w : World) : Calls Tryd.prog 21 #[.string ⟨[97, 98, 99].toArray⟩, .int .i64 (-5), .int .i64 2] w (StrR [97, 98] w) := by
  have h := block_At [97, 98, 99] (-5) 2 w (by decide) (by decide)
  rw [show Blk.at_ [97, 98, 99] (-5) 2 = [97, 98] by decide +kernel] at h
  exact h
theorem k_7 (w : World) : Calls Tryd.prog 21 #[.string ⟨[97, 98, 99].toArray⟩, .int .i64 4611686018427387904, .int .i64 2] w (StrR [0, 0] w) := by
  have h := block_At [97, 98, 99] 4611686018427387904 2 w (by decide) (by decide)
  rw [show Blk.at_ [97, 98, 99] 4611686018427387904 2 = [0, 0] by decide +kernel] at h
  exact h
theorem k_8 (w : World) : Calls Tryd.prog 21 #[.string ⟨[].toArray⟩, .int .i64 0, .int .i64 99] w (StrR (List.replicate 64 0) w) := by
  have h := block_At [] 0 99 w (by decide) (by decide)
  rw [show Blk.at_ [] 0 99 = (List.replicate 64 0) by decide +kernel] at h
  exact h
theorem k_9 (w : World) : Calls Tryd.prog 21 #[.string ⟨[97].toArray⟩, .int .i64 0, .int .i64 (-1)] w (StrR [] w) := by
  have h := block_At [97] 0 (-1) w (by decide) (by decide)
  rw [show Blk.at_ [97] 0 (-1) = [] by decide +kernel] at h
  exact h
theorem k_10 (w : World) : Calls Tryd.prog 24 #[ptV ⟨true, 0, 3, []⟩, .string ⟨[2, 3].toArray⟩] w (TrueR w) := by
  exact law_puts ⟨true, 0, 3, []⟩ [2, 3] w (by decide) (by decide +kernel)
theorem k_11 (w : World) : Calls Tryd.prog 14 #[.string ⟨[97, 98, 99, 100, 101, 102].toArray⟩, ptV ⟨true, 0, 3, []⟩] w (StrR [97, 98, 99] w) := by
  have h := block_Apply [97, 98, 99, 100, 101, 102] ⟨true, 0, 3, []⟩ w (by decide) (by decide)
  rw [show Blk.apply [97, 98, 99, 100, 101, 102] ⟨true, 0, 3, []⟩ = [97, 98, 99] by decide +kernel] at h
  exact h
theorem k_12 (w : World) : Calls Tryd.prog 14 #[.string ⟨[97, 0, 0, 100].toArray⟩, ptV ⟨true, 0, 3, []⟩] w (StrR [97] w) := by
  have h := block_Apply [97, 0, 0, 100] ⟨true, 0, 3, []⟩ w (by decide) (by decide)
  rw [show Blk.apply [97, 0, 0, 100] ⟨true, 0, 3, []⟩ = [97] by decide +kernel] at h
  exact h
theorem k_13 (w : World) : Calls Tryd.prog 14 #[.string ⟨[97, 98].toArray⟩, ptV ⟨false, 60, 0, [0, 0]⟩] w (StrR [97, 98] w) := by
  have h := block_Apply [97, 98] ⟨false, 60, 0, [0, 0]⟩ w (by decide) (by decide)
  rw [show Blk.apply [97, 98] ⟨false, 60, 0, [0, 0]⟩ = [97, 98] by decide +kernel] at h
  exact h
theorem k_14 (w : World) : Calls Tryd.prog 14 #[.string ⟨[].toArray⟩, ptV ⟨false, 1, 0, [98]⟩] w (StrR [0, 98] w) := by
  have h := block_Apply [] ⟨false, 1, 0, [98]⟩ w (by decide) (by decide)
  rw [show Blk.apply [] ⟨false, 1, 0, [98]⟩ = [0, 98] by decide +kernel] at h
  exact h
theorem k_15 (w : World) : Calls Tryd.prog 14 #[.string ⟨(List.replicate 70 120).toArray⟩, ptV ⟨false, 63, 0, [121]⟩] w (StrR (List.replicate 63 120 ++ [121]) w) := by
  have h := block_Apply (List.replicate 70 120) ⟨false, 63, 0, [121]⟩ w (by decide) (by decide)
  rw [show Blk.apply (List.replicate 70 120) ⟨false, 63, 0, [121]⟩ = (List.replicate 63 120 ++ [121]) by decide +kernel] at h
  exact h
theorem k_16 (w : World) : Calls Tryd.prog 25 #[ptV ⟨false, 63, 0, [120, 121]⟩] w (TrueR w) := by
  exact law_refused ⟨false, 63, 0, [120, 121]⟩ w (by decide) (by decide +kernel) (by decide +kernel)
theorem k_17 (w : World) : Calls Tryd.prog 25 #[ptV ⟨false, 0, 0, []⟩] w (TrueR w) := by
  exact law_refused ⟨false, 0, 0, []⟩ w (by decide) (by decide +kernel) (by decide +kernel)
theorem k_18 (w : World) : Calls Tryd.prog 25 #[ptV ⟨true, 0, 64, []⟩] w (TrueR w) := by
  exact law_refused ⟨true, 0, 64, []⟩ w (by decide) (by decide +kernel) (by decide +kernel)
theorem k_19 (w : World) : Calls Tryd.prog 25 #[ptV ⟨true, 0, (-1), []⟩] w (TrueR w) := by
  exact law_refused ⟨true, 0, (-1), []⟩ w (by decide) (by decide +kernel) (by decide +kernel)
theorem k_20 (w : World) : Calls Tryd.prog 25 #[ptV ⟨true, 0, 0, [97]⟩] w (TrueR w) := by
  exact law_refused ⟨true, 0, 0, [97]⟩ w (by decide) (by decide +kernel) (by decide +kernel)
theorem k_21 (w : World) : Calls Tryd.prog 25 #[ptV ⟨false, 0, 1, [97]⟩] w (TrueR w) := by
  exact law_refused ⟨false, 0, 1, [97]⟩ w (by decide) (by decide +kernel) (by decide +kernel)
theorem k_22 (w : World) : Calls Tryd.prog 25 #[ptV ⟨false, (-1), 0, [97]⟩] w (TrueR w) := by
  exact law_refused ⟨false, (-1), 0, [97]⟩ w (by decide) (by decide +kernel) (by decide +kernel)
theorem k_23 (w : World) : Calls Tryd.prog 25 #[ptV ⟨false, 0, 0, (List.replicate 65 120)⟩] w (TrueR w) := by
  exact law_refused ⟨false, 0, 0, (List.replicate 65 120)⟩ w (by decide) (by decide +kernel) (by decide +kernel)
theorem k_24 (w : World) : Calls Tryd.prog 16 #[.string ⟨[3].toArray⟩, .int .i64 4] w (TrueR w) := by
  exact law_fails [3] 4 w (by decide) (by rfl)
theorem k_25 (w : World) : Calls Tryd.prog 16 #[.string ⟨[2].toArray⟩, .int .i64 10] w (TrueR w) := by
  exact law_fails [2] 10 w (by decide) (by rfl)
theorem k_26 (w : World) : Calls Tryd.prog 16 #[.string ⟨[2, 64].toArray⟩, .int .i64 4] w (TrueR w) := by
  exact law_fails [2, 64] 4 w (by decide) (by rfl)
theorem k_27 (w : World) : Calls Tryd.prog 16 #[.string ⟨[2, 3, 0].toArray⟩, .int .i64 4] w (TrueR w) := by
  exact law_fails [2, 3, 0] 4 w (by decide) (by rfl)
theorem k_28 (w : World) : Calls Tryd.prog 16 #[.string ⟨[1, 2, 0].toArray⟩, .int .i64 10] w (TrueR w) := by
  exact law_fails [1, 2, 0] 10 w (by decide) (by rfl)
theorem k_29 (w : World) : Calls Tryd.prog 16 #[.string ⟨[1, 63, 0, 2, 120, 121].toArray⟩, .int .i64 4] w (TrueR w) := by
  exact law_fails [1, 63, 0, 2, 120, 121] 4 w (by decide) (by rfl)
theorem k_30 (w : World) : Calls Tryd.prog 16 #[.string ⟨[1, 0, 0, 0].toArray⟩, .int .i64 4] w (TrueR w) := by
  exact law_fails [1, 0, 0, 0] 4 w (by decide) (by rfl)

set_option maxHeartbeats 3200000 in
set_option maxRecDepth 100000 in
theorem walk_BlockKnown (w : World) : Calls Tryd.prog 8 #[] w (TrueR w) := by
  have hrep63 := fun w => k_rep 63 w (by decide)
  have happ := k_15
  obtain ⟨R, hR⟩ : ∃ R, R = List.replicate 63 (120 : UInt8) := ⟨_, rfl⟩
  rw [← hR] at hrep63 happ
  have hRl : R.length = 63 := by rw [hR]; rfl
  have hcat : (⟨R.toArray⟩ : ByteArray) ++ ⟨#[121]⟩ = ⟨(R ++ [121]).toArray⟩ := append_list _ [121]
  have HREP := Lib.hid hrep63
  have HAPP := Lib.hid happ
  clear hrep63 happ hR
  have hl64 : (List.replicate 64 (0 : UInt8)).length = 64 := by simp
  go_enter Tryd.func8, Tryd.ntmps8
  go_wp2_with (fail)
  refine (law_works _).mono ?_
  rintro e w0 ⟨rfl, u0⟩
  have hb0 := u0.heap (heap_alloc_new w _) (fun f => f)
  go_wp2_with (fail)
  refine (k_0 _).mono ?_
  rintro e w1 ⟨rfl, u1⟩
  have hb1 := u1.heap hb0 (fun f => f)
  clear hb0
  go_wp2_with (fail)
  refine (k_1 _).mono ?_
  rintro e w2 ⟨rfl, u2⟩
  have hb2 := u2.heap hb1 (fun f => f)
  clear hb1
  go_wp2_with (fail)
  refine (k_2 _).mono ?_
  rintro e w3 ⟨rfl, u3⟩
  have hb3 := u3.heap hb2 (fun f => f)
  clear hb2
  go_wp2_with (fail)
  refine (k_rep 65 _ (by decide)).mono ?_
  rintro e w4 ⟨rfl, u4⟩
  have hb4 := u4.heap hb3 (fun f => f)
  clear hb3
  go_wp2_with (fail)
  refine (k_3 _).mono ?_
  rintro e w5 ⟨rfl, u5⟩
  have hb5 := u5.heap hb4 (fun f => f)
  clear hb4
  go_wp2_with (fail)
  refine (k_rep 64 _ (by decide)).mono ?_
  rintro e w6 ⟨rfl, u6⟩
  have hb6 := u6.heap hb5 (fun f => f)
  clear hb5
  go_wp2_with (fail)
  refine (k_4 _).mono ?_
  rintro e w7 ⟨rfl, u7⟩
  have hb7 := u7.heap hb6 (fun f => f)
  clear hb6
  go_wp2_with (fail)
  refine (k_5 _).mono ?_
  rintro e w8 ⟨rfl, u8⟩
  have hb8 := u8.heap hb7 (fun f => f)
  clear hb7
  go_wp2_with (fail)
  refine (k_6 _).mono ?_
  rintro e w9 ⟨rfl, u9⟩
  have hb9 := u9.heap hb8 (fun f => f)
  clear hb8
  go_wp2_with (fail)
  refine (k_7 _).mono ?_
  rintro e w10 ⟨rfl, u10⟩
  have hb10 := u10.heap hb9 (fun f => f)
  clear hb9
  go_wp2_with (fail)
  refine (k_8 _).mono ?_
  rintro e w11 ⟨rfl, u11⟩
  have hb11 := u11.heap hb10 (fun f => f)
  clear hb10
  go_wp2_with (fail)
  refine (k_9 _).mono ?_
  rintro e w12 ⟨rfl, u12⟩
  have hb12 := u12.heap hb11 (fun f => f)
  clear hb11
  have hlb12 := lt_of_heap hb12
  have c0 := cell_heap hb12 0 (.bool true) rfl
  have c1 := cell_heap hb12 1 (.int .i64 0) rfl
  have c2 := cell_heap hb12 2 (.int .i64 3) rfl
  have c3 := cell_heap hb12 3 (.string ⟨#[]⟩) rfl
  go_wp2_with (fail)
  refine (k_10 _).mono ?_
  rintro e w13 ⟨rfl, u13⟩
  have hb13 := u13.heap hb12 (fun f => f)
  clear hb12
  clear c0 c1 c2 c3
  have hlb13 := lt_of_heap hb13
  have c0 := cell_heap hb13 0 (.bool true) rfl
  have c1 := cell_heap hb13 1 (.int .i64 0) rfl
  have c2 := cell_heap hb13 2 (.int .i64 3) rfl
  have c3 := cell_heap hb13 3 (.string ⟨#[]⟩) rfl
  go_wp2_with (fail)
  refine (k_11 _).mono ?_
  rintro e w14 ⟨rfl, u14⟩
  have hb14 := u14.heap hb13 (fun f => f)
  clear hb13
  clear c0 c1 c2 c3
  have hlb14 := lt_of_heap hb14
  have c0 := cell_heap hb14 0 (.bool true) rfl
  have c1 := cell_heap hb14 1 (.int .i64 0) rfl
  have c2 := cell_heap hb14 2 (.int .i64 3) rfl
  have c3 := cell_heap hb14 3 (.string ⟨#[]⟩) rfl
  go_wp2_with (fail)
  refine (k_12 _).mono ?_
  rintro e w15 ⟨rfl, u15⟩
  have hb15 := u15.heap hb14 (fun f => f)
  clear hb14
  clear c0 c1 c2 c3
  go_wp2_with (fail)
  refine (k_13 _).mono ?_
  rintro e w16 ⟨rfl, u16⟩
  clear hb15
  go_wp2_with (fail)
  refine (k_14 _).mono ?_
  rintro e w17 ⟨rfl, u17⟩
  go_wp2_with (fail)
  refine (k_rep 70 _ (by decide)).mono ?_
  rintro e w18 ⟨rfl, u18⟩
  go_wp2_with (fail)
  refine (HAPP.out _).mono ?_
  rintro e w19 ⟨rfl, u19⟩
  go_wp2_with (fail)
  refine (HREP.out _).mono ?_
  rintro e w20 ⟨rfl, u20⟩
  go_wp2_with (fail)
  refine (k_16 _).mono ?_
  rintro e w21 ⟨rfl, u21⟩
  go_wp2_with (fail)
  refine (k_17 _).mono ?_
  rintro e w22 ⟨rfl, u22⟩
  go_wp2_with (fail)
  refine (k_18 _).mono ?_
  rintro e w23 ⟨rfl, u23⟩
  go_wp2_with (fail)
  refine (k_19 _).mono ?_
  rintro e w24 ⟨rfl, u24⟩
  go_wp2_with (fail)
  refine (k_20 _).mono ?_
  rintro e w25 ⟨rfl, u25⟩
  go_wp2_with (fail)
  refine (k_21 _).mono ?_
  rintro e w26 ⟨rfl, u26⟩
  go_wp2_with (fail)
  refine (k_22 _).mono ?_
  rintro e w27 ⟨rfl, u27⟩
  go_wp2_with (fail)
  refine (k_rep 65 _ (by decide)).mono ?_
  rintro e w28 ⟨rfl, u28⟩
  go_wp2_with (fail)
  refine (k_23 _).mono ?_
  rintro e w29 ⟨rfl, u29⟩
  go_wp2_with (fail)
  refine (k_24 _).mono ?_
  rintro e w30 ⟨rfl, u30⟩
  go_wp2_with (fail)
  refine (k_25 _).mono ?_
  rintro e w31 ⟨rfl, u31⟩
  go_wp2_with (fail)
  refine (k_26 _).mono ?_
  rintro e w32 ⟨rfl, u32⟩
  go_wp2_with (fail)
  refine (k_27 _).mono ?_
  rintro e w33 ⟨rfl, u33⟩
  go_wp2_with (fail)
  refine (k_28 _).mono ?_
  rintro e w34 ⟨rfl, u34⟩
  go_wp2_with (fail)
  refine (k_29 _).mono ?_
  rintro e w35 ⟨rfl, u35⟩
  go_wp2_with (fail)
  refine (k_30 _).mono ?_
  rintro e w36 ⟨rfl, u36⟩
  go_wp2_with (fail)
  refine (law_works _).mono ?_
  rintro e w37 ⟨rfl, u37⟩
  go_wp2
  go_ret
  exact ⟨rfl, by repeat (first | exact Upd.refl _ _ | refine Upd.alloc ?_ _ | refine Upd.drew ?_ | refine Upd.trans ?_ (by assumption) (fun _ _ f => f))⟩
end Go.Proofs.YtiabomfkmfokeaaDoor
