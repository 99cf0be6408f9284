/- The law SuperBack of rillbedlaw14, proved for every input: it returns true, and each argument reads behind the call as it read before. The package-level variables that its row lists are tied to the program's text (the card). -/
import Derived.Test.YtlgkoalkcfdceaaDoorRows
import Derived.Test.YtlgkoalkcfdceaaDoorTie
import Derived.Test.YtlgkoalkcfdceaaDoorCards
import Derived.Test.YtlgkoalkcfdceaaDoorSupL1
import Derived.WalkKit
import Derived.ProofKit
import Derived.OpenShut
import Derived.ShutString
import Derived.ChangeOld
import Derived.Below
import Derived.SizedLaws
import Derived.OpenVars
import Derived.Lib.SmallJoins
import Derived.LaidMore
import Derived.Stop.Joined
import Derived.SevenTiedAt
import Derived.HandedShaped
set_option linter.unusedVariables false
set_option linter.unusedSimpArgs false
namespace Go.Proofs.YtlgkoalkcfdceaaDoor.superBack
open Go.ChangeShapes Go.WideShapes Go.ChangeAt Go.RowKit Go.Joins
open Go.ChangeMaps (open_string shut_string)
theorem len_5 {α : Type} {l : List α} (h : l.length = 5) : ∃ x0 x1 x2 x3 x4, l = [x0, x1, x2, x3, x4] := by match l, h with | [x0, x1, x2, x3, x4], _ => exact ⟨_, _, _, _, _, rfl⟩
theorem own : ownKnob Tryd.prog.godebug = none := by kernel_rfl
theorem laidOut : laidOutB Tryd.prog = true := by kernel_rfl
theorem list_of (s : ByteArray) : s = ⟨s.data.toList.toArray⟩ := by simp
noncomputable def laid0 (os : Os) : World := World.doorLaid Tryd.prog 400 os
noncomputable def laid1 (os : Os) : World := { laid0 os with heap := (laid0 os).heap.modify 1 fun
    | .cells _ t frozen => .cells (Go.Pinned.utf8FirstZ.map fun (n : Nat) => Value.int .u8 (n : Int)).toArray t frozen
    | o => o }
theorem door_met (os : Os) (args : Array Value) : laidMetH Tryd.prog Rows.superBackRow.laid ((laid1 os).forCall (fun _ _ => 0) ⟨#[], args, []⟩).memory :=
  laidMetH_of_parts3 (fuel := 8) (laidMet_of_run' 8 (by kernel_rfl) (by kernel_rfl)) (by kernel_rfl) (by kernel_rfl)
set_option maxRecDepth 100000 in
theorem lifted (os : Os) (started : os.Started) (H : Type) (enc : TypeId × Value → H) :
    ReturnsInHanded {} Tryd.checked os 4 .any (fun w args => (Rows.superBackSpec.pre enc Tryd.prog Tryd.f4 [] false w args ∧ laidMetH Tryd.prog Rows.superBackRow.laid w) ∧ sizedMet enc Tryd.prog Tryd.f4 (OpenSpec.ofChange Rows.superBackSpec) false w args)
      (Rows.superBackSpec.post enc Tryd.prog Tryd.f4 false true false false) := by
  refine returnsInHanded_of_change_and (C := Tryd.checked) (X := fun w _ => laidMetH Tryd.prog Rows.superBackRow.laid w) (fun _ _ _ hh h => h.of_heap hh) own started (by kernel_rfl) Tryd.func4
    (ChangeSpec.witness_shaped (enc := enc) (C := Tryd.checked) (os := os) (X := fun w _ => laidMetH Tryd.prog Rows.superBackRow.laid w) false (laid1 os) #[.agg #[.int .u64 0, .int .u64 0, .int .i64 0, .int .i64 0, .int .i64 0], .string ByteArray.empty] 8 rfl (World.shaped_of_RefB (by kernel_rfl) (by kernel_rfl)) (by kernel_rfl) (by kernel_rfl) (by kernel_rfl) (door_met os _)) ?_
  intro W base args ds gs before hval0 hW _ _ hL _
  have hval : ∀ (j : Nat) t v, Tryd.f4.params[j]? = some t → args[j]? = some v → Value.okWide Tryd.prog W .any base t v := hval0
  have hW' := hW
  obtain ⟨p, q, hA0, hV, rfl, hfz, hnd⟩ := hW
  have hA : DataW.TrodAll enc Tryd.prog W 0 (fun _ => true) true Tryd.f4.params.toList args.toList ds p := hA0
  rw [Tryd.params4] at hA hval
  obtain ⟨v0, vs0, d0, ds0, p0, q0, hargs, rfl, rfl, h0, r0⟩ := trodAll_cons hA
  obtain ⟨v1, vs1, d1, ds1, p1, q1, rfl, rfl, rfl, h1, r1⟩ := trodAll_cons r0
  obtain ⟨rfl, rfl, rfl⟩ := trodAll_nil r1
  obtain rfl : args = #[v0, v1] := by cases args; simp_all
  obtain ⟨rfl, rfl⟩ := trodVars_none hV
  have k0 := h0
  have lt0 : ∀ x ∈ p0, x.block < W.heap.size := by obtain ⟨m, hm⟩ := k0; exact DataW.trod_lt m _ _ _ hm
  obtain ⟨cs0, rfl, hz0⟩ := okWide_struct Tryd.underlying24 (hval 0 24 v0 rfl rfl)
  obtain ⟨l0⟩ := cs0
  have hz0' : l0.length = 5 := by have hh := hz0; rw [show Tryd.prog.cellsOf 24 = 5 by kernel_rfl] at hh; exact hh
  obtain ⟨c0_0, c0_1, c0_2, c0_3, c0_4, rfl⟩ := len_5 hz0'
  obtain ⟨fu0, hf0⟩ := h0
  obtain ⟨xs0_1, n0_1, hn0_1, hx0_1, _, hl0_1, hq0_1⟩ := DataW.trod_struct Tryd.underlying24 hf0
  obtain ⟨y0_1_0, y0_1_1, y0_1_2, y0_1_3, y0_1_4, rfl⟩ := len_5 hl0_1
  have hy0_1_0 := hq0_1 0 _ rfl
  rw [show Tryd.prog.cellsOf _ = 1 by kernel_rfl] at hy0_1_0
  change DataW.trod enc Tryd.prog W 0 _ _ _ 22 [c0_0] = some y0_1_0 at hy0_1_0
  obtain ⟨a0_0, ea0_0, _, wa0_0⟩ := DataW.trod_int Tryd.underlying22 hy0_1_0
  simp only [List.cons.injEq, and_true] at ea0_0
  subst ea0_0
  have ba0_0 := bounds_u64 wa0_0
  obtain ⟨a0_0, rfl⟩ := Int.eq_ofNat_of_zero_le ba0_0.1
  have hy0_1_1 := hq0_1 1 _ rfl
  rw [show Tryd.prog.cellsOf _ = 1 by kernel_rfl] at hy0_1_1
  change DataW.trod enc Tryd.prog W 0 _ _ _ 22 [c0_1] = some y0_1_1 at hy0_1_1
  obtain ⟨a0_1, ea0_1, _, wa0_1⟩ := DataW.trod_int Tryd.underlying22 hy0_1_1
  simp only [List.cons.injEq, and_true] at ea0_1
  subst ea0_1
  have ba0_1 := bounds_u64 wa0_1
  obtain ⟨a0_1, rfl⟩ := Int.eq_ofNat_of_zero_le ba0_1.1
  have hy0_1_2 := hq0_1 2 _ rfl
  rw [show Tryd.prog.cellsOf _ = 1 by kernel_rfl] at hy0_1_2
  change DataW.trod enc Tryd.prog W 0 _ _ _ 3 [c0_2] = some y0_1_2 at hy0_1_2
  obtain ⟨a0_2, ea0_2, _, wa0_2⟩ := DataW.trod_int Tryd.underlying3 hy0_1_2
  simp only [List.cons.injEq, and_true] at ea0_2
  subst ea0_2
  have ba0_2 := bounds_i64 wa0_2
  have hy0_1_3 := hq0_1 3 _ rfl
  rw [show Tryd.prog.cellsOf _ = 1 by kernel_rfl] at hy0_1_3
  change DataW.trod enc Tryd.prog W 0 _ _ _ 3 [c0_3] = some y0_1_3 at hy0_1_3
  obtain ⟨a0_3, ea0_3, _, wa0_3⟩ := DataW.trod_int Tryd.underlying3 hy0_1_3
  simp only [List.cons.injEq, and_true] at ea0_3
  subst ea0_3
  have ba0_3 := bounds_i64 wa0_3
  have hy0_1_4 := hq0_1 4 _ rfl
  rw [show Tryd.prog.cellsOf _ = 1 by kernel_rfl] at hy0_1_4
  change DataW.trod enc Tryd.prog W 0 _ _ _ 3 [c0_4] = some y0_1_4 at hy0_1_4
  obtain ⟨a0_4, ea0_4, _, wa0_4⟩ := DataW.trod_int Tryd.underlying3 hy0_1_4
  simp only [List.cons.injEq, and_true] at ea0_4
  subst ea0_4
  have ba0_4 := bounds_i64 wa0_4
  obtain ⟨a1, rfl, rfl, rfl, y1⟩ := open_string Tryd.underlying9 (hval 1 9 v1 rfl rfl) h1
  clear hA0 hval0
  have hwalk := walk_SuperBack a0_0 a0_1 a0_2 a0_3 a0_4 a1.data.toList W (by have := ba0_0.2; omega) (by have := ba0_1.2; omega) ba0_2.1 ba0_2.2 ba0_3.1 ba0_3.2 ba0_4.1 ba0_4.2 (by rw [Array.length_toList]; exact y1)
  simp only [Array.toArray_toList] at hwalk
  refine hwalk.mono fun e W' ⟨he, hup⟩ => ?_
  subst he
  have bel : Below W.heap.size W W' := hup.below (Nat.le_refl _) (fun _ f => f.elim)
  exact ⟨_, rfl, _, _, _, [], _, [], hW', trodAll_mk1 (shut_bool Tryd.underlying4 _), (trodAll_cons_mk (Below.trod laidOut (by kernel_rfl) (of_decide_eq_true (by kernel_rfl)) k0 bel lt0) (trodAll_cons_mk (shut_string Tryd.underlying9 y1) trodAll_mk0)), rfl, bel.frame _, fun h => by cases h⟩
theorem proved : Rows.SuperBackSaid :=
  OpenClaim.holds_of_wide 4 Tryd.f4 rfl rfl rfl rfl rfl rfl rfl ⟨rfl, rfl, rfl, rfl, rfl⟩ rfl rfl rfl rfl rfl (by kernel_rfl) Tryd.func4 (by kernel_rfl)
    (of_decide_eq_true (by kernel_rfl)) (by unfold Func.isWrapper; first | (rw [if_pos (by decide +kernel)]; kernel_rfl) | (rw [if_neg (by decide +kernel)]; exact ⟨rfl, rfl⟩))
    (fun os started H enc _ => lifted os started H enc)
theorem card : Rows.SuperBackCardSaid :=
  Claim7.holds_tied_plain_at .later [] [.data, .pinned] true (true, "bdcf57eb7799b5d5a0baa4c683d0f87a953c9fab4b318d5a43612af4df3b9ced") false
    proved (fun _ h => by cases h) (by kernel_rfl) (fun _ h => by cases h) superBack_row_tie rfl ⟨rfl, rfl⟩ (by kernel_rfl) rfl
    (fun f fn hf hfn => by
      obtain rfl : f = 4 := Option.some.inj ((show Tryd.prog.funcNamed "rillbed/rillbedlaw14.SuperBack" = some 4 by kernel_rfl).symm.trans hf) |>.symm
      obtain rfl : fn = Tryd.f4 := (Option.some.inj (Tryd.func4.symm.trans hfn)).symm
      exact ⟨by kernel_rfl, fun j t ht => by
        rw [Tryd.params4] at ht
        have hm : t ∈ [24, 9] := by simpa using Array.mem_of_getElem? ht
        have hall : ([24, 9].all fun u => !Tryd.prog.wantsStandIn u) = true := by kernel_rfl
        exact (show Tryd.prog.wantsStandIn t = false by simpa using List.all_eq_true.1 hall t hm)⟩)
    (by kernel_rfl)
end Go.Proofs.YtlgkoalkcfdceaaDoor.superBack
namespace Go.Proofs.YtlgkoalkcfdceaaDoor
/-- The statement, under a short name, for the claim. -/
theorem superBack_holds : Rows.SuperBackCardSaid := superBack.card
#print axioms superBack_holds
end Go.Proofs.YtlgkoalkcfdceaaDoor
