/- The law BlockSplices of rillbedlaw08, proved for every input: it returns true, and each argument reads behind the call as it read before. The package-level variables that its row lists are tied to the program's text (the card). -/
import Derived.Test.YtiabomfkmfokeaaDoorRows
import Derived.Test.YtiabomfkmfokeaaDoorTie
import Derived.Test.YtiabomfkmfokeaaDoorCards
import Derived.Test.YtiabomfkmfokeaaDoorBlkL2
import Derived.WalkKit
import Derived.ProofKit
import Derived.OpenShut
import Derived.ShutString
import Derived.ChangeOld
import Derived.Below
import Derived.SizedLaws
import Derived.OpenVars
import Derived.Lib.SmallJoins
import Derived.LaidMore
import Derived.Stop.Joined
import Derived.SevenTiedAt
import Derived.HandedShaped
set_option linter.unusedVariables false
set_option linter.unusedSimpArgs false
namespace Go.Proofs.YtiabomfkmfokeaaDoor.blockSplices
open Go.ChangeShapes Go.WideShapes Go.ChangeAt Go.RowKit Go.Joins
open Go.ChangeMaps (open_string shut_string)
theorem own : ownKnob Tryd.prog.godebug = none := by kernel_rfl
theorem laidOut : laidOutB Tryd.prog = true := by kernel_rfl
theorem list_of (s : ByteArray) : s = ⟨s.data.toList.toArray⟩ := by simp
noncomputable def laid0 (os : Os) : World := World.doorLaid Tryd.prog 400 os
noncomputable def laid1 (os : Os) : World := { laid0 os with heap := (laid0 os).heap.modify 1 fun
    | .cells _ t frozen => .cells (Go.Pinned.utf8FirstZ.map fun (n : Nat) => Value.int .u8 (n : Int)).toArray t frozen
    | o => o }
theorem door_met (os : Os) (args : Array Value) : laidMetH Tryd.prog Rows.blockSplicesRow.laid ((laid1 os).forCall (fun _ _ => 0) ⟨#[], args, []⟩).memory :=
  laidMetH_of_parts3 (fuel := 8) (laidMet_of_run' 8 (by kernel_rfl) (by kernel_rfl)) (by kernel_rfl) (by kernel_rfl)
set_option maxRecDepth 100000 in
theorem lifted (os : Os) (started : os.Started) (H : Type) (enc : TypeId × Value → H) :
    ReturnsInHanded {} Tryd.checked os 7 .any (fun w args => (Rows.blockSplicesSpec.pre enc Tryd.prog Tryd.f7 [] false w args ∧ laidMetH Tryd.prog Rows.blockSplicesRow.laid w) ∧ sizedMet enc Tryd.prog Tryd.f7 (OpenSpec.ofChange Rows.blockSplicesSpec) false w args)
      (Rows.blockSplicesSpec.post enc Tryd.prog Tryd.f7 false true false false) := by
  refine returnsInHanded_of_change_and (C := Tryd.checked) (X := fun w _ => laidMetH Tryd.prog Rows.blockSplicesRow.laid w) (fun _ _ _ hh h => h.of_heap hh) own started (by kernel_rfl) Tryd.func7
    (ChangeSpec.witness_shaped (enc := enc) (C := Tryd.checked) (os := os) (X := fun w _ => laidMetH Tryd.prog Rows.blockSplicesRow.laid w) false (laid1 os) #[.string ByteArray.empty, .agg #[.bool false, .int .i64 0, .int .i64 0, .string ByteArray.empty]] 8 rfl (World.shaped_of_RefB (by kernel_rfl) (by kernel_rfl)) (by kernel_rfl) (by kernel_rfl) (by kernel_rfl) (door_met os _)) ?_
  intro W base args ds gs before hval0 hW _ _ hL _
  have hval : ∀ (j : Nat) t v, Tryd.f7.params[j]? = some t → args[j]? = some v → Value.okWide Tryd.prog W .any base t v := hval0
  have hW' := hW
  obtain ⟨p, q, hA0, hV, rfl, hfz, hnd⟩ := hW
  have hA : DataW.TrodAll enc Tryd.prog W 0 (fun _ => true) true Tryd.f7.params.toList args.toList ds p := hA0
  rw [Tryd.params7] at hA hval
  obtain ⟨v0, vs0, d0, ds0, p0, q0, hargs, rfl, rfl, h0, r0⟩ := trodAll_cons hA
  obtain ⟨v1, vs1, d1, ds1, p1, q1, rfl, rfl, rfl, h1, r1⟩ := trodAll_cons r0
  obtain ⟨rfl, rfl, rfl⟩ := trodAll_nil r1
  obtain rfl : args = #[v0, v1] := by cases args; simp_all
  obtain ⟨rfl, rfl⟩ := trodVars_none hV
  obtain ⟨a0, rfl, rfl, rfl, y0⟩ := open_string Tryd.underlying9 (hval 0 9 v0 rfl rfl) h0
  have k1 := h1
  have lt1 : ∀ x ∈ p1, x.block < W.heap.size := by obtain ⟨m, hm⟩ := k1; exact DataW.trod_lt m _ _ _ hm
  obtain ⟨c1_0, c1_1, c1_2, c1_3, y1_0, y1_1, y1_2, y1_3, m1, rfl, rfl, rfl, hy1_0, hy1_1, hy1_2, hy1_3⟩ := open_agg4 Tryd.underlying23 (by kernel_rfl) (show Tryd.prog.cellsOf 23 = 4 by kernel_rfl) (hval 1 23 v1 rfl rfl) h1
  obtain ⟨a1_0, ea1_0, ga1_0⟩ := DataW.trod_bool Tryd.underlying4 hy1_0
  simp only [List.cons.injEq, and_true] at ea1_0
  subst ea1_0
  obtain ⟨a1_1, ea1_1, ga1_1, wa1_1⟩ := DataW.trod_int Tryd.underlying3 hy1_1
  simp only [List.cons.injEq, and_true] at ea1_1
  subst ea1_1
  obtain ⟨a1_2, ea1_2, ga1_2, wa1_2⟩ := DataW.trod_int Tryd.underlying3 hy1_2
  simp only [List.cons.injEq, and_true] at ea1_2
  subst ea1_2
  obtain ⟨a1_3, ea1_3, ga1_3, na1_3⟩ := DataW.trod_string Tryd.underlying9 hy1_3
  simp only [List.cons.injEq, and_true] at ea1_3
  subst ea1_3
  clear hA0 hval0
  have hwalk := walk_BlockSplices a0.data.toList ⟨a1_0, a1_1, a1_2, a1_3.data.toList⟩ W (by rw [Array.length_toList]; exact y0) (by rw [Array.length_toList]; exact na1_3)
  simp only [ptV, Array.toArray_toList] at hwalk
  refine hwalk.mono fun e W' ⟨he, hup⟩ => ?_
  subst he
  have bel : Below W.heap.size W W' := hup.below (Nat.le_refl _) (fun _ f => f.elim)
  exact ⟨_, rfl, _, _, _, [], _, [], hW', trodAll_mk1 (shut_bool Tryd.underlying4 _), (trodAll_cons_mk (shut_string Tryd.underlying9 y0) (trodAll_cons_mk (Below.trod laidOut (by kernel_rfl) (of_decide_eq_true (by kernel_rfl)) k1 bel lt1) trodAll_mk0)), rfl, bel.frame _, fun h => by cases h⟩
theorem proved : Rows.BlockSplicesSaid :=
  OpenClaim.holds_of_wide 7 Tryd.f7 rfl rfl rfl rfl rfl rfl rfl ⟨rfl, rfl, rfl, rfl, rfl⟩ rfl rfl rfl rfl rfl (by kernel_rfl) Tryd.func7 (by kernel_rfl)
    (of_decide_eq_true (by kernel_rfl)) (by unfold Func.isWrapper; first | (rw [if_pos (by decide +kernel)]; kernel_rfl) | (rw [if_neg (by decide +kernel)]; exact ⟨rfl, rfl⟩))
    (fun os started H enc _ => lifted os started H enc)
theorem card : Rows.BlockSplicesCardSaid :=
  Claim7.holds_tied_plain_at .later [] [.data, .pinned] true (true, "0001d3029f34806e5372cc63c9704f313d9fe0fa2b07a00130d925fca02e2735") false
    proved (fun _ h => by cases h) (by kernel_rfl) (fun _ h => by cases h) blockSplices_row_tie rfl ⟨rfl, rfl⟩ (by kernel_rfl) rfl
    (fun f fn hf hfn => by
      obtain rfl : f = 7 := Option.some.inj ((show Tryd.prog.funcNamed "rillbed/rillbedlaw08.BlockSplices" = some 7 by kernel_rfl).symm.trans hf) |>.symm
      obtain rfl : fn = Tryd.f7 := (Option.some.inj (Tryd.func7.symm.trans hfn)).symm
      exact ⟨by kernel_rfl, fun j t ht => by
        rw [Tryd.params7] at ht
        have hm : t ∈ [9, 23] := by simpa using Array.mem_of_getElem? ht
        have hall : ([9, 23].all fun u => !Tryd.prog.wantsStandIn u) = true := by kernel_rfl
        exact (show Tryd.prog.wantsStandIn t = false by simpa using List.all_eq_true.1 hall t hm)⟩)
    (by kernel_rfl)
end Go.Proofs.YtiabomfkmfokeaaDoor.blockSplices
namespace Go.Proofs.YtiabomfkmfokeaaDoor
/-- The statement, under a short name, for the claim. -/
theorem blockSplices_holds : Rows.BlockSplicesCardSaid := blockSplices.card
#print axioms blockSplices_holds
end Go.Proofs.YtiabomfkmfokeaaDoor
