/- The law SealBack of rillbedlaw04, proved for every input: it returns true, and each argument reads behind the call as it read before. The package-level variables that its row lists are tied to the program's text (the card). -/
import Derived.Test.YtfkmoooeaijndaaDoorRows
import Derived.Test.YtfkmoooeaijndaaDoorTie
import Derived.Test.YtfkmoooeaijndaaDoorCards
import Derived.Test.YtfkmoooeaijndaaDoorSealL6
import Derived.Test.YtfkmoooeaijndaaDoorSealLaid
import Derived.WalkKit
import Derived.ProofKit
import Derived.OpenShut
import Derived.ShutString
import Derived.ChangeOld
import Derived.Below
import Derived.SizedLaws
import Derived.OpenVars
import Derived.Lib.SmallJoins
import Derived.LaidMore
import Derived.Stop.Joined
import Derived.SevenTiedAt
import Derived.HandedShaped
set_option linter.unusedVariables false
set_option linter.unusedSimpArgs false
namespace Go.Proofs.YtfkmoooeaijndaaDoor.sealBack
open Go.ChangeShapes Go.WideShapes Go.ChangeAt Go.RowKit Go.Joins
open Go.ChangeMaps (open_string shut_string)
theorem own : ownKnob Tryd.prog.godebug = none := by kernel_rfl
theorem laidOut : laidOutB Tryd.prog = true := by kernel_rfl
theorem list_of (s : ByteArray) : s = ⟨s.data.toList.toArray⟩ := by simp
noncomputable def laid0 (os : Os) : World := World.doorLaid Tryd.prog 400 os
noncomputable def laid1 (os : Os) : World := { laid0 os with heap := (laid0 os).heap.modify 2 fun
    | .cells _ t frozen => .cells (Go.Pinned.utf8FirstZ.map fun (n : Nat) => Value.int .u8 (n : Int)).toArray t frozen
    | o => o }
theorem door_met (os : Os) (args : Array Value) : laidMetH Tryd.prog Rows.sealBackRow.laid ((laid1 os).forCall (fun _ _ => 0) ⟨#[], args, []⟩).memory :=
  laidMetH_of_parts3 (fuel := 8) (laidMet_of_run' 8 (by kernel_rfl) (by kernel_rfl)) (by kernel_rfl) (by kernel_rfl)
set_option maxRecDepth 100000 in
theorem lifted (os : Os) (started : os.Started) (H : Type) (enc : TypeId × Value → H) :
    ReturnsInHanded {} Tryd.checked os 6 .any (fun w args => (Rows.sealBackSpec.pre enc Tryd.prog Tryd.f6 [] false w args ∧ laidMetH Tryd.prog Rows.sealBackRow.laid w) ∧ sizedMet enc Tryd.prog Tryd.f6 (OpenSpec.ofChange Rows.sealBackSpec) false w args)
      (Rows.sealBackSpec.post enc Tryd.prog Tryd.f6 false true false false) := by
  refine returnsInHanded_of_change_and (C := Tryd.checked) (X := fun w _ => laidMetH Tryd.prog Rows.sealBackRow.laid w) (fun _ _ _ hh h => h.of_heap hh) own started (by kernel_rfl) Tryd.func6
    (ChangeSpec.witness_shaped (enc := enc) (C := Tryd.checked) (os := os) (X := fun w _ => laidMetH Tryd.prog Rows.sealBackRow.laid w) false (laid1 os) #[.string ByteArray.empty, .string ByteArray.empty, .agg #[.int .u16 0, .int .u16 0, .int .u32 0, .bool false]] 8 rfl (World.shaped_of_RefB (by kernel_rfl) (by kernel_rfl)) (by kernel_rfl) (by kernel_rfl) (by kernel_rfl) (door_met os _)) ?_
  intro W base args ds gs before hval0 hW _ _ hL _
  have hval : ∀ (j : Nat) t v, Tryd.f6.params[j]? = some t → args[j]? = some v → Value.okWide Tryd.prog W .any base t v := hval0
  have hW' := hW
  obtain ⟨p, q, hA0, hV, rfl, hfz, hnd⟩ := hW
  have hA : DataW.TrodAll enc Tryd.prog W 0 (fun _ => true) true Tryd.f6.params.toList args.toList ds p := hA0
  rw [Tryd.params6] at hA hval
  obtain ⟨v0, vs0, d0, ds0, p0, q0, hargs, rfl, rfl, h0, r0⟩ := trodAll_cons hA
  obtain ⟨v1, vs1, d1, ds1, p1, q1, rfl, rfl, rfl, h1, r1⟩ := trodAll_cons r0
  obtain ⟨v2, vs2, d2, ds2, p2, q2, rfl, rfl, rfl, h2, r2⟩ := trodAll_cons r1
  obtain ⟨rfl, rfl, rfl⟩ := trodAll_nil r2
  obtain rfl : args = #[v0, v1, v2] := by cases args; simp_all
  obtain ⟨rfl, rfl⟩ := trodVars_none hV
  obtain ⟨a0, rfl, rfl, rfl, y0⟩ := open_string Tryd.underlying9 (hval 0 9 v0 rfl rfl) h0
  obtain ⟨a1, rfl, rfl, rfl, y1⟩ := open_string Tryd.underlying9 (hval 1 9 v1 rfl rfl) h1
  have k2 := h2
  have lt2 : ∀ x ∈ p2, x.block < W.heap.size := by obtain ⟨m, hm⟩ := k2; exact DataW.trod_lt m _ _ _ hm
  obtain ⟨c2_0, c2_1, c2_2, c2_3, y2_0, y2_1, y2_2, y2_3, m2, rfl, rfl, rfl, hy2_0, hy2_1, hy2_2, hy2_3⟩ := open_agg4 Tryd.underlying50 (by kernel_rfl) (show Tryd.prog.cellsOf 50 = 4 by kernel_rfl) (hval 2 50 v2 rfl rfl) h2
  obtain ⟨a2_0, ea2_0, ga2_0, wa2_0⟩ := DataW.trod_int Tryd.underlying48 hy2_0
  simp only [List.cons.injEq, and_true] at ea2_0
  subst ea2_0
  have ba2_0 := bounds_u16 wa2_0
  obtain ⟨a2_0, rfl⟩ := Int.eq_ofNat_of_zero_le ba2_0.1
  obtain ⟨a2_1, ea2_1, ga2_1, wa2_1⟩ := DataW.trod_int Tryd.underlying48 hy2_1
  simp only [List.cons.injEq, and_true] at ea2_1
  subst ea2_1
  have ba2_1 := bounds_u16 wa2_1
  obtain ⟨a2_1, rfl⟩ := Int.eq_ofNat_of_zero_le ba2_1.1
  obtain ⟨a2_2, ea2_2, ga2_2, wa2_2⟩ := DataW.trod_int Tryd.underlying36 hy2_2
  simp only [List.cons.injEq, and_true] at ea2_2
  subst ea2_2
  have ba2_2 := bounds_u32 wa2_2
  obtain ⟨a2_2, rfl⟩ := Int.eq_ofNat_of_zero_le ba2_2.1
  obtain ⟨a2_3, ea2_3, ga2_3⟩ := DataW.trod_bool Tryd.underlying4 hy2_3
  simp only [List.cons.injEq, and_true] at ea2_3
  subst ea2_3
  obtain ⟨lh0, lh1⟩ := fours_of_laid (show laidMetH Tryd.prog Rows.sealTellsRow.laid W from hL)
  clear hA0 hval0
  have hwalk := walk_SealBack a0.data.toList a1.data.toList a2_0 a2_1 a2_2 a2_3 W (by rw [Array.length_toList]; exact y0) (by rw [Array.length_toList]; exact y1) (by have := ba2_0.2; omega) (by have := ba2_1.2; omega) (by have := ba2_2.2; omega) lh0 lh1
  simp only [Array.toArray_toList] at hwalk
  refine hwalk.mono fun e W' ⟨he, hup⟩ => ?_
  subst he
  have bel : Below W.heap.size W W' := hup.below (Nat.le_refl _) (fun _ f => f.elim)
  exact ⟨_, rfl, _, _, _, [], _, [], hW', trodAll_mk1 (shut_bool Tryd.underlying4 _), (trodAll_cons_mk (shut_string Tryd.underlying9 y0) (trodAll_cons_mk (shut_string Tryd.underlying9 y1) (trodAll_cons_mk (Below.trod laidOut (by kernel_rfl) (of_decide_eq_true (by kernel_rfl)) k2 bel lt2) trodAll_mk0))), rfl, bel.frame _, fun h => by cases h⟩
theorem proved : Rows.SealBackSaid :=
  OpenClaim.holds_of_wide 6 Tryd.f6 rfl rfl rfl rfl rfl rfl rfl ⟨rfl, rfl, rfl, rfl, rfl⟩ rfl rfl rfl rfl rfl (by kernel_rfl) Tryd.func6 (by kernel_rfl)
    (of_decide_eq_true (by kernel_rfl)) (by unfold Func.isWrapper; first | (rw [if_pos (by decide +kernel)]; kernel_rfl) | (rw [if_neg (by decide +kernel)]; exact ⟨rfl, rfl⟩))
    (fun os started H enc _ => lifted os started H enc)
theorem card : Rows.SealBackCardSaid :=
  Claim7.holds_tied_plain_at .later [] [.data, .data, .pinned] true (true, "ed0d8a7131c7f37074996449fb34d29bcdaba39829c05658beb1977c4b944d14") false
    proved (fun _ h => by cases h) (by kernel_rfl) (fun _ h => by cases h) sealBack_row_tie rfl ⟨rfl, rfl⟩ (by kernel_rfl) rfl
    (fun f fn hf hfn => by
      obtain rfl : f = 6 := Option.some.inj ((show Tryd.prog.funcNamed "rillbed/rillbedlaw04.SealBack" = some 6 by kernel_rfl).symm.trans hf) |>.symm
      obtain rfl : fn = Tryd.f6 := (Option.some.inj (Tryd.func6.symm.trans hfn)).symm
      exact ⟨by kernel_rfl, fun j t ht => by
        rw [Tryd.params6] at ht
        have hm : t ∈ [9, 9, 50] := by simpa using Array.mem_of_getElem? ht
        have hall : ([9, 9, 50].all fun u => !Tryd.prog.wantsStandIn u) = true := by kernel_rfl
        exact (show Tryd.prog.wantsStandIn t = false by simpa using List.all_eq_true.1 hall t hm)⟩)
    (by kernel_rfl)
end Go.Proofs.YtfkmoooeaijndaaDoor.sealBack
namespace Go.Proofs.YtfkmoooeaijndaaDoor
/-- The statement, under a short name, for the claim. -/
theorem sealBack_holds : Rows.SealBackCardSaid := sealBack.card
#print axioms sealBack_holds
end Go.Proofs.YtfkmoooeaijndaaDoor
