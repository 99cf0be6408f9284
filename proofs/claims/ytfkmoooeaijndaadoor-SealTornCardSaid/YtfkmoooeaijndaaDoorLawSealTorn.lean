/- The law SealTorn of rillbedlaw04, proved for every input: it returns true, and each argument reads behind the call as it read before. The package-level variables that its row lists are tied to the program's text (the card). -/
import Derived.Test.YtfkmoooeaijndaaDoorRows
import Derived.Test.YtfkmoooeaijndaaDoorTie
import Derived.Test.YtfkmoooeaijndaaDoorCards
import Derived.Test.YtfkmoooeaijndaaDoorSealL4
import Derived.Test.YtfkmoooeaijndaaDoorSealLaid
import Derived.WalkKit
import Derived.ProofKit
import Derived.OpenShut
import Derived.ShutString
import Derived.ChangeOld
import Derived.Below
import Derived.SizedLaws
import Derived.OpenVars
import Derived.Lib.SmallJoins
import Derived.LaidMore
import Derived.Stop.Joined
import Derived.SevenTiedAt
import Derived.HandedShaped
set_option linter.unusedVariables false
set_option linter.unusedSimpArgs false
namespace Go.Proofs.YtfkmoooeaijndaaDoor.sealTorn
open Go.ChangeShapes Go.WideShapes Go.ChangeAt Go.RowKit Go.Joins
open Go.ChangeMaps (open_string shut_string)
theorem len_2 {α : Type} {l : List α} (h : l.length = 2) : ∃ x0 x1, l = [x0, x1] := by match l, h with | [x0, x1], _ => exact ⟨_, _, rfl⟩
theorem len_3 {α : Type} {l : List α} (h : l.length = 3) : ∃ x0 x1 x2, l = [x0, x1, x2] := by match l, h with | [x0, x1, x2], _ => exact ⟨_, _, _, rfl⟩
theorem len_4 {α : Type} {l : List α} (h : l.length = 4) : ∃ x0 x1 x2 x3, l = [x0, x1, x2, x3] := by match l, h with | [x0, x1, x2, x3], _ => exact ⟨_, _, _, _, rfl⟩
theorem own : ownKnob Tryd.prog.godebug = none := by kernel_rfl
theorem laidOut : laidOutB Tryd.prog = true := by kernel_rfl
theorem list_of (s : ByteArray) : s = ⟨s.data.toList.toArray⟩ := by simp
noncomputable def laid0 (os : Os) : World := World.doorLaid Tryd.prog 400 os
noncomputable def laid1 (os : Os) : World := { laid0 os with heap := (laid0 os).heap.modify 2 fun
    | .cells _ t frozen => .cells (Go.Pinned.utf8FirstZ.map fun (n : Nat) => Value.int .u8 (n : Int)).toArray t frozen
    | o => o }
theorem door_met (os : Os) (args : Array Value) : laidMetH Tryd.prog Rows.sealTornRow.laid ((laid1 os).forCall (fun _ _ => 0) ⟨#[], args, []⟩).memory :=
  laidMetH_of_parts3 (fuel := 8) (laidMet_of_run' 8 (by kernel_rfl) (by kernel_rfl)) (by kernel_rfl) (by kernel_rfl)
set_option maxRecDepth 100000 in
theorem lifted (os : Os) (started : os.Started) (H : Type) (enc : TypeId × Value → H) :
    ReturnsInHanded {} Tryd.checked os 8 .any (fun w args => (Rows.sealTornSpec.pre enc Tryd.prog Tryd.f8 [] false w args ∧ laidMetH Tryd.prog Rows.sealTornRow.laid w) ∧ sizedMet enc Tryd.prog Tryd.f8 (OpenSpec.ofChange Rows.sealTornSpec) false w args)
      (Rows.sealTornSpec.post enc Tryd.prog Tryd.f8 false true false false) := by
  refine returnsInHanded_of_change_and (C := Tryd.checked) (X := fun w _ => laidMetH Tryd.prog Rows.sealTornRow.laid w) (fun _ _ _ hh h => h.of_heap hh) own started (by kernel_rfl) Tryd.func8
    (ChangeSpec.witness_shaped (enc := enc) (C := Tryd.checked) (os := os) (X := fun w _ => laidMetH Tryd.prog Rows.sealTornRow.laid w) false (laid1 os) #[.agg #[.int .u64 0, .int .u32 0, .string ByteArray.empty, .int .u8 0], .agg #[.int .u64 0, .int .u32 0, .string ByteArray.empty, .int .u8 0], .int .u16 0] 8 rfl (World.shaped_of_RefB (by kernel_rfl) (by kernel_rfl)) (by kernel_rfl) (by kernel_rfl) (by kernel_rfl) (door_met os _)) ?_
  intro W base args ds gs before hval0 hW _ _ hL _
  have hval : ∀ (j : Nat) t v, Tryd.f8.params[j]? = some t → args[j]? = some v → Value.okWide Tryd.prog W .any base t v := hval0
  have hW' := hW
  obtain ⟨p, q, hA0, hV, rfl, hfz, hnd⟩ := hW
  have hA : DataW.TrodAll enc Tryd.prog W 0 (fun _ => true) true Tryd.f8.params.toList args.toList ds p := hA0
  rw [Tryd.params8] at hA hval
  obtain ⟨v0, vs0, d0, ds0, p0, q0, hargs, rfl, rfl, h0, r0⟩ := trodAll_cons hA
  obtain ⟨v1, vs1, d1, ds1, p1, q1, rfl, rfl, rfl, h1, r1⟩ := trodAll_cons r0
  obtain ⟨v2, vs2, d2, ds2, p2, q2, rfl, rfl, rfl, h2, r2⟩ := trodAll_cons r1
  obtain ⟨rfl, rfl, rfl⟩ := trodAll_nil r2
  obtain rfl : args = #[v0, v1, v2] := by cases args; simp_all
  obtain ⟨rfl, rfl⟩ := trodVars_none hV
  have k0 := h0
  have lt0 : ∀ x ∈ p0, x.block < W.heap.size := by obtain ⟨m, hm⟩ := k0; exact DataW.trod_lt m _ _ _ hm
  obtain ⟨cs0, rfl, hz0⟩ := okWide_struct Tryd.underlying57 (hval 0 57 v0 rfl rfl)
  obtain ⟨l0⟩ := cs0
  have hz0' : l0.length = 4 := by have hh := hz0; rw [show Tryd.prog.cellsOf 57 = 4 by kernel_rfl] at hh; exact hh
  obtain ⟨c0_0, c0_1, c0_2, c0_3, rfl⟩ := len_4 hz0'
  obtain ⟨fu0, hf0⟩ := h0
  obtain ⟨xs0_1, n0_1, hn0_1, hx0_1, _, hl0_1, hq0_1⟩ := DataW.trod_struct Tryd.underlying57 hf0
  obtain ⟨y0_1_0, y0_1_1, y0_1_2, rfl⟩ := len_3 hl0_1
  have hy0_1_0 := hq0_1 0 _ rfl
  rw [show Tryd.prog.cellsOf _ = 2 by kernel_rfl] at hy0_1_0
  change DataW.trod enc Tryd.prog W 0 _ _ _ 38 [c0_0, c0_1] = some y0_1_0 at hy0_1_0
  obtain ⟨xs0_2, n0_2, hn0_2, hx0_2, _, hl0_2, hq0_2⟩ := DataW.trod_struct Tryd.underlying38 hy0_1_0
  obtain ⟨y0_2_0, y0_2_1, rfl⟩ := len_2 hl0_2
  have hy0_2_0 := hq0_2 0 _ rfl
  rw [show Tryd.prog.cellsOf _ = 1 by kernel_rfl] at hy0_2_0
  change DataW.trod enc Tryd.prog W 0 _ _ _ 35 [c0_0] = some y0_2_0 at hy0_2_0
  obtain ⟨a0_0, ea0_0, _, wa0_0⟩ := DataW.trod_int Tryd.underlying35 hy0_2_0
  simp only [List.cons.injEq, and_true] at ea0_0
  subst ea0_0
  have ba0_0 := bounds_u64 wa0_0
  obtain ⟨a0_0, rfl⟩ := Int.eq_ofNat_of_zero_le ba0_0.1
  have hy0_2_1 := hq0_2 1 _ rfl
  rw [show Tryd.prog.cellsOf _ = 1 by kernel_rfl] at hy0_2_1
  change DataW.trod enc Tryd.prog W 0 _ _ _ 36 [c0_1] = some y0_2_1 at hy0_2_1
  obtain ⟨a0_1, ea0_1, _, wa0_1⟩ := DataW.trod_int Tryd.underlying36 hy0_2_1
  simp only [List.cons.injEq, and_true] at ea0_1
  subst ea0_1
  have ba0_1 := bounds_u32 wa0_1
  obtain ⟨a0_1, rfl⟩ := Int.eq_ofNat_of_zero_le ba0_1.1
  have hy0_1_1 := hq0_1 1 _ rfl
  rw [show Tryd.prog.cellsOf _ = 1 by kernel_rfl] at hy0_1_1
  change DataW.trod enc Tryd.prog W 0 _ _ _ 9 [c0_2] = some y0_1_1 at hy0_1_1
  obtain ⟨a0_2, ea0_2, _, na0_2⟩ := DataW.trod_string Tryd.underlying9 hy0_1_1
  simp only [List.cons.injEq, and_true] at ea0_2
  subst ea0_2
  have hy0_1_2 := hq0_1 2 _ rfl
  rw [show Tryd.prog.cellsOf _ = 1 by kernel_rfl] at hy0_1_2
  change DataW.trod enc Tryd.prog W 0 _ _ _ 5 [c0_3] = some y0_1_2 at hy0_1_2
  obtain ⟨a0_3, ea0_3, _, wa0_3⟩ := DataW.trod_int Tryd.underlying5 hy0_1_2
  simp only [List.cons.injEq, and_true] at ea0_3
  subst ea0_3
  have ba0_3 := bounds_u8 wa0_3
  obtain ⟨a0_3, rfl⟩ := Int.eq_ofNat_of_zero_le ba0_3.1
  have k1 := h1
  have lt1 : ∀ x ∈ p1, x.block < W.heap.size := by obtain ⟨m, hm⟩ := k1; exact DataW.trod_lt m _ _ _ hm
  obtain ⟨cs1, rfl, hz1⟩ := okWide_struct Tryd.underlying57 (hval 1 57 v1 rfl rfl)
  obtain ⟨l1⟩ := cs1
  have hz1' : l1.length = 4 := by have hh := hz1; rw [show Tryd.prog.cellsOf 57 = 4 by kernel_rfl] at hh; exact hh
  obtain ⟨c1_0, c1_1, c1_2, c1_3, rfl⟩ := len_4 hz1'
  obtain ⟨fu1, hf1⟩ := h1
  obtain ⟨xs1_1, n1_1, hn1_1, hx1_1, _, hl1_1, hq1_1⟩ := DataW.trod_struct Tryd.underlying57 hf1
  obtain ⟨y1_1_0, y1_1_1, y1_1_2, rfl⟩ := len_3 hl1_1
  have hy1_1_0 := hq1_1 0 _ rfl
  rw [show Tryd.prog.cellsOf _ = 2 by kernel_rfl] at hy1_1_0
  change DataW.trod enc Tryd.prog W 0 _ _ _ 38 [c1_0, c1_1] = some y1_1_0 at hy1_1_0
  obtain ⟨xs1_2, n1_2, hn1_2, hx1_2, _, hl1_2, hq1_2⟩ := DataW.trod_struct Tryd.underlying38 hy1_1_0
  obtain ⟨y1_2_0, y1_2_1, rfl⟩ := len_2 hl1_2
  have hy1_2_0 := hq1_2 0 _ rfl
  rw [show Tryd.prog.cellsOf _ = 1 by kernel_rfl] at hy1_2_0
  change DataW.trod enc Tryd.prog W 0 _ _ _ 35 [c1_0] = some y1_2_0 at hy1_2_0
  obtain ⟨a1_0, ea1_0, _, wa1_0⟩ := DataW.trod_int Tryd.underlying35 hy1_2_0
  simp only [List.cons.injEq, and_true] at ea1_0
  subst ea1_0
  have ba1_0 := bounds_u64 wa1_0
  obtain ⟨a1_0, rfl⟩ := Int.eq_ofNat_of_zero_le ba1_0.1
  have hy1_2_1 := hq1_2 1 _ rfl
  rw [show Tryd.prog.cellsOf _ = 1 by kernel_rfl] at hy1_2_1
  change DataW.trod enc Tryd.prog W 0 _ _ _ 36 [c1_1] = some y1_2_1 at hy1_2_1
  obtain ⟨a1_1, ea1_1, _, wa1_1⟩ := DataW.trod_int Tryd.underlying36 hy1_2_1
  simp only [List.cons.injEq, and_true] at ea1_1
  subst ea1_1
  have ba1_1 := bounds_u32 wa1_1
  obtain ⟨a1_1, rfl⟩ := Int.eq_ofNat_of_zero_le ba1_1.1
  have hy1_1_1 := hq1_1 1 _ rfl
  rw [show Tryd.prog.cellsOf _ = 1 by kernel_rfl] at hy1_1_1
  change DataW.trod enc Tryd.prog W 0 _ _ _ 9 [c1_2] = some y1_1_1 at hy1_1_1
  obtain ⟨a1_2, ea1_2, _, na1_2⟩ := DataW.trod_string Tryd.underlying9 hy1_1_1
  simp only [List.cons.injEq, and_true] at ea1_2
  subst ea1_2
  have hy1_1_2 := hq1_1 2 _ rfl
  rw [show Tryd.prog.cellsOf _ = 1 by kernel_rfl] at hy1_1_2
  change DataW.trod enc Tryd.prog W 0 _ _ _ 5 [c1_3] = some y1_1_2 at hy1_1_2
  obtain ⟨a1_3, ea1_3, _, wa1_3⟩ := DataW.trod_int Tryd.underlying5 hy1_1_2
  simp only [List.cons.injEq, and_true] at ea1_3
  subst ea1_3
  have ba1_3 := bounds_u8 wa1_3
  obtain ⟨a1_3, rfl⟩ := Int.eq_ofNat_of_zero_le ba1_3.1
  obtain ⟨a2, rfl, rfl, rfl, w2⟩ := open_int Tryd.underlying48 (hval 2 48 v2 rfl rfl) h2
  have b2 := bounds_u16 w2
  obtain ⟨lh0, lh1⟩ := fours_of_laid (show laidMetH Tryd.prog Rows.sealTellsRow.laid W from hL)
  clear hA0 hval0
  have hwalk := walk_SealTorn a0_0 a0_1 a0_2.data.toList a0_3 a1_0 a1_1 a1_2.data.toList a1_3 a2 W (by have := ba0_0.2; omega) (by have := ba0_1.2; omega) (by rw [Array.length_toList]; exact na0_2) (by have := ba0_3.2; omega) (by have := ba1_0.2; omega) (by have := ba1_1.2; omega) (by rw [Array.length_toList]; exact na1_2) (by have := ba1_3.2; omega) b2.1 b2.2 lh0 lh1

  refine hwalk.mono fun e W' ⟨he, hup⟩ => ?_
  subst he
  have bel : Below W.heap.size W W' := hup.below (Nat.le_refl _) (fun _ f => f.elim)
  exact ⟨_, rfl, _, _, _, [], _, [], hW', trodAll_mk1 (shut_bool Tryd.underlying4 _), (trodAll_cons_mk (Below.trod laidOut (by kernel_rfl) (of_decide_eq_true (by kernel_rfl)) k0 bel lt0) (trodAll_cons_mk (Below.trod laidOut (by kernel_rfl) (of_decide_eq_true (by kernel_rfl)) k1 bel lt1) (trodAll_cons_mk (shut_int Tryd.underlying48 w2) trodAll_mk0))), rfl, bel.frame _, fun h => by cases h⟩
theorem proved : Rows.SealTornSaid :=
  OpenClaim.holds_of_wide 8 Tryd.f8 rfl rfl rfl rfl rfl rfl rfl ⟨rfl, rfl, rfl, rfl, rfl⟩ rfl rfl rfl rfl rfl (by kernel_rfl) Tryd.func8 (by kernel_rfl)
    (of_decide_eq_true (by kernel_rfl)) (by unfold Func.isWrapper; first | (rw [if_pos (by decide +kernel)]; kernel_rfl) | (rw [if_neg (by decide +kernel)]; exact ⟨rfl, rfl⟩))
    (fun os started H enc _ => lifted os started H enc)
theorem card : Rows.SealTornCardSaid :=
  Claim7.holds_tied_plain_at .later [] [.data, .data, .pinned] true (true, "ed0d8a7131c7f37074996449fb34d29bcdaba39829c05658beb1977c4b944d14") false
    proved (fun _ h => by cases h) (by kernel_rfl) (fun _ h => by cases h) sealTorn_row_tie rfl ⟨rfl, rfl⟩ (by kernel_rfl) rfl
    (fun f fn hf hfn => by
      obtain rfl : f = 8 := Option.some.inj ((show Tryd.prog.funcNamed "rillbed/rillbedlaw04.SealTorn" = some 8 by kernel_rfl).symm.trans hf) |>.symm
      obtain rfl : fn = Tryd.f8 := (Option.some.inj (Tryd.func8.symm.trans hfn)).symm
      exact ⟨by kernel_rfl, fun j t ht => by
        rw [Tryd.params8] at ht
        have hm : t ∈ [57, 57, 48] := by simpa using Array.mem_of_getElem? ht
        have hall : ([57, 57, 48].all fun u => !Tryd.prog.wantsStandIn u) = true := by kernel_rfl
        exact (show Tryd.prog.wantsStandIn t = false by simpa using List.all_eq_true.1 hall t hm)⟩)
    (by kernel_rfl)
end Go.Proofs.YtfkmoooeaijndaaDoor.sealTorn
namespace Go.Proofs.YtfkmoooeaijndaaDoor
/-- The statement, under a short name, for the claim. -/
theorem sealTorn_holds : Rows.SealTornCardSaid := sealTorn.card
#print axioms sealTorn_holds
end Go.Proofs.YtfkmoooeaijndaaDoor
