/- node.read: its roads joined. -/
import Derived.Test.YtnoimnijoklkdaaNxMt
import Derived.Test.YtnoimnijoklkdaaNxTk3
set_option linter.unusedVariables false
set_option linter.unusedSimpArgs false
namespace Go.Proofs.Ytnoimnijoklkdaa.Px
open Go.RowKit Go.Proofs.YtnoimnijoklkdaaW.PrintWords Go.Proofs.YtnoimnijoklkdaaW.PrintLast
theorem mtk_walk (s : ByteArray) (w : World) : Calls Try.prog 33 #[.string s] w fun e w' =>
    e = .returned (.tuple #[.agg #[.int .i64 (mtk s.data.toList).1.f0, .string (mtk s.data.toList).1.f1, .string (mtk s.data.toList).1.f2, .string (mtk s.data.toList).1.f3], .int .i64 (mtk s.data.toList).2]) ∧ Upd (fun _ => False) w w' := by
  have h := mtk_eq 20 (by decide) s.data.toList
  rw [mk_ba] at h
  exact (message_Take.calls 22 s _ _ _ _ _ w h).mono fun e w' ⟨he, hb⟩ => ⟨he, upd_of_below hb⟩

set_option maxHeartbeats 4000000 in
set_option maxRecDepth 100000 in
theorem read_torn (br : Nat) (l : List UInt8) (w : World) (hl : l.length ≤ 1000000) (hR : Rd w br l 0) (h0 : (rU8 l 0).2.2 ≠ 0) :
    Calls Try.prog 32 #[.pointer (some ⟨br, 0, none⟩)] w (RdPost (rdN l) br w) := by
  have hun := Try.underlying28
  have lbr := lt_of_heap hR
  have HF := Lib.hid (show rdN l = (zRn, [], 10) by unfold rdN; exact if_pos h0)
  generalize rdN l = RR at *
  have H1 := Lib.hid (fun w h => Reader_U8 br l 0 w (by omega) h)
  generalize rU8 l 0 = a at *
  obtain ⟨k, L1, e1⟩ := a
  dsimp only at h0 H1
  have hRa : Rd (w.alloc (.cells #[.bool false, .slice none 0 0, .slice none 0 0, .slice none 0 0, .slice none 0 0] 28)) br l 0 := heap_alloc_lt hR _
  have u0 := (Upd.refl (fun k => k = br) w).alloc (.cells #[.bool false, .slice none 0 0, .slice none 0 0, .slice none 0 0, .slice none 0 0] 28)
  clear hl lbr
  go_enter Try.func32, Try.ntmps32
  go_wp2_with (fail)
  refine (H1.out _ hRa).mono ?_
  rintro e w1 ⟨rfl, hR1, u1⟩
  have U1 := Lib.hid (u0.trans u1 (fun _ _ f => f))
  clear u0 u1
  go_wp2_with (fail)
  refine (must_bad br L1 e1 w1 hR1 h0).mono ?_
  rintro e w2 ⟨rfl, hw⟩
  subst hw
  go_wp2
  exact ⟨rfl, RdPost.bad (by rw [HF.out]) (by decide) U1.out⟩
theorem bad4 {R : Rn × List UInt8 × Int} {br : Nat} {w w' : World} (hR : R.2.2 = 4) (hu : Upd (fun k => k = br) w w') : RdPost R br w (.panicked [{ v := .iface 62 (.agg #[.int .i64 4]), recovered := false }]) w' := RdPost.bad hR (by decide) hu
set_option maxHeartbeats 4000000 in
set_option maxRecDepth 100000 in
theorem read_kind (br : Nat) (l : List UInt8) (w : World) (hl : l.length ≤ 1000000) (hR : Rd w br l 0) (h0 : (rU8 l 0).2.2 = 0) (h1 : (rU8 l 0).1 ≠ 1) (h2 : (rU8 l 0).1 ≠ 2) :
    Calls Try.prog 32 #[.pointer (some ⟨br, 0, none⟩)] w (RdPost (rdN l) br w) := by
  have hun := Try.underlying28
  have hut := Try.underlying62
  have lbr := lt_of_heap hR
  have HF := Lib.hid (show rdN l = (zRn, [], 4) by unfold rdN; dsimp only; rw [if_neg (by rw [h0]; decide), if_neg h1, if_neg h2])
  generalize rdN l = RR at *
  have H1 := Lib.hid (fun w h => Reader_U8 br l 0 w (by omega) h)
  generalize rU8 l 0 = a at *
  obtain ⟨k, L1, e1⟩ := a
  dsimp only at h0 h1 h2 H1
  subst h0
  have hRa : Rd (w.alloc (.cells #[.bool false, .slice none 0 0, .slice none 0 0, .slice none 0 0, .slice none 0 0] 28)) br l 0 := heap_alloc_lt hR _
  have u0 := (Upd.refl (fun k => k = br) w).alloc (.cells #[.bool false, .slice none 0 0, .slice none 0 0, .slice none 0 0, .slice none 0 0] 28)
  have o1 : ((k : Int) == 1) = false := by simp; omega
  have o2 : ((k : Int) == 2) = false := by simp; omega
  clear hl lbr h1 h2
  go_enter Try.func32, Try.ntmps32
  go_wp2_with (fail)
  refine (H1.out _ hRa).mono ?_
  rintro e w1 ⟨rfl, hR1, u1⟩
  have U1 := Lib.hid (u0.trans u1 (fun _ _ f => f))
  clear u0 u1
  go_wp2_with (fail)
  refine (must_ok br L1 w1 hR1).mono ?_
  rintro e w2 ⟨rfl, hw⟩
  subst hw
  go_wp2
  exact ⟨rfl, bad4 (by rw [HF.out]) U1.out⟩
theorem read_all (br : Nat) (l : List UInt8) (w : World) (hl : l.length ≤ 1000000) (hR : Rd w br l 0) :
    Calls Try.prog 32 #[.pointer (some ⟨br, 0, none⟩)] w (RdPost (rdN l) br w) := by
  by_cases h0 : (rU8 l 0).2.2 = 0
  · by_cases h1 : (rU8 l 0).1 = 1
    · exact read_leaf br l w hl hR h0 h1
    · by_cases h2 : (rU8 l 0).1 = 2
      · exact read_inner br l w hl hR h0 h2
      · exact read_kind br l w hl hR h0 h1 h2
  · exact read_torn br l w hl hR h0
end Go.Proofs.Ytnoimnijoklkdaa.Px
