/- Texts that belong together: YtnoimnijoklkdaaNxRd, YtnoimnijoklkdaaNxClo. -/
import Derived.Test.YtnoimnijoklkdaaNxMt
import Derived.Test.YtnoimnijoklkdaaNxTk3
import Derived.Recover
import Derived.Defers
/- node.read: its roads joined. -/
set_option linter.unusedVariables false
set_option linter.unusedSimpArgs false
namespace Go.Proofs.Ytnoimnijoklkdaa.Px
open Go.RowKit Go.Proofs.YtnoimnijoklkdaaW.PrintWords Go.Proofs.YtnoimnijoklkdaaW.PrintLast
theorem mtk_walk (s : ByteArray) (w : World) : Calls Try.prog 33 #[.string s] w fun e w' =>
    e = .returned (.tuple #[.agg #[.int .i64 (mtk s.data.toList).1.f0, .string (mtk s.data.toList).1.f1, .string (mtk s.data.toList).1.f2, .string (mtk s.data.toList).1.f3], .int .i64 (mtk s.data.toList).2]) ∧ Upd (fun _ => False) w w' := by
  have h := mtk_eq 20 (by decide) s.data.toList
  rw [mk_ba] at h
  exact (message_Take.calls 22 s _ _ _ _ _ w h).mono fun e w' ⟨he, hb⟩ => ⟨he, upd_of_below hb⟩

set_option maxHeartbeats 4000000 in
set_option maxRecDepth 100000 in
theorem read_torn (br : Nat) (l : List UInt8) (w : World) (hl : l.length ≤ 1000000) (hR : Rd w br l 0) (h0 : (rU8 l 0).2.2 ≠ 0) :
    Calls Try.prog 32 #[.pointer (some ⟨br, 0, none⟩)] w (RdPost (rdN l) br w) := by
  have hun := Try.underlying28
  have lbr := lt_of_heap hR
  have HF := Lib.hid (show rdN l = (zRn, [], 10) by unfold rdN; exact if_pos h0)
  generalize rdN l = RR at *
  have H1 := Lib.hid (fun w h => Reader_U8 br l 0 w (by omega) h)
  generalize rU8 l 0 = a at *
  obtain ⟨k, L1, e1⟩ := a
  dsimp only at h0 H1
  have hRa : Rd (w.alloc (.cells #[.bool false, .slice none 0 0, .slice none 0 0, .slice none 0 0, .slice none 0 0] 28)) br l 0 := heap_alloc_lt hR _
  have u0 := (Upd.refl (fun k => k = br) w).alloc (.cells #[.bool false, .slice none 0 0, .slice none 0 0, .slice none 0 0, .slice none 0 0] 28)
  clear hl lbr
  go_enter Try.func32, Try.ntmps32
  go_wp2_with (fail)
  refine (H1.out _ hRa).mono ?_
  rintro e w1 ⟨rfl, hR1, u1⟩
  have U1 := Lib.hid (u0.trans u1 (fun _ _ f => f))
  clear u0 u1
  go_wp2_with (fail)
  refine (must_bad br L1 e1 w1 hR1 h0).mono ?_
  rintro e w2 ⟨rfl, hw⟩
  subst hw
  go_wp2
  exact ⟨rfl, RdPost.bad (by rw [HF.out]) (by decide) U1.out⟩
theorem bad4 {R : Rn × List UInt8 × Int} {br : Nat} {w w' : World} (hR : R.2.2 = 4) (hu : Upd (fun k => k = br) w w') : RdPost R br w (.panicked [{ v := .iface 62 (.agg #[.int .i64 4]), recovered := false }]) w' := RdPost.bad hR (by decide) hu
set_option maxHeartbeats 4000000 in
set_option maxRecDepth 100000 in
theorem read_kind (br : Nat) (l : List UInt8) (w : World) (hl : l.length ≤ 1000000) (hR : Rd w br l 0) (h0 : (rU8 l 0).2.2 = 0) (h1 : (rU8 l 0).1 ≠ 1) (h2 : (rU8 l 0).1 ≠ 2) :
    Calls Try.prog 32 #[.pointer (some ⟨br, 0, none⟩)] w (RdPost (rdN l) br w) := by
  have hun := Try.underlying28
  have hut := Try.underlying62
  have lbr := lt_of_heap hR
  have HF := Lib.hid (show rdN l = (zRn, [], 4) by unfold rdN; dsimp only; rw [if_neg (by rw [h0]; decide), if_neg h1, if_neg h2])
  generalize rdN l = RR at *
  have H1 := Lib.hid (fun w h => Reader_U8 br l 0 w (by omega) h)
  generalize rU8 l 0 = a at *
  obtain ⟨k, L1, e1⟩ := a
  dsimp only at h0 h1 h2 H1
  subst h0
  have hRa : Rd (w.alloc (.cells #[.bool false, .slice none 0 0, .slice none 0 0, .slice none 0 0, .slice none 0 0] 28)) br l 0 := heap_alloc_lt hR _
  have u0 := (Upd.refl (fun k => k = br) w).alloc (.cells #[.bool false, .slice none 0 0, .slice none 0 0, .slice none 0 0, .slice none 0 0] 28)
  have o1 : ((k : Int) == 1) = false := by simp; omega
  have o2 : ((k : Int) == 2) = false := by simp; omega
  clear hl lbr h1 h2
  go_enter Try.func32, Try.ntmps32
  go_wp2_with (fail)
  refine (H1.out _ hRa).mono ?_
  rintro e w1 ⟨rfl, hR1, u1⟩
  have U1 := Lib.hid (u0.trans u1 (fun _ _ f => f))
  clear u0 u1
  go_wp2_with (fail)
  refine (must_ok br L1 w1 hR1).mono ?_
  rintro e w2 ⟨rfl, hw⟩
  subst hw
  go_wp2
  exact ⟨rfl, bad4 (by rw [HF.out]) U1.out⟩
theorem read_all (br : Nat) (l : List UInt8) (w : World) (hl : l.length ≤ 1000000) (hR : Rd w br l 0) :
    Calls Try.prog 32 #[.pointer (some ⟨br, 0, none⟩)] w (RdPost (rdN l) br w) := by
  by_cases h0 : (rU8 l 0).2.2 = 0
  · by_cases h1 : (rU8 l 0).1 = 1
    · exact read_leaf br l w hl hR h0 h1
    · by_cases h2 : (rU8 l 0).1 = 2
      · exact read_inner br l w hl hR h0 h2
      · exact read_kind br l w hl hR h0 h1 h2
  · exact read_torn br l w hl hR h0
end Go.Proofs.Ytnoimnijoklkdaa.Px

/- node.Take's deferred closure: entered by a frame that panics with torn; by a frame that returns. -/
set_option linter.unusedVariables false
set_option linter.unusedSimpArgs false
namespace Go.Proofs.Ytnoimnijoklkdaa.Px
open Go.RowKit Go.Proofs.YtnoimnijoklkdaaW.PrintWords Go.Proofs.YtnoimnijoklkdaaW.PrintLast

set_option maxHeartbeats 4000000 in
set_option maxRecDepth 100000 in
theorem clo_idle (p q : Addr) (w : World) :
    CallsD Try.prog 30 #[.pointer (some p), .pointer (some q)] .returning w fun e u' w' => e = .returned (.tuple #[]) ∧ u' = .returning ∧ w' = w := by
  have hq : ∀ w, (binOp .eql 20 .nilIface .nilIface).run Try.prog w = .ok (.bool true) w := fun _ => rfl
  refine callsD_of_wpS Try.func30 rfl fun c₀ cs hu => ?_
  apply wpS_seq
  apply wpS_region
  simp [wpOpsS, go_sem, recoverD, hu, Try.ntmps30, Exit.thenS]
  have h : #[Value.pointer (some p), Value.pointer (some q)] ++ (Array.replicate 12 undef).setIfInBounds 3 Value.nilIface = #[.pointer (some p), .pointer (some q), undef, undef, undef, .nilIface, undef, undef, undef, undef, undef, undef, undef, undef] := rfl
  rw [h]
  refine wpS_of_wp ?_
  go_wp2
  cases c₀
  simp_all [bodyPostS, results, Try.results30]
theorem assert_torn (W : World) (v : Value) : (Instr.typeAssert (.iface 62 v) 20 62 true).run Try.prog W = .ok (.tuple #[v, .bool true]) W := by kernel_rfl
set_option maxHeartbeats 4000000 in
set_option maxRecDepth 100000 in
theorem clo_torn (N E : Nat) (c : Int) (older : List PanicEntry) (a0 a1 a2 a3 a4 b0 : Value) (w : World) (hN : w.heap[N]? = some (.cells #[a0, a1, a2, a3, a4] 28 (0, 0))) (hE : w.heap[E]? = some (.cells #[b0] 29 (0, 0))) (hne : N ≠ E) :
    CallsD Try.prog 30 #[.pointer (some ⟨N, 0, none⟩), .pointer (some ⟨E, 0, none⟩)] (.panicking ({ v := tornV c, recovered := false } :: older)) w fun e u' w' => e = .returned (.tuple #[]) ∧ u' = .panicking ({ v := tornV c, recovered := true } :: older) ∧
      w'.heap[N]? = some (.cells #[.bool false, .slice none 0 0, .slice none 0 0, .slice none 0 0, .slice none 0 0] 28 (0, 0)) ∧ w'.heap[E]? = some (.cells #[.int .i64 c] 29 (0, 0)) ∧ Upd (fun k => k = N ∨ k = E) w w' := by
  have hq : ∀ w, (binOp .eql 20 (tornV c) .nilIface).run Try.prog w = .ok (.bool false) w := fun _ => rfl
  refine callsD_of_wpS Try.func30 rfl fun c₀ cs hu => ?_
  apply wpS_seq
  apply wpS_region
  unfold tornV at *
  simp [wpOpsS, go_sem, recoverD, hu, Try.ntmps30, Exit.thenS]
  have h : #[Value.pointer (some { block := N, off := 0 }), Value.pointer (some { block := E, off := 0 })] ++ (Array.replicate 12 undef).setIfInBounds 3 (Value.iface 62 (Value.agg #[Value.int IntKind.i64 c])) = #[.pointer (some ⟨N, 0, none⟩), .pointer (some ⟨E, 0, none⟩), undef, undef, undef, Value.iface 62 (Value.agg #[Value.int IntKind.i64 c]), undef, undef, undef, undef, undef, undef, undef, undef] := rfl
  rw [h]
  refine wpS_of_wp ?_
  have lN := lt_of_heap hN
  have lE := lt_of_heap hE
  have ha := assert_torn
  have hut := Try.underlying62
  have hun := Try.underlying28
  go_wp2
  have HX1 := heap_alloc_new w (.cells #[.int .i64 c] 62)
  have HN1 := heap_alloc_lt hN (.cells #[.int .i64 c] 62)
  have HE1 := heap_alloc_lt hE (.cells #[.int .i64 c] 62)
  have hNX : N ≠ w.heap.size := Nat.ne_of_lt lN
  have hEX : E ≠ w.heap.size := Nat.ne_of_lt lE
  have HU1 := Lib.hid ((Upd.refl (fun k => k = N ∨ k = E) w).alloc (.cells #[.int .i64 c] 62))
  generalize w.heap.size = X at *
  generalize w.alloc (.cells #[.int .i64 c] 62) = w1 at *
  have x0 := cell_heap HX1 0 _ rfl
  have d0 := cell_heap HN1 0 _ rfl
  have d1 := cell_heap HN1 1 _ rfl
  have d2 := cell_heap HN1 2 _ rfl
  have d3 := cell_heap HN1 3 _ rfl
  have d4 := cell_heap HN1 4 _ rfl
  have g0 := cell_heap HE1 0 _ rfl
  have f0 := free_heap HN1 0
  have f1 := free_heap HN1 1
  have f2 := free_heap HN1 2
  have f3 := free_heap HN1 3
  have f4 := free_heap HN1 4
  have fe := free_heap HE1 0
  go_region
  have z := set5_at HN1 (.bool false) (.slice none 0 0) (.slice none 0 0) (.slice none 0 0) (.slice none 0 0)
  have ze := set5_ne HE1 (Ne.symm hne) (.bool false) (.slice none 0 0) (.slice none 0 0) (.slice none 0 0) (.slice none 0 0)
  have zu := set5_upd HU1.out (N := N) (fun _ => .inl rfl) (.bool false) (.slice none 0 0) (.slice none 0 0) (.slice none 0 0) (.slice none 0 0)
  unfold set5 at z ze zu
  have y1 := heap_setCell_ne z ⟨E, 0, none⟩ (.int .i64 c) hne
  have y2 := heap_setCell_eq (i := 0) ze (.int .i64 c)
  have y3 := zu.setCell (p := ⟨E, 0, none⟩) (fun _ => .inr rfl) (.int .i64 c)
  generalize (((((w1.setCell ⟨N, 0, none⟩ (.bool false)).setCell ⟨N, 1, none⟩ (.slice none 0 0)).setCell ⟨N, 2, none⟩ (.slice none 0 0)).setCell ⟨N, 3, none⟩ (.slice none 0 0)).setCell ⟨N, 4, none⟩ (.slice none 0 0)).setCell ⟨E, 0, none⟩ (.int .i64 c) = W7 at y1 y2 y3 ⊢
  clear z ze zu hN hE HN1 HE1 HX1 x0 d0 d1 d2 d3 d4 g0 f0 f1 f2 f3 f4 fe
  have y4 : W7.drew.heap[N]? = some (.cells #[.bool false, .slice none 0 0, .slice none 0 0, .slice none 0 0, .slice none 0 0] 28 (0, 0)) := y1
  have y5 : W7.drew.heap[E]? = some (.cells #[.int .i64 c] 29 (0, 0)) := y2
  have y6 := y3.drew
  generalize W7.drew = W8 at y4 y5 y6 ⊢
  go_wp2
  unfold bodyPostS
  refine ⟨rfl, _, rfl, .tuple #[], ?_, rfl, rfl, y4, y5, y6⟩
  simp [results, Try.results30]
end Go.Proofs.Ytnoimnijoklkdaa.Px
