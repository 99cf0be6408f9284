/- table.Take for the printer. -/
import Derived.Test.YtlhjhkmmgkfmpaaPxTk2
set_option linter.unusedVariables false
set_option linter.unusedSimpArgs false
namespace Go.Proofs.Ytlhjhkmmgkfmpaa.Px
open Go.RowKit Go.Shelf Go.Proofs.YtlhjhkmmgkfmpaaW.PrintWords Go.Proofs.YtlhjhkmmgkfmpaaW.PrintLast

def tkP (s : List UInt8) : (Int × List S53 × List S65) × Int :=
  let a := rU64 s 0
  let b := rU8 a.2.1 a.2.2
  let c := readS b.1 b.2.1 b.2.2
  let d := rU16 c.2.1 c.2.2
  let f := readR d.1 d.2.1 d.2.2
  if f.2.2 ≠ 0 then ((0, [], []), 10) else if f.2.1 ≠ [] ∨ chk (P1 c.1) (P2 f.1) ≠ 0 then ((0, [], []), 4) else ((((a.1 : Nat) : Int), c.1, f.1), 0)

theorem readS_enters : Enters Try.prog 37 := enters_of Try.func37 rfl rfl
theorem readR_enters : Enters Try.prog 42 := enters_of Try.func42 rfl rfl

theorem set3T {W : World} {b : Nat} {t : TypeId} {a0 a1 a2 : Value} (h : W.heap[b]? = some (.cells #[a0, a1, a2] t (0, 0))) (v0 v1 v2 : Value) :
    (((W.setCell ⟨b, 0, none⟩ v0).setCell ⟨b, 1, none⟩ v1).setCell ⟨b, 2, none⟩ v2).heap[b]? = some (.cells #[v0, v1, v2] t (0, 0)) :=
  heap_setCell_eq (i := 2) (heap_setCell_eq (i := 1) (heap_setCell_eq (i := 0) h v0) v1) v2
theorem upd3T {w W : World} (h : Upd (fun _ => False) w W) {b : Nat} (hb : ¬ b < w.heap.size) (v0 v1 v2 : Value) :
    Upd (fun _ => False) w (((W.setCell ⟨b, 0, none⟩ v0).setCell ⟨b, 1, none⟩ v1).setCell ⟨b, 2, none⟩ v2) :=
  ((h.setCell (p := ⟨b, 0, none⟩) (fun k => hb k) v0).setCell (p := ⟨b, 1, none⟩) (fun k => hb k) v1).setCell (p := ⟨b, 2, none⟩) (fun k => hb k) v2
theorem R_set3 {α : Type} {d : Kd α} {e base : Nat} {v : Value} {xs : List α} {W : World} (h : Kd.R d e W base (fun _ => True) v xs) {b : Nat} (hb : b < base) (v0 v1 v2 : Value) :
    Kd.R d e (((W.setCell ⟨b, 0, none⟩ v0).setCell ⟨b, 1, none⟩ v1).setCell ⟨b, 2, none⟩ v2) base (fun _ => True) v xs :=
  Kd.R_mono (Kd.R_far (p := ⟨b, 2, none⟩) (Kd.R_far (p := ⟨b, 1, none⟩) (Kd.R_far (p := ⟨b, 0, none⟩) (Kd.R_bound h) (fun k hk => by have := hk.2.1; show k ≠ b; omega) v0) (fun k hk => by have := hk.2.1; show k ≠ b; omega) v1) (fun k hk => by have := hk.2.1; show k ≠ b; omega) v2) (fun _ _ => trivial)
theorem R_none {α : Type} {d : Kd α} {e base : Nat} {v : Value} {xs : List α} {W W' : World} (h : Kd.R d e W base (fun _ => True) v xs) (hu : Upd (fun _ => False) W W') : Kd.R d e W' base (fun _ => True) v xs :=
  Kd.R_step h (fun k _ hk => hu.block k hk (fun f => f))

set_option maxHeartbeats 8000000 in
set_option maxRecDepth 100000 in
theorem take_walk (s : List UInt8) (w : World) (hs : s.length ≤ 1000000) :
    Calls Try.prog 17 #[.string ⟨s.toArray⟩] w (fun e w' => ∃ v1 v2 : Value, e = .returned (.tuple #[.agg #[.int .u64 (tkP s).1.1, v1, v2], .int .i64 (tkP s).2]) ∧ Kd.R k53 53 w' w.heap.size (fun _ => True) v1 (tkP s).1.2.1 ∧ Kd.R k65 65 w' w.heap.size (fun _ => True) v2 (tkP s).1.2.2 ∧ Upd (fun _ => False) w w') := by
  have hmf : ∀ (fn : Fn) (first cap : Array Value) (w : World), (Instr.makeFunc fn first cap).run Try.prog w = .ok (.func fn first cap) w := fun _ _ _ _ => rfl
  have hu26 := Try.underlying26
  have hT : tkP s = (let a := rU64 s 0; let b := rU8 a.2.1 a.2.2; let c := readS b.1 b.2.1 b.2.2; let d := rU16 c.2.1 c.2.2; let f := readR d.1 d.2.1 d.2.2
    if f.2.2 ≠ 0 then ((0, [], []), 10) else if f.2.1 ≠ [] ∨ chk (P1 c.1) (P2 f.1) ≠ 0 then ((0, [], []), 4) else ((((a.1 : Nat) : Int), c.1, f.1), 0) : (Int × List S53 × List S65) × Int) := rfl
  generalize tkP s = T at *
  have q1 := rU64_le s 0
  have h1 := fun br w h => Reader_U64 br s 0 w (by omega) h
  generalize rU64 s 0 = x1 at *
  obtain ⟨wt, L1, e1⟩ := x1
  dsimp only at h1 q1 hT
  have q2 := rU8_le L1 e1
  have b2 := rU8_lt L1 e1
  have h2 := fun br w h => Reader_U8 br L1 e1 w (by omega) h
  generalize rU8 L1 e1 = x2 at *
  obtain ⟨n, L2, e2⟩ := x2
  dsimp only at h2 q2 b2 hT
  unfold Two8 at b2
  have q3 := readS_len n L2 e2
  have h3 := fun bp br w hb h hne => readS_walk bp br n L2 e2 w (by omega) (by omega) hb h hne
  generalize readS n L2 e2 = x3 at *
  obtain ⟨xs, L3, e3⟩ := x3
  dsimp only at h3 q3 hT
  have q4 := rU16_le L3 e3
  have b4 := rU16_lt L3 e3
  have h4 := fun br w h => Reader_U16 br L3 e3 w (by omega) h
  generalize rU16 L3 e3 = x4 at *
  obtain ⟨m, L4, e4⟩ := x4
  dsimp only at h4 q4 b4 hT
  unfold Two16 at b4
  have q5 := readR_len m L4 e4
  have h5 := fun bp br w hb h hne => readR_walk bp br m L4 e4 w (by omega) (by omega) hb h hne
  generalize readR m L4 e4 = x5 at *
  obtain ⟨ys, L5, e5⟩ := x5
  dsimp only at h5 q5 hT
  have H1 := Lib.hid h1
  have H2 := Lib.hid h2
  have H3 := Lib.hid h3
  have H4 := Lib.hid h4
  have H5 := Lib.hid h5
  have HTT := Lib.hid hT
  have w8 : IntKind.i64.wrap (n : Int) = (n : Int) := IntWalk.i64_in _ (by omega)
  have w16 : IntKind.i64.wrap (m : Int) = (m : Int) := IntWalk.i64_in _ (by omega)
  clear h1 h2 h3 h4 h5 hT
  have hA := heap_alloc_new w (.cells #[.int .u64 0, .slice none 0 0, .slice none 0 0] 26)
  have uA := (Upd.refl (fun _ => False) w).alloc (.cells #[.int .u64 0, .slice none 0 0, .slice none 0 0] 26)
  obtain ⟨wA, hwA⟩ : ∃ wA, wA = w.alloc (.cells #[.int .u64 0, .slice none 0 0, .slice none 0 0] 26) := ⟨_, rfl⟩
  have hN := codec_New s (w.alloc (.cells #[.int .u64 0, .slice none 0 0, .slice none 0 0] 26))
  have HN := Lib.hid hN
  rw [← hwA] at hA uA
  have lA := lt_of_heap hA
  have HA := Lib.hid hA
  have UA := Lib.hid uA
  clear hN hA uA
  go_enter Try.func17, Try.ntmps17
  go_wp2_with (fail)
  refine HN.out.mono ?_
  rw [← hwA]
  rintro e wB ⟨rfl, hRB, uB⟩
  have hbpB := heap_alloc_new wB (.cells #[.pointer (some ⟨wA.heap.size, 0, none⟩)] 74)
  have hRC : Rd (wB.alloc (.cells #[.pointer (some ⟨wA.heap.size, 0, none⟩)] 74)) wA.heap.size s 0 := heap_alloc_lt hRB _
  have hAC := heap_alloc_lt (uB.heap HA.out (fun f => f)) (.cells #[.pointer (some ⟨wA.heap.size, 0, none⟩)] 74)
  have d0 := cell_heap hbpB 0 (.pointer (some ⟨wA.heap.size, 0, none⟩)) rfl
  have UC := Lib.hid ((UA.out.trans uB (fun _ _ f => f)).alloc (.cells #[.pointer (some ⟨wA.heap.size, 0, none⟩)] 74))
  have lB := lt_of_heap hRB
  generalize wA.heap.size = br at *
  go_wp2_with (fail)
  refine (H1.out br _ hRC).mono ?_
  rintro e wD ⟨rfl, hRD, uD⟩
  have nbp : wB.heap.size ≠ br := by omega
  have nA : w.heap.size ≠ br := by omega
  have hbpD := uD.heap hbpB nbp
  have hAD := uD.heap hAC nA
  have UD : Upd (fun _ => False) w wD := UC.out.trans uD (fun i hi f => absurd f (by show ¬ i = br; omega))
  generalize hbpe : wB.heap.size = bp at *
  have hbpE := heap_alloc_lt hbpD (.cells #[.int .u64 wt, .slice none 0 0, .slice none 0 0] 26)
  have hAE := heap_alloc_lt hAD (.cells #[.int .u64 wt, .slice none 0 0, .slice none 0 0] 26)
  have hRE : Rd (wD.alloc (.cells #[.int .u64 wt, .slice none 0 0, .slice none 0 0] 26)) br L1 e1 := heap_alloc_lt hRD _
  have hBE := heap_alloc_new wD (.cells #[.int .u64 wt, .slice none 0 0, .slice none 0 0] 26)
  have lD := lt_of_heap hbpD
  have UE := Lib.hid (UD.alloc (.cells #[.int .u64 wt, .slice none 0 0, .slice none 0 0] 26))
  clear hRB uB hbpB hRC hAC d0 hRD uD hbpD hAD UD hwA
  go_wp2
  generalize wD.alloc (.cells #[.int .u64 wt, .slice none 0 0, .slice none 0 0] 26) = wE at *
  generalize hbt : wD.heap.size = bt at *
  have DP := Lib.hid (cell_heap hbpE 0 (.pointer (some ⟨br, 0, none⟩)) rfl)
  have NBP : Hid (¬ (bp = br ∨ bp = bt)) := Lib.hid (by omega)
  have NBT : Hid (¬ (bt = br)) := Lib.hid (by omega)
  have NPR : Hid (bp ≠ br) := Lib.hid nbp
  have HBP := Lib.hid hbpE
  have HBT := Lib.hid hBE
  have LBT : Hid (bt < wE.heap.size) := Lib.hid (lt_of_heap hBE)
  have hRd : Rd wE.drew br L1 e1 := hRE
  have HAE := Lib.hid hAE
  have LL : Hid (w.heap.size < br ∧ br < bp ∧ bp < bt) := Lib.hid ⟨by omega, by omega, by omega⟩
  clear hbpE hBE hAE hRE nbp nA lA lB lD hbpe hbt
--G3
  refine wp_region_held_drew (S := fun w' => Upd (fun k => k = br ∨ k = bt) wE w') (by kernel_rfl) (Upd.refl _ _).drew (fun hS => ?_)
  refine take_first (i := 0) (some 11) (v := ?_) rfl rfl (by kernel_rfl) (by kernel_rfl) (by kernel_rfl) (fun _ _ _ h => h) (Or.inl ⟨by rfl, ?_⟩) hS ?_
  rotate_left
  · intro w' hSw; have q0 := hSw.cell DP.out NBP.out; go_simp; try with_reducible rfl
  simp only [Act.put, List.setIfInBounds_toArray, List.set_cons_zero, List.set_cons_succ]
  refine take_first (i := 1) (some 12) (v := ?_) rfl rfl (by kernel_rfl) (by kernel_rfl) (by kernel_rfl) (fun _ _ _ h => h) (Or.inl ⟨by rfl, ?_⟩) hS ?_
  rotate_left
  · intro w' hSw; have q0 := hSw.cell DP.out NBP.out; go_simp; try with_reducible rfl
  simp only [Act.put, List.setIfInBounds_toArray, List.set_cons_zero, List.set_cons_succ]
  refine take_first (i := 4) (some 15) (v := ?_) rfl rfl (by kernel_rfl) (by kernel_rfl) (by kernel_rfl) (fun _ _ _ h => h) (Or.inl ⟨by rfl, ?_⟩) hS ?_
  rotate_left
  · intro w' hSw; go_simp; try with_reducible rfl
  simp only [Act.put, List.setIfInBounds_toArray, List.set_cons_zero, List.set_cons_succ]
  refine wpAnyH_ready (rs := [2]) (by kernel_rfl) (by simp) ?_
  refine AllReadyH.cons rfl (fun K hK => ?_) AllReadyH.nil
  refine step_fn (some 13) rfl (by rfl) 38 u8_enters #[.tmp 12] #[74] rfl #[.pointer (some ⟨br, 0, none⟩)] rfl (fun r w' => r = .int .u8 (n : Nat) ∧ Rd w' br L2 e2 ∧ w'.heap[bt]? = some (.cells #[.int .u64 wt, .slice none 0 0, .slice none 0 0] 26 (0, 0)) ∧ Upd (fun k => k = br ∨ k = bt) wE w') ((H2.out br _ hRd).mono fun e w' h => ⟨_, h.1, rfl, h.2.1, h.2.2.heap HBT.out NBT.out, hS.trans h.2.2 (fun _ _ f => .inl f)⟩) (fun r w1 hr => ?_)
  obtain ⟨rfl, hR1, hB1, hS2⟩ := hr
  clear hS
  refine hK.out _ _ hS2 (fun hS => ?_)
  clear hK K
  simp only [Act.put, List.setIfInBounds_toArray, List.set_cons_zero, List.set_cons_succ]
  refine take_first (i := 3) (some 14) (v := ?_) rfl rfl (by kernel_rfl) (by kernel_rfl) (by kernel_rfl) (fun _ _ _ h => h) (Or.inl ⟨by rfl, ?_⟩) hS ?_
  rotate_left
  · intro w' hSw; go_simp; try with_reducible rfl
  simp only [Act.put, List.setIfInBounds_toArray, List.set_cons_zero, List.set_cons_succ]
  refine wpAnyH_ready (rs := [5]) (by kernel_rfl) (by simp) ?_
  refine AllReadyH.cons rfl (fun K hK => ?_) AllReadyH.nil
  have hp1 := hS.heap HBP.out NBP.out
  have hz1 := hS.size
  refine step_fn (some 16) rfl (by rfl) 37 readS_enters #[.tmp 11, .tmp 14, .tmp 15] #[74, 3, 81] rfl #[.pointer (some ⟨br, 0, none⟩), .int .i64 n, .func (.func 39) #[] #[.pointer (some ⟨bp, 0, none⟩)]] rfl (fun r w' => Kd.R k53 53 w' wE.heap.size (fun _ => True) r xs ∧ Rd w' br L3 e3 ∧ w'.heap[bt]? = some (.cells #[.int .u64 wt, .slice none 0 0, .slice none 0 0] 26 (0, 0)) ∧ Upd (fun k => k = br ∨ k = bt) wE w') ((H3.out bp br w1 hp1 hR1 NPR.out).mono fun e w' h => ⟨h.choose, h.choose_spec.1, Kd.R_lower h.choose_spec.2.1 hz1, h.choose_spec.2.2.1, h.choose_spec.2.2.2.heap hB1 NBT.out, hS.trans h.choose_spec.2.2.2 (fun _ _ f => .inl f)⟩) (fun v w2 hr => ?_)
  obtain ⟨hV, hR2, hB2, hS2⟩ := hr
  clear hS hR1 hB1 hp1 hz1
  refine hK.out _ _ hS2 (fun hS => ?_)
  clear hK K
  obtain ⟨A1, c1, rfl⟩ := Kd.R_slice hV
  simp only [Act.put, List.setIfInBounds_toArray, List.set_cons_zero, List.set_cons_succ]
  refine take_first (i := 6) (some 17) (v := ?_) rfl rfl (by kernel_rfl) (by kernel_rfl) (by kernel_rfl) (fun _ _ _ h => h) (Or.inl ⟨by rfl, ?_⟩) hS ?_
  rotate_left
  · intro w' hSw; go_simp; try with_reducible rfl
  simp only [Act.put, List.setIfInBounds_toArray, List.set_cons_zero, List.set_cons_succ]
  refine wpAnyH_ready (rs := [7]) (by kernel_rfl) (by simp) ?_
  refine AllReadyH.cons rfl (fun K hK => ?_) AllReadyH.nil
  have hB3 := heap_setCell_eq (i := 1) hB2 (.slice A1 xs.length c1)
  refine Rg.step_store rfl (by rfl) 23 (.tmp 17) (.tmp 16) rfl ⟨bt, 1, none⟩ rfl (.slice A1 xs.length c1) rfl (by have q := cell_heap hB2 1 (.slice none 0 0) rfl; have q2 := free_heap hB2 1; go_simp; rfl) (hK.out _ _ (hS.setCell (fun _ => .inr rfl) _) (fun hS5 => ?_))
  clear hK K hS
  have hS := hS5
  clear hS5
  simp only [Act.put, List.setIfInBounds_toArray, List.set_cons_zero, List.set_cons_succ]
  refine wpAnyH_done (by kernel_rfl) ?_ _
  have hR3 : Rd (w2.setCell ⟨bt, 1, none⟩ (.slice A1 xs.length c1)) br L3 e3 := heap_setCell_ne hR2 _ _ (Ne.symm NBT.out)
  have hV3 : Kd.R k53 53 (w2.setCell ⟨bt, 1, none⟩ (.slice A1 xs.length c1)) wE.heap.size (fun _ => True) (.slice A1 xs.length c1) xs := Kd.R_mono (Kd.R_far (Kd.R_bound hV) (fun k hk => by show k ≠ bt; have := hk.2.1; have := LBT.out; omega) _) (fun _ _ => trivial)
  generalize w2.setCell ⟨bt, 1, none⟩ (.slice A1 xs.length c1) = wF1 at hB3 hS hR3 hV3 ⊢
  clear hB2 hR2 hV
--G3end
  have hS1 := hS
  have DP1 := Lib.hid (hS.cell DP.out NBP.out)
  have HBP1 := Lib.hid (hS.heap HBP.out NBP.out)
  have UE2 := UE
  have LBE := LBT
  have HAF := Lib.hid (hS.heap HAE.out (by have := LL.out; omega))
  have UF : Hid (Upd (fun _ => False) w wF1) := UE.out.trans hS (fun i hi f => absurd f (by have := LL.out; omega))
  have LBF : Hid (bt < wF1.heap.size) := Lib.hid (Nat.lt_of_lt_of_le LBT.out hS.size)
  have LEF := Lib.hid hS.size
  have HV1 := Lib.hid hV3
  clear HBT LBT hRd DP HBP HAE UE hS hS1 hV3
  have HBT := Lib.hid hB3
  have LBT := LBF
  have DP := DP1
  have HBP := HBP1
  clear hB3 LBF DP1 HBP1
  go_wp2
  have hRd : Rd wF1.drew br L3 e3 := hR3
--G4
  refine wp_region_held_drew (S := fun w' => Upd (fun k => k = br ∨ k = bt) wF1 w') (by kernel_rfl) (Upd.refl _ _).drew (fun hS => ?_)
  refine take_first (i := 0) (some 18) (v := ?_) rfl rfl (by kernel_rfl) (by kernel_rfl) (by kernel_rfl) (fun _ _ _ h => h) (Or.inl ⟨by rfl, ?_⟩) hS ?_
  rotate_left
  · intro w' hSw; have q0 := hSw.cell DP.out NBP.out; go_simp; try with_reducible rfl
  simp only [Act.put, List.setIfInBounds_toArray, List.set_cons_zero, List.set_cons_succ]
  refine take_first (i := 1) (some 19) (v := ?_) rfl rfl (by kernel_rfl) (by kernel_rfl) (by kernel_rfl) (fun _ _ _ h => h) (Or.inl ⟨by rfl, ?_⟩) hS ?_
  rotate_left
  · intro w' hSw; have q0 := hSw.cell DP.out NBP.out; go_simp; try with_reducible rfl
  simp only [Act.put, List.setIfInBounds_toArray, List.set_cons_zero, List.set_cons_succ]
  refine take_first (i := 4) (some 22) (v := ?_) rfl rfl (by kernel_rfl) (by kernel_rfl) (by kernel_rfl) (fun _ _ _ h => h) (Or.inl ⟨by rfl, ?_⟩) hS ?_
  rotate_left
  · intro w' hSw; go_simp; try with_reducible rfl
  simp only [Act.put, List.setIfInBounds_toArray, List.set_cons_zero, List.set_cons_succ]
  refine wpAnyH_ready (rs := [2]) (by kernel_rfl) (by simp) ?_
  refine AllReadyH.cons rfl (fun K hK => ?_) AllReadyH.nil
  refine step_fn (some 20) rfl (by rfl) 41 u16_enters #[.tmp 19] #[74] rfl #[.pointer (some ⟨br, 0, none⟩)] rfl (fun r w' => r = .int .u16 (m : Nat) ∧ Rd w' br L4 e4 ∧ w'.heap[bt]? = some (.cells #[.int .u64 wt, .slice A1 xs.length c1, .slice none 0 0] 26 (0, 0)) ∧ Upd (fun k => k = br ∨ k = bt) wF1 w') ((H4.out br _ hRd).mono fun e w' h => ⟨_, h.1, rfl, h.2.1, h.2.2.heap HBT.out NBT.out, hS.trans h.2.2 (fun _ _ f => .inl f)⟩) (fun r w1 hr => ?_)
  obtain ⟨rfl, hR1, hB1, hS2⟩ := hr
  clear hS
  refine hK.out _ _ hS2 (fun hS => ?_)
  clear hK K
  simp only [Act.put, List.setIfInBounds_toArray, List.set_cons_zero, List.set_cons_succ]
  refine take_first (i := 3) (some 21) (v := ?_) rfl rfl (by kernel_rfl) (by kernel_rfl) (by kernel_rfl) (fun _ _ _ h => h) (Or.inl ⟨by rfl, ?_⟩) hS ?_
  rotate_left
  · intro w' hSw; go_simp; try with_reducible rfl
  simp only [Act.put, List.setIfInBounds_toArray, List.set_cons_zero, List.set_cons_succ]
  refine wpAnyH_ready (rs := [5]) (by kernel_rfl) (by simp) ?_
  refine AllReadyH.cons rfl (fun K hK => ?_) AllReadyH.nil
  have hp1 := hS.heap HBP.out NBP.out
  have hz1 := hS.size
  refine step_fn (some 23) rfl (by rfl) 42 readR_enters #[.tmp 18, .tmp 21, .tmp 22] #[74, 3, 83] rfl #[.pointer (some ⟨br, 0, none⟩), .int .i64 m, .func (.func 43) #[] #[.pointer (some ⟨bp, 0, none⟩)]] rfl (fun r w' => Kd.R k65 65 w' wF1.heap.size (fun _ => True) r ys ∧ Rd w' br L5 e5 ∧ w'.heap[bt]? = some (.cells #[.int .u64 wt, .slice A1 xs.length c1, .slice none 0 0] 26 (0, 0)) ∧ Upd (fun k => k = br ∨ k = bt) wF1 w') ((H5.out bp br w1 hp1 hR1 NPR.out).mono fun e w' h => ⟨h.choose, h.choose_spec.1, Kd.R_lower h.choose_spec.2.1 hz1, h.choose_spec.2.2.1, h.choose_spec.2.2.2.heap hB1 NBT.out, hS.trans h.choose_spec.2.2.2 (fun _ _ f => .inl f)⟩) (fun v w2 hr => ?_)
  obtain ⟨hV, hR2, hB2, hS2⟩ := hr
  clear hS hR1 hB1 hp1 hz1
  refine hK.out _ _ hS2 (fun hS => ?_)
  clear hK K
  obtain ⟨A2, c2, rfl⟩ := Kd.R_slice hV
  simp only [Act.put, List.setIfInBounds_toArray, List.set_cons_zero, List.set_cons_succ]
  refine take_first (i := 6) (some 24) (v := ?_) rfl rfl (by kernel_rfl) (by kernel_rfl) (by kernel_rfl) (fun _ _ _ h => h) (Or.inl ⟨by rfl, ?_⟩) hS ?_
  rotate_left
  · intro w' hSw; go_simp; try with_reducible rfl
  simp only [Act.put, List.setIfInBounds_toArray, List.set_cons_zero, List.set_cons_succ]
  refine wpAnyH_ready (rs := [7]) (by kernel_rfl) (by simp) ?_
  refine AllReadyH.cons rfl (fun K hK => ?_) AllReadyH.nil
  have hB3 := heap_setCell_eq (i := 2) hB2 (.slice A2 ys.length c2)
  refine Rg.step_store rfl (by rfl) 24 (.tmp 24) (.tmp 23) rfl ⟨bt, 2, none⟩ rfl (.slice A2 ys.length c2) rfl (by have q := cell_heap hB2 2 (.slice none 0 0) rfl; have q2 := free_heap hB2 2; go_simp; rfl) (hK.out _ _ (hS.setCell (fun _ => .inr rfl) _) (fun hS5 => ?_))
  clear hK K hS
  have hS := hS5
  clear hS5
  simp only [Act.put, List.setIfInBounds_toArray, List.set_cons_zero, List.set_cons_succ]
  refine wpAnyH_done (by kernel_rfl) ?_ _
  have hR3 : Rd (w2.setCell ⟨bt, 2, none⟩ (.slice A2 ys.length c2)) br L5 e5 := heap_setCell_ne hR2 _ _ (Ne.symm NBT.out)
  have hV3 : Kd.R k65 65 (w2.setCell ⟨bt, 2, none⟩ (.slice A2 ys.length c2)) wF1.heap.size (fun _ => True) (.slice A2 ys.length c2) ys := Kd.R_mono (Kd.R_far (Kd.R_bound hV) (fun k hk => by show k ≠ bt; have := hk.2.1; have := LBT.out; omega) _) (fun _ _ => trivial)
  generalize w2.setCell ⟨bt, 2, none⟩ (.slice A2 ys.length c2) = wF2 at hB3 hS hR3 hV3 ⊢
  clear hB2 hR2 hV
--G4end
  have HAG := Lib.hid (hS.heap HAF.out (by have := LL.out; omega))
  have UG : Hid (Upd (fun _ => False) w wF2) := UF.out.trans hS (fun i hi f => absurd f (by have := LL.out; omega))
  have HV1' : Kd.R k53 53 wF2 wE.heap.size (fun _ => True) (.slice A1 xs.length c1) xs := Kd.R_mono (Kd.R_move (Kd.R_bound HV1.out) (fun k hk => hS.block k hk.2.2.1 (by have := hk.2.1; have := LL.out; have := LBE.out; show ¬ (k = br ∨ k = bt); omega))) (fun _ _ => trivial)
  have HW1 := Lib.hid HV1'
  have HW2 := Lib.hid hV3
  have S1 : Hid (w.heap.size < wE.heap.size) := Lib.hid (by have := LL.out; have := LBE.out; omega)
  have S2 : Hid (w.heap.size < wF1.heap.size) := Lib.hid (by have := S1.out; have := LEF.out; omega)
  have HB := Lib.hid hB3
  have HR5 := Lib.hid hR3
  have DQ := cell_heap (hS.heap HBP.out NBP.out) 0 (.pointer (some ⟨br, 0, none⟩)) rfl
  clear hB3 hS hR3 hV3 HV1' HV1 HBT LBT DP HBP HAF UF LEF LBE UE2
  by_cases h5 : e5 = 0
  · have h5b : (e5 != 0) = false := by simp [h5]
    have hTe := HTT.out
    rw [if_neg (by simp [h5])] at hTe
    by_cases hL : L5 = []
    · subst hL
      subst h5
      obtain ⟨B1, D1, hBD1, hBl1, hBC1⟩ := Kd.R_reads HW1.out
      injection hBD1 with hq1 hq2 hq3
      subst hq1 hq3
      obtain ⟨B2, D2, hBD2, hBl2, hBC2⟩ := Kd.R_reads HW2.out
      injection hBD2 with hq1 hq2 hq3
      subst hq1 hq3
      have hC := check_walk wt A1 c1 xs A2 c2 ys wF2 hBC1 hBC2
      have m0 := cell_heap HB.out 0 (.int .u64 wt) rfl
      have m1 := cell_heap HB.out 1 (.slice A1 xs.length c1) rfl
      have m2 := cell_heap HB.out 2 (.slice A2 ys.length c2) rfl
      obtain ⟨z, hz⟩ : ∃ z, chk (P1 xs) (P2 ys) = z := ⟨_, rfl⟩
      rw [hz] at hC hTe
      have HC := Lib.hid hC
      clear hC hBC1 hBC2
      by_cases hzz : z = 0
      · subst hzz
        rw [if_neg (by simp)] at hTe
        go_wp2_with (fail)
        refine (Reader_Err br [] 0 _ HR5.out).mono ?_
        rintro e wH ⟨rfl, rfl⟩
        go_wp2_with (fail)
        refine (Reader_Rest br [] 0 _ HR5.out).mono ?_
        rintro e wH ⟨rfl, rfl⟩
        go_wp2_with (fail)
        refine HC.out.mono ?_
        rintro e wH ⟨rfl, hu⟩
        have hbH := hu.heap HB.out (fun f => f)
        have m0 := cell_heap hbH 0 (.int .u64 wt) rfl
        have m1 := cell_heap hbH 1 (.slice A1 xs.length c1) rfl
        have m2 := cell_heap hbH 2 (.slice A2 ys.length c2) rfl
        have hAH := hu.heap HAG.out (fun f => f)
        have g0 := cell_heap hAH 0 (.int .u64 0) rfl
        have g1 := cell_heap hAH 1 (.slice none 0 0) rfl
        have g2 := cell_heap hAH 2 (.slice none 0 0) rfl
        have k0 := free_heap hAH 0
        have k1 := free_heap hAH 1
        have k2 := free_heap hAH 2
        have HAH := Lib.hid hAH
        have HUH := Lib.hid hu
        clear hbH hAH hu
        go_wp2
        have z := set3T HAH.out (.int .u64 wt) (.slice A1 xs.length c1) (.slice A2 ys.length c2)
        have z0 := cell_heap z 0 _ rfl
        have z1 := cell_heap z 1 _ rfl
        have z2 := cell_heap z 2 _ rfl
        refine bodyPost_ret (v := .tuple #[.agg #[.int .u64 wt, .slice A1 xs.length c1, .slice A2 ys.length c2], .int .i64 0]) ?_ rfl ?_
        · simp [results, Try.results17, go_sem, z0, z1, z2]
        · rw [hTe]
          exact ⟨_, _, rfl, Kd.R_lower (R_set3 (R_none HW1.out HUH.out) S1.out _ _ _) (Nat.le_of_lt S1.out), Kd.R_lower (R_set3 (R_none HW2.out HUH.out) S2.out _ _ _) (Nat.le_of_lt S2.out), upd3T (UG.out.trans HUH.out (fun _ _ f => f)) (Nat.lt_irrefl _) _ _ _⟩
      · have hzb : (z != 0) = true := by simp [hzz]
        rw [if_pos (.inr hzz)] at hTe
        go_wp2_with (fail)
        refine (Reader_Err br [] 0 _ HR5.out).mono ?_
        rintro e wH ⟨rfl, rfl⟩
        go_wp2_with (fail)
        refine (Reader_Rest br [] 0 _ HR5.out).mono ?_
        rintro e wH ⟨rfl, rfl⟩
        go_wp2_with (fail)
        refine HC.out.mono ?_
        rintro e wH ⟨rfl, hu⟩
        have hAH := hu.heap HAG.out (fun f => f)
        have g0 := cell_heap hAH 0 (.int .u64 0) rfl
        have g1 := cell_heap hAH 1 (.slice none 0 0) rfl
        have g2 := cell_heap hAH 2 (.slice none 0 0) rfl
        have k0 := free_heap hAH 0
        have k1 := free_heap hAH 1
        have k2 := free_heap hAH 2
        have HAH := Lib.hid hAH
        have HUH := Lib.hid hu
        clear hAH hu
        go_wp2
        have z := set3T HAH.out (.int .u64 0) (.slice none 0 0) (.slice none 0 0)
        have z0 := cell_heap z 0 _ rfl
        have z1 := cell_heap z 1 _ rfl
        have z2 := cell_heap z 2 _ rfl
        refine bodyPost_ret (v := .tuple #[.agg #[.int .u64 0, .slice none 0 0, .slice none 0 0], .int .i64 4]) ?_ rfl ?_
        · simp [results, Try.results17, go_sem, z0, z1, z2]
        · rw [hTe]
          exact ⟨.slice none 0 0, .slice none 0 0, rfl, Kd.R_nil _ _ _ _ _, Kd.R_nil _ _ _ _ _, upd3T (UG.out.trans HUH.out (fun _ _ f => f)) (Nat.lt_irrefl _) _ _ _⟩
    · have hl2 : (⟨L5.toArray⟩ : ByteArray).toList.isEmpty = false := by
        rw [Lib.toList_data]
        cases L5 with
        | nil => exact absurd rfl hL
        | cons _ _ => rfl
      rw [if_pos (.inl hL)] at hTe
      have g0 := cell_heap HAG.out 0 (.int .u64 0) rfl
      have g1 := cell_heap HAG.out 1 (.slice none 0 0) rfl
      have g2 := cell_heap HAG.out 2 (.slice none 0 0) rfl
      have k0 := free_heap HAG.out 0
      have k1 := free_heap HAG.out 1
      have k2 := free_heap HAG.out 2
      go_wp2_with (fail)
      refine (Reader_Err br L5 e5 _ HR5.out).mono ?_
      rintro e wH ⟨rfl, rfl⟩
      go_wp2_with (fail)
      refine (Reader_Rest br L5 e5 _ HR5.out).mono ?_
      rintro e wH ⟨rfl, rfl⟩
      go_wp2
      have z := set3T HAG.out (.int .u64 0) (.slice none 0 0) (.slice none 0 0)
      have z0 := cell_heap z 0 _ rfl
      have z1 := cell_heap z 1 _ rfl
      have z2 := cell_heap z 2 _ rfl
      refine bodyPost_ret (v := .tuple #[.agg #[.int .u64 0, .slice none 0 0, .slice none 0 0], .int .i64 4]) ?_ rfl ?_
      · simp [results, Try.results17, go_sem, z0, z1, z2]
      · rw [hTe]
        exact ⟨.slice none 0 0, .slice none 0 0, rfl, Kd.R_nil _ _ _ _ _, Kd.R_nil _ _ _ _ _, upd3T UG.out (Nat.lt_irrefl _) _ _ _⟩
  · have h5b : (e5 != 0) = true := by simp [h5]
    have hTe := HTT.out
    rw [if_pos h5] at hTe
    have g0 := cell_heap HAG.out 0 (.int .u64 0) rfl
    have g1 := cell_heap HAG.out 1 (.slice none 0 0) rfl
    have g2 := cell_heap HAG.out 2 (.slice none 0 0) rfl
    have k0 := free_heap HAG.out 0
    have k1 := free_heap HAG.out 1
    have k2 := free_heap HAG.out 2
    go_wp2_with (fail)
    refine (Reader_Err br L5 e5 _ HR5.out).mono ?_
    rintro e wH ⟨rfl, rfl⟩
    go_wp2
    have z := set3T HAG.out (.int .u64 0) (.slice none 0 0) (.slice none 0 0)
    have z0 := cell_heap z 0 _ rfl
    have z1 := cell_heap z 1 _ rfl
    have z2 := cell_heap z 2 _ rfl
    refine bodyPost_ret (v := .tuple #[.agg #[.int .u64 0, .slice none 0 0, .slice none 0 0], .int .i64 10]) ?_ rfl ?_
    · simp [results, Try.results17, go_sem, z0, z1, z2]
    · rw [hTe]
      exact ⟨.slice none 0 0, .slice none 0 0, rfl, Kd.R_nil _ _ _ _ _, Kd.R_nil _ _ _ _ _, upd3T UG.out (Nat.lt_irrefl _) _ _ _⟩

def table_Take.f (a0 : ByteArray) : Option (Int × List S53 × List S65 × Int) :=
  if a0.size ≤ 1000000 then some ((tkP a0.data.toList).1.1, (tkP a0.data.toList).1.2.1, (tkP a0.data.toList).1.2.2, (tkP a0.data.toList).2) else none
theorem table_Take.calls (a0 : ByteArray) (r1 : Int) (r2 : List S53) (r3 : List S65) (r4 : Int) (w : World) (h : table_Take.f a0 = some (r1, r2, r3, r4)) :
    Calls Try.prog 17 #[.string a0] w fun e w' => ∃ v1_ v2_ : Value, e = .returned (.tuple #[.agg #[.int .u64 r1, v1_, v2_], .int .i64 r4]) ∧ Kd.R k53 53 w' w.heap.size (fun _ => True) v1_ r2 ∧ Kd.R k65 65 w' w.heap.size (fun _ => True) v2_ r3 ∧ Below w.heap.size w w' := by
  unfold table_Take.f at h
  split at h
  · rename_i hc
    simp only [Option.some.injEq, Prod.mk.injEq] at h
    obtain ⟨rfl, rfl, rfl, rfl⟩ := h
    have := take_walk a0.data.toList w (by rw [← Lib.size_eq]; exact hc)
    exact this.mono fun e w' ⟨v1, v2, he, k1, k2, hu⟩ => ⟨v1, v2, he, k1, k2, hu.below (Nat.le_refl _) (fun _ f => f.elim)⟩
  · cases h

end Go.Proofs.Ytlhjhkmmgkfmpaa.Px
