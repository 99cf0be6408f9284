/- SpansPlays. -/
import Derived.Test.YtoblihckojnffaaSpX
set_option linter.unusedVariables false
set_option linter.unusedSimpArgs false
namespace Go.Proofs.Ytoblihckojnffaa
open Go.RowKit Go.Shelf
set_option maxRecDepth 100000

theorem add_field (p : Addr) (a n : Nat) (hn : n ≠ 0) : p.add (a + n) = ⟨(p.add a).block, (p.add a).off + n, none⟩ := by
  unfold Addr.add
  rw [if_neg (by omega)]
  by_cases ha : a = 0
  · subst ha; rw [if_pos rfl, Nat.zero_add]
  · rw [if_neg ha]; simp only [Addr.mk.injEq, and_true, true_and]; omega
set_option maxHeartbeats 4000000 in
theorem walk_SpansPlays (w : World) (n : Int) {ad : Option Addr} {cp : Nat} {l : List SAct} (h : SActsAt w w.heap.size ad l) :
    Calls Try.prog 3 #[.int .i64 n, .slice ad l.length cp] w fun e w' => e = .returned (.bool true) ∧ Upd (fun _ => False) w w' := by
  obtain ⟨M, hM⟩ : ∃ M, M = l.length := ⟨_, rfl⟩
  rw [← hM]
  have HM := Lib.hid hM
  have HA := Lib.hid h
  have HWk := Lib.hid (fun w' => works_ok w')
  clear hM h
  by_cases hn : 1 ≤ n ∧ n ≤ 4096
  rotate_left
  · have H1 := Lib.hid (sp_New_no w n hn)
    have H2 := Lib.hid (ref_New_no w n (by omega))
    clear hn
    go_enter Try.func3, Try.ntmps3
    go_wp2_with (fail)
    refine H1.out.mono ?_
    rintro e w1 ⟨rfl, rfl⟩
    go_wp2_with (fail)
    refine H2.out.mono ?_
    rintro e w1 ⟨rfl, rfl⟩
    go_wp2_with (fail)
    refine (HWk.out _).mono ?_
    rintro e w2 ⟨rfl, u2⟩
    go_wp2
    go_ret
    exact ⟨rfl, u2⟩
  obtain ⟨N, rfl⟩ := Int.eq_ofNat_of_zero_le (show 0 ≤ n by omega)
  have HN := Lib.hid (show 1 ≤ N ∧ N ≤ 4096 by omega)
  have H1 := Lib.hid (new0 w (N : Int) hn)
  clear hn
  go_enter Try.func3, Try.ntmps3
  go_wp2_with (fail)
  refine H1.out.mono ?_
  rintro e w1 ⟨b, rfl, k1⟩
  have H2 := Lib.hid (ref_New w1 N HN.out)
  have K1 := Lib.hid k1
  clear k1
  go_wp2_with (fail)
  refine H2.out.mono ?_
  rintro e w2 ⟨r, g, rfl, k2, u2⟩
  have hb : Both w w2 b r g N (N : Int) [] := by
    refine ⟨K1.out.later u2, SpOk.nil (by have := HN.out; omega), ⟨_, ⟨k2.set, k2.row, ?_, k2.num, k2.fit⟩, says_new N⟩⟩
    have := K1.out.upd.size
    have := k2.low
    omega
  have HB := Lib.hid hb
  clear hb k2 u2
  by_cases hM2 : (80 : Int) < (M : Int)
  · go_wp2_with (fail)
    refine (HWk.out _).mono ?_
    rintro e w3 ⟨rfl, u3⟩
    go_wp2
    go_ret
    exact ⟨rfl, HB.out.set.upd.trans u3 (fun _ _ f => f)⟩
  go_wp2
  go_loopg [5, 6, 7] M (fun q s5 s6 s7 wr => ∃ (i b r g cap : Nat) (xs : List Ex), s7 = .int .i64 i ∧ i + q = M ∧ s5 = .pointer (some ⟨b, 0, none⟩) ∧ s6 = .pointer (some ⟨r, 0, none⟩) ∧ Hid (Both w wr b r g cap (N : Int) xs))
  case atStart => exact ⟨0, b, r, g, N, [], rfl, by omega, rfl, rfl, HB⟩
  case round =>
    clear HB
    obtain ⟨i, b, r, g, cap, xs, rfl, hiq, rfl, rfl, hW⟩ := hrel
    cases gk with
    | zero =>
      obtain rfl : i = M := by omega
      go_wp2_with (fail)
      refine (HWk.out _).mono ?_
      rintro e w2 ⟨rfl, u2⟩
      go_wp2
      go_ret
      exact ⟨rfl, hW.out.set.upd.trans u2 (fun _ _ f => f)⟩
    | succ q =>
      have hil : i < l.length := by have := HM.out; omega
      have hLi := List.getElem?_eq_getElem hil
      obtain ⟨hx, pa, rfl, hload⟩ := (HA.out.upd hW.out.set.upd (fun _ _ f => f)).load i l[i] hLi
      generalize l[i] = x at hx hload hLi
      obtain ⟨what, a, bb, ask⟩ := x
      change (loadVar 31 (pa.add (i * 4))).run Try.prog wr = .ok (.agg #[.int .u8 (what : Int), .int .i64 a, .int .i64 bb, .int .i64 ask]) wr at hload
      have HLD := Lib.hid hload
      have HLi := Lib.hid hLi
      have hd : decide ((i : Int) < (M : Int)) = true := decide_eq_true (by omega)
      have hi2 : IntKind.i64.wrap ((i : Int) + 1) = (i : Int) + 1 := IntWalk.i64_in _ (by omega)
      have HOne := Lib.hid (one_ok hW.out what hx a bb ask)
      clear hload hil hW hx hLi
      go_wp2_with (refine wpList_load_by rfl 31 (.tmp 37) rfl (pa.add (i * 4)) rfl _ HLD.out ?_)
      refine HOne.out.mono ?_
      rintro e w3 ⟨b, r, g, cap, l2, rfl, hB⟩
      have HB := Lib.hid hB
      obtain ⟨_, p2, ep, _, hc⟩ := (HA.out.upd hB.set.upd (fun _ _ f => f)).one i _ HLi.out
      obtain rfl : pa = p2 := Option.some.inj ep
      have cAsk := hc 3 _ rfl
      rw [add_field _ _ _ (by omega)] at cAsk
      have HHas := Lib.hid (fun w' (hu : Upd (fun _ => False) w3 w') => new_has (hB.set.later hu) hB.ok ask)
      have HRHas := Lib.hid (fun w' (hu : Upd (fun _ => False) w3 w') => play_has (hB.ref.upd (F := fun _ => False) hu) ask)
      have HCnt := Lib.hid (fun w' (hu : Upd (fun _ => False) w3 w') => new_count (hB.set.later hu) hB.ok)
      have HRCnt := Lib.hid (fun w' (hu : Upd (fun _ => False) w3 w') => play_count (hB.ref.upd (F := fun _ => False) hu) hB.ok)
      have HLst := Lib.hid (fun w' (hu : Upd (fun _ => False) w3 w') => new_list (hB.set.later hu) hB.ok)
      have HRLst := Lib.hid (fun w' (hu : Upd (fun _ => False) w3 w') => play_list (hB.ref.upd (F := fun _ => False) hu) hB.ok)
      have HL4 := Lib.hid (show l2.length ≤ 100000 by have := hB.ok.len; have := hB.ok.1; omega)
      generalize (decide (0 ≤ ask) && decide (ask < (N : Int)) && hasB l2 ask) = HB2 at HHas HRHas
      generalize cntE l2 = CT at HCnt HRCnt
      have hbb : (HB2 != HB2) = false := by simp
      have hcc : (CT != CT) = false := by simp
      clear hc ep hB HLD HOne
      go_wp2
      refine wp_region_held_drew (S := fun w' => Upd (fun _ => False) w3 w') (by kernel_rfl) (Upd.refl _ _).drew (fun hS => ?_)
      refine take_first (i := 0) (some 43) (v := ?_) rfl rfl (by kernel_rfl) (by kernel_rfl) (by kernel_rfl) (fun _ _ _ h => h) (Or.inl ⟨by rfl, ?_⟩) hS ?_
      rotate_left
      · intro w' hSw; go_simp; try with_reducible rfl
      try simp only [Act.put, List.setIfInBounds_toArray, List.set_cons_zero, List.set_cons_succ]
      refine take_first (i := 1) (some 44) (v := ?_) rfl rfl (by kernel_rfl) (by kernel_rfl) (by kernel_rfl) (fun _ _ _ h => h) (Or.inl ⟨by rfl, ?_⟩) hS ?_
      rotate_left
      · intro w' hSw; go_simp; try with_reducible rfl
      try simp only [Act.put, List.setIfInBounds_toArray, List.set_cons_zero, List.set_cons_succ]
      refine take_first (i := 2) (some 45) (v := ?_) rfl rfl (by kernel_rfl) (by kernel_rfl) (by kernel_rfl) (fun _ _ _ h => h) (Or.inl ⟨by rfl, ?_⟩) hS ?_
      rotate_left
      · intro w' hSw; go_simp; try with_reducible rfl
      try simp only [Act.put, List.setIfInBounds_toArray, List.set_cons_zero, List.set_cons_succ]
      refine take_first (i := 3) (some 46) (v := ?_) rfl rfl (by kernel_rfl) (by kernel_rfl) (by kernel_rfl) (fun _ _ _ h => h) (Or.inl ⟨by rfl, ?_⟩) hS ?_
      rotate_left
      · intro w' hSw; go_simp; try with_reducible rfl
      try simp only [Act.put, List.setIfInBounds_toArray, List.set_cons_zero, List.set_cons_succ]
      refine take_first (i := 4) (some 47) (v := ?_) rfl rfl (by kernel_rfl) (by kernel_rfl) (by kernel_rfl) (fun _ _ _ h => h) (Or.inl ⟨by rfl, ?_⟩) hS ?_
      rotate_left
      · intro w' hSw; go_simp; try with_reducible rfl
      try simp only [Act.put, List.setIfInBounds_toArray, List.set_cons_zero, List.set_cons_succ]
      refine take_first (i := 5) (some 48) (v := ?_) rfl rfl (by kernel_rfl) (by kernel_rfl) (by kernel_rfl) (fun _ _ _ h => h) (Or.inl ⟨by rfl, ?_⟩) hS ?_
      rotate_left
      · intro w' hSw; go_simp; try with_reducible rfl
      try simp only [Act.put, List.setIfInBounds_toArray, List.set_cons_zero, List.set_cons_succ]
      refine take_first (i := 6) (some 49) (v := ?_) rfl rfl (by kernel_rfl) (by kernel_rfl) (by kernel_rfl) (fun _ _ _ h => h) (Or.inl ⟨by rfl, ?_⟩) hS ?_
      rotate_left
      · intro w' hSw; go_simp; try with_reducible rfl
      try simp only [Act.put, List.setIfInBounds_toArray, List.set_cons_zero, List.set_cons_succ]
      refine take_first (i := 7) (some 50) (v := ?_) rfl rfl (by kernel_rfl) (by kernel_rfl) (by kernel_rfl) (fun _ _ _ h => h) (Or.inl ⟨by rfl, ?_⟩) hS ?_
      rotate_left
      · intro w' hSw; go_simp; try with_reducible rfl
      try simp only [Act.put, List.setIfInBounds_toArray, List.set_cons_zero, List.set_cons_succ]
      refine take_first (i := 8) (some 51) (v := ?_) rfl rfl (by kernel_rfl) (by kernel_rfl) (by kernel_rfl) (fun _ _ _ h => h) (Or.inl ⟨by rfl, ?_⟩) hS ?_
      rotate_left
      · intro w' hSw; have lc := hSw.cell cAsk (fun f => f); go_simp; try with_reducible rfl
      try simp only [Act.put, List.setIfInBounds_toArray, List.set_cons_zero, List.set_cons_succ]
      refine take_first (i := 10) (some 53) (v := ?_) rfl rfl (by kernel_rfl) (by kernel_rfl) (by kernel_rfl) (fun _ _ _ h => h) (Or.inl ⟨by rfl, ?_⟩) hS ?_
      rotate_left
      · intro w' hSw; go_simp; try with_reducible rfl
      try simp only [Act.put, List.setIfInBounds_toArray, List.set_cons_zero, List.set_cons_succ]
      refine take_first (i := 11) (some 54) (v := ?_) rfl rfl (by kernel_rfl) (by kernel_rfl) (by kernel_rfl) (fun _ _ _ h => h) (Or.inl ⟨by rfl, ?_⟩) hS ?_
      rotate_left
      · intro w' hSw; go_simp; try with_reducible rfl
      try simp only [Act.put, List.setIfInBounds_toArray, List.set_cons_zero, List.set_cons_succ]
      refine take_first (i := 12) (some 55) (v := ?_) rfl rfl (by kernel_rfl) (by kernel_rfl) (by kernel_rfl) (fun _ _ _ h => h) (Or.inl ⟨by rfl, ?_⟩) hS ?_
      rotate_left
      · intro w' hSw; go_simp; try with_reducible rfl
      try simp only [Act.put, List.setIfInBounds_toArray, List.set_cons_zero, List.set_cons_succ]
      refine take_first (i := 13) (some 56) (v := ?_) rfl rfl (by kernel_rfl) (by kernel_rfl) (by kernel_rfl) (fun _ _ _ h => h) (Or.inl ⟨by rfl, ?_⟩) hS ?_
      rotate_left
      · intro w' hSw; go_simp; try with_reducible rfl
      try simp only [Act.put, List.setIfInBounds_toArray, List.set_cons_zero, List.set_cons_succ]
      refine take_first (i := 14) (some 57) (v := ?_) rfl rfl (by kernel_rfl) (by kernel_rfl) (by kernel_rfl) (fun _ _ _ h => h) (Or.inl ⟨by rfl, ?_⟩) hS ?_
      rotate_left
      · intro w' hSw; go_simp; try with_reducible rfl
      try simp only [Act.put, List.setIfInBounds_toArray, List.set_cons_zero, List.set_cons_succ]
      refine take_first (i := 15) (some 58) (v := ?_) rfl rfl (by kernel_rfl) (by kernel_rfl) (by kernel_rfl) (fun _ _ _ h => h) (Or.inl ⟨by rfl, ?_⟩) hS ?_
      rotate_left
      · intro w' hSw; have lc := hSw.cell cAsk (fun f => f); go_simp; try with_reducible rfl
      try simp only [Act.put, List.setIfInBounds_toArray, List.set_cons_zero, List.set_cons_succ]
      refine wpAnyH_ready (rs := [9]) (by kernel_rfl) (by simp) ?_
      refine AllReadyH.cons rfl (fun K hK => ?_) AllReadyH.nil
      refine step_fn (some 52) rfl (by rfl) 10 (enters_of Try.func10 rfl rfl) #[.tmp 46, .tmp 51] #[23, 3] rfl #[.pointer (some ⟨b, 0, none⟩), .int .i64 ask] rfl (fun r w1 => r = .bool HB2 ∧ Upd (fun _ => False) w3 w1) (by
        refine (HHas.out _ hS).mono ?_
        rintro e w1 ⟨rfl, u⟩
        exact ⟨_, rfl, rfl, hS.trans u (fun _ _ f => f)⟩) ?_
      rintro r w1 ⟨rfl, u1⟩
      refine hK.out _ _ u1 (fun _ => ?_)
      clear hS; have hS := u1
      clear hK K
      try simp only [Act.put, List.setIfInBounds_toArray, List.set_cons_zero, List.set_cons_succ]
      refine wpAnyH_ready (rs := [16]) (by kernel_rfl) (by simp) ?_
      refine AllReadyH.cons rfl (fun K hK => ?_) AllReadyH.nil
      refine step_fn (some 59) rfl (by rfl) 11 (enters_of Try.func11 rfl rfl) #[.tmp 53, .tmp 58] #[25, 3] rfl #[.pointer (some ⟨r, 0, none⟩), .int .i64 ask] rfl (fun r w1 => r = .bool HB2 ∧ Upd (fun _ => False) w3 w1) (by
        refine (HRHas.out _ hS).mono ?_
        rintro e w1 ⟨rfl, rfl⟩
        exact ⟨_, rfl, rfl, hS⟩) ?_
      rintro r w1 ⟨rfl, u1⟩
      refine hK.out _ _ u1 (fun _ => ?_)
      clear hS; have hS := u1
      clear hK K
      try simp only [Act.put, List.setIfInBounds_toArray, List.set_cons_zero, List.set_cons_succ]
      refine take_first (i := 17) (some 60) (v := ?_) rfl rfl (by kernel_rfl) (by kernel_rfl) (by kernel_rfl) (fun _ _ _ h => h) (Or.inl ⟨by rfl, ?_⟩) hS ?_
      rotate_left
      · intro w' hSw; go_simp; try with_reducible rfl
      try simp only [Act.put, List.setIfInBounds_toArray, List.set_cons_zero, List.set_cons_succ]
      refine take_first (i := 18) (some 61) (v := ?_) rfl rfl (by kernel_rfl) (by kernel_rfl) (by kernel_rfl) (fun _ _ _ h => h) (Or.inl ⟨by rfl, ?_⟩) hS ?_
      rotate_left
      · intro w' hSw; go_simp; try with_reducible rfl
      try simp only [Act.put, List.setIfInBounds_toArray, List.set_cons_zero, List.set_cons_succ]
      refine take_first (i := 19) (some 62) (v := ?_) rfl rfl (by kernel_rfl) (by kernel_rfl) (by kernel_rfl) (fun _ _ _ h => h) (Or.inl ⟨by rfl, ?_⟩) hS ?_
      rotate_left
      · intro w' hSw; go_simp; try with_reducible rfl
      try simp only [Act.put, List.setIfInBounds_toArray, List.set_cons_zero, List.set_cons_succ]
      refine take_first (i := 20) (some 63) (v := ?_) rfl rfl (by kernel_rfl) (by kernel_rfl) (by kernel_rfl) (fun _ _ _ h => h) (Or.inl ⟨by rfl, ?_⟩) hS ?_
      rotate_left
      · intro w' hSw; go_simp; try with_reducible rfl
      try simp only [Act.put, List.setIfInBounds_toArray, List.set_cons_zero, List.set_cons_succ]
      refine take_first (i := 22) (some 65) (v := ?_) rfl rfl (by kernel_rfl) (by kernel_rfl) (by kernel_rfl) (fun _ _ _ h => h) (Or.inl ⟨by rfl, ?_⟩) hS ?_
      rotate_left
      · intro w' hSw; go_simp; try with_reducible rfl
      try simp only [Act.put, List.setIfInBounds_toArray, List.set_cons_zero, List.set_cons_succ]
      refine wpAnyH_ready (rs := [21]) (by kernel_rfl) (by simp) ?_
      refine AllReadyH.cons rfl (fun K hK => ?_) AllReadyH.nil
      refine step_fn (some 64) rfl (by rfl) 12 (enters_of Try.func12 rfl rfl) #[.tmp 63] #[23] rfl #[.pointer (some ⟨b, 0, none⟩)] rfl (fun r w1 => r = .int .i64 CT ∧ Upd (fun _ => False) w3 w1) (by
        refine (HCnt.out _ hS).mono ?_
        rintro e w1 ⟨rfl, u⟩
        exact ⟨_, rfl, rfl, hS.trans u (fun _ _ f => f)⟩) ?_
      rintro r w1 ⟨rfl, u1⟩
      refine hK.out _ _ u1 (fun _ => ?_)
      clear hS; have hS := u1
      clear hK K
      try simp only [Act.put, List.setIfInBounds_toArray, List.set_cons_zero, List.set_cons_succ]
      refine wpAnyH_ready (rs := [23]) (by kernel_rfl) (by simp) ?_
      refine AllReadyH.cons rfl (fun K hK => ?_) AllReadyH.nil
      refine step_fn (some 66) rfl (by rfl) 13 (enters_of Try.func13 rfl rfl) #[.tmp 65] #[25] rfl #[.pointer (some ⟨r, 0, none⟩)] rfl (fun r w1 => r = .int .i64 CT ∧ Upd (fun _ => False) w3 w1) (by
        refine (HRCnt.out _ hS).mono ?_
        rintro e w1 ⟨rfl, rfl⟩
        exact ⟨_, rfl, rfl, hS⟩) ?_
      rintro r w1 ⟨rfl, u1⟩
      refine hK.out _ _ u1 (fun _ => ?_)
      clear hS; have hS := u1
      clear hK K
      try simp only [Act.put, List.setIfInBounds_toArray, List.set_cons_zero, List.set_cons_succ]
      refine take_first (i := 24) (some 67) (v := ?_) rfl rfl (by kernel_rfl) (by kernel_rfl) (by kernel_rfl) (fun _ _ _ h => h) (Or.inl ⟨by rfl, ?_⟩) hS ?_
      rotate_left
      · intro w' hSw; go_simp; try with_reducible rfl
      try simp only [Act.put, List.setIfInBounds_toArray, List.set_cons_zero, List.set_cons_succ]
      refine take_first (i := 25) (some 68) (v := ?_) rfl rfl (by kernel_rfl) (by kernel_rfl) (by kernel_rfl) (fun _ _ _ h => h) (Or.inl ⟨by rfl, ?_⟩) hS ?_
      rotate_left
      · intro w' hSw; go_simp; try with_reducible rfl
      try simp only [Act.put, List.setIfInBounds_toArray, List.set_cons_zero, List.set_cons_succ]
      refine take_first (i := 26) (some 69) (v := ?_) rfl rfl (by kernel_rfl) (by kernel_rfl) (by kernel_rfl) (fun _ _ _ h => h) (Or.inl ⟨by rfl, ?_⟩) hS ?_
      rotate_left
      · intro w' hSw; go_simp; try with_reducible rfl
      try simp only [Act.put, List.setIfInBounds_toArray, List.set_cons_zero, List.set_cons_succ]
      refine take_first (i := 27) (some 70) (v := ?_) rfl rfl (by kernel_rfl) (by kernel_rfl) (by kernel_rfl) (fun _ _ _ h => h) (Or.inl ⟨by rfl, ?_⟩) hS ?_
      rotate_left
      · intro w' hSw; go_simp; try with_reducible rfl
      try simp only [Act.put, List.setIfInBounds_toArray, List.set_cons_zero, List.set_cons_succ]
      refine take_first (i := 29) (some 72) (v := ?_) rfl rfl (by kernel_rfl) (by kernel_rfl) (by kernel_rfl) (fun _ _ _ h => h) (Or.inl ⟨by rfl, ?_⟩) hS ?_
      rotate_left
      · intro w' hSw; go_simp; try with_reducible rfl
      try simp only [Act.put, List.setIfInBounds_toArray, List.set_cons_zero, List.set_cons_succ]
      refine wpAnyH_ready (rs := [28]) (by kernel_rfl) (by simp) ?_
      refine AllReadyH.cons rfl (fun K hK => ?_) AllReadyH.nil
      refine step_fn (some 71) rfl (by rfl) 15 (enters_of Try.func15 rfl rfl) #[.tmp 70] #[23] rfl #[.pointer (some ⟨b, 0, none⟩)] rfl (fun r w1 => ∃ row, PairsAt w1 r row l2 ∧ Upd (fun _ => False) w3 w1) (by
        refine (HLst.out _ hS).mono ?_
        rintro e w1 ⟨v, row, rfl, p, _, u⟩
        exact ⟨_, rfl, row, p, hS.trans u (fun _ _ f => f)⟩) ?_
      rintro r w1 ⟨row1, p1, u1⟩
      obtain ⟨ad1, cp1, rfl, _⟩ := id p1
      have P1 := Lib.hid p1
      clear p1
      refine hK.out _ _ u1 (fun _ => ?_)
      clear hS; have hS := u1
      clear hK K
      try simp only [Act.put, List.setIfInBounds_toArray, List.set_cons_zero, List.set_cons_succ]
      refine wpAnyH_ready (rs := [30]) (by kernel_rfl) (by simp) ?_
      refine AllReadyH.cons rfl (fun K hK => ?_) AllReadyH.nil
      refine step_fn (some 73) rfl (by rfl) 16 (enters_of Try.func16 rfl rfl) #[.tmp 72] #[25] rfl #[.pointer (some ⟨r, 0, none⟩)] rfl (fun r w1 => (∃ row, PairsAt w1 (.slice ad1 l2.length cp1) row1 l2 ∧ PairsAt w1 r row l2) ∧ Upd (fun _ => False) w3 w1) (by
        refine (HRLst.out _ hS).mono ?_
        rintro e w1 ⟨v, row, rfl, p, _, u⟩
        exact ⟨_, rfl, ⟨row, P1.out.upd u (fun _ _ f => f), p⟩, hS.trans u (fun _ _ f => f)⟩) ?_
      rintro r w1 ⟨⟨row2, p0, p2⟩, u2⟩
      obtain ⟨ad2, cp2, rfl, _⟩ := id p2
      have HSm := Lib.hid (same_eq p0 p2 HL4.out)
      rw [decide_eq_true (show l2 = l2 from rfl)] at HSm
      clear p0 p2
      refine hK.out _ _ u2 (fun _ => ?_)
      clear hS; have hS := u2
      clear hK K
      try simp only [Act.put, List.setIfInBounds_toArray, List.set_cons_zero, List.set_cons_succ]
      refine wpAnyH_ready (rs := [31]) (by kernel_rfl) (by simp) ?_
      refine AllReadyH.cons rfl (fun K hK => ?_) AllReadyH.nil
      refine step_fn (some 74) rfl (by rfl) 14 (enters_of Try.func14 rfl rfl) #[.tmp 71, .tmp 73] #[35, 37] rfl #[.slice ad1 l2.length cp1, .slice ad2 l2.length cp2] rfl (fun r w1 => r = .bool true ∧ Upd (fun _ => False) w3 w1) (by
        refine (HSm.out).mono ?_
        rintro e w1 ⟨rfl, u⟩
        exact ⟨_, rfl, rfl, hS.trans u (fun _ _ f => f)⟩) ?_
      rintro r w1 ⟨rfl, u1⟩
      refine hK.out _ _ u1 (fun _ => ?_)
      clear hS; have hS := u1
      clear hK K
      try simp only [Act.put, List.setIfInBounds_toArray, List.set_cons_zero, List.set_cons_succ]
      refine take_first (i := 32) (some 75) (v := ?_) rfl rfl (by kernel_rfl) (by kernel_rfl) (by kernel_rfl) (fun _ _ _ h => h) (Or.inl ⟨by rfl, ?_⟩) hS ?_
      rotate_left
      · intro w' hSw; go_simp; try with_reducible rfl
      try simp only [Act.put, List.setIfInBounds_toArray, List.set_cons_zero, List.set_cons_succ]
      refine take_first (i := 33) (some 76) (v := ?_) rfl rfl (by kernel_rfl) (by kernel_rfl) (by kernel_rfl) (fun _ _ _ h => h) (Or.inl ⟨by rfl, ?_⟩) hS ?_
      rotate_left
      · intro w' hSw; go_simp; try with_reducible rfl
      try simp only [Act.put, List.setIfInBounds_toArray, List.set_cons_zero, List.set_cons_succ]
      refine wpAnyH_done (by kernel_rfl) ?_ _
      have hU := Lib.hid (HB.out.later hS)
      go_wp2
      go_roundg q
      case measure => omega
      case rel => exact ⟨i + 1, b, r, g, cap, l2, by rw [Int.natCast_add]; rfl, by omega, rfl, rfl, hU⟩

end Go.Proofs.Ytoblihckojnffaa
