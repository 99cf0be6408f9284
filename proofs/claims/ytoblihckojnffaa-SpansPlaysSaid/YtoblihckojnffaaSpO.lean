/- told. -/
import Derived.Test.YtoblihckojnffaaSpN
set_option linter.unusedVariables false
set_option linter.unusedSimpArgs false
namespace Go.Proofs.Ytoblihckojnffaa
open Go.RowKit Go.Shelf
set_option maxRecDepth 100000

/-- A row of bools, whole. -/
def BoolsAt (w : World) (g : Nat) (bits : List Bool) : Prop := w.heap[g]? = some (.cells (bits.map Value.bool).toArray 4 (0, 0))
theorem BoolsAt.at {w : World} {g : Nat} {bits : List Bool} (h : BoolsAt w g bits) (k : Nat) (b : Bool) (hk : bits[k]? = some b) : w.cell? ⟨g, k, none⟩ = some (.bool b) := cell_heap h k _ (by simp [hk])
theorem BoolsAt.free {w : World} {g : Nat} {bits : List Bool} (h : BoolsAt w g bits) (k : Nat) : w.frozen? ⟨g, k, none⟩ = false := free_heap h k
/-- The bools say which sectors there are. -/
def Says (n : Int) (l : List Ex) (bits : List Bool) : Prop := (bits.length : Int) = n ∧ ∀ k : Nat, k < bits.length → bits[k]? = some (hasB l (k : Int))
theorem cnt_range (a b : Nat) (hab : a ≤ b) : ∀ n : Nat, (List.range n).countP (fun k => decide (a ≤ k) && decide (k < b)) = min n b - min n a
  | 0 => by simp
  | n + 1 => by
    rw [List.range_succ, List.countP_append, cnt_range a b hab n, List.countP_singleton]
    by_cases h : a ≤ n ∧ n < b
    · rw [if_pos (by simpa using h)]; omega
    · rw [if_neg (by simpa using h)]; omega
theorem countP_disj {α : Type} (p q : α → Bool) (h : ∀ x, ¬ (p x = true ∧ q x = true)) : ∀ l : List α, l.countP (fun x => p x || q x) = l.countP p + l.countP q
  | [] => rfl
  | x :: l => by
    rw [List.countP_cons, List.countP_cons, List.countP_cons, countP_disj p q h l]
    have := h x
    cases hp : p x <;> cases hq : q x <;> simp_all <;> omega
theorem cnt_has {n : Int} : ∀ (l : List Ex), SpOk n l → (((List.range n.toNat).countP (fun k : Nat => hasB l (k : Int)) : Nat) : Int) = cntE l
  | [], _ => by
    rw [List.countP_eq_zero.2 (fun a _ => by rw [hasB_nil]; decide)]
    rfl
  | x :: r, h => by
    have hx := h.2.1 x (List.mem_cons_self ..)
    have hq : ∀ z ∈ r, x.1 + x.2 < z.1 := (List.pairwise_cons.1 h.2.2).1
    have hd := countP_disj (fun k : Nat => inE x (k : Int)) (fun k : Nat => hasB r (k : Int)) (fun k ⟨h1, h2⟩ => by
      have := (inE_iff x k).1 h1
      obtain ⟨z, hz, h3, h4⟩ := (hasB_iff r k).1 h2
      have := hq z hz
      omega) (List.range n.toNat)
    have e : (List.range n.toNat).countP (fun k : Nat => inE x (k : Int)) = x.2.toNat := by
      have := cnt_range x.1.toNat (x.1 + x.2).toNat (by omega) n.toNat
      rw [show (fun k : Nat => inE x (k : Int)) = (fun k : Nat => decide (x.1.toNat ≤ k) && decide (k < (x.1 + x.2).toNat)) from funext fun k => by
        unfold inE
        rw [Bool.eq_iff_iff]
        simp only [Bool.and_eq_true, decide_eq_true_eq]
        omega, this]
      omega
    rw [show (fun k : Nat => hasB (x :: r) (k : Int)) = (fun k : Nat => inE x (k : Int) || hasB r (k : Int)) from funext fun k => hasB_cons x r k, hd, e, cntE_cons, Int.natCast_add, cnt_has r h.tail]
    omega
theorem cnt_bits {n : Int} {l : List Ex} {bits : List Bool} (h : SpOk n l) (hs : Says n l bits) : ((bits.count true : Nat) : Int) = cntE l := by
  have hl : bits = (List.range n.toNat).map (fun k : Nat => hasB l (k : Int)) := by
    refine List.ext_getElem? fun i => ?_
    rw [List.getElem?_map]
    by_cases hi : i < bits.length
    · rw [hs.2 i hi, List.getElem?_range (by have := hs.1; omega)]; rfl
    · rw [List.getElem?_eq_none (by omega), List.getElem?_eq_none (by rw [List.length_range]; have := hs.1; omega)]; rfl
  rw [hl, List.count_eq_countP, List.countP_map, ← cnt_has l h]
  congr 2
  funext k
  simp
theorem has_enters : Enters Try.prog 10 := enters_of Try.func10 rfl rfl
def endL (l : List Ex) (i : Nat) : Int := match (l.take i).getLast? with | none => -1 | some z => z.1 + z.2
theorem endL_succ (l : List Ex) (i : Nat) (h : i < l.length) : endL l (i + 1) = l[i].1 + l[i].2 := by
  unfold endL
  rw [List.take_succ_eq_append_getElem h, List.getLast?_concat]
theorem endL_lt {n : Int} {l : List Ex} (h : SpOk n l) (i : Nat) (hi : i < l.length) : endL l i < l[i].1 := by
  cases i with
  | zero => have := (h.2.1 _ (List.getElem_mem hi)).1; show (-1 : Int) < _; omega
  | succ j => rw [endL_succ l j (by omega)]; exact List.pairwise_iff_getElem.1 h.2.2 j (j + 1) (by omega) hi (by omega)
theorem endL_rng {n : Int} {l : List Ex} (h : SpOk n l) (i : Nat) : -1 ≤ endL l i ∧ endL l i ≤ n := by
  have hn := h.1
  unfold endL
  cases e : (l.take i).getLast? with
  | none => dsimp only; omega
  | some z =>
    dsimp only
    have := h.2.1 z (List.mem_of_mem_take (List.mem_of_getLast? e))
    omega
def sumTo (l : List Ex) (i : Nat) : Int := cntE (l.take i)
set_option maxHeartbeats 2000000 in
theorem told_ok {w : World} {b : Nat} {row : Option Nat} {n : Int} {v : Value} {l : List Ex} {bits : List Bool} {g cap : Nat} (h : SpAt w b row n v l) (hok : SpOk n l) (hb : BoolsAt w g bits) (hs : Says n l bits) :
    Calls Try.prog 21 #[.pointer (some ⟨b, 0, none⟩), .slice (some ⟨g, 0, none⟩) bits.length cap] w fun e w' => e = .returned (.bool true) ∧ Upd (fun _ => False) w w' := by
  obtain ⟨N, hN⟩ : ∃ N, N = bits.length := ⟨_, rfl⟩
  rw [← hN]
  have hnN : n = (N : Int) := by rw [hN]; exact hs.1.symm
  have hN4 : N ≤ 4096 := by have := hok.1; omega
  have HN := Lib.hid hN
  have HNN := Lib.hid hnN
  have HHas := fun k : Int => fun w' (hu : Upd (fun _ => False) w w') => Lib.hid (sp_Has (h.upd hu (fun f => f) (fun _ _ f => f)) hok k)
  have HL := fun w' (hu : Upd (fun _ => False) w w') => Lib.hid (sp_List (h.upd hu (fun f => f) (fun _ _ f => f)) hok)
  have HO := Lib.hid hok
  have HB := Lib.hid hb
  have HS := Lib.hid hs
  have HCB := Lib.hid (cnt_bits hok hs)
  clear h hok hb hs hnN hN
  go_enter Try.func21, Try.ntmps21
  go_wp2
  go_loopg [5, 6] N (fun q s5 s6 wr => ∃ k : Nat, s6 = .int .i64 k ∧ k + q = N ∧ s5 = .int .i64 ((bits.take k).count true : Nat) ∧ Hid (Upd (fun _ => False) w wr))
  case atStart => exact ⟨0, rfl, by omega, rfl, Lib.hid (Upd.refl _ _)⟩
  case round =>
    obtain ⟨k, rfl, hkq, rfl, hU⟩ := hrel
    cases gk with
    | zero =>
      obtain rfl : N = k := by omega
      rw [List.take_of_length_le (by have := HN.out; omega)]
      have hct := HCB.out
      generalize bits.count true = CT at hct
      have HCT := Lib.hid hct
      clear hct
      go_wp2_with (fail)
      refine (HL _ hU.out).out.mono ?_
      rintro e w2 ⟨vm, rm, rfl, rA, rB, u2⟩
      obtain ⟨ad, cp, rfl, _⟩ := rA.form
      obtain ⟨M, hM⟩ : ∃ M, M = l.length := ⟨_, rfl⟩
      have hM4 : M ≤ 4096 := by have := HO.out.len; have := HO.out.1; omega
      have HRA := Lib.hid rA
      have HM := Lib.hid hM
      have HU2 := Lib.hid (hU.out.trans u2 (fun _ _ f => f))
      rw [← hM]
      clear rA rB u2 hM
      go_wp2
      go_loopg [5, 8, 9] M (fun q s5 s8 s9 wr => ∃ i : Nat, s9 = .int .i64 i ∧ i + q = M ∧ s8 = .int .i64 (endL l i) ∧ s5 = .int .i64 ((CT : Int) - sumTo l i) ∧ Hid (Upd (fun _ => False) w2 wr))
      case atStart => exact ⟨0, rfl, by omega, rfl, by unfold sumTo cntE; simp, Lib.hid (Upd.refl _ _)⟩
      case round =>
        obtain ⟨i, rfl, hiq, rfl, rfl, hV⟩ := hrel
        cases gk with
        | zero =>
          obtain rfl : i = M := by omega
          have hz : (CT : Int) - sumTo l i = 0 := by unfold sumTo; rw [List.take_of_length_le (by have := HM.out; omega)]; have := HCT.out; omega
          rw [hz]
          clear hz
          go_wp2
          go_ret
          exact ⟨rfl, HU2.out.trans hV.out (fun _ _ f => f)⟩
        | succ q =>
          have hil : i < l.length := by have := HM.out; omega
          have hE := endL_lt HO.out i hil
          have hE2 := endL_succ l i hil
          have hS2 : sumTo l (i + 1) = sumTo l i + l[i].2 := by
            unfold sumTo
            rw [List.take_succ_eq_append_getElem hil, cntE_append, cntE_cons]
            unfold cntE; simp
          obtain ⟨r', off', cap', e1, e2, cA, cB, _⟩ := (HRA.out.upd hV.out (fun _ _ f => f)).get i hil
          simp only [Value.slice.injEq] at e2
          obtain ⟨rfl, _, rfl⟩ := e2
          subst e1
          have hCC : ∀ w', Upd (fun _ => False) w2 w' → w'.cell? ⟨r', off' + i * 2, none⟩ = some (.int .i64 l[i].1) ∧ w'.cell? ⟨r', off' + i * 2 + 1, none⟩ = some (.int .i64 l[i].2) := fun w' hu => by have h := (HRA.out.upd hu (fun _ _ f => f)).at i l[i] (List.getElem?_eq_getElem hil); exact ⟨h.1, h.2.1⟩
          have hx := HO.out.2.1 _ (List.getElem_mem hil)
          have hin : ∀ k, l[i].1 ≤ k → k < l[i].1 + l[i].2 → hasB l k = true := fun k h1 h2 => (hasB_iff l k).2 ⟨_, List.getElem_mem hil, h1, h2⟩
          have hc1 := (HO.out.take i).cnt
          have hsum : 0 ≤ sumTo l i ∧ sumTo l i ≤ 4096 := by unfold sumTo; have := HO.out.1; omega
          have hE0 : -1 ≤ endL l i ∧ endL l i ≤ 4096 := by have := endL_rng HO.out i; have := HO.out.1; omega
          rw [Nat.mul_comm] at cA cB
          generalize l[i] = y at cA cB hx hE hE2 hS2 hin hCC
          obtain ⟨y1, y2⟩ := y
          dsimp only at cA cB hx hE hE2 hS2 hin hCC
          obtain ⟨X1, rfl⟩ := Int.eq_ofNat_of_zero_le (show 0 ≤ y1 by omega)
          obtain ⟨X2, rfl⟩ := Int.eq_ofNat_of_zero_le (show 0 ≤ y2 by omega)
          have hnn := HNN.out
          have hN9 := HO.out.1
          have hct4 : CT ≤ 4096 := by have := HCT.out; have := HO.out.cnt; omega
          have HE2 := Lib.hid hE2
          have HS2 := Lib.hid hS2
          have HIN := Lib.hid hin
          have hsumI : sumTo l i = sumTo l i := rfl
          generalize hEg : endL l i = E at hE hE0
          generalize hSg : sumTo l i = Sm at hsum HS2
          have f1 : decide ((X1 : Int) ≤ E) = false := decide_eq_false (by omega)
          have f2 : decide ((X2 : Int) < 1) = false := decide_eq_false (by omega)
          have f3 : decide ((X1 : Int) < 0) = false := decide_eq_false (by omega)
          have f4 : IntKind.i64.wrap ((N : Int) - (X1 : Int)) = (N : Int) - (X1 : Int) := IntWalk.i64_in _ (by omega)
          have f5 : decide ((N : Int) - (X1 : Int) < (X2 : Int)) = false := decide_eq_false (by omega)
          have f6 : IntKind.i64.wrap ((X1 : Int) + (X2 : Int)) = (X1 : Int) + (X2 : Int) := IntWalk.i64_in _ (by omega)
          have f7 : IntKind.i64.wrap ((i : Int) + 1) = (i : Int) + 1 := IntWalk.i64_in _ (by omega)
          have f8 : IntKind.i64.wrap ((CT : Int) - Sm - (X2 : Int)) = (CT : Int) - Sm - (X2 : Int) := IntWalk.i64_in _ (by omega)
          have g2 : ¬ ((X2 : Int) < 1) := by omega
          have g2b : X2 ≠ 0 := by omega
          have g5 : ¬ ((N : Int) - (X1 : Int) < (X2 : Int)) := by omega
          have hlt : i < M := by omega
          have hd : decide ((i : Int) < (M : Int)) = true := decide_eq_true (by omega)
          have CC := Lib.hid hCC
          have HXN := Lib.hid (show X1 + X2 ≤ N by omega)
          have HSg := Lib.hid hSg
          have HEg := Lib.hid hEg
          clear hCC hE hE0 hE2 hS2 hx hc1 hsum hin hnn hN9 hct4 hil hsumI hSg hEg
          go_wp2
          go_quiet (fail)
          go_wp2
          go_loopg [10] X2 (fun p s10 wr => ∃ K : Nat, s10 = .int .i64 K ∧ K + p = X1 + X2 ∧ X1 ≤ K ∧ Hid (Upd (fun _ => False) w2 wr))
          case atStart => exact ⟨X1, rfl, rfl, Nat.le_refl _, Lib.hid (hV.out.drewN _)⟩
          case round =>
            clear cA cB
            obtain ⟨K, rfl, hKp, hXK, hQ⟩ := hrel
            obtain ⟨d1, d2⟩ := CC.out _ hQ.out
            cases gk with
            | zero =>
              have hd2 : decide ((K : Int) < (X1 : Int) + (X2 : Int)) = false := decide_eq_false (by omega)
              have hd3 : ¬ ((K : Int) < (X1 : Int) + (X2 : Int)) := by omega
              go_wp2
              go_quiet (fail)
              go_wp2
              go_quiet (fail)
              go_wp2
              go_roundg q
              case measure => omega
              case rel => exact ⟨i + 1, by rw [Int.natCast_add]; rfl, by omega, by rw [HE2.out], by rw [HS2.out, Int.sub_sub], Lib.hid (hQ.out.drewN _)⟩
            | succ p =>
              have hd2 : decide ((K : Int) < (X1 : Int) + (X2 : Int)) = true := decide_eq_true (by omega)
              have hd3 : (K : Int) < (X1 : Int) + (X2 : Int) := by omega
              have hKN : K < N := by have := HXN.out; omega
              have hbit : bits[K]? = some true := by rw [HS.out.2 K (by have := HN.out; omega), HIN.out (K : Int) (by omega) (by omega)]
              have cH := (HU2.out.trans hQ.out (fun _ _ f => f)).cell (HB.out.at K true hbit) (fun f => f)
              have f9 : IntKind.i64.wrap ((K : Int) + 1) = (K : Int) + 1 := IntWalk.i64_in _ (by have := HXN.out; omega)
              clear hbit
              go_wp2
              go_quiet (fail)
              go_wp2
              go_roundg p
              case measure => omega
              case rel => exact ⟨K + 1, by rw [Int.natCast_add]; rfl, by omega, by omega, Lib.hid (hQ.out.drewN _)⟩
    | succ q =>
      have hkl : k < bits.length := by have := HN.out; omega
      have hbk := HS.out.2 k hkl
      have hB := HB.out
      have cB := hU.out.cell (hB.at k _ hbk) (fun f => f)
      have HH := Lib.hid (fun w' (hu : Upd (fun _ => False) wr w') => (HHas (k : Int) w' (hU.out.trans hu (fun _ _ f => f))).out)
      have hr1 : decide ((0 : Int) ≤ (k : Int)) = true := decide_eq_true (by omega)
      have hr2 : decide ((k : Int) < n) = true := decide_eq_true (by have := HNN.out; omega)
      rw [hr1, hr2] at HH
      simp only [Bool.true_and] at HH
      have hcnt : (bits.take (k + 1)).count true = (bits.take k).count true + (if hasB l (k : Int) = true then 1 else 0) := by
        rw [List.take_add_one, hbk, List.count_append]
        congr 1
        cases hasB l (k : Int) <;> rfl
      have hcl : (bits.take k).count true ≤ 4096 := Nat.le_trans (List.count_le_length) (by rw [List.length_take]; omega)
      have HCNT := Lib.hid hcnt
      generalize hBB : hasB l (k : Int) = B at cB HH HCNT
      generalize (bits.take k).count true = c at HCNT hcl
      have hlt : k < N := by omega
      have hd : decide ((k : Int) < (N : Int)) = true := decide_eq_true (by omega)
      have hw : IntKind.i64.wrap ((k : Int) + 1) = (k : Int) + 1 := IntWalk.i64_in _ (by omega)
      have hw2 : IntKind.i64.wrap ((c : Int) + 1) = (c : Int) + 1 := IntWalk.i64_in _ (by omega)
      clear hr1 hr2 hcnt hbk hB hkl hBB
      go_wp2
      refine wp_region_held_drew (S := fun w' => Upd (fun _ => False) wr w') (by kernel_rfl) (Upd.refl _ _).drew (fun hS => ?_)
      refine take_first (i := 0) (some 17) (v := ?_) rfl rfl (by kernel_rfl) (by kernel_rfl) (by kernel_rfl) (fun _ _ _ h => h) (Or.inl ⟨by rfl, ?_⟩) hS ?_
      rotate_left
      · intro w' hSw; go_simp; try with_reducible rfl
      try simp only [Act.put, List.setIfInBounds_toArray, List.set_cons_zero, List.set_cons_succ]
      refine take_first (i := 1) (some 18) (v := ?_) rfl rfl (by kernel_rfl) (by kernel_rfl) (by kernel_rfl) (fun _ _ _ h => h) (Or.inl ⟨by rfl, ?_⟩) hS ?_
      rotate_left
      · intro w' hSw; go_simp; try with_reducible rfl
      try simp only [Act.put, List.setIfInBounds_toArray, List.set_cons_zero, List.set_cons_succ]
      refine take_first (i := 3) (some 20) (v := ?_) rfl rfl (by kernel_rfl) (by kernel_rfl) (by kernel_rfl) (fun _ _ _ h => h) (Or.inl ⟨by rfl, ?_⟩) hS ?_
      rotate_left
      · intro w' hSw; go_simp; try with_reducible rfl
      try simp only [Act.put, List.setIfInBounds_toArray, List.set_cons_zero, List.set_cons_succ]
      refine take_first (i := 4) (some 21) (v := ?_) rfl rfl (by kernel_rfl) (by kernel_rfl) (by kernel_rfl) (fun _ _ _ h => h) (Or.inl ⟨by rfl, ?_⟩) hS ?_
      rotate_left
      · intro w' hSw; go_simp; try with_reducible rfl
      try simp only [Act.put, List.setIfInBounds_toArray, List.set_cons_zero, List.set_cons_succ]
      refine take_first (i := 5) (some 22) (v := ?_) rfl rfl (by kernel_rfl) (by kernel_rfl) (by kernel_rfl) (fun _ _ _ h => h) (Or.inl ⟨by rfl, ?_⟩) hS ?_
      rotate_left
      · intro w' hSw; go_simp; try with_reducible rfl
      try simp only [Act.put, List.setIfInBounds_toArray, List.set_cons_zero, List.set_cons_succ]
      refine take_first (i := 6) (some 23) (v := ?_) rfl rfl (by kernel_rfl) (by kernel_rfl) (by kernel_rfl) (fun _ _ _ h => h) (Or.inl ⟨by rfl, ?_⟩) hS ?_
      rotate_left
      · intro w' hSw; have lc := hSw.cell cB (fun f => f); go_simp; try with_reducible rfl
      try simp only [Act.put, List.setIfInBounds_toArray, List.set_cons_zero, List.set_cons_succ]
      refine wpAnyH_ready (rs := [2]) (by kernel_rfl) (by simp) ?_
      refine AllReadyH.cons rfl (fun K hK => ?_) AllReadyH.nil
      refine step_fn (some 19) rfl (by rfl) 10 has_enters #[.tmp 17, .tmp 18] #[23, 3] rfl #[.pointer (some ⟨b, 0, none⟩), .int .i64 (k : Int)] rfl (fun r w1 => r = .bool B ∧ Upd (fun _ => False) wr w1) (by
        refine (HH.out _ hS).mono ?_
        rintro e w1 ⟨rfl, u⟩
        exact ⟨_, rfl, rfl, hS.trans u (fun _ _ f => f)⟩) ?_
      rintro r w1 ⟨rfl, u1⟩
      refine hK.out _ _ u1 (fun _ => ?_)
      clear hS; have hS := u1
      clear hK K
      try simp only [Act.put, List.setIfInBounds_toArray, List.set_cons_zero, List.set_cons_succ]
      refine take_first (i := 7) (some 24) (v := ?_) rfl rfl (by kernel_rfl) (by kernel_rfl) (by kernel_rfl) (fun _ _ _ h => h) (Or.inl ⟨by rfl, ?_⟩) hS ?_
      rotate_left
      · intro w' hSw; go_simp; try with_reducible rfl
      try simp only [Act.put, List.setIfInBounds_toArray, List.set_cons_zero, List.set_cons_succ]
      refine wpAnyH_done (by kernel_rfl) ?_ _
      have cB1 := hS.cell cB (fun f => f)
      cases B
      · go_wp2
        go_roundg q
        case measure => omega
        case rel => exact ⟨k + 1, by rw [Int.natCast_add]; rfl, by omega, by rw [HCNT.out]; rfl, Lib.hid (hU.out.trans hS (fun _ _ f => f))⟩
      · go_wp2
        go_roundg q
        case measure => omega
        case rel => exact ⟨k + 1, by rw [Int.natCast_add]; rfl, by omega, by rw [HCNT.out]; rfl, Lib.hid (hU.out.trans hS (fun _ _ f => f))⟩

end Go.Proofs.Ytoblihckojnffaa
