/- The law's helpers: same, given, works. -/
import Derived.Test.YtoblihckojnffaaSpJ
set_option linter.unusedVariables false
set_option linter.unusedSimpArgs false
namespace Go.Proofs.Ytoblihckojnffaa
open Go.RowKit Go.Shelf
set_option maxRecDepth 100000

/-- A row of pairs, to be read. -/
def PairsAt (w : World) (v : Value) (row : Option Nat) (xs : List Ex) : Prop :=
  ∃ ad cap, v = .slice ad xs.length cap ∧ xs.length ≤ cap ∧ cap ≤ maxLen ∧ ∀ j x, xs[j]? = some x → ∃ g off, row = some g ∧ ad = some ⟨g, off, none⟩ ∧ w.cell? ⟨g, off + j * 2, none⟩ = some (.int .i64 x.1) ∧ w.cell? ⟨g, off + j * 2 + 1, none⟩ = some (.int .i64 x.2)
theorem PairsAt.upd {F : Nat → Prop} {w w' : World} {v : Value} {row : Option Nat} {xs : List Ex} (h : PairsAt w v row xs) (hu : Upd F w w') (hr : ∀ g, row = some g → ¬ F g) : PairsAt w' v row xs := by
  obtain ⟨ad, cap, h1, h2, h3, h4⟩ := h
  refine ⟨ad, cap, h1, h2, h3, fun j x hj => ?_⟩
  obtain ⟨g, off, e1, e2, e3, e4⟩ := h4 j x hj
  exact ⟨g, off, e1, e2, hu.cell e3 (hr g e1), hu.cell e4 (hr g e1)⟩
theorem RowAt.pairs {w : World} {v : Value} {row : Option Nat} {l : List Ex} (h : RowAt w v row l) : PairsAt w v row l := by
  obtain ⟨ad, cap, e, h1, h2, _⟩ := h.form
  refine ⟨ad, cap, e, h1, h2, fun j x hj => ?_⟩
  have hl := (List.getElem?_eq_some_iff.1 hj).1
  have hx : l[j] = x := (List.getElem?_eq_some_iff.1 hj).2
  obtain ⟨r, off, cap', e1, e2, cA, cB, _⟩ := h.get j hl
  rw [e] at e2
  simp only [Value.slice.injEq] at e2
  rw [hx, Nat.mul_comm] at cA cB
  exact ⟨r, off, e1, e2.1, cA, cB⟩
theorem same_eq {w : World} {v u : Value} {r1 r2 : Option Nat} {xs ys : List Ex} (h1 : PairsAt w v r1 xs) (h2 : PairsAt w u r2 ys) (hl : xs.length ≤ 100000) :
    Calls Try.prog 14 #[v, u] w fun e w' => e = .returned (.bool (decide (xs = ys))) ∧ Upd (fun _ => False) w w' := by
  obtain ⟨ad, cap, rfl, a1, a2, a3⟩ := h1
  obtain ⟨ae, cbp, rfl, b1, b2, b3⟩ := h2
  by_cases hlen : xs.length = ys.length
  · obtain ⟨N, hN⟩ : ∃ N, N = xs.length := ⟨_, rfl⟩
    rw [← hlen, ← hN]
    rw [← hN] at hl
    have HN := Lib.hid hN
    have HA := Lib.hid a3
    have HB := Lib.hid b3
    have HL := Lib.hid hlen
    have hb1 : ((N : Int) == (N : Int)) = true := by simp
    clear hN a3 b3 hlen a1 a2 b1 b2
    go_enter Try.func14, Try.ntmps14
    go_wp2
    go_loopg [5] N (fun g s5 wr => ∃ i : Nat, s5 = .int .i64 i ∧ i + g = N ∧ Hid (xs.take i = ys.take i) ∧ Hid (Upd (fun _ => False) w wr))
    case atStart => exact ⟨0, rfl, by omega, Lib.hid (by simp), Lib.hid (Upd.refl _ _)⟩
    case round =>
      obtain ⟨i, rfl, hig, hT, hU⟩ := hrel
      cases gk with
      | zero =>
        obtain rfl : i = N := by omega
        go_wp2
        go_ret
        refine ⟨?_, hU.out⟩
        have e := hT.out
        rw [List.take_of_length_le (by have := HN.out; omega), List.take_of_length_le (by have := HN.out; have := HL.out; omega)] at e
        rw [decide_eq_true e]
        rfl
      | succ g =>
        have hil : i < xs.length := by have := HN.out; omega
        have hil2 : i < ys.length := by have := HL.out; omega
        obtain ⟨g1, o1, q1, rfl, q2, q3⟩ := HA.out i _ (List.getElem?_eq_getElem hil)
        obtain ⟨g2, o2, q4, rfl, q5, q6⟩ := HB.out i _ (List.getElem?_eq_getElem hil2)
        have c1 := hU.out.cell q2 (fun f => f)
        have c2 := hU.out.cell q3 (fun f => f)
        have c3 := hU.out.cell q5 (fun f => f)
        have c4 := hU.out.cell q6 (fun f => f)
        have hlt : i < N := by omega
        have hd : decide ((i : Int) < (N : Int)) = true := decide_eq_true (by omega)
        have hw : IntKind.i64.wrap ((i : Int) + 1) = (i : Int) + 1 := IntWalk.i64_in _ (by omega)
        have ht1 := List.take_succ_eq_append_getElem hil
        have ht2 := List.take_succ_eq_append_getElem hil2
        have hx1 : xs[i]? = some xs[i] := List.getElem?_eq_getElem hil
        have hx2 : ys[i]? = some ys[i] := List.getElem?_eq_getElem hil2
        clear q2 q3 q5 q6
        generalize xs[i] = p at c1 c2 ht1 hx1
        generalize ys[i] = q at c3 c4 ht2 hx2
        obtain ⟨pa, pb⟩ := p
        obtain ⟨qa, qb⟩ := q
        dsimp only at c1 c2 c3 c4
        have HT1 := Lib.hid ht1
        have HT2 := Lib.hid ht2
        have HX1 := Lib.hid hx1
        have HX2 := Lib.hid hx2
        clear ht1 ht2 hx1 hx2 hil hil2
        have hq : ∀ w : World, (Op.equalIn 10000 63 (.agg #[.int .i64 pa, .int .i64 pb]) (.agg #[.int .i64 qa, .int .i64 qb])).run Try.prog w = .ok (pa == qa && (pb == qb && true)) w := fun w => eq_ex 9998 w pa pb qa qb
        by_cases hpq : pa = qa ∧ pb = qb
        · obtain ⟨rfl, rfl⟩ := hpq
          have hb : (pa == pa && (pb == pb && true)) = true := by simp
          rw [hb] at hq
          have hne : ∀ w : World, (binOp .neq 63 (.agg #[.int .i64 pa, .int .i64 pb]) (.agg #[.int .i64 pa, .int .i64 pb])).run Try.prog w = .ok (.bool false) w := fun w => by rw [run_neq_struct, hq]; rfl
          clear hq
          go_wp2
          go_quiet (fail)
          go_wp2
          go_roundg g
          case measure => omega
          case rel => exact ⟨i + 1, by rw [Int.natCast_add]; rfl, by omega, Lib.hid (by rw [HT1.out, HT2.out, hT.out]), Lib.hid (hU.out.drewN _)⟩
        · have hb : (pa == qa && (pb == qb && true)) = false := by simpa using hpq
          rw [hb] at hq
          have hne : ∀ w : World, (binOp .neq 63 (.agg #[.int .i64 pa, .int .i64 pb]) (.agg #[.int .i64 qa, .int .i64 qb])).run Try.prog w = .ok (.bool true) w := fun w => by rw [run_neq_struct, hq]; rfl
          clear hq
          go_wp2
          go_quiet (fail)
          go_wp2
          go_ret
          refine ⟨?_, hU.out.drewN _⟩
          have : ¬ xs = ys := fun e => by have h1 := HX1.out; rw [e, HX2.out] at h1; simp only [Option.some.injEq, Prod.mk.injEq] at h1; exact hpq ⟨h1.1.symm, h1.2.symm⟩
          rw [decide_eq_false this]
          rfl
  · have hb : ((xs.length : Int) == (ys.length : Int)) = false := by simp; omega
    have hb2 : ((xs.length : Int) != (ys.length : Int)) = true := by simp; omega
    rw [decide_eq_false (fun e => hlen (by rw [e]))]
    clear a3 b3
    go_enter Try.func14, Try.ntmps14
    go_wp2
    go_ret
    exact ⟨rfl, Upd.refl _ _⟩
/-- A set that was made since w0. -/
structure New0 (w0 w : World) (b : Nat) (n : Int) (l : List Ex) : Prop where
  upd : Upd (fun _ => False) w0 w
  low : w0.heap.size ≤ b
  at_ : ∃ v row, SpAt w b row n v l ∧ ∀ r, row = some r → w0.heap.size ≤ r
theorem New0.next {w0 w w' : World} {b : Nat} {n : Int} {l l' : List Ex} (h : New0 w0 w b n l) {P : Option Nat → Prop} {row : Option Nat} (hrow : ∀ r, row = some r → w0.heap.size ≤ r) (hp : SpP w b row n l' w') : New0 w0 w' b n l' := by
  obtain ⟨v', row', h1, h2, h3⟩ := hp
  refine ⟨h.upd.trans h3 (fun i hi e => ?_), h.low, v', row', h1, fun r e => ?_⟩
  · rcases e with e | e
    · have := h.low; omega
    · have := hrow i e; omega
  · rcases h2 r e with e2 | e2
    · exact hrow r e2
    · have := h.upd.size; omega
theorem New0.later {w0 w w' : World} {b : Nat} {n : Int} {l : List Ex} (h : New0 w0 w b n l) (hu : Upd (fun _ => False) w w') : New0 w0 w' b n l := by
  obtain ⟨v, row, h1, h2⟩ := h.at_
  exact ⟨h.upd.trans hu (fun _ _ f => f), h.low, v, row, h1.upd hu (fun f => f) (fun _ _ f => f), h2⟩
theorem new0 (w : World) (n : Int) (h : 1 ≤ n ∧ n ≤ 4096) : Calls Try.prog 6 #[.int .i64 n] w fun e w' => ∃ b, e = .returned (.pointer (some ⟨b, 0, none⟩)) ∧ New0 w w' b n [] :=
  (sp_New w n h).mono fun e w' ⟨b, h1, h2, h3, h4⟩ => ⟨b, h1, h4, h2, _, none, h3, fun r e => (by cases e)⟩
theorem new_fill {w0 w : World} {b : Nat} {n : Int} {l : List Ex} (h : New0 w0 w b n l) (hok : SpOk n l) (f t : Int) : Calls Try.prog 18 #[.pointer (some ⟨b, 0, none⟩), .int .i64 f, .int .i64 t] w fun e w' => e = .returned (.int .i64 (fillA n l f t).2) ∧ New0 w0 w' b n (fillA n l f t).1 := by
  obtain ⟨v, row, h1, h2⟩ := h.at_
  exact (sp_Fill h1 hok f t).mono fun e w' ⟨he, hp⟩ => ⟨he, h.next (P := fun _ => True) h2 hp⟩
theorem new_give {w0 w : World} {b : Nat} {n : Int} {l : List Ex} (h : New0 w0 w b n l) (hok : SpOk n l) (a : Int) : Calls Try.prog 17 #[.pointer (some ⟨b, 0, none⟩), .int .i64 a] w fun e w' => e = .returned (.int .i64 (giveA n l a).2) ∧ New0 w0 w' b n (giveA n l a).1 := by
  obtain ⟨v, row, h1, h2⟩ := h.at_
  exact (sp_Give h1 hok a).mono fun e w' ⟨he, hp⟩ => ⟨he, h.next (P := fun _ => True) h2 hp⟩
theorem new_take {w0 w : World} {b : Nat} {n : Int} {l : List Ex} (h : New0 w0 w b n l) (hok : SpOk n l) (k : Int) : Calls Try.prog 19 #[.pointer (some ⟨b, 0, none⟩), .int .i64 k] w fun e w' => ∃ v row, e = .returned (.tuple #[v, .int .i64 (takeA l k).2.1]) ∧ IntsAt w' v row (takeA l k).1 ∧ (∀ g, row = some g → w.heap.size ≤ g ∧ g ≠ b) ∧ New0 w0 w' b n (takeA l k).2.2 := by
  obtain ⟨v, row, h1, h2⟩ := h.at_
  refine (sp_Take h1 hok k).mono fun e w' ⟨vt, he, ho, hp⟩ => ?_
  obtain ⟨i1, i2⟩ := IntsAt.of_owns ho
  exact ⟨vt, _, he, i1, fun g e => ⟨i2 g e, by have := i2 g e; have := lt_of_heap h1.set; omega⟩, h.next (P := fun _ => True) h2 hp⟩
theorem new_count {w0 w : World} {b : Nat} {n : Int} {l : List Ex} (h : New0 w0 w b n l) (hok : SpOk n l) : Calls Try.prog 12 #[.pointer (some ⟨b, 0, none⟩)] w fun e w' => e = .returned (.int .i64 (cntE l)) ∧ Upd (fun _ => False) w w' := by
  obtain ⟨v, row, h1, h2⟩ := h.at_
  exact sp_Count h1 hok
theorem new_list {w0 w : World} {b : Nat} {n : Int} {l : List Ex} (h : New0 w0 w b n l) (hok : SpOk n l) : Calls Try.prog 15 #[.pointer (some ⟨b, 0, none⟩)] w fun e w' => ∃ v row, e = .returned v ∧ PairsAt w' v row l ∧ (∀ r, row = some r → w.heap.size ≤ r) ∧ Upd (fun _ => False) w w' := by
  obtain ⟨v, row, h1, h2⟩ := h.at_
  exact (sp_List h1 hok).mono fun e w' ⟨v', row', e1, e2, e3, e4⟩ => ⟨v', row', e1, e2.pairs, e3, e4⟩
theorem new_has {w0 w : World} {b : Nat} {n : Int} {l : List Ex} (h : New0 w0 w b n l) (hok : SpOk n l) (k : Int) : Calls Try.prog 10 #[.pointer (some ⟨b, 0, none⟩), .int .i64 k] w fun e w' => e = .returned (.bool (decide (0 ≤ k) && decide (k < n) && hasB l k)) ∧ Upd (fun _ => False) w w' := by
  obtain ⟨v, row, h1, h2⟩ := h.at_
  exact sp_Has h1 hok k
theorem given_ok (w : World) : Calls Try.prog 22 #[] w fun e w' => ∃ b, e = .returned (.pointer (some ⟨b, 0, none⟩)) ∧ New0 w w' b 10 [(2, 4), (8, 1)] := by
  have H1 := Lib.hid (new0 w 10 (by omega))
  go_enter Try.func22, Try.ntmps22
  go_wp2_with (fail)
  refine H1.out.mono ?_
  rintro e w1 ⟨b, rfl, k1⟩
  have H2 := Lib.hid (new_fill k1 (by unfold SpOk; decide) 2 6)
  rw [show fillA 10 [] 2 6 = ([(2, 4)], 0) by decide +kernel] at H2
  go_wp2_with (fail)
  refine H2.out.mono ?_
  rintro e w2 ⟨rfl, k2⟩
  have H3 := Lib.hid (new_give k2 (by unfold SpOk; decide) 8)
  rw [show giveA 10 [(2, 4)] 8 = ([(2, 4), (8, 1)], 0) by decide +kernel] at H3
  go_wp2_with (fail)
  refine H3.out.mono ?_
  rintro e w3 ⟨rfl, k3⟩
  go_wp2
  go_ret
  exact ⟨b, rfl, k3⟩

end Go.Proofs.Ytoblihckojnffaa
