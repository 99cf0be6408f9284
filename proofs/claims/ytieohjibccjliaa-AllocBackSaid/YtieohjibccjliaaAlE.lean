/- The law's helpers: takes, drops, awake. -/
import Derived.Test.YtieohjibccjliaaAlC
set_option linter.unusedVariables false
set_option linter.unusedSimpArgs false
namespace Go.Proofs.Ytieohjibccjliaa
open Go.RowKit Go.Shelf Go.Maps
set_option maxRecDepth 100000

theorem IntRow.keeps {w w' : World} {v : Value} {r : Nat} {xs : List Int} (h : IntRow w v r xs) (hk : KeepsA w w') : IntRow w' v r xs := by
  obtain ⟨off, cap, cur, h1, h2, h3⟩ := h
  exact ⟨off, cap, cur, h1, hk.cells _ _ _ _ (by decide) (by decide) (by decide) h2, h3⟩
theorem introw_new (w : World) (xs : List Int) (hl : xs.length ≤ maxLen) : IntRow (w.alloc (.cells (xs.map (Value.int .i64)).toArray 3)) (.slice (some ⟨w.heap.size, 0, none⟩) xs.length xs.length) w.heap.size xs :=
  ⟨0, _, _, rfl, heap_alloc_new w _, Nat.le_refl _, hl, fun j x hj => by rw [Nat.zero_add]; simp [hj]⟩
theorem al_takes {w0 w : World} {b : Nat} {s s' : AlS} (H : Al w0 w b s) {k : Int} {want : List Int} {v : Value} {r : Nat} (hw : IntRow w v r want) (ha : allocA s k = (want, 0, s')) (hl : want.length ≤ 100000) :
    Calls Try.prog 26 #[.pointer (some ⟨b, 0, none⟩), .int .i64 k, v] w fun e w' => e = .returned (.bool true) ∧ Al w0 w' b s' ∧ KeepsA w w' := by
  have HA := Lib.hid (al_Alloc H k)
  rw [ha] at HA
  dsimp only at HA
  obtain ⟨off, cap, cur, rfl, _⟩ := id hw
  have HW := Lib.hid hw
  obtain ⟨N, hN⟩ : ∃ N, N = want.length := ⟨_, rfl⟩
  rw [← hN] at hl HA
  rw [← hN]
  have HN := Lib.hid hN
  clear hw hN ha H
  go_enter Try.func26, Try.ntmps26
  go_wp2_with (go_at_call 9; refine HA.out.mono ?_; rintro e w1 ⟨va, rfl, ho, h1, h2⟩; obtain ⟨ad, cp, rfl⟩ := own_form ho; have HO := Lib.hid (And.intro ho (And.intro h1 h2)); clear ho h1 h2)
  go_loopg [9] N (fun kx s9 wr => ∃ i : Nat, s9 = .int .i64 i ∧ i + kx = N ∧ Hid (Upd (fun _ => False) w1 wr))
  case atStart => exact ⟨0, rfl, by omega, Lib.hid (Upd.refl _ _)⟩
  case round =>
    obtain ⟨i, rfl, hik, HU⟩ := hrel
    cases gk with
    | zero =>
      obtain rfl : i = N := by omega
      go_wp2
      go_ret
      exact ⟨rfl, HO.out.2.1.later HU.out, HO.out.2.2.trans (KeepsA.upd HU.out)⟩
    | succ g =>
      have hil : i < want.length := by have := HN.out; omega
      have hd : decide ((i : Int) < (N : Int)) = true := decide_eq_true (by omega)
      have hiN : i < N := by omega
      have hw1 : IntKind.i64.wrap ((i : Int) + 1) = (i : Int) + 1 := IntWalk.i64_in _ (by omega)
      obtain ⟨g1, o1, had, c1⟩ : ∃ g1 o1, ad = some ⟨g1, o1, none⟩ ∧ wr.cell? ⟨g1, o1 + i, none⟩ = some (.int .i64 want[i]) := by
        have h5 := (IntsAt.of_owns (xs := want) (by rw [← HN.out]; exact HO.out.1)).1
        obtain ⟨ad', cap', e, _, _, h6⟩ := h5
        obtain ⟨g0, o0, _, e1, e2⟩ := h6 i _ (List.getElem?_eq_getElem hil)
        simp only [Value.slice.injEq] at e
        exact ⟨g0, o0, e.1.trans e1, HU.out.cell e2 (fun f => f)⟩
      subst had
      have c2 : wr.cell? ⟨r, off + i, none⟩ = some (.int .i64 want[i]) := by
        obtain ⟨o2, cp2, cur2, e1, e2, _, _, e3⟩ := HW.out.keeps HO.out.2.2
        simp only [Value.slice.injEq, Option.some.injEq, Addr.mk.injEq] at e1
        obtain ⟨⟨_, rfl, _⟩, _⟩ := e1
        exact HU.out.cell (cell_heap e2 _ _ (e3 i _ (List.getElem?_eq_getElem hil))) (fun f => f)
      generalize want[i] = y at c1 c2
      clear hil
      go_wp2
      go_quiet (fail)
      go_wp2
      go_roundg g
      case measure => omega
      case rel => exact ⟨i + 1, by rw [Int.natCast_add]; rfl, by omega, Lib.hid (HU.out.drewN _)⟩
theorem al_drops {w0 w : World} {b : Nat} {s s' : AlS} (H : Al w0 w b s) {p : Int} (hp : inI p) {last : Bool} {want : Int} (ha : dropA s p = (last, want, s')) :
    Calls Try.prog 28 #[.pointer (some ⟨b, 0, none⟩), .int .i64 p, .bool last, .int .i64 want] w fun e w' => e = .returned (.bool true) ∧ Al w0 w' b s' ∧ KeepsA w w' := by
  have HA := Lib.hid (al_Drop H p hp)
  rw [ha] at HA
  dsimp only at HA
  clear H ha
  go_enter Try.func28, Try.ntmps28
  go_wp2_with (go_at_call 11; refine HA.out.mono ?_; rintro e w1 ⟨rfl, h1, h2⟩)
  go_ret
  exact ⟨by simp, h1, h2⟩
theorem al_New' (w : World) (f n : Int) (h : 0 ≤ f ∧ f < n ∧ n ≤ 4096) : Calls Try.prog 8 #[.int .i64 f, .int .i64 n] w fun e w' => ∃ b, e = .returned (.pointer (some ⟨b, 0, none⟩)) ∧ Al w w' b (newA f n) := al_New w f n h
theorem awake_ok (w : World) : Calls Try.prog 17 #[] w fun e w' => e = .returned (.bool true) ∧ Upd (fun _ => False) w w' := by
  have H1 := Lib.hid (al_New w 2 8 (by omega))
  go_enter Try.func17, Try.ntmps17
  go_wp2_with (fail)
  refine H1.out.mono ?_
  rintro e w1 ⟨b, rfl, k1⟩
  have H2 := Lib.hid (al_Free k1)
  rw [show cntE (newA 2 8).free = 6 by decide +kernel] at H2
  have K1 := Lib.hid k1
  clear k1
  go_wp2_with (fail)
  refine H2.out.mono ?_
  rintro e w2 ⟨rfl, u2⟩
  have H3 := Lib.hid (al_takes (k := 2) (K1.out.later (u2.alloc (.cells #[.int .i64 2, .int .i64 3] 3))) (introw_new w2 [2, 3] (by decide)) (s' := { n := 8, free := [(4, 4)], ch := [(2, [2, 3], 1, false)], wait := [] }) rfl (by decide))
  clear u2
  go_wp2_with (fail)
  refine H3.out.mono ?_
  rintro e w3 ⟨rfl, k3, _⟩
  have H4 := Lib.hid (al_takes (k := 3) (k3.later ((Upd.refl _ w3).alloc (.cells #[.int .i64 4, .int .i64 5, .int .i64 6] 3))) (introw_new w3 [4, 5, 6] (by decide)) (s' := { n := 8, free := [(7, 1)], ch := [(2, [2, 3], 1, false), (4, [4, 5, 6], 1, false)], wait := [] }) rfl (by decide))
  clear k3
  go_wp2_with (fail)
  refine H4.out.mono ?_
  rintro e w4 ⟨rfl, k4, _⟩
  have H5 := Lib.hid (al_Free k4)
  rw [show cntE [(7, 1)] = 1 by decide +kernel] at H5
  have K4 := Lib.hid k4
  clear k4
  go_wp2_with (fail)
  refine H5.out.mono ?_
  rintro e w5 ⟨rfl, u5⟩
  have H6 := Lib.hid (al_drops (p := 2) (last := true) (want := 0) (K4.out.later u5) (by unfold inI; omega) (s' := { n := 8, free := [(2, 2), (7, 1)], ch := [(4, [4, 5, 6], 1, false)], wait := [] }) rfl)
  clear u5
  go_wp2_with (fail)
  refine H6.out.mono ?_
  rintro e w6 ⟨rfl, k6, _⟩
  have H7 := Lib.hid (al_Free k6)
  rw [show cntE [(2, 2), (7, 1)] = 3 by decide +kernel] at H7
  have K6 := Lib.hid k6
  clear k6
  go_wp2_with (fail)
  refine H7.out.mono ?_
  rintro e w7 ⟨rfl, u7⟩
  have K7 := Lib.hid (K6.out.upd.trans u7 (fun _ _ f => f))
  clear u7
  go_wp2
  go_ret
  exact ⟨rfl, K7.out⟩

end Go.Proofs.Ytieohjibccjliaa
