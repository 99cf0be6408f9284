/- An allocator: Load. -/
import Derived.Test.YtieohjibccjliaaAlK
set_option linter.unusedVariables false
set_option linter.unusedSimpArgs false
namespace Go.Proofs.Ytieohjibccjliaa
open Go.RowKit Go.Shelf Go.Maps
set_option maxRecDepth 100000

theorem loadL_refs {f n : Int} {x : Own} {r : List Own} {u : List Int} {c : List (Int × Ch)} (h : x.2.1 < 1 ∨ 65535 < x.2.1) : loadL f n (x :: r) u c = none := by unfold loadL; rw [if_pos h]
theorem loadL_secs {f n : Int} {x : Own} {r : List Own} {u : List Int} {c : List (Int × Ch)} (h : ¬ (x.2.1 < 1 ∨ 65535 < x.2.1)) (h2 : loadS f n (x.1 :: x.2.2) u = none) : loadL f n (x :: r) u c = none := by unfold loadL; rw [if_neg h, h2]
theorem loadL_ok {f n : Int} {x : Own} {r : List Own} {u u' : List Int} {c : List (Int × Ch)} (h : ¬ (x.2.1 < 1 ∨ 65535 < x.2.1)) (h2 : loadS f n (x.1 :: x.2.2) u = some u') : loadL f n (x :: r) u c = loadL f n r u' (putP c x.1 (x.1 :: x.2.2, x.2.1, true)) := by
  conv => lhs; unfold loadL
  rw [if_neg h, h2]
/-- Between two rounds. -/
structure LW (lo : Nat) (W2 wr : World) (b um : Nat) (n f : Int) (h : AlB) (u : List Int) (c : List (Int × Ch)) : Prop where
  at_ : ∃ xs, AlAt lo wr b { n := n, free := [], ch := c, wait := [] } { bs := h.bs, row := h.row, v := h.v, bc := h.bc, bw := h.bw, xs := xs }
  ok : AlOk { n := n, free := [], ch := c, wait := [] }
  used : UsedAt wr um u
  nod : u.Nodup
  rng : ∀ y ∈ u, f ≤ y ∧ y < n
  upd : Upd (fun i => i = um ∨ i = h.bc) W2 wr
theorem load_no (w : World) (f n : Int) (v : Value) (h : ¬ (0 ≤ f ∧ f < n ∧ n ≤ 4096)) : Calls Try.prog 19 #[.int .i64 f, .int .i64 n, v] w fun e w' => e = .returned (.tuple #[.pointer none, .int .i64 2]) ∧ w = w' := by
  have HN := Lib.hid (al_New_no w f n h)
  clear h
  go_enter Try.func19, Try.ntmps19
  go_wp2_with (go_at_call 8; refine HN.out.mono ?_; rintro e w1 ⟨rfl, rfl⟩)
  go_ret2
  exact ⟨rfl, rfl⟩
set_option maxHeartbeats 4000000 in
theorem load_yes (w : World) (f n : Int) (hfn : 0 ≤ f ∧ f < n ∧ n ≤ 4096) {v : Value} {l : List Own} (hv : OwnRd w v l) (hl : l.length ≤ 5000) (hI : ∀ x ∈ l, inI x.1 ∧ (∀ y ∈ x.2.2, inI y) ∧ x.2.2.length ≤ 5000) :
    Calls Try.prog 19 #[.int .i64 f, .int .i64 n, v] w (LoadP f n w (loadL f n l [] [])) := by
  obtain ⟨R, hR⟩ : ∃ R, R = loadL f n l [] [] := ⟨_, rfl⟩
  rw [← hR]
  have HR := Lib.hid hR
  have HI := Lib.hid hI
  have HFN := Lib.hid hfn
  obtain ⟨ad, cp, rfl, hcp1, hcp2, hrd⟩ := hv
  have HRD := Lib.hid hrd
  obtain ⟨NL, hNL⟩ : ∃ NL, NL = l.length := ⟨_, rfl⟩
  rw [← hNL]
  rw [← hNL] at hl
  have HNL := Lib.hid hNL
  have HN1 := Lib.hid (al_New w f n hfn)
  have HN2 := fun w => Lib.hid (sp_New w n (by omega))
  have hmm := @run_makeMap Try.prog
  clear hR hI hfn hcp1 hcp2 hrd hNL
  go_enter Try.func19, Try.ntmps19
  go_wp2_with (fail)
  refine HN1.out.mono ?_
  rintro e w1 ⟨b0, rfl, hal0⟩
  obtain ⟨h0, hat0⟩ := hal0.at_
  have HAT0 := Lib.hid hat0
  have HU1 := Lib.hid hal0.upd
  clear hal0 hat0
  go_wp2_with (fail)
  refine (HN2 _).out.mono ?_
  rintro e w2 ⟨bs, rfl, hbs, hs2, hu2⟩
  have hum := heap_alloc_new w1 (.map #[] 0)
  have HA := Lib.hid (AlAt.fresh (lo := w.heap.size) hs2 (by have := HU1.out.size; simp at hbs; omega) (by have := HU1.out.size; have := hu2.size; simp at this; omega))
  have HUW := Lib.hid (show Upd (fun _ => False) w1 _ from ((((Upd.refl (fun _ => False) w1).alloc (.map #[] 0)).trans hu2 (fun _ _ f => f)).alloc (.map #[] 0)).alloc (.map #[] 0) |>.alloc (.cells #[.pointer (some ⟨bs, 0, none⟩), .map (some w2.heap.size), .map (some (w2.heap.size + 1))] 66))
  have HUM := Lib.hid (show (((w2.alloc (.map #[] 0)).alloc (.map #[] 0)).alloc (.cells #[.pointer (some ⟨bs, 0, none⟩), .map (some w2.heap.size), .map (some (w2.heap.size + 1))] 66)).heap[w1.heap.size]? = some (.map #[] 0) from (((hu2.alloc (.map #[] 0)).alloc (.map #[] 0)).alloc (.cells #[.pointer (some ⟨bs, 0, none⟩), .map (some w2.heap.size), .map (some (w2.heap.size + 1))] 66)).heap hum (fun f => f))
  have HSZ := Lib.hid (show w1.heap.size < w2.heap.size by have := hu2.size; simp at this; omega)
  clear hs2 hbs hum hu2
  go_wp2
  rw [show w2.heap.size + 2 = w2.heap.size + 1 + 1 from rfl] at HA
  obtain ⟨h, hh0⟩ : ∃ h : AlB, h = { bs := bs, row := none, v := .slice none 0 0, bc := w2.heap.size, bw := w2.heap.size + 1, xs := [] } := ⟨_, rfl⟩
  have hhbs : h.bs = bs := by rw [hh0]
  have hhbc : h.bc = w2.heap.size := by rw [hh0]
  have hhbw : h.bw = w2.heap.size + 1 := by rw [hh0]
  rw [← hh0] at HA
  generalize (((w2.alloc (.map #[] 0)).alloc (.map #[] 0)).alloc (.cells #[.pointer (some ⟨bs, 0, none⟩), .map (some w2.heap.size), .map (some (w2.heap.size + 1))] 66)) = W2 at HA HUW HUM ⊢
  have HW0 := Lib.hid (show LW w.heap.size W2 W2 (w2.heap.size + 1 + 1) w1.heap.size n f h [] [] from ⟨⟨h.xs, HA.out⟩, AlOk.empty (SpOk.nil (by have := HFN.out; omega)), UsedAt.new HUM.out, List.nodup_nil, fun y hy => (by cases hy), Upd.refl _ _⟩)
  have HBC := Lib.hid (show w1.heap.size ≠ h.bc ∧ w1.heap.size ≠ h.bw ∧ w1.heap.size < h.bc by have := HSZ.out; rw [hhbc, hhbw]; omega)
  -- the first allocator's set tells which sectors are ruled
  have HALL := Lib.hid (fun (wq : World) (hu : Upd (fun i => i = w1.heap.size ∨ i = h.bc) W2 wq) (y : Int) =>
    show wq.cell? ⟨b0, 0, none⟩ = some (.pointer (some ⟨h0.bs, 0, none⟩)) ∧ Calls Try.prog 39 #[.pointer (some ⟨h0.bs, 0, none⟩), .int .i64 y] wq fun e w' => e = .returned (.bool (decide (f ≤ y ∧ y < n))) ∧ Upd (fun _ => False) wq w' by
      have hlt : ∀ k, k < w1.heap.size → ¬ (k = w1.heap.size ∨ k = h.bc) := fun k hk e => by have := HBC.out; omega
      refine ⟨hu.cell (HUW.out.cell (cell_heap HAT0.out.obj 0 _ rfl) (fun f => f)) (hlt _ (lt_of_heap HAT0.out.obj)), ?_⟩
      have hs := (HAT0.out.set.upd HUW.out (fun f => f) (fun _ _ f => f)).upd hu (hlt _ (lt_of_heap HAT0.out.set.set)) (fun r hr => hlt r (HAT0.out.set.row.lt r hr))
      refine (sp_Has hs (one_span HFN.out) y).mono ?_
      rintro e w' ⟨rfl, hu'⟩
      refine ⟨?_, hu'⟩
      congr 2
      have h1 : hasB [(f, n - f)] y = (decide (f ≤ y) && decide (y < n)) := by
        rw [hasB_cons, hasB_nil, Bool.or_false]; unfold inE; rw [show (f, n - f).1 + (f, n - f).2 = n by dsimp only; omega]
      have h2 := HFN.out
      show (decide (0 ≤ y) && decide (y < n) && hasB [(f, n - f)] y) = _
      rw [h1, Bool.eq_iff_iff]
      simp only [Bool.and_eq_true, decide_eq_true_eq]
      omega)
  clear hh0 HA hmm HN2 HN1 hhbc hhbw hhbs
  have HUMW := Lib.hid HU1.out.size
  have HLB := Lib.hid (show w.heap.size ≤ w2.heap.size + 1 + 1 ∧ w2.heap.size < w2.heap.size + 1 + 1 by have := HUMW.out; have := HSZ.out; omega)
  generalize hB : w2.heap.size + 1 + 1 = B at HW0 HLB ⊢
  generalize hUMv : w1.heap.size = um at HW0 HBC HALL HUM HUMW ⊢
  clear hB
  go_loopg [12, 13, 15, 31] NL (fun kx s12 s13 s15 s31 wr => ∃ (i : Nat) (u : List Int) (c : List (Int × Ch)), s31 = .int .i64 i ∧ i + kx = NL ∧ Hid (LW w.heap.size W2 wr B um n f h u c) ∧ Hid (R = loadL f n (l.drop i) u c))
  case atStart => exact ⟨0, [], [], rfl, by omega, HW0, Lib.hid (by rw [HR.out]; rfl)⟩
  case round =>
    obtain ⟨i, u, c, rfl, hik, HLW, HRI⟩ := hrel
    obtain ⟨wo, hwo⟩ : ∃ wo, wo = wr := ⟨_, rfl⟩
    subst hwo
    have HUwo := Lib.hid (show Upd (fun _ => False) w wo from (HU1.out.trans HUW.out (fun _ _ f => f)).trans HLW.out.upd (fun j hj e => by
      have h1 := HU1.out.size
      have h2 := HBC.out
      omega))
    cases gk with
    | zero =>
      obtain rfl : i = NL := by omega
      have hRe : R = some (u, c) := by rw [HRI.out, List.drop_of_length_le (by have := HNL.out; omega)]; rfl
      have HRE := Lib.hid hRe
      obtain ⟨xs, hat⟩ := HLW.out.at_
      have HST := Lib.hid (AlSt.start hat HLW.out.ok)
      have HLOW := Lib.hid (fun k hk => hat.lowF k hk)
      have HNE := Lib.hid (fun (wq : World) (hq : UsedAt wq um u) (row : Option Nat) (v : Value) (s : AlS) (hA : AlAt w.heap.size wq B s { bs := h.bs, row := row, v := v, bc := h.bc, bw := h.bw, xs := xs }) => show ¬ (um = h.bs ∨ row = some um) by
        rintro (e | e)
        · exact hq.ne hA.set.set e.symm
        · rcases hA.set.row with ⟨_, e2, _⟩ | ⟨r, off, cap, cur, e2, _, e3, _⟩
          · have e2 : row = _ := e2; rw [e2] at e; cases e
          · have e2 : row = _ := e2; rw [e2] at e; cases e; exact hq.ne e3 rfl)
      obtain ⟨D, hD⟩ : ∃ D : Nat, f + (D : Int) = n := ⟨(n - f).toNat, by have := HFN.out; omega⟩
      have HD := Lib.hid hD
      clear hD hat hRe
      go_wp2
      go_loopg [16] D (fun kx s16 wq => ∃ k : Nat, s16 = .int .i64 (f + (k : Int)) ∧ k + kx = D ∧ Hid (UsedAt wq um u) ∧ Hid (∃ l', AlSt w.heap.size wo B { bs := h.bs, row := h.row, v := h.v, bc := h.bc, bw := h.bw, xs := xs } wq { n := n, free := l', ch := c, wait := [] } xs ∧ SpOk n l' ∧ ∀ y, hasB l' y = (decide (f ≤ y) && decide (y < f + (k : Int)) && !decide (y ∈ u))))
      case atStart =>
        refine ⟨0, by simp, by omega, Lib.hid HLW.out.used, Lib.hid ⟨[], HST.out, HLW.out.ok.free, fun y => ?_⟩⟩
        rw [hasB_nil]
        have : (decide (f ≤ y) && decide (y < f + ((0 : Nat) : Int))) = false := by
          rw [← Bool.not_eq_true, Bool.and_eq_true, decide_eq_true_eq, decide_eq_true_eq]; omega
        rw [this]; rfl
      case round =>
        obtain ⟨k, rfl, hkk, HUS, HL9⟩ := hrel
        cases gk with
        | zero =>
          obtain rfl : k = D := by omega
          have hd : decide (f + (k : Int) < n) = false := decide_eq_false (by have := HD.out; omega)
          have hd2 : ¬ (f + (k : Int) < n) := by have := HD.out; omega
          go_wp2
          go_ret2
          obtain ⟨l', q1, q2, q3⟩ := HL9.out
          obtain ⟨row, v9, a1, a2, a3, a4⟩ := q1
          rw [HRE.out]
          refine ⟨B, l', rfl, ⟨HUwo.out.trans a4 (fun j hj e => by have := HLOW.out j e; omega), a2, ⟨_, a1⟩⟩, q2, fun y => ?_⟩
          rw [q3, HD.out]
        | succ g =>
          have hd : decide (f + (k : Int) < n) = true := decide_eq_true (by have := HD.out; omega)
          have hd2 : f + (k : Int) < n := by have := HD.out; omega
          have hw1 : IntKind.i64.wrap (f + (k : Int) + 1) = f + (k : Int) + 1 := IntWalk.i64_in _ (by have := HFN.out; omega)
          have hlk := HUS.out.look (f + (k : Int)) (by have := HFN.out; unfold inI; omega)
          by_cases hm : f + (k : Int) ∈ u
          · rw [if_pos hm] at hlk
            have HM := Lib.hid hm
            clear hm
            go_wp2
            go_roundg g
            case measure => omega
            case rel =>
              obtain ⟨l', q1, q2, q3⟩ := HL9.out
              refine ⟨k + 1, by congr 1 <;> omega, by omega, HUS, Lib.hid ⟨l', q1, q2, fun y => ?_⟩⟩
              rw [q3]
              by_cases e : y = f + (k : Int)
              · subst e; rw [decide_eq_true HM.out]; simp
              · congr 2
                rw [decide_eq_decide]; omega
          · rw [if_neg hm] at hlk
            have HM := Lib.hid hm
            obtain ⟨l', q1, q2, q3⟩ := HL9.out
            obtain ⟨c0, HG⟩ := q1.give1 (by have := HUwo.out.size; omega) (f + (k : Int))
            dsimp only at HG
            have HG2 := Lib.hid HG
            have HGS := Lib.hid (giveA_in q2 (f + (k : Int)) (by have := HFN.out; have := HD.out; omega))
            have HQ3 := Lib.hid q3
            dsimp only at c0
            clear HG q1 q2 q3 hm
            go_wp2_with (fail)
            refine HG2.out.mono ?_
            rintro e w3 ⟨⟨v9, rfl⟩, D2, D3⟩
            go_wp2
            go_roundg g
            case measure => omega
            case rel =>
              refine ⟨k + 1, by congr 1 <;> omega, by omega, Lib.hid (HUS.out.upd D3 ?_), Lib.hid ⟨_, D2, HGS.out.1, fun y => ?_⟩⟩
              · rintro (e | ⟨row, v10, hA, e⟩)
                · obtain ⟨l2, ⟨row, v10, hA, _⟩, _⟩ := HL9.out
                  exact HNE.out _ HUS.out row v10 _ hA (.inl e)
                · exact HNE.out _ HUS.out row v10 _ hA (.inr e)
              · rw [HGS.out.2, HQ3.out]
                by_cases e : y = f + (k : Int)
                · subst e
                  rw [decide_eq_false HM.out, decide_eq_true rfl]
                  simp
                  omega
                · rw [decide_eq_false e, Bool.or_false]
                  congr 2
                  rw [decide_eq_decide]; omega
    | succ g =>
      have hil : i < l.length := by have := HNL.out; omega
      have hlx : l[i]? = some l[i] := List.getElem?_eq_getElem hil
      obtain ⟨g0, o0, u3, rr, rfl, dc0, dc1, dc2, hrs⟩ := HRD.out i _ hlx
      have dc0 := HUwo.out.cell dc0 (fun f => f)
      have dc1 := HUwo.out.cell dc1 (fun f => f)
      have dc2 := HUwo.out.cell dc2 (fun f => f)
      have hrs := hrs.upd HUwo.out (fun _ _ f => f)
      have hdrop : l.drop i = l[i] :: l.drop (i + 1) := List.drop_eq_getElem_cons hil
      have hin := HI.out _ (List.getElem_mem hil)
      generalize l[i] = xc at *
      obtain ⟨p, q, rest⟩ := xc
      dsimp only at dc0 dc1 dc2 hrs hin
      obtain ⟨adr, cpr, hu3, _, _, _⟩ := id hrs.1
      obtain ⟨RL, hRL⟩ : ∃ RL, RL = rest.length := ⟨_, rfl⟩
      rw [← hRL] at hu3
      subst hu3
      have HRLN := Lib.hid hRL
      clear hRL
      have HIN := Lib.hid hin
      rw [hdrop] at HRI
      have hd : decide ((i : Int) < (NL : Int)) = true := decide_eq_true (by omega)
      have hiN : i < NL := by omega
      have hw1 : IntKind.i64.wrap ((i : Int) + 1) = (i : Int) + 1 := IntWalk.i64_in _ (by omega)
      have HXB := Lib.hid (heap_alloc_new wo (.cells #[.int .i64 p, .int .i64 q, .slice adr RL cpr] 39))
      have UX := (Upd.refl (fun _ => False) wo).alloc (.cells #[.int .i64 p, .int .i64 q, .slice adr RL cpr] 39)
      have HUX := Lib.hid UX
      have HRS := Lib.hid (hrs.upd UX (fun _ _ f => f))
      have HRL : Hid (rest.length ≤ 100000) := Lib.hid (by have := hin.2.2; omega)
      clear hlx hdrop hin hil UX hrs
      by_cases hq : q < 1 ∨ 65535 < q
      · have HRE := Lib.hid (show R = none from HRI.out.trans (loadL_refs hq))
        by_cases hq1 : q < 1
        · have hd3 : decide (q < 1) = true := decide_eq_true hq1
          clear hq
          go_wp2
          go_ret2
          rw [HRE.out]
          exact ⟨rfl, HUwo.out.trans HUX.out (fun _ _ f => f)⟩
        · have hd3 : decide (q < 1) = false := decide_eq_false hq1
          have hd4 : decide (q > 65535) = true := decide_eq_true (by omega)
          have hq4 : q > 65535 := by omega
          clear hq
          go_wp2
          go_ret2
          rw [HRE.out]
          exact ⟨rfl, HUwo.out.trans HUX.out (fun _ _ f => f)⟩
      have HQ := Lib.hid hq
      have hq1 : ¬ (q < 1) := by omega
      have hq2 : ¬ (q > 65535) := by omega
      have hd3 : decide (q < 1) = false := decide_eq_false hq1
      have hd4 : decide (q > 65535) = false := decide_eq_false hq2
      clear hq
      go_wp2
      generalize (wo.alloc (.cells #[.int .i64 p, .int .i64 q, .slice adr RL cpr] 39)) = wx at HXB HUX HRS ⊢
      have X0 := Lib.hid (cell_heap HXB.out 0 _ rfl)
      have X1 := Lib.hid (cell_heap HXB.out 1 _ rfl)
      have X2 := Lib.hid (cell_heap HXB.out 2 _ rfl)
      clear dc0 dc1 dc2 hd3 hd4 hq1 hq2
      obtain ⟨L, hL⟩ : ∃ L, L = (p :: rest).length := ⟨_, rfl⟩
      have HL5 := Lib.hid hL
      clear hL
      refine wp_region_held_drew (S := fun w' => Upd (fun _ => False) wx w') (by kernel_rfl) (Upd.refl _ _).drew (fun hS => ?_)
      refine take_first (i := 0) (some 43) (v := ?_) rfl rfl (by kernel_rfl) (by kernel_rfl) (by kernel_rfl) (fun _ _ _ h => h) (Or.inl ⟨by rfl, ?_⟩) hS ?_
      rotate_left
      · intro w' hSw; go_simp; try with_reducible rfl
      try simp only [Act.put, List.setIfInBounds_toArray, List.set_cons_zero, List.set_cons_succ]
      refine take_first (i := 1) (some 44) (v := ?_) rfl rfl (by kernel_rfl) (by kernel_rfl) (by kernel_rfl) (fun _ _ _ h => h) (Or.inl ⟨by rfl, ?_⟩) hS ?_
      rotate_left
      · intro w' hSw; have e0 := hSw.cell X0.out (fun f => f); have e1 := hSw.cell X1.out (fun f => f); have e2 := hSw.cell X2.out (fun f => f); go_simp; try with_reducible rfl
      try simp only [Act.put, List.setIfInBounds_toArray, List.set_cons_zero, List.set_cons_succ]
      refine take_first (i := 3) (some 46) (v := ?_) rfl rfl (by kernel_rfl) (by kernel_rfl) (by kernel_rfl) (fun _ _ _ h => h) (Or.inl ⟨by rfl, ?_⟩) hS ?_
      rotate_left
      · intro w' hSw; go_simp; try with_reducible rfl
      try simp only [Act.put, List.setIfInBounds_toArray, List.set_cons_zero, List.set_cons_succ]
      refine take_first (i := 4) (some 47) (v := ?_) rfl rfl (by kernel_rfl) (by kernel_rfl) (by kernel_rfl) (fun _ _ _ h => h) (Or.inl ⟨by rfl, ?_⟩) hS ?_
      rotate_left
      · intro w' hSw; have e0 := hSw.cell X0.out (fun f => f); have e1 := hSw.cell X1.out (fun f => f); have e2 := hSw.cell X2.out (fun f => f); go_simp; try with_reducible rfl
      try simp only [Act.put, List.setIfInBounds_toArray, List.set_cons_zero, List.set_cons_succ]
      refine take_first (i := 6) (some 49) (v := ?_) rfl rfl (by kernel_rfl) (by kernel_rfl) (by kernel_rfl) (fun _ _ _ h => h) (Or.inl ⟨by rfl, ?_⟩) hS ?_
      rotate_left
      · intro w' hSw; go_simp; try with_reducible rfl
      try simp only [Act.put, List.setIfInBounds_toArray, List.set_cons_zero, List.set_cons_succ]
      refine take_first (i := 7) (some 50) (v := ?_) rfl rfl (by kernel_rfl) (by kernel_rfl) (by kernel_rfl) (fun _ _ _ h => h) (Or.inl ⟨by rfl, ?_⟩) hS ?_
      rotate_left
      · intro w' hSw; have e0 := hSw.cell X0.out (fun f => f); have e1 := hSw.cell X1.out (fun f => f); have e2 := hSw.cell X2.out (fun f => f); go_simp; try with_reducible rfl
      try simp only [Act.put, List.setIfInBounds_toArray, List.set_cons_zero, List.set_cons_succ]
      refine wpAnyH_ready (rs := [2]) (by kernel_rfl) (by simp) ?_
      refine AllReadyH.cons rfl (fun K hK => ?_) AllReadyH.nil
      go_simp
      refine hK.out _ _ ((Upd.refl _ wx).drew.alloc _) (fun _ => ?_)
      clear hS; have hS : Upd (fun _ => False) wx _ := (Upd.refl _ wx).drew.alloc (.cells #[.int .i64 p] 3)
      clear hK K
      try simp only [Act.put, List.setIfInBounds_toArray, List.set_cons_zero, List.set_cons_succ]
      refine wpAnyH_ready (rs := [5]) (by kernel_rfl) (by simp) ?_
      refine AllReadyH.cons rfl (fun K hK => ?_) AllReadyH.nil
      obtain ⟨v5, w5, hr5, ho5, hg5⟩ := app_rest (lo := wx.heap.size) (heap_alloc_new wx.drew (.cells #[.int .i64 p] 3)) (by exact Nat.le_refl _) (HRS.out.upd hS (fun _ _ f => f)) HRL.out
      obtain ⟨r5, hr5r, hr5l, hr5b⟩ := IntRow.of_owns ho5 (by simp)
      obtain ⟨o5, c5, cur5, hv5, hrow5, hcap5, hcm5, hget5⟩ := hr5r
      rw [← HL5.out] at hv5 hcap5
      subst hv5
      refine step_append_by (some 48) rfl (by rfl) (.tmp 45) (.tmp 47) 26 rfl (.slice (some ⟨wx.heap.size, 0, none⟩) 1 1) (.slice adr RL cpr) (.slice (some ⟨r5, o5, none⟩) L c5) rfl rfl hr5 ?_
      have u5 : Upd (fun _ => False) wx w5 := hS.grown hg5 (fun j e hlt => by cases e; exact absurd hlt (Nat.lt_irrefl _))
      refine hK.out _ _ u5 (fun _ => ?_)
      clear hS; have hS := u5
      clear hK K
      try simp only [Act.put, List.setIfInBounds_toArray, List.set_cons_zero, List.set_cons_succ]
      refine take_first (i := 8) (some 51) (v := ?_) rfl rfl (by kernel_rfl) (by kernel_rfl) (by kernel_rfl) (fun _ _ _ h => h) (Or.inl ⟨by rfl, ?_⟩) hS ?_
      rotate_left
      · intro w' hSw; go_simp; try with_reducible rfl
      try simp only [Act.put, List.setIfInBounds_toArray, List.set_cons_zero, List.set_cons_succ]
      refine wpAnyH_ready (rs := [9]) (by kernel_rfl) (by simp) ?_
      refine AllReadyH.cons rfl (fun K hK => ?_) AllReadyH.nil
      go_simp
      refine hK.out _ _ (hS.alloc _) (fun _ => ?_)
      clear hS; have hS : Upd (fun _ => False) wx _ := u5.alloc (.cells #[.slice (some ⟨r5, o5, none⟩) L c5, .int .i64 q, .bool true] 71)
      clear hK K
      try simp only [Act.put, List.setIfInBounds_toArray, List.set_cons_zero, List.set_cons_succ]
      refine take_first (i := 10) (some 13) (v := ?_) rfl rfl (by kernel_rfl) (by kernel_rfl) (by kernel_rfl) (fun _ _ _ h => h) (Or.inl ⟨by rfl, ?_⟩) hS ?_
      rotate_left
      · intro w' hSw; go_simp; try with_reducible rfl
      try simp only [Act.put, List.setIfInBounds_toArray, List.set_cons_zero, List.set_cons_succ]
      refine wpAnyH_done (by kernel_rfl) ?_ _
      have hkb := heap_alloc_new w5 (.cells #[.slice (some ⟨r5, o5, none⟩) L c5, .int .i64 q, .bool true] 71)
      have HCV := Lib.hid (show ChV (w5.alloc (.cells #[.slice (some ⟨r5, o5, none⟩) L c5, .int .i64 q, .bool true] 71)) (.slice (some ⟨r5, o5, none⟩) L c5) (w5.heap.size, r5, (p :: rest, q, true)) from ⟨hkb, o5, c5, cur5, by rw [HL5.out], heap_alloc_lt hrow5 _, by rw [← HL5.out]; exact hcap5, hcm5, hget5⟩)
      have HS6 := Lib.hid hS
      have HKB := Lib.hid (show wo.heap.size < w5.heap.size ∧ wo.heap.size < r5 by have h1 := lt_of_heap HXB.out; have h2 := u5.size; omega)
      clear hkb hS u5 hr5 ho5 hg5 hrow5 hcap5 hcm5 hget5 hr5l hr5b
      generalize w5.heap.size = kb at HCV HKB HS6 ⊢
      generalize (w5.alloc (.cells #[.slice (some ⟨r5, o5, none⟩) L c5, .int .i64 q, .bool true] 71)) = w6 at HCV HS6 ⊢
      have dk0 := cell_heap HCV.out.1 0 _ rfl
      dsimp only at dk0
      obtain ⟨secs, hsecs⟩ : ∃ secs, secs = p :: rest := ⟨_, rfl⟩
      have HSE := Lib.hid hsecs
      rw [← hsecs] at HCV HL5
      have HINS := Lib.hid (show ∀ y ∈ secs, inI y by rw [hsecs]; intro y hy; rcases List.mem_cons.1 hy with rfl | hy; exact HIN.out.1; exact HIN.out.2.1 y hy)
      clear hsecs
      have hL4 : L ≤ 100001 := by rw [HL5.out, HSE.out]; have := HRL.out; simp; omega
      have HUS6 := Lib.hid ((HLW.out.used.upd HUX.out (fun f => f)).upd HS6.out (fun f => f))
      go_wp2
      go_loopg [15, 58] L (fun kx s15 s58 wq => ∃ j : Nat, s58 = .int .i64 j ∧ j + kx = L ∧ Hid (UsedAt wq um (u ++ secs.take j)) ∧ Hid (Upd (fun i => i = um) w6 wq) ∧ Hid (loadS f n secs u = loadS f n (secs.drop j) (u ++ secs.take j)) ∧ Hid ((u ++ secs.take j).Nodup ∧ ∀ y ∈ u ++ secs.take j, f ≤ y ∧ y < n))
      case atStart => exact ⟨0, rfl, by omega, by simpa using HUS6, Lib.hid (Upd.refl _ _), Lib.hid (by simp), Lib.hid (by simpa using ⟨HLW.out.nod, HLW.out.rng⟩)⟩
      case round =>
        obtain ⟨j, rfl, hjj, HUS, HU6, HLS, HNR⟩ := hrel
        have HUwq := Lib.hid (show Upd (fun _ => False) w wr from ((HUwo.out.trans HUX.out (fun _ _ f => f)).trans HS6.out (fun _ _ f => f)).trans HU6.out (fun a ha e => by have h1 := HUMW.out; omega))
        have HUW2 := Lib.hid (show Upd (fun i => i = um ∨ i = h.bc) W2 wr from ((HLW.out.upd.trans HUX.out (fun _ _ f => f.elim)).trans HS6.out (fun _ _ f => f.elim)).trans HU6.out (fun _ _ e => .inl e))
        cases gk with
        | zero =>
          obtain rfl : j = L := by omega
          have htk : secs.take j = secs := List.take_of_length_le (by have := HL5.out; omega)
          have hdr : secs.drop j = [] := List.drop_of_length_le (by have := HL5.out; omega)
          rw [htk] at HUS HLS HNR
          rw [hdr] at HLS
          obtain ⟨xs, hat⟩ := HLW.out.at_
          have hlt : ∀ x ∈ xs, x.2.1 ≠ kb := fun x hx => by
            obtain ⟨v1, h3, _⟩ := hat.each x hx
            have := lt_of_heap h3
            have := HKB.out
            omega
          have hA := ((hat.later HUX.out).later HS6.out).off (fun i cs t fr hi => HUS6.out.ne hi) HBC.out.1 HBC.out.2.1 HU6.out
          have hcw := HCV.out.upd HU6.out (HUS6.out.ne HCV.out.1) (by obtain ⟨_, o9, c9, cur9, e9, hrw, _⟩ := HCV.out; exact HUS6.out.ne hrw)
          have D1 := Lib.hid (And.intro (cell_heap hA.obj 1 _ rfl) (show ¬ (B = h.bc) from ownsMap_ne hA.chains hA.obj))
          have HXC := HS6.out.heap HXB.out (fun f => f)
          have HXD := HU6.out.heap HXC (HUS6.out.ne HXC)
          have E0 := Lib.hid (And.intro (cell_heap HXD 0 _ rfl) (show ¬ (wo.heap.size = h.bc) from ownsMap_ne hA.chains HXD))
          have hp0 := HNR.out.2 p (by rw [HSE.out]; simp)
          have HUP := Lib.hid (show ∃ w4, (Instr.mapUpdate 63 (.map (some h.bc)) (.int .i64 p) (.pointer (some ⟨kb, 0, none⟩))).run Try.prog wr.drew = .ok () w4 ∧ w4.ownsMap (H := Unit) Try.prog 3 ptrRn h.bc 5001 (mD (putP (mapV blkI xs) p (kb : Int))) ∧ wr.drew.grownBy w4 (some h.bc) by
            obtain ⟨w4, q1, q2, q3⟩ := World.ownsMap.update hA.chains.drew KI Try.underlying63 (by decide) (key_of p HIN.out.1) (show ptrRn (.pointer (some ⟨kb, 0, none⟩)) = some (.lit (.int .i64 (kb : Int)), []) from rfl)
            rw [mD_put ((hA.ks HLW.out.ok).mapd blkI) p (kb : Int) (q2.canon KI)] at q2
            exact ⟨w4, q1, q2, q3⟩)
          have HA := Lib.hid hA
          have HCW := Lib.hid hcw
          have HLT := Lib.hid hlt
          have HP0 := Lib.hid hp0
          clear hA hcw hat hlt htk hdr dk0 HXC HXD hp0
          go_wp2
          refine wp_region_held_drew (S := fun w' => Upd (fun i => i = h.bc) wr w') (by kernel_rfl) (Upd.refl _ _).drew (fun hS => ?_)
          refine take_first (i := 0) (some 80) (v := ?_) rfl rfl (by kernel_rfl) (by kernel_rfl) (by kernel_rfl) (fun _ _ _ h => h) (Or.inl ⟨by rfl, ?_⟩) hS ?_
          rotate_left
          · intro w' hSw; go_simp; try with_reducible rfl
          try simp only [Act.put, List.setIfInBounds_toArray, List.set_cons_zero, List.set_cons_succ]
          refine take_first (i := 1) (some 81) (v := ?_) rfl rfl (by kernel_rfl) (by kernel_rfl) (by kernel_rfl) (fun _ _ _ h => h) (Or.inl ⟨by rfl, ?_⟩) hS ?_
          rotate_left
          · intro w' hSw; go_simp; try with_reducible rfl
          try simp only [Act.put, List.setIfInBounds_toArray, List.set_cons_zero, List.set_cons_succ]
          refine take_first (i := 2) (some 82) (v := ?_) rfl rfl (by kernel_rfl) (by kernel_rfl) (by kernel_rfl) (fun _ _ _ h => h) (Or.inl ⟨by rfl, ?_⟩) hS ?_
          rotate_left
          · intro w' hSw; go_simp; try with_reducible rfl
          try simp only [Act.put, List.setIfInBounds_toArray, List.set_cons_zero, List.set_cons_succ]
          refine take_first (i := 3) (some 83) (v := ?_) rfl rfl (by kernel_rfl) (by kernel_rfl) (by kernel_rfl) (fun _ _ _ h => h) (Or.inl ⟨by rfl, ?_⟩) hS ?_
          rotate_left
          · intro w' hSw; have d1 := hSw.cell D1.out.1 D1.out.2; have e0 := hSw.cell E0.out.1 E0.out.2; go_simp; try with_reducible rfl
          try simp only [Act.put, List.setIfInBounds_toArray, List.set_cons_zero, List.set_cons_succ]
          refine take_first (i := 4) (some 84) (v := ?_) rfl rfl (by kernel_rfl) (by kernel_rfl) (by kernel_rfl) (fun _ _ _ h => h) (Or.inl ⟨by rfl, ?_⟩) hS ?_
          rotate_left
          · intro w' hSw; go_simp; try with_reducible rfl
          try simp only [Act.put, List.setIfInBounds_toArray, List.set_cons_zero, List.set_cons_succ]
          refine take_first (i := 5) (some 85) (v := ?_) rfl rfl (by kernel_rfl) (by kernel_rfl) (by kernel_rfl) (fun _ _ _ h => h) (Or.inl ⟨by rfl, ?_⟩) hS ?_
          rotate_left
          · intro w' hSw; have d1 := hSw.cell D1.out.1 D1.out.2; have e0 := hSw.cell E0.out.1 E0.out.2; go_simp; try with_reducible rfl
          try simp only [Act.put, List.setIfInBounds_toArray, List.set_cons_zero, List.set_cons_succ]
          refine take_first (i := 6) (some 86) (v := ?_) rfl rfl (by kernel_rfl) (by kernel_rfl) (by kernel_rfl) (fun _ _ _ h => h) (Or.inl ⟨by rfl, ?_⟩) hS ?_
          rotate_left
          · intro w' hSw; go_simp; try with_reducible rfl
          try simp only [Act.put, List.setIfInBounds_toArray, List.set_cons_zero, List.set_cons_succ]
          refine wpAnyH_ready (rs := [7]) (by kernel_rfl) (by simp) ?_
          refine AllReadyH.cons rfl (fun K hK => ?_) AllReadyH.nil
          obtain ⟨w6, hr6, ho6, hg6⟩ := HUP.out
          refine step_update rfl (by rfl) 63 (.tmp 83) (.tmp 85) (.tmp 86) rfl (.map (some h.bc)) (.int .i64 p) (.pointer (some ⟨kb, 0, none⟩)) rfl rfl rfl hr6 ?_
          have u6 : Upd (fun i => i = h.bc) wr w6 := (Upd.refl _ wr).drew.grown hg6 (fun i e _ => by cases e; rfl)
          refine hK.out _ _ u6 (fun _ => ?_)
          clear hS; have hS := u6
          clear hK K
          try simp only [Act.put, List.setIfInBounds_toArray, List.set_cons_zero, List.set_cons_succ]
          refine wpAnyH_done (by kernel_rfl) ?_ _
          have HF := Lib.hid (And.intro hS ho6)
          clear hS u6 hr6 ho6 hg6
          go_wp2
          go_roundg g
          case measure => omega
          case rel =>
            obtain ⟨s1, s2⟩ := HF.out
            have hbl : (secs.length : Int) ≤ 4096 := by
              have h1 := (List.nodup_append.1 HNR.out.1).2.1
              have h2 := nodup_len 4096 secs h1 (fun y hy => by have := HNR.out.2 y (List.mem_append.2 (.inr hy)); have := HFN.out; omega)
              omega
            have okn : AlOk { n := n, free := [], ch := putP c p (secs, q, true), wait := [] } := AlOk.newchain (s := { n := n, free := [], ch := c, wait := [] }) HLW.out.ok (by have := HP0.out; have := HFN.out; dsimp only; omega) (by rw [HSE.out]; rfl) (by have := HQ.out; dsimp only; omega)
              (fun y hy => by have := HNR.out.2 y (List.mem_append.2 (.inr hy)); have := HFN.out; dsimp only; omega) (by dsimp only; omega)
            have hcn := HCW.out.upd s1 (show ¬ (kb = h.bc) from ownsMap_ne HA.out.chains HCW.out.1) (by obtain ⟨_, o9, c9, cur9, e9, hrw, _⟩ := HCW.out; exact ownsMap_ne HA.out.chains hrw)
            refine ⟨i + 1, u ++ secs, putP c p (secs, q, true), by rw [Int.natCast_add]; rfl, by omega, Lib.hid ⟨⟨_, HA.out.lay (p := p) (c := (secs, q, true)) HLW.out.ok s1 HLT.out (by have := HKB.out; have := HUwo.out.size; omega) (by have := HKB.out; have := HUwo.out.size; omega) ⟨_, hcn⟩ s2⟩, okn, HUS.out.upd s1 HBC.out.1, HNR.out.1, HNR.out.2, HUW2.out.trans s1 (fun _ _ e => .inr e)⟩, Lib.hid ?_⟩
            rw [HRI.out, loadL_ok HQ.out (by rw [← HSE.out]; exact HLS.out), ← HSE.out]
        | succ g2 =>
          have hjl : j < secs.length := by have := HL5.out; omega
          have hy : secs[j]? = some secs[j] := List.getElem?_eq_getElem hjl
          have hsd : secs.drop j = secs[j] :: secs.drop (j + 1) := List.drop_eq_getElem_cons hjl
          have hst : secs.take (j + 1) = secs.take j ++ [secs[j]] := List.take_succ_eq_append_getElem hjl
          have hyI := HINS.out _ (List.getElem_mem hjl)
          obtain ⟨cc, o9, c9, cur9, e9, hrw, _, _, hgt⟩ := HCV.out
          have cy := cell_heap (HU6.out.heap hrw (HUS6.out.ne hrw)) _ _ (hgt j _ hy)
          simp only [Value.slice.injEq, Option.some.injEq, Addr.mk.injEq] at e9
          replace e9 := e9.1.2.1
          rw [← e9] at cy
          clear e9 hrw hgt cc
          have dk2 : True := trivial
          generalize secs[j] = y at *
          have hlk := HUS.out.look y hyI
          have hdj : decide ((j : Int) < (L : Int)) = true := decide_eq_true (by omega)
          have hjL : j < L := by omega
          have hwj : IntKind.i64.wrap ((j : Int) + 1) = (j : Int) + 1 := IntWalk.i64_in _ (by omega)
          have HSD := Lib.hid hsd
          have HST := Lib.hid hst
          have HYI := Lib.hid hyI
          clear hy hsd hst hyI hjl dk0 dk2
          rw [HSD.out] at HLS
          by_cases hm : y ∈ u ++ secs.take j
          · rw [if_pos hm] at hlk
            have HRE := Lib.hid (show R = none from HRI.out.trans (loadL_secs HQ.out (by rw [← HSE.out]; exact HLS.out.trans (by unfold loadS; rw [if_pos (.inl hm)]))))
            clear hm
            go_wp2
            go_ret2
            rw [HRE.out]
            exact ⟨rfl, HUwq.out⟩
          · rw [if_neg hm] at hlk
            obtain ⟨c0, HH⟩ := HALL.out wr HUW2.out y
            have HH2 := Lib.hid HH
            clear HH
            by_cases hr : f ≤ y ∧ y < n
            · rw [decide_eq_true hr] at HH2
              have hHM := Lib.hid (And.intro hm hr)
              have HADD := Lib.hid (fun (w' : World) (hu : Upd (fun _ => False) wr w') => show (Instr.lookup 64 (.map (some um)) (.int .i64 y) false).run Try.prog w' = .ok (.int .i64 0) w' ∧ _ from ⟨by have := (HUS.out.upd hu (fun f => f)).look y HYI.out; rw [if_neg hHM.out.1] at this; exact this, (HUS.out.upd hu (fun f => f)).add (n := n) (by have := HFN.out; omega) (fun x hx => by have := HNR.out.2 x hx; have := HFN.out; omega) y (by have := hHM.out.2; have := HFN.out; omega)⟩)
              clear hm hr
              go_wp2_with (fail)
              refine HH2.out.mono ?_
              rintro e w7 ⟨rfl, u7⟩
              obtain ⟨hlk7, w8, hup8, hus8, hu8⟩ := HADD.out w7 u7
              have HU8 := Lib.hid (And.intro hus8 (And.intro hu8 u7))
              clear hus8 hu8 u7
              go_wp2
              go_roundg g2
              case measure => omega
              case rel =>
                have hL9 : loadS f n (y :: secs.drop (j + 1)) (u ++ secs.take j) = loadS f n (secs.drop (j + 1)) (u ++ secs.take (j + 1)) := by
                  conv => lhs; unfold loadS
                  rw [if_neg (by have := hHM.out; intro h; rcases h with h | h; exact this.1 h; exact h this.2), HST.out, ← List.append_assoc]
                refine ⟨j + 1, by rw [Int.natCast_add]; rfl, by omega, Lib.hid ?_, Lib.hid ?_, Lib.hid (HLS.out.trans hL9), Lib.hid ⟨?_, fun z hz => ?_⟩⟩
                · rw [HST.out, ← List.append_assoc]; exact HU8.out.1
                · exact (HU6.out.trans HU8.out.2.2 (fun _ _ f => f.elim)).trans HU8.out.2.1 (fun _ _ e => e)
                · rw [HST.out, ← List.append_assoc]
                  refine List.nodup_append.2 ⟨HNR.out.1, by simp, fun a ha b hb e => ?_⟩
                  simp only [List.mem_singleton] at hb
                  subst hb; subst e
                  exact hHM.out.1 ha
                · rw [HST.out, ← List.append_assoc] at hz
                  rcases List.mem_append.1 hz with hz | hz
                  · exact HNR.out.2 z hz
                  · simp only [List.mem_singleton] at hz; rw [hz]; exact hHM.out.2
            · rw [decide_eq_false hr] at HH2
              have HRE := Lib.hid (show R = none from HRI.out.trans (loadL_secs HQ.out (by rw [← HSE.out]; exact HLS.out.trans (by unfold loadS; rw [if_pos (.inr hr)]))))
              clear hm hr
              go_wp2_with (fail)
              refine HH2.out.mono ?_
              rintro e w7 ⟨rfl, u7⟩
              go_wp2
              go_ret2
              rw [HRE.out]
              exact ⟨rfl, HUwq.out.trans u7 (fun _ _ f => f)⟩

end Go.Proofs.Ytieohjibccjliaa
