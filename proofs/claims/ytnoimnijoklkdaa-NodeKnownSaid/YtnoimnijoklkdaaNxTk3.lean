/- node.read: an inner node's road (printed by gen_nxtk3.py). -/
import Derived.Test.YtnoimnijoklkdaaNxTk2
set_option linter.unusedVariables false
set_option linter.unusedSimpArgs false
namespace Go.Proofs.Ytnoimnijoklkdaa.Px
open Go.RowKit Go.Shelf Go.Proofs.YtnoimnijoklkdaaW.PrintWords Go.Proofs.YtnoimnijoklkdaaW.PrintLast

def inn3 (ks : List Int) (ps ts : List ByteArray) (l : List UInt8) (e : Int) : Rn × List UInt8 × Int := if e ≠ 0 then (zRn, [], 10) else (⟨false, [], ps, ks, ts⟩, l, 0)
def inn2 (ks : List Int) (ps : List ByteArray) (l : List UInt8) (e : Int) : Rn × List UInt8 × Int :=
  let c := rU16 l e
  let ts := many strR c.1 c.2.1 c.2.2
  inn3 ks ps ts.1 ts.2.1 ts.2.2
def inn1 (m : Nat) (ks : List Int) (l : List UInt8) (e : Int) : Rn × List UInt8 × Int :=
  let ps := many strR (m - 1) l e
  inn2 ks ps.1 ps.2.1 ps.2.2
theorem innerN_eq (l : List UInt8) (e : Int) : innerN l e = inn1 (rU8 l e).1 (many kidR (rU8 l e).1 (rU8 l e).2.1 (rU8 l e).2.2).1 (many kidR (rU8 l e).1 (rU8 l e).2.1 (rU8 l e).2.2).2.1 (many kidR (rU8 l e).1 (rU8 l e).2.1 (rU8 l e).2.2).2.2 := rfl
theorem inn3_err (ks : List Int) (ps ts : List ByteArray) (l : List UInt8) (e : Int) (he : e ≠ 0) : inn3 ks ps ts l e = (zRn, [], 10) := by unfold inn3; rw [if_pos he]
theorem inn2_err (ks : List Int) (ps : List ByteArray) (l : List UInt8) (e : Int) (he : e ≠ 0) : inn2 ks ps l e = (zRn, [], 10) := by
  unfold inn2
  dsimp only
  rw [rU16_err l e he]
  dsimp only
  exact inn3_err _ _ _ _ _ (by rw [many_err strR_err _ _ _ he]; exact he)
theorem inn1_err (m : Nat) (ks : List Int) (l : List UInt8) (e : Int) (he : e ≠ 0) : inn1 m ks l e = (zRn, [], 10) := by
  unfold inn1
  dsimp only
  rw [many_err strR_err _ _ _ he]
  exact inn2_err _ _ _ _ he

theorem step_build1 {P : Program} {ops : Array Oper} {o : Oper} {a : Act} {w : World} {K : Act → World → Prop} {Q : Exit → Act → World → Prop} {E : Prop} (d : Option Tmp) (hd : o.dst = d) (hw : Region.wanted o (yielded ops a.tmps) = true) (t e : TypeId) (x : Operand)
    (ho : o.op = .buildSlice t 1 #[(0, x)]) (hu : P.underlying t = some (.slice e)) {z : Value} {bytes : Nat} (hi : (P.info? e).map (fun i => (i.zero, i.size, i.bytes)) = some (some z, 1, bytes)) (v : Value) (hx : a.eval x = v) (h1 : v.cells = #[v]) (hz1 : z.cells = #[z])
    (h : K (a.put d (.slice (some ⟨w.heap.size, 0, none⟩) 1 1)) (w.alloc (.cells [v].toArray e))) : if Region.wanted o (yielded ops a.tmps) = true then Oper.wp P o a w K Q else E := by
  subst hd
  rw [if_pos hw]
  obtain ⟨ie, hie, hzz⟩ := Option.map_eq_some_iff.1 hi
  simp only [Prod.mk.injEq] at hzz
  obtain ⟨hz0, hs1, _⟩ := hzz
  refine wp_buildSlice t e 1 _ ho [v].toArray ie z hu hie hz0 (by rw [hs1]; decide) (by rw [hs1]; decide) ?_ h
  have hr : Array.range 1 = #[0] := rfl
  simp [Instr.fill, hx, hs1, h1, hz1, hr]

theorem len_bound {a i n : Nat} (h : a = i) (hi : i < n) (hn : n < 256) : a + 1 ≤ 70000 := by omega
theorem step_zero {i n : Nat} (h : i + 0 = n) : i = n := h
theorem step_lt {i g n : Nat} (h : i + (g + 1) = n) : i < n := by omega
theorem sub_lt0 (n : Nat) : ¬ (((n - 1 : Nat) : Int) < (n : Int) - 1) := by omega
theorem sub_lt1 {i g n : Nat} (h : i + (g + 1) = n - 1) : (i : Int) < (n : Int) - 1 := by omega
theorem len_bound2 {a i g n : Nat} (h : a = i) (hi : i + (g + 1) = n) (hn : n < 65536) : a + 1 ≤ 70000 := by omega
theorem wrap_next {i g n : Nat} (hi : i + (g + 1) = n) (hn : n < 65536) : wrap64 ((i : Int) + 1) = ((i + 1 : Nat) : Int) := by unfold wrap64; omega
theorem wrap_next16 {i g n : Nat} (hi : i + (g + 1) = n) (hn : n < 65536) : IntKind.u16.wrap ((i : Int) + 1) = ((i + 1 : Nat) : Int) := by rw [IntWalk.u16_in _ (by omega)]; omega
theorem upd_w {br N0 : Nat} {w w3 w6 : World} (h : Upd (fun k => k = br) w w3) (hN : w.heap.size = N0) (h2 : Upd (fun k => k = br ∨ k = N0) w3 w6) : Upd (fun k => k = br) w w6 :=
  h.trans h2 (fun k hk f => f.elim id (fun f => absurd hk (by omega)))
theorem ne_brN {N br base k : Nat} (h : N < base ∧ br < base) (hk : base ≤ k) : ¬ (k = br ∨ k = N) := fun e => by omega
theorem lb_size {N br a b : Nat} (h : N < a ∧ br < a) (hs : a ≤ b) : N < b ∧ br < b := ⟨Nat.lt_of_lt_of_le h.1 hs, Nat.lt_of_lt_of_le h.2 hs⟩
theorem app_len {α : Type} {xs XS : List α} {x : α} {i : Nat} (h : XS = xs ++ [x]) (hi : xs.length = i) : XS.length = i + 1 := by rw [h, List.length_append, hi]; rfl
theorem step_sum {i g n : Nat} (h : i + (g + 1) = n) : i + 1 + g = n := by omega
theorem lb_le {W N br b : Nat} (h0 : W = N) (h : N < b ∧ br < b) : W ≤ b := by omega
theorem ne_br {N br base k : Nat} (h : N < base ∧ br < base) (hk : base ≤ k) : ¬ k = br := fun e => by omega
theorem small8 {n : Nat} (h : n + 1 ≤ 70000) : (n + 1) * 8 ≤ 140737488355328 := by omega
theorem small16 {n : Nat} (h : n + 1 ≤ 70000) : (n + 1) * 16 ≤ 140737488355328 := by omega
theorem u16_enters : Enters Try.prog 58 := enters_of Try.func58 rfl rfl
theorem text_enters : Enters Try.prog 59 := enters_of Try.func59 rfl rfl

set_option maxHeartbeats 16000000 in
set_option maxRecDepth 100000 in
theorem read_inner (br : Nat) (l : List UInt8) (w : World) (hl : l.length ≤ 1000000) (hR : Rd w br l 0) (h0 : (rU8 l 0).2.2 = 0) (h1 : (rU8 l 0).1 = 2) :
    Calls Try.prog 32 #[.pointer (some ⟨br, 0, none⟩)] w (RdPost (rdN l) br w) := by
  have hun := Try.underlying28
  have lbr := lt_of_heap hR
  obtain ⟨RR, hRR⟩ : ∃ RR, RR = rdN l := ⟨_, rfl⟩
  rw [← hRR]
  unfold rdN at hRR
  dsimp only at hRR
  rw [if_neg (by rw [h0]; decide), if_neg (by rw [h1]; decide), if_pos h1] at hRR
  have q1 := rU8_le l 0
  have H1 := Lib.hid (fun w h => Reader_U8 br l 0 w (by omega) h)
  generalize rU8 l 0 = a at *
  obtain ⟨k, L1, e1⟩ := a
  dsimp only at h0 h1 hRR q1 H1
  subst h0 h1
  have H2 := Lib.hid (fun w h => Reader_U8 br L1 0 w (by omega) h)
  have q2 := rU8_le L1 0
  have b2 := rU8_lt L1 0
  rw [innerN_eq] at hRR
  generalize rU8 L1 0 = c at *
  obtain ⟨n, L2, e2⟩ := c
  dsimp only at hRR q2 b2 H2
  unfold Two8 at b2
  have HRR := Lib.hid hRR
  clear hRR
  have hN := heap_alloc_new w (.cells #[.bool false, .slice none 0 0, .slice none 0 0, .slice none 0 0, .slice none 0 0] 28)
  have hRa : Rd (w.alloc (.cells #[.bool false, .slice none 0 0, .slice none 0 0, .slice none 0 0, .slice none 0 0] 28)) br l 0 := heap_alloc_lt hR _
  have u0 := (Upd.refl (fun k => k = br) w).alloc (.cells #[.bool false, .slice none 0 0, .slice none 0 0, .slice none 0 0, .slice none 0 0] 28)
  have NB := Lib.hid (show w.heap.size ≠ br by omega)
  go_enter Try.func32, Try.ntmps32
  go_wp2_with (fail)
  refine (H1.out _ hRa).mono ?_
  rintro e w1 ⟨rfl, hR1, u1⟩
  have U1 := Lib.hid (u0.trans u1 (fun _ _ f => f))
  have HN1 := u1.heap hN NB.out
  clear u0 u1 hN hRa
  go_wp2_with (fail)
  refine (must_ok br L1 w1 hR1).mono ?_
  rintro e w2 ⟨rfl, hw⟩
  subst hw
  have o1 : ((2 : Int) == 1) = false := rfl
  have o2 : ((2 : Int) == 2) = true := rfl
  go_wp2_with (fail)
  refine (H2.out _ hR1).mono ?_
  rintro e w3 ⟨rfl, hR3, u3⟩
  have HN3 := u3.heap HN1 NB.out
  have U3 := Lib.hid (U1.out.trans u3 (fun _ _ f => f))
  have HR3 := Lib.hid hR3
  have w64n : IntKind.i64.wrap (n : Int) = (n : Int) := IntWalk.i64_in _ (by omega)
  have w64m : wrap64 ((n : Int) - 1) = (n : Int) - 1 := by unfold wrap64; omega
  clear u3 HN1 hR1 U1
  go_wp2
  obtain ⟨N0, hN0⟩ : ∃ N0, w.heap.size = N0 := ⟨_, rfl⟩
  have HN0 := Lib.hid hN0
  have LB3 := Lib.hid (show N0 < w3.heap.size ∧ br < w3.heap.size by
    have h1 := lt_of_heap HN3
    have h2 := lt_of_heap hR3
    rw [hN0] at h1
    exact ⟨h1, h2⟩)
  rw [hN0] at NB HN3 ⊢
  have HN3' := Lib.hid HN3
  have HL2 := Lib.hid (show L2.length ≤ 1000000 from Nat.le_trans q2 (Nat.le_trans q1 hl))
  have B2 := Lib.hid b2
  replace w64m := Lib.hid w64m
  clear hR3 HN3 hN0 hR q1 q2 hl lbr b2 w64n
  go_loopg [42] n (fun g v42 wr => ∃ (i : Nat) (A : Option Addr) (c : Nat) (xs : List Int) (li : List UInt8) (ei : Int), v42 = .int .i64 i ∧ i + g = n ∧ Hid (wr.heap[N0]? = some (.cells #[.bool false, .slice none 0 0, .slice none 0 0, .slice A xs.length c, .slice none 0 0] 28 (0, 0))) ∧
    Hid (Kd.R (Kd.int .i64) 3 wr w3.heap.size (fun _ => True) (.slice A xs.length c) xs) ∧ Hid (Rd wr br li ei) ∧ Hid (Upd (fun k => k = br ∨ k = N0) w3 wr) ∧ Hid (many kidR n L2 e2 = (xs ++ (many kidR g li ei).1, (many kidR g li ei).2)) ∧ Hid (li.length ≤ 1000000) ∧ Hid (xs.length = i))
  case atStart => exact ⟨0, none, 0, [], L2, e2, rfl, Nat.zero_add _, HN3', Lib.hid (Kd.R_nil _ _ _ _ _), HR3, Lib.hid (Upd.refl _ _), Lib.hid (by simp), HL2, Lib.hid rfl⟩
  case round =>
    clear HN3' HR3
    obtain ⟨i, A, c, xs, li, ei, rfl, hig, HN, HK, HRi, HU, HM, hli, hxi⟩ := hrel
    cases gk with
    | zero =>
      obtain rfl := step_zero hig
      have hlt : decide ((i : Int) < (i : Int)) = false := decide_eq_false (Int.lt_irrefl _)
      have hm : many kidR i L2 e2 = (xs, li, ei) := by rw [HM.out]; simp [many]
      have hx : RR = inn2 xs (many strR (i - 1) li ei).1 (many strR (i - 1) li ei).2.1 (many strR (i - 1) li ei).2.2 := by rw [HRR.out, hm]; rfl
      replace HRR := Lib.hid hx
      have LB4 := Lib.hid (lb_size LB3.out HU.out.size)
      have HU4 := HU
      have HK4 := HK
      have HN4 := HN
      have HR4 := HRi
      have hli4 := hli
      clear hx hm HM HU HK HN HRi hli hlt hig hxi H2
      generalize wr = w4 at *
      generalize xs = ks at *
      generalize A = A3 at *
      generalize c = c3 at *
      generalize hi1 : i = n at *
      clear hi1
      generalize li = L4 at *
      generalize ei = e4 at *
      have hlt : decide ((n : Int) < (n : Int)) = false := decide_eq_false (Int.lt_irrefl _)
      go_wp2
      clear hlt
      rw [w64m.out]
      go_loopg [57] (n - 1) (fun g v57 wr => ∃ (i : Nat) (A : Option Addr) (c : Nat) (xs : List ByteArray) (li : List UInt8) (ei : Int), v57 = .int .i64 i ∧ i + g = n - 1 ∧ Hid (wr.heap[N0]? = some (.cells #[.bool false, .slice none 0 0, .slice A xs.length c, .slice A3 ks.length c3, .slice none 0 0] 28 (0, 0))) ∧
        Hid (Kd.R Kd.string 9 wr w4.heap.size (fun _ => True) (.slice A xs.length c) xs) ∧ Hid (Rd wr br li ei) ∧ Hid (Upd (fun k => k = br ∨ k = N0) w4 wr) ∧ Hid (many strR (n - 1) L4 e4 = (xs ++ (many strR g li ei).1, (many strR g li ei).2)) ∧ Hid (li.length ≤ 1000000) ∧ Hid (xs.length = i))
      case atStart => exact ⟨0, none, 0, [], L4, e4, rfl, Nat.zero_add _, HN4, Lib.hid (Kd.R_nil _ _ _ _ _), HR4, Lib.hid (Upd.refl _ _), Lib.hid (by simp), hli4, Lib.hid rfl⟩
      case round =>
        clear HN4 HR4
        obtain ⟨i, A, c, xs, li, ei, rfl, hig, HN, HK, HRi, HU, HM, hli, hxi⟩ := hrel
        cases gk with
        | zero =>
          obtain rfl := step_zero hig
          have hlt : decide (((n - 1 : Nat) : Int) < (n : Int) - 1) = false := decide_eq_false (sub_lt0 n)
          have hm : many strR (n - 1) L4 e4 = (xs, li, ei) := by rw [HM.out]; simp [many]
          have hx : RR = inn2 ks xs li ei := by rw [HRR.out, hm]
          have H6 := Lib.hid (fun w h => Reader_U16 br li ei w (Nat.le_trans hli.out (by decide)) h)
          have q6 := rU16_le li ei
          have b6 := rU16_lt li ei
          unfold inn2 at hx
          dsimp only at hx
          generalize rU16 li ei = c6 at *
          obtain ⟨cn, L6, e6⟩ := c6
          dsimp only at hx H6 q6 b6
          unfold Two16 at b6
          replace HRR := Lib.hid hx
          have HUw := Lib.hid (HU4.out.trans HU.out (fun _ _ f => f))
          have HKk := Lib.hid (R_upd HK4.out HU.out (fun k hk => ne_brN LB3.out hk))
          have B6 := Lib.hid b6
          have Q6 := Lib.hid (Nat.le_trans q6 hli.out)
          have LB9 := Lib.hid (lb_size LB4.out HU.out.size)
          clear hx hm HM HU hli q6 b6 hig hxi HK4 HU4
          generalize wr = w9 at *
          generalize xs = ps at *
          generalize A = A2 at *
          generalize c = c2 at *
          go_wp2_with (fail)
          refine (H6.out _ HRi.out).mono ?_
          rintro e wa ⟨rfl, hRa, ua⟩
          have HNa := Lib.hid (ua.heap HN.out NB.out)
          have HKa := Lib.hid (R_upd HKk.out ua (fun k hk => ne_br LB3.out hk))
          have HPa := Lib.hid (R_upd HK.out ua (fun k hk => ne_br LB4.out hk))
          have HUa := Lib.hid (HUw.out.trans ua (fun _ _ f => .inl f))
          have LBa := Lib.hid (lb_size LB9.out ua.size)
          have HRa := Lib.hid hRa
          clear hRa ua HN HKk HK HUw HRi H6 hlt
          go_wp2
          go_loopg [3, 71] cn (fun g v3 v71 wr => ∃ (i : Nat) (A : Option Addr) (c : Nat) (xs : List ByteArray) (li : List UInt8) (ei : Int), v3 = .slice A xs.length c ∧ v71 = .int .u16 i ∧ i + g = cn ∧
            Hid (Kd.R Kd.string 9 wr wa.heap.size (fun _ => True) (.slice A xs.length c) xs) ∧ Hid (Rd wr br li ei) ∧ Hid (Upd (fun k => k = br) wa wr) ∧ Hid (many strR cn L6 e6 = (xs ++ (many strR g li ei).1, (many strR g li ei).2)) ∧ Hid (li.length ≤ 1000000) ∧ Hid (xs.length = i))
          case atStart => exact ⟨0, none, 0, [], L6, e6, rfl, rfl, Nat.zero_add _, Lib.hid (Kd.R_nil _ _ _ _ _), HRa, Lib.hid (Upd.refl _ _), Lib.hid (by simp), Q6, Lib.hid rfl⟩
          case round =>
            clear HRa
            obtain ⟨i, A, c, xs, li, ei, rfl, rfl, hig, HK, HRi, HU, HM, hli, hxi⟩ := hrel
            cases gk with
            | zero =>
              obtain rfl := step_zero hig
              have hlt : decide ((i : Int) < (i : Int)) = false := decide_eq_false (Int.lt_irrefl _)
              have hm : many strR i L6 e6 = (xs, li, ei) := by rw [HM.out]; simp [many]
              have hx : RR = inn3 ks ps xs li ei := by rw [HRR.out, hm]
              have UW := Lib.hid ((upd_w U3.out HN0.out HUa.out).trans HU.out (fun _ _ f => f))
              clear hm HM hli hig
              by_cases he : ei = 0
              · subst he
                have HF := Lib.hid (show RR = (⟨false, [], ps, ks, xs⟩, li, 0) by rw [hx]; exact if_neg (by decide))
                have HN := Lib.hid (HU.out.heap HNa.out NB.out)
                have d0 := cell_heap HN.out 0 (.bool false) rfl
                have d1 := cell_heap HN.out 1 (.slice none 0 0) rfl
                have d2 := cell_heap HN.out 2 (.slice A2 ps.length c2) rfl
                have d3 := cell_heap HN.out 3 (.slice A3 ks.length c3) rfl
                have d4 := cell_heap HN.out 4 (.slice none 0 0) rfl
                have f0 := free_heap HN.out 0
                have f1 := free_heap HN.out 1
                have f2 := free_heap HN.out 2
                have f3 := free_heap HN.out 3
                have f4 := free_heap HN.out 4
                go_wp2_with (fail)
                refine (must_ok br li wr HRi.out).mono ?_
                rintro e w4b ⟨rfl, hw⟩
                subst hw
                go_wp2
                have z := set5_at HN.out (.bool false) (.slice none 0 0) (.slice A2 ps.length c2) (.slice A3 ks.length c3) (.slice none 0 0)
                have zu := set5_upd UW.out (N := N0) (fun h => absurd h (Nat.not_lt.2 (Nat.le_of_eq HN0.out))) (.bool false) (.slice none 0 0) (.slice A2 ps.length c2) (.slice A3 ks.length c3) (.slice none 0 0)
                have zr := set5_R HK.out LBa.out.1 (.bool false) (.slice none 0 0) (.slice A2 ps.length c2) (.slice A3 ks.length c3) (.slice none 0 0)
                have zp := set5_R (R_upd HPa.out HU.out (fun k hk => ne_br LB4.out hk)) LB4.out.1 (.bool false) (.slice none 0 0) (.slice A2 ps.length c2) (.slice A3 ks.length c3) (.slice none 0 0)
                have zk := set5_R (R_upd HKa.out HU.out (fun k hk => ne_br LB3.out hk)) LB3.out.1 (.bool false) (.slice none 0 0) (.slice A2 ps.length c2) (.slice A3 ks.length c3) (.slice none 0 0)
                have zd : Rd _ br li 0 := set5_ne HRi.out (Ne.symm NB.out) (.bool false) (.slice none 0 0) (.slice A2 ps.length c2) (.slice A3 ks.length c3) (.slice none 0 0)
                unfold set5 at z zu zr zp zk zd
                generalize ((((w4b.setCell ⟨N0, 0, none⟩ (.bool false)).setCell ⟨N0, 1, none⟩ (.slice none 0 0)).setCell ⟨N0, 2, none⟩ (.slice A2 ps.length c2)).setCell ⟨N0, 3, none⟩ (.slice A3 ks.length c3)).setCell ⟨N0, 4, none⟩ (.slice none 0 0) = W6 at z zu zr zp zk zd ⊢
                have z0 := cell_heap z 0 _ rfl
                have z1 := cell_heap z 1 _ rfl
                have z2 := cell_heap z 2 _ rfl
                have z3 := cell_heap z 3 _ rfl
                have z4 := cell_heap z 4 _ rfl
                refine bodyPost_ret (v := .tuple #[.agg #[.bool false, .slice none 0 0, .slice A2 ps.length c2, .slice A3 ks.length c3, .slice none 0 0], .slice A xs.length c]) ?_ rfl ?_
                · simp [results, Try.results32, go_sem, hun, z0, z1, z2, z3, z4]
                · rw [HF.out]
                  exact .inr ⟨rfl, _, _, _, _, rfl, Kd.R_nil _ _ _ _ _, Kd.R_lower zp (lb_le HN0.out LB4.out), Kd.R_lower zk (lb_le HN0.out LB3.out), Kd.R_lower zr (lb_le HN0.out LBa.out), zd, zu⟩
              · have HF := Lib.hid (show RR = (zRn, [], 10) by rw [hx]; exact inn3_err _ _ _ _ _ he)
                clear hx
                go_wp2_with (fail)
                refine (must_bad br li ei wr HRi.out he).mono ?_
                rintro e w4b ⟨rfl, hw⟩
                subst hw
                go_wp2
                exact ⟨rfl, RdPost.bad (by rw [HF.out]) (by decide) UW.out⟩
            | succ g =>
              have hlt : decide ((i : Int) < (cn : Int)) = true := decide_eq_true (Int.ofNat_lt.2 (step_lt hig))
              have hltn : decide (i < cn) = true := decide_eq_true (step_lt hig)
              have hwi := wrap_next16 hig B6.out
              have HSZ := Lib.hid (small16 (len_bound2 hxi.out hig B6.out))
              have HLT := Lib.hid (step_sum hig)
              have hq := rText_rest li ei
              have hv : strR li ei = ((⟨(rText li ei).1.toArray⟩ : ByteArray), (rText li ei).2) := rfl
              have HV := Lib.hid hv
              have H5 := Lib.hid (fun w h => Reader_Text br li ei w (Nat.le_trans hli.out (by decide)) h)
              clear hv
              generalize rText li ei = y at *
              obtain ⟨s1, L1i, e1i⟩ := y
              dsimp only at HV H5 hq
              have HQ := Lib.hid hq
              clear hq hig
              go_wp2_with (fail)
              refine (H5.out _ HRi.out).mono ?_
              rintro e wb ⟨rfl, hRb, ub⟩
              have HK2 := Lib.hid (R_upd HK.out ub (fun k hk => ne_br LBa.out hk))
              have LWb := Lib.hid (Nat.le_trans HU.out.size ub.size)
              have HUb := Lib.hid (HU.out.trans ub (fun _ _ f => f))
              have HRb := Lib.hid hRb
              clear hRb ub
              go_wp2_with (
                at_builtin
                refine Kd.R_append Kd.string (w0 := wb) wa.heap.size rfl (.tmp 73) (.tmp 76) 24 9 (.string ⟨#[]⟩) 16 rfl Try.underlying24 info9 rfl (by decide) (by decide) (.slice A xs.length c) xs (⟨s1.toArray⟩ : ByteArray) [.string ⟨s1.toArray⟩] (fun _ => True) (fun _ => False) rfl rfl rfl (fun _ hk => hk.elim) (fun _ _ => trivial) HK2.out (Below.refl _ _) LWb.out HSZ.out ?_
                intro v2 w5 hK3 hb3 hg3 hat3
                obtain ⟨XS, hXS⟩ : ∃ XS, XS = xs ++ [(⟨s1.toArray⟩ : ByteArray)] := ⟨_, rfl⟩
                rw [← hXS] at hK3
                have HXS := Lib.hid hXS
                clear hXS
                obtain ⟨A5, c5, rfl⟩ := Kd.R_slice hK3
                have HR6 : Hid (Rd w5 br L1i e1i) := Lib.hid ((hb3.block br LBa.out.2).trans HRb.out)
                have HK6 := Lib.hid hK3
                have HU6 := Lib.hid (HUb.out.trans (Upd.of_below hb3) (fun k hk h => absurd hk (Nat.not_lt.2 h)))
                have hxl := Lib.hid (show XS.length = i + 1 by exact app_len HXS.out hxi.out)
                clear hK3 hb3 hg3 hat3)
              by_cases he : e1i = 0
              · subst he
                have HM1 := Lib.hid (show many strR (g + 1) li ei = ((⟨s1.toArray⟩ : ByteArray) :: (many strR g L1i 0).1, (many strR g L1i 0).2) by rw [many_one (by rw [HV.out]), HV.out])
                refine (must_ok br L1i w5 HR6.out).mono ?_
                rintro e w7 ⟨rfl, hw⟩
                subst hw
                go_wp2
                go_roundg g
                case measure => exact Nat.lt_succ_self _
                case rel => exact ⟨i + 1, A5, c5, XS, L1i, 0, rfl, by go_num, HLT.out, HK6, HR6, HU6, Lib.hid (by rw [HM.out, HM1.out, HXS.out]; simp), Lib.hid (Nat.le_trans HQ.out hli.out), hxl⟩
              · have hb : (strR li ei).2.2 ≠ 0 := by rw [HV.out]; exact he
                have HF := Lib.hid (show RR = (zRn, [], 10) by rw [HRR.out, HM.out, many_bad hb, HV.out]; exact inn3_err _ _ _ _ _ he)
                refine (must_bad br L1i e1i w5 HR6.out he).mono ?_
                rintro e w7 ⟨rfl, hw⟩
                subst hw
                go_wp2
                exact ⟨rfl, RdPost.bad (by rw [HF.out]) (by decide) ((upd_w U3.out HN0.out HUa.out).trans HU6.out (fun _ _ f => f))⟩
        | succ g =>
          have hlt : decide ((i : Int) < (n : Int) - 1) = true := decide_eq_true (sub_lt1 hig)
          have hwi := wrap_next hig (Nat.lt_of_le_of_lt (Nat.sub_le n 1) (Nat.lt_of_lt_of_le B2.out (by decide)))
          have HSZ := Lib.hid (small16 (len_bound2 hxi.out hig (Nat.lt_of_le_of_lt (Nat.sub_le n 1) (Nat.lt_of_lt_of_le B2.out (by decide)))))
          have HLT := Lib.hid (step_sum hig)
          have hq := rText_rest li ei
          have hv : strR li ei = ((⟨(rText li ei).1.toArray⟩ : ByteArray), (rText li ei).2) := rfl
          have HV := Lib.hid hv
          have H5 := Lib.hid (fun w h => Reader_Text br li ei w (Nat.le_trans hli.out (by decide)) h)
          clear hv
          generalize rText li ei = y at *
          obtain ⟨s1, L1i, e1i⟩ := y
          dsimp only at HV H5 hq
          have HQ := Lib.hid hq
          clear hq hig
          have LBS := LB4
          have U3 := Lib.hid (upd_w U3.out HN0.out HU4.out)
          go_wp2
          refine wp_region_held_drew (S := fun _ => True) (by kernel_rfl) trivial (fun hS => ?_)
          have HNd : Hid (wr.drew.heap[N0]? = _) := Lib.hid HN.out
          have HRd : Hid (Rd wr.drew br li ei) := Lib.hid HRi.out
          have HKd := Lib.hid (Kd.R_drew HK.out)
          have HUd : Hid (Upd _ wr wr.drew) := Lib.hid (Upd.refl (fun k => k = br) wr).drew
          refine take_first (i := 0) (some 59) (v := ?_) rfl rfl (by kernel_rfl) (by kernel_rfl) (by kernel_rfl) (fun _ _ _ h => h) (Or.inl ⟨by rfl, ?_⟩) hS ?_
          rotate_left
          · intro w' hSw; go_simp; try with_reducible rfl
          simp only [Act.put, List.setIfInBounds_toArray, List.set_cons_zero, List.set_cons_succ]
          refine take_first (i := 2) (some 61) (v := ?_) rfl rfl (by kernel_rfl) (by kernel_rfl) (by kernel_rfl) (fun _ _ _ h => h) (Or.inl ⟨by rfl, ?_⟩) hS ?_
          rotate_left
          · intro w' hSw; go_simp; try with_reducible rfl
          simp only [Act.put, List.setIfInBounds_toArray, List.set_cons_zero, List.set_cons_succ]
          refine wpAnyH_ready (rs := [1, 3]) (by kernel_rfl) (by simp) ?_
          refine AllReadyH.cons rfl (fun K hK => ?_) (AllReadyH.cons rfl (fun K hK => ?_) AllReadyH.nil)
          · have dummy : True := trivial
            refine Rg.step_load (some 60) rfl (by rfl) 24 (.tmp 59) rfl ⟨N0, 2, none⟩ rfl (.slice A xs.length c) (by have q := cell_heap HNd.out 2 (.slice A xs.length c) rfl; go_simp) (hK.out _ _ trivial (fun hS => ?_))
            clear hK K
            simp only [Act.put, List.setIfInBounds_toArray, List.set_cons_zero, List.set_cons_succ]
            refine wpAnyH_ready (rs := [3]) (by kernel_rfl) (by simp) ?_
            refine AllReadyH.cons rfl (fun K hK => ?_) AllReadyH.nil
            refine step_fn (some 62) rfl (by rfl) 59 text_enters #[.tmp 61] #[63] rfl #[.pointer (some ⟨br, 0, none⟩)] rfl (fun r w' => r = .string ⟨s1.toArray⟩ ∧ Rd w' br L1i e1i ∧ Upd (fun k => k = br) wr.drew w') ((H5.out _ HRd.out).mono fun e w' h => ⟨_, h.1, rfl, h.2.1, h.2.2⟩) (fun r w1 hr => ?_)
            obtain ⟨rfl, hR1, u1⟩ := hr
            refine hK.out _ _ trivial (fun hS => ?_)
            clear hK K
            simp only [Act.put, List.setIfInBounds_toArray, List.set_cons_zero, List.set_cons_succ]
            have U1 := Lib.hid (HUd.out.trans u1 (fun _ _ f => f))
            have HN1 := Lib.hid (u1.heap HNd.out NB.out)
            have HK1 := Lib.hid (R_upd HKd.out u1 (fun k hk => ne_br LBS.out hk))
            have HR1 := Lib.hid hR1
            have LW1 := Lib.hid (Nat.le_trans HU.out.size U1.out.size)
            clear hR1 u1 dummy
            refine wpAnyH_ready (rs := [4]) (by kernel_rfl) (by simp) ?_
            refine AllReadyH.cons rfl (fun K hK => ?_) AllReadyH.nil
            refine step_build1 (some 63) rfl (by rfl) 24 9 (.tmp 62) rfl Try.underlying24 info9 (.string ⟨s1.toArray⟩) rfl rfl rfl (hK.out _ _ trivial (fun hS => ?_))
            clear hK K
            simp only [Act.put, List.setIfInBounds_toArray, List.set_cons_zero, List.set_cons_succ]
            refine wpAnyH_ready (rs := [5]) (by kernel_rfl) (by simp) ?_
            refine AllReadyH.cons rfl (fun K hK => ?_) AllReadyH.nil
            refine Kd.R_append_step Kd.string (w0 := w1) w4.heap.size (by rfl) (.tmp 60) (.tmp 63) 24 9 (.string ⟨#[]⟩) 16 rfl Try.underlying24 info9 rfl (by decide) (by omega) (.slice A xs.length c) xs (⟨s1.toArray⟩ : ByteArray) [(.string ⟨s1.toArray⟩)] (fun _ => True) (fun _ => False) rfl rfl rfl (fun _ hk => hk.elim) (fun _ _ => trivial) HK1.out (Below.refl _ _) LW1.out HSZ.out ?_
            intro v2 w5 hK3 hb3 hg3 hat3
            obtain ⟨XS, hXS⟩ : ∃ XS, XS = xs ++ [(⟨s1.toArray⟩ : ByteArray)] := ⟨_, rfl⟩
            rw [← hXS] at hK3
            have HXS := Lib.hid hXS
            clear hXS
            obtain ⟨A2, c2, rfl⟩ := Kd.R_slice hK3
            have hN5 := (hb3.block N0 LBS.out.1).trans HN1.out
            have hR5 : Rd w5 br L1i e1i := (hb3.block br LBS.out.2).trans HR1.out
            have hU5 := (HU.out.trans U1.out (fun k hk f => .inl f)).trans (Upd.of_below hb3) (fun k hk h => absurd hk (Nat.not_lt.2 h))
            refine hK.out _ _ trivial (fun hS => ?_)
            clear hK K
            simp only [Act.put, List.setIfInBounds_toArray, List.set_cons_zero, List.set_cons_succ]
            refine take_first (i := 6) (some 65) (v := ?_) rfl rfl (by kernel_rfl) (by kernel_rfl) (by kernel_rfl) (fun _ _ _ h => h) (Or.inl ⟨by rfl, ?_⟩) hS ?_
            rotate_left
            · intro w' hSw; go_simp; try with_reducible rfl
            simp only [Act.put, List.setIfInBounds_toArray, List.set_cons_zero, List.set_cons_succ]
            refine wpAnyH_ready (rs := [7]) (by kernel_rfl) (by simp) ?_
            refine AllReadyH.cons rfl (fun K hK => ?_) AllReadyH.nil
            refine Rg.step_store rfl (by rfl) 24 (.tmp 65) (.tmp 64) rfl ⟨N0, 2, none⟩ rfl (.slice A2 XS.length c2) rfl (by have q := cell_heap hN5 2 (.slice A xs.length c) rfl; have q2 := free_heap hN5 2; go_simp; rfl) (hK.out _ _ trivial (fun hS => ?_))
            clear hK K
            simp only [Act.put, List.setIfInBounds_toArray, List.set_cons_zero, List.set_cons_succ]
            refine wpAnyH_done (by kernel_rfl) ?_ _
            have HN6 := Lib.hid (heap_setCell_eq (i := 2) hN5 (.slice A2 XS.length c2))
            have HR6 : Hid (Rd (w5.setCell ⟨N0, 2, none⟩ (.slice A2 XS.length c2)) br L1i e1i) := Lib.hid (heap_setCell_ne hR5 _ _ (Ne.symm NB.out))
            have HK6 := Lib.hid (R_set1 hK3 (p := ⟨N0, 2, none⟩) LBS.out.1 (.slice A2 XS.length c2))
            have HU6 := Lib.hid (hU5.setCell (p := ⟨N0, 2, none⟩) (fun _ => .inr rfl) (.slice A2 XS.length c2))
            have hxl := Lib.hid (show XS.length = i + 1 by exact app_len HXS.out hxi.out)
            clear hK3 hb3 hg3 hat3 hN5 hR5 hU5 HN1 HK1 HR1
            generalize w5.setCell ⟨N0, 2, none⟩ (.slice A2 XS.length c2) = w6 at *
            by_cases he : e1i = 0
            · subst he
              have HM1 := Lib.hid (show many strR (g + 1) li ei = ((⟨s1.toArray⟩ : ByteArray) :: (many strR g L1i 0).1, (many strR g L1i 0).2) by rw [many_one (by rw [HV.out]), HV.out])
              go_wp2_with (fail)
              refine (must_ok br L1i w6 HR6.out).mono ?_
              rintro e w7 ⟨rfl, hw⟩
              subst hw
              go_wp2
              go_roundg g
              case measure => exact Nat.lt_succ_self _
              case rel => exact ⟨i + 1, A2, c2, XS, L1i, 0, by go_num, HLT.out, HN6, HK6, HR6, HU6, Lib.hid (by rw [HM.out, HM1.out, HXS.out]; simp), Lib.hid (Nat.le_trans HQ.out hli.out), hxl⟩
            · have hb : (strR li ei).2.2 ≠ 0 := by rw [HV.out]; exact he
              have HF := Lib.hid (show RR = (zRn, [], 10) by rw [HRR.out, HM.out, many_bad hb, HV.out]; exact inn2_err _ _ _ _ he)
              go_wp2_with (fail)
              refine (must_bad br L1i e1i w6 HR6.out he).mono ?_
              rintro e w7 ⟨rfl, hw⟩
              subst hw
              go_wp2
              exact ⟨rfl, RdPost.bad (by rw [HF.out]) (by decide) (upd_w U3.out HN0.out HU6.out)⟩
          · have dummy : True := trivial
            refine step_fn (some 62) rfl (by rfl) 59 text_enters #[.tmp 61] #[63] rfl #[.pointer (some ⟨br, 0, none⟩)] rfl (fun r w' => r = .string ⟨s1.toArray⟩ ∧ Rd w' br L1i e1i ∧ Upd (fun k => k = br) wr.drew w') ((H5.out _ HRd.out).mono fun e w' h => ⟨_, h.1, rfl, h.2.1, h.2.2⟩) (fun r w1 hr => ?_)
            obtain ⟨rfl, hR1, u1⟩ := hr
            refine hK.out _ _ trivial (fun hS => ?_)
            clear hK K
            simp only [Act.put, List.setIfInBounds_toArray, List.set_cons_zero, List.set_cons_succ]
            have U1 := Lib.hid (HUd.out.trans u1 (fun _ _ f => f))
            have HN1 := Lib.hid (u1.heap HNd.out NB.out)
            have HK1 := Lib.hid (R_upd HKd.out u1 (fun k hk => ne_br LBS.out hk))
            have HR1 := Lib.hid hR1
            have LW1 := Lib.hid (Nat.le_trans HU.out.size U1.out.size)
            clear hR1 u1 dummy
            refine wpAnyH_ready (rs := [1, 4]) (by kernel_rfl) (by simp) ?_
            refine AllReadyH.cons rfl (fun K hK => ?_) (AllReadyH.cons rfl (fun K hK => ?_) AllReadyH.nil)
            · have dummy : True := trivial
              refine Rg.step_load (some 60) rfl (by rfl) 24 (.tmp 59) rfl ⟨N0, 2, none⟩ rfl (.slice A xs.length c) (by have q := cell_heap HN1.out 2 (.slice A xs.length c) rfl; go_simp) (hK.out _ _ trivial (fun hS => ?_))
              clear hK K
              simp only [Act.put, List.setIfInBounds_toArray, List.set_cons_zero, List.set_cons_succ]
              refine wpAnyH_ready (rs := [4]) (by kernel_rfl) (by simp) ?_
              refine AllReadyH.cons rfl (fun K hK => ?_) AllReadyH.nil
              refine step_build1 (some 63) rfl (by rfl) 24 9 (.tmp 62) rfl Try.underlying24 info9 (.string ⟨s1.toArray⟩) rfl rfl rfl (hK.out _ _ trivial (fun hS => ?_))
              clear hK K
              simp only [Act.put, List.setIfInBounds_toArray, List.set_cons_zero, List.set_cons_succ]
              refine wpAnyH_ready (rs := [5]) (by kernel_rfl) (by simp) ?_
              refine AllReadyH.cons rfl (fun K hK => ?_) AllReadyH.nil
              refine Kd.R_append_step Kd.string (w0 := w1) w4.heap.size (by rfl) (.tmp 60) (.tmp 63) 24 9 (.string ⟨#[]⟩) 16 rfl Try.underlying24 info9 rfl (by decide) (by omega) (.slice A xs.length c) xs (⟨s1.toArray⟩ : ByteArray) [(.string ⟨s1.toArray⟩)] (fun _ => True) (fun _ => False) rfl rfl rfl (fun _ hk => hk.elim) (fun _ _ => trivial) HK1.out (Below.refl _ _) LW1.out HSZ.out ?_
              intro v2 w5 hK3 hb3 hg3 hat3
              obtain ⟨XS, hXS⟩ : ∃ XS, XS = xs ++ [(⟨s1.toArray⟩ : ByteArray)] := ⟨_, rfl⟩
              rw [← hXS] at hK3
              have HXS := Lib.hid hXS
              clear hXS
              obtain ⟨A2, c2, rfl⟩ := Kd.R_slice hK3
              have hN5 := (hb3.block N0 LBS.out.1).trans HN1.out
              have hR5 : Rd w5 br L1i e1i := (hb3.block br LBS.out.2).trans HR1.out
              have hU5 := (HU.out.trans U1.out (fun k hk f => .inl f)).trans (Upd.of_below hb3) (fun k hk h => absurd hk (Nat.not_lt.2 h))
              refine hK.out _ _ trivial (fun hS => ?_)
              clear hK K
              simp only [Act.put, List.setIfInBounds_toArray, List.set_cons_zero, List.set_cons_succ]
              refine take_first (i := 6) (some 65) (v := ?_) rfl rfl (by kernel_rfl) (by kernel_rfl) (by kernel_rfl) (fun _ _ _ h => h) (Or.inl ⟨by rfl, ?_⟩) hS ?_
              rotate_left
              · intro w' hSw; go_simp; try with_reducible rfl
              simp only [Act.put, List.setIfInBounds_toArray, List.set_cons_zero, List.set_cons_succ]
              refine wpAnyH_ready (rs := [7]) (by kernel_rfl) (by simp) ?_
              refine AllReadyH.cons rfl (fun K hK => ?_) AllReadyH.nil
              refine Rg.step_store rfl (by rfl) 24 (.tmp 65) (.tmp 64) rfl ⟨N0, 2, none⟩ rfl (.slice A2 XS.length c2) rfl (by have q := cell_heap hN5 2 (.slice A xs.length c) rfl; have q2 := free_heap hN5 2; go_simp; rfl) (hK.out _ _ trivial (fun hS => ?_))
              clear hK K
              simp only [Act.put, List.setIfInBounds_toArray, List.set_cons_zero, List.set_cons_succ]
              refine wpAnyH_done (by kernel_rfl) ?_ _
              have HN6 := Lib.hid (heap_setCell_eq (i := 2) hN5 (.slice A2 XS.length c2))
              have HR6 : Hid (Rd (w5.setCell ⟨N0, 2, none⟩ (.slice A2 XS.length c2)) br L1i e1i) := Lib.hid (heap_setCell_ne hR5 _ _ (Ne.symm NB.out))
              have HK6 := Lib.hid (R_set1 hK3 (p := ⟨N0, 2, none⟩) LBS.out.1 (.slice A2 XS.length c2))
              have HU6 := Lib.hid (hU5.setCell (p := ⟨N0, 2, none⟩) (fun _ => .inr rfl) (.slice A2 XS.length c2))
              have hxl := Lib.hid (show XS.length = i + 1 by exact app_len HXS.out hxi.out)
              clear hK3 hb3 hg3 hat3 hN5 hR5 hU5 HN1 HK1 HR1
              generalize w5.setCell ⟨N0, 2, none⟩ (.slice A2 XS.length c2) = w6 at *
              by_cases he : e1i = 0
              · subst he
                have HM1 := Lib.hid (show many strR (g + 1) li ei = ((⟨s1.toArray⟩ : ByteArray) :: (many strR g L1i 0).1, (many strR g L1i 0).2) by rw [many_one (by rw [HV.out]), HV.out])
                go_wp2_with (fail)
                refine (must_ok br L1i w6 HR6.out).mono ?_
                rintro e w7 ⟨rfl, hw⟩
                subst hw
                go_wp2
                go_roundg g
                case measure => exact Nat.lt_succ_self _
                case rel => exact ⟨i + 1, A2, c2, XS, L1i, 0, by go_num, HLT.out, HN6, HK6, HR6, HU6, Lib.hid (by rw [HM.out, HM1.out, HXS.out]; simp), Lib.hid (Nat.le_trans HQ.out hli.out), hxl⟩
              · have hb : (strR li ei).2.2 ≠ 0 := by rw [HV.out]; exact he
                have HF := Lib.hid (show RR = (zRn, [], 10) by rw [HRR.out, HM.out, many_bad hb, HV.out]; exact inn2_err _ _ _ _ he)
                go_wp2_with (fail)
                refine (must_bad br L1i e1i w6 HR6.out he).mono ?_
                rintro e w7 ⟨rfl, hw⟩
                subst hw
                go_wp2
                exact ⟨rfl, RdPost.bad (by rw [HF.out]) (by decide) (upd_w U3.out HN0.out HU6.out)⟩
            · have dummy : True := trivial
              refine step_build1 (some 63) rfl (by rfl) 24 9 (.tmp 62) rfl Try.underlying24 info9 (.string ⟨s1.toArray⟩) rfl rfl rfl (hK.out _ _ trivial (fun hS => ?_))
              clear hK K
              simp only [Act.put, List.setIfInBounds_toArray, List.set_cons_zero, List.set_cons_succ]
              refine wpAnyH_ready (rs := [1]) (by kernel_rfl) (by simp) ?_
              refine AllReadyH.cons rfl (fun K hK => ?_) AllReadyH.nil
              refine Rg.step_load (some 60) rfl (by rfl) 24 (.tmp 59) rfl ⟨N0, 2, none⟩ rfl (.slice A xs.length c) (by have q := cell_heap (heap_alloc_lt HN1.out (.cells [(.string ⟨s1.toArray⟩)].toArray 9)) 2 (.slice A xs.length c) rfl; go_simp) (hK.out _ _ trivial (fun hS => ?_))
              clear hK K
              simp only [Act.put, List.setIfInBounds_toArray, List.set_cons_zero, List.set_cons_succ]
              refine wpAnyH_ready (rs := [5]) (by kernel_rfl) (by simp) ?_
              refine AllReadyH.cons rfl (fun K hK => ?_) AllReadyH.nil
              refine Kd.R_append_step Kd.string (w0 := w1) w4.heap.size (by rfl) (.tmp 60) (.tmp 63) 24 9 (.string ⟨#[]⟩) 16 rfl Try.underlying24 info9 rfl (by decide) (by omega) (.slice A xs.length c) xs (⟨s1.toArray⟩ : ByteArray) [(.string ⟨s1.toArray⟩)] (fun _ => True) (fun _ => False) rfl rfl rfl (fun _ hk => hk.elim) (fun _ _ => trivial) HK1.out (Below.refl _ _) LW1.out HSZ.out ?_
              intro v2 w5 hK3 hb3 hg3 hat3
              obtain ⟨XS, hXS⟩ : ∃ XS, XS = xs ++ [(⟨s1.toArray⟩ : ByteArray)] := ⟨_, rfl⟩
              rw [← hXS] at hK3
              have HXS := Lib.hid hXS
              clear hXS
              obtain ⟨A2, c2, rfl⟩ := Kd.R_slice hK3
              have hN5 := (hb3.block N0 LBS.out.1).trans HN1.out
              have hR5 : Rd w5 br L1i e1i := (hb3.block br LBS.out.2).trans HR1.out
              have hU5 := (HU.out.trans U1.out (fun k hk f => .inl f)).trans (Upd.of_below hb3) (fun k hk h => absurd hk (Nat.not_lt.2 h))
              refine hK.out _ _ trivial (fun hS => ?_)
              clear hK K
              simp only [Act.put, List.setIfInBounds_toArray, List.set_cons_zero, List.set_cons_succ]
              refine take_first (i := 6) (some 65) (v := ?_) rfl rfl (by kernel_rfl) (by kernel_rfl) (by kernel_rfl) (fun _ _ _ h => h) (Or.inl ⟨by rfl, ?_⟩) hS ?_
              rotate_left
              · intro w' hSw; go_simp; try with_reducible rfl
              simp only [Act.put, List.setIfInBounds_toArray, List.set_cons_zero, List.set_cons_succ]
              refine wpAnyH_ready (rs := [7]) (by kernel_rfl) (by simp) ?_
              refine AllReadyH.cons rfl (fun K hK => ?_) AllReadyH.nil
              refine Rg.step_store rfl (by rfl) 24 (.tmp 65) (.tmp 64) rfl ⟨N0, 2, none⟩ rfl (.slice A2 XS.length c2) rfl (by have q := cell_heap hN5 2 (.slice A xs.length c) rfl; have q2 := free_heap hN5 2; go_simp; rfl) (hK.out _ _ trivial (fun hS => ?_))
              clear hK K
              simp only [Act.put, List.setIfInBounds_toArray, List.set_cons_zero, List.set_cons_succ]
              refine wpAnyH_done (by kernel_rfl) ?_ _
              have HN6 := Lib.hid (heap_setCell_eq (i := 2) hN5 (.slice A2 XS.length c2))
              have HR6 : Hid (Rd (w5.setCell ⟨N0, 2, none⟩ (.slice A2 XS.length c2)) br L1i e1i) := Lib.hid (heap_setCell_ne hR5 _ _ (Ne.symm NB.out))
              have HK6 := Lib.hid (R_set1 hK3 (p := ⟨N0, 2, none⟩) LBS.out.1 (.slice A2 XS.length c2))
              have HU6 := Lib.hid (hU5.setCell (p := ⟨N0, 2, none⟩) (fun _ => .inr rfl) (.slice A2 XS.length c2))
              have hxl := Lib.hid (show XS.length = i + 1 by exact app_len HXS.out hxi.out)
              clear hK3 hb3 hg3 hat3 hN5 hR5 hU5 HN1 HK1 HR1
              generalize w5.setCell ⟨N0, 2, none⟩ (.slice A2 XS.length c2) = w6 at *
              by_cases he : e1i = 0
              · subst he
                have HM1 := Lib.hid (show many strR (g + 1) li ei = ((⟨s1.toArray⟩ : ByteArray) :: (many strR g L1i 0).1, (many strR g L1i 0).2) by rw [many_one (by rw [HV.out]), HV.out])
                go_wp2_with (fail)
                refine (must_ok br L1i w6 HR6.out).mono ?_
                rintro e w7 ⟨rfl, hw⟩
                subst hw
                go_wp2
                go_roundg g
                case measure => exact Nat.lt_succ_self _
                case rel => exact ⟨i + 1, A2, c2, XS, L1i, 0, by go_num, HLT.out, HN6, HK6, HR6, HU6, Lib.hid (by rw [HM.out, HM1.out, HXS.out]; simp), Lib.hid (Nat.le_trans HQ.out hli.out), hxl⟩
              · have hb : (strR li ei).2.2 ≠ 0 := by rw [HV.out]; exact he
                have HF := Lib.hid (show RR = (zRn, [], 10) by rw [HRR.out, HM.out, many_bad hb, HV.out]; exact inn2_err _ _ _ _ he)
                go_wp2_with (fail)
                refine (must_bad br L1i e1i w6 HR6.out he).mono ?_
                rintro e w7 ⟨rfl, hw⟩
                subst hw
                go_wp2
                exact ⟨rfl, RdPost.bad (by rw [HF.out]) (by decide) (upd_w U3.out HN0.out HU6.out)⟩
    | succ g =>
      have hi := step_lt hig
      have hlt : decide ((i : Int) < (n : Int)) = true := decide_eq_true (by omega)
      have hltn : decide (i < n) = true := decide_eq_true hi
      have hwi := wrap_next hig (Nat.lt_of_lt_of_le B2.out (by decide))
      have HSZ := Lib.hid (small8 (len_bound hxi.out hi B2.out))
      have HLT := Lib.hid (step_sum hig)
      have hq := rU16_le li ei
      have hb := rU16_lt li ei
      have hv : kidR li ei = ((((rU16 li ei).1 : Nat) : Int), (rU16 li ei).2) := rfl
      have HV := Lib.hid hv
      have H5 := Lib.hid (fun w h => Reader_U16 br li ei w (Nat.le_trans hli.out (by decide)) h)
      clear hv
      generalize rU16 li ei = y at *
      obtain ⟨x, L1i, e1i⟩ := y
      dsimp only at HV H5 hq hb
      unfold Two16 at hb
      have e3 : IntKind.i64.wrap (x : Int) = (x : Int) := IntWalk.i64_in _ (by omega)
      have HQ := Lib.hid hq
      clear hq hb hi hig
      have LBS := LB3
      go_wp2
      refine wp_region_held_drew (S := fun _ => True) (by kernel_rfl) trivial (fun hS => ?_)
      have HNd : Hid (wr.drew.heap[N0]? = _) := Lib.hid HN.out
      have HRd : Hid (Rd wr.drew br li ei) := Lib.hid HRi.out
      have HKd := Lib.hid (Kd.R_drew HK.out)
      have HUd : Hid (Upd _ wr wr.drew) := Lib.hid (Upd.refl (fun k => k = br) wr).drew
      refine take_first (i := 0) (some 44) (v := ?_) rfl rfl (by kernel_rfl) (by kernel_rfl) (by kernel_rfl) (fun _ _ _ h => h) (Or.inl ⟨by rfl, ?_⟩) hS ?_
      rotate_left
      · intro w' hSw; go_simp; try with_reducible rfl
      simp only [Act.put, List.setIfInBounds_toArray, List.set_cons_zero, List.set_cons_succ]
      refine take_first (i := 2) (some 46) (v := ?_) rfl rfl (by kernel_rfl) (by kernel_rfl) (by kernel_rfl) (fun _ _ _ h => h) (Or.inl ⟨by rfl, ?_⟩) hS ?_
      rotate_left
      · intro w' hSw; go_simp; try with_reducible rfl
      simp only [Act.put, List.setIfInBounds_toArray, List.set_cons_zero, List.set_cons_succ]
      refine wpAnyH_ready (rs := [1, 3]) (by kernel_rfl) (by simp) ?_
      refine AllReadyH.cons rfl (fun K hK => ?_) (AllReadyH.cons rfl (fun K hK => ?_) AllReadyH.nil)
      · have dummy : True := trivial
        refine Rg.step_load (some 45) rfl (by rfl) 25 (.tmp 44) rfl ⟨N0, 3, none⟩ rfl (.slice A xs.length c) (by have q := cell_heap HNd.out 3 (.slice A xs.length c) rfl; go_simp) (hK.out _ _ trivial (fun hS => ?_))
        clear hK K
        simp only [Act.put, List.setIfInBounds_toArray, List.set_cons_zero, List.set_cons_succ]
        refine wpAnyH_ready (rs := [3]) (by kernel_rfl) (by simp) ?_
        refine AllReadyH.cons rfl (fun K hK => ?_) AllReadyH.nil
        refine step_fn (some 47) rfl (by rfl) 58 u16_enters #[.tmp 46] #[63] rfl #[.pointer (some ⟨br, 0, none⟩)] rfl (fun r w' => r = .int .u16 (x : Nat) ∧ Rd w' br L1i e1i ∧ Upd (fun k => k = br) wr.drew w') ((H5.out _ HRd.out).mono fun e w' h => ⟨_, h.1, rfl, h.2.1, h.2.2⟩) (fun r w1 hr => ?_)
        obtain ⟨rfl, hR1, u1⟩ := hr
        refine hK.out _ _ trivial (fun hS => ?_)
        clear hK K
        simp only [Act.put, List.setIfInBounds_toArray, List.set_cons_zero, List.set_cons_succ]
        have U1 := Lib.hid (HUd.out.trans u1 (fun _ _ f => f))
        have HN1 := Lib.hid (u1.heap HNd.out NB.out)
        have HK1 := Lib.hid (R_upd HKd.out u1 (fun k hk => ne_br LBS.out hk))
        have HR1 := Lib.hid hR1
        have LW1 := Lib.hid (Nat.le_trans HU.out.size U1.out.size)
        clear hR1 u1 dummy
        refine take_first (i := 4) (some 48) (v := ?_) rfl rfl (by kernel_rfl) (by kernel_rfl) (by kernel_rfl) (fun _ _ _ h => h) (Or.inl ⟨by rfl, ?_⟩) hS ?_
        rotate_left
        · intro w' hSw; go_simp; try with_reducible rfl
        simp only [Act.put, List.setIfInBounds_toArray, List.set_cons_zero, List.set_cons_succ]
        refine wpAnyH_ready (rs := [5]) (by kernel_rfl) (by simp) ?_
        refine AllReadyH.cons rfl (fun K hK => ?_) AllReadyH.nil
        refine step_build1 (some 49) rfl (by rfl) 25 3 (.tmp 48) rfl Try.underlying25 info3 (.int .i64 (x : Int)) rfl rfl rfl (hK.out _ _ trivial (fun hS => ?_))
        clear hK K
        simp only [Act.put, List.setIfInBounds_toArray, List.set_cons_zero, List.set_cons_succ]
        refine wpAnyH_ready (rs := [6]) (by kernel_rfl) (by simp) ?_
        refine AllReadyH.cons rfl (fun K hK => ?_) AllReadyH.nil
        refine Kd.R_append_step (Kd.int .i64) (w0 := w1) w3.heap.size (by rfl) (.tmp 45) (.tmp 49) 25 3 (.int .i64 0) 8 rfl Try.underlying25 info3 rfl (by decide) (by omega) (.slice A xs.length c) xs (x : Int) [(.int .i64 (x : Int))] (fun _ => True) (fun _ => False) rfl rfl rfl (fun _ hk => hk.elim) (fun _ _ => trivial) HK1.out (Below.refl _ _) LW1.out HSZ.out ?_
        intro v2 w5 hK3 hb3 hg3 hat3
        obtain ⟨XS, hXS⟩ : ∃ XS, XS = xs ++ [(x : Int)] := ⟨_, rfl⟩
        rw [← hXS] at hK3
        have HXS := Lib.hid hXS
        clear hXS
        obtain ⟨A2, c2, rfl⟩ := Kd.R_slice hK3
        have hN5 := (hb3.block N0 LBS.out.1).trans HN1.out
        have hR5 : Rd w5 br L1i e1i := (hb3.block br LBS.out.2).trans HR1.out
        have hU5 := (HU.out.trans U1.out (fun k hk f => .inl f)).trans (Upd.of_below hb3) (fun k hk h => absurd hk (Nat.not_lt.2 h))
        refine hK.out _ _ trivial (fun hS => ?_)
        clear hK K
        simp only [Act.put, List.setIfInBounds_toArray, List.set_cons_zero, List.set_cons_succ]
        refine take_first (i := 7) (some 51) (v := ?_) rfl rfl (by kernel_rfl) (by kernel_rfl) (by kernel_rfl) (fun _ _ _ h => h) (Or.inl ⟨by rfl, ?_⟩) hS ?_
        rotate_left
        · intro w' hSw; go_simp; try with_reducible rfl
        simp only [Act.put, List.setIfInBounds_toArray, List.set_cons_zero, List.set_cons_succ]
        refine wpAnyH_ready (rs := [8]) (by kernel_rfl) (by simp) ?_
        refine AllReadyH.cons rfl (fun K hK => ?_) AllReadyH.nil
        refine Rg.step_store rfl (by rfl) 25 (.tmp 51) (.tmp 50) rfl ⟨N0, 3, none⟩ rfl (.slice A2 XS.length c2) rfl (by have q := cell_heap hN5 3 (.slice A xs.length c) rfl; have q2 := free_heap hN5 3; go_simp; rfl) (hK.out _ _ trivial (fun hS => ?_))
        clear hK K
        simp only [Act.put, List.setIfInBounds_toArray, List.set_cons_zero, List.set_cons_succ]
        refine wpAnyH_done (by kernel_rfl) ?_ _
        have HN6 := Lib.hid (heap_setCell_eq (i := 3) hN5 (.slice A2 XS.length c2))
        have HR6 : Hid (Rd (w5.setCell ⟨N0, 3, none⟩ (.slice A2 XS.length c2)) br L1i e1i) := Lib.hid (heap_setCell_ne hR5 _ _ (Ne.symm NB.out))
        have HK6 := Lib.hid (R_set1 hK3 (p := ⟨N0, 3, none⟩) LBS.out.1 (.slice A2 XS.length c2))
        have HU6 := Lib.hid (hU5.setCell (p := ⟨N0, 3, none⟩) (fun _ => .inr rfl) (.slice A2 XS.length c2))
        have hxl := Lib.hid (show XS.length = i + 1 by exact app_len HXS.out hxi.out)
        clear hK3 hb3 hg3 hat3 hN5 hR5 hU5 HN1 HK1 HR1
        generalize w5.setCell ⟨N0, 3, none⟩ (.slice A2 XS.length c2) = w6 at *
        by_cases he : e1i = 0
        · subst he
          have HM1 := Lib.hid (show many kidR (g + 1) li ei = ((x : Int) :: (many kidR g L1i 0).1, (many kidR g L1i 0).2) by rw [many_one (by rw [HV.out]), HV.out])
          go_wp2_with (fail)
          refine (must_ok br L1i w6 HR6.out).mono ?_
          rintro e w7 ⟨rfl, hw⟩
          subst hw
          go_wp2
          go_roundg g
          case measure => exact Nat.lt_succ_self _
          case rel => exact ⟨i + 1, A2, c2, XS, L1i, 0, by go_num, HLT.out, HN6, HK6, HR6, HU6, Lib.hid (by rw [HM.out, HM1.out, HXS.out]; simp), Lib.hid (Nat.le_trans HQ.out hli.out), hxl⟩
        · have hb : (kidR li ei).2.2 ≠ 0 := by rw [HV.out]; exact he
          have HF := Lib.hid (show RR = (zRn, [], 10) by rw [HRR.out, HM.out, many_bad hb, HV.out]; exact inn1_err _ _ _ _ he)
          go_wp2_with (fail)
          refine (must_bad br L1i e1i w6 HR6.out he).mono ?_
          rintro e w7 ⟨rfl, hw⟩
          subst hw
          go_wp2
          exact ⟨rfl, RdPost.bad (by rw [HF.out]) (by decide) (upd_w U3.out HN0.out HU6.out)⟩
      · have dummy : True := trivial
        refine step_fn (some 47) rfl (by rfl) 58 u16_enters #[.tmp 46] #[63] rfl #[.pointer (some ⟨br, 0, none⟩)] rfl (fun r w' => r = .int .u16 (x : Nat) ∧ Rd w' br L1i e1i ∧ Upd (fun k => k = br) wr.drew w') ((H5.out _ HRd.out).mono fun e w' h => ⟨_, h.1, rfl, h.2.1, h.2.2⟩) (fun r w1 hr => ?_)
        obtain ⟨rfl, hR1, u1⟩ := hr
        refine hK.out _ _ trivial (fun hS => ?_)
        clear hK K
        simp only [Act.put, List.setIfInBounds_toArray, List.set_cons_zero, List.set_cons_succ]
        have U1 := Lib.hid (HUd.out.trans u1 (fun _ _ f => f))
        have HN1 := Lib.hid (u1.heap HNd.out NB.out)
        have HK1 := Lib.hid (R_upd HKd.out u1 (fun k hk => ne_br LBS.out hk))
        have HR1 := Lib.hid hR1
        have LW1 := Lib.hid (Nat.le_trans HU.out.size U1.out.size)
        clear hR1 u1 dummy
        refine take_first (i := 4) (some 48) (v := ?_) rfl rfl (by kernel_rfl) (by kernel_rfl) (by kernel_rfl) (fun _ _ _ h => h) (Or.inl ⟨by rfl, ?_⟩) hS ?_
        rotate_left
        · intro w' hSw; go_simp; try with_reducible rfl
        simp only [Act.put, List.setIfInBounds_toArray, List.set_cons_zero, List.set_cons_succ]
        refine wpAnyH_ready (rs := [1, 5]) (by kernel_rfl) (by simp) ?_
        refine AllReadyH.cons rfl (fun K hK => ?_) (AllReadyH.cons rfl (fun K hK => ?_) AllReadyH.nil)
        · have dummy : True := trivial
          refine Rg.step_load (some 45) rfl (by rfl) 25 (.tmp 44) rfl ⟨N0, 3, none⟩ rfl (.slice A xs.length c) (by have q := cell_heap HN1.out 3 (.slice A xs.length c) rfl; go_simp) (hK.out _ _ trivial (fun hS => ?_))
          clear hK K
          simp only [Act.put, List.setIfInBounds_toArray, List.set_cons_zero, List.set_cons_succ]
          refine wpAnyH_ready (rs := [5]) (by kernel_rfl) (by simp) ?_
          refine AllReadyH.cons rfl (fun K hK => ?_) AllReadyH.nil
          refine step_build1 (some 49) rfl (by rfl) 25 3 (.tmp 48) rfl Try.underlying25 info3 (.int .i64 (x : Int)) rfl rfl rfl (hK.out _ _ trivial (fun hS => ?_))
          clear hK K
          simp only [Act.put, List.setIfInBounds_toArray, List.set_cons_zero, List.set_cons_succ]
          refine wpAnyH_ready (rs := [6]) (by kernel_rfl) (by simp) ?_
          refine AllReadyH.cons rfl (fun K hK => ?_) AllReadyH.nil
          refine Kd.R_append_step (Kd.int .i64) (w0 := w1) w3.heap.size (by rfl) (.tmp 45) (.tmp 49) 25 3 (.int .i64 0) 8 rfl Try.underlying25 info3 rfl (by decide) (by omega) (.slice A xs.length c) xs (x : Int) [(.int .i64 (x : Int))] (fun _ => True) (fun _ => False) rfl rfl rfl (fun _ hk => hk.elim) (fun _ _ => trivial) HK1.out (Below.refl _ _) LW1.out HSZ.out ?_
          intro v2 w5 hK3 hb3 hg3 hat3
          obtain ⟨XS, hXS⟩ : ∃ XS, XS = xs ++ [(x : Int)] := ⟨_, rfl⟩
          rw [← hXS] at hK3
          have HXS := Lib.hid hXS
          clear hXS
          obtain ⟨A2, c2, rfl⟩ := Kd.R_slice hK3
          have hN5 := (hb3.block N0 LBS.out.1).trans HN1.out
          have hR5 : Rd w5 br L1i e1i := (hb3.block br LBS.out.2).trans HR1.out
          have hU5 := (HU.out.trans U1.out (fun k hk f => .inl f)).trans (Upd.of_below hb3) (fun k hk h => absurd hk (Nat.not_lt.2 h))
          refine hK.out _ _ trivial (fun hS => ?_)
          clear hK K
          simp only [Act.put, List.setIfInBounds_toArray, List.set_cons_zero, List.set_cons_succ]
          refine take_first (i := 7) (some 51) (v := ?_) rfl rfl (by kernel_rfl) (by kernel_rfl) (by kernel_rfl) (fun _ _ _ h => h) (Or.inl ⟨by rfl, ?_⟩) hS ?_
          rotate_left
          · intro w' hSw; go_simp; try with_reducible rfl
          simp only [Act.put, List.setIfInBounds_toArray, List.set_cons_zero, List.set_cons_succ]
          refine wpAnyH_ready (rs := [8]) (by kernel_rfl) (by simp) ?_
          refine AllReadyH.cons rfl (fun K hK => ?_) AllReadyH.nil
          refine Rg.step_store rfl (by rfl) 25 (.tmp 51) (.tmp 50) rfl ⟨N0, 3, none⟩ rfl (.slice A2 XS.length c2) rfl (by have q := cell_heap hN5 3 (.slice A xs.length c) rfl; have q2 := free_heap hN5 3; go_simp; rfl) (hK.out _ _ trivial (fun hS => ?_))
          clear hK K
          simp only [Act.put, List.setIfInBounds_toArray, List.set_cons_zero, List.set_cons_succ]
          refine wpAnyH_done (by kernel_rfl) ?_ _
          have HN6 := Lib.hid (heap_setCell_eq (i := 3) hN5 (.slice A2 XS.length c2))
          have HR6 : Hid (Rd (w5.setCell ⟨N0, 3, none⟩ (.slice A2 XS.length c2)) br L1i e1i) := Lib.hid (heap_setCell_ne hR5 _ _ (Ne.symm NB.out))
          have HK6 := Lib.hid (R_set1 hK3 (p := ⟨N0, 3, none⟩) LBS.out.1 (.slice A2 XS.length c2))
          have HU6 := Lib.hid (hU5.setCell (p := ⟨N0, 3, none⟩) (fun _ => .inr rfl) (.slice A2 XS.length c2))
          have hxl := Lib.hid (show XS.length = i + 1 by exact app_len HXS.out hxi.out)
          clear hK3 hb3 hg3 hat3 hN5 hR5 hU5 HN1 HK1 HR1
          generalize w5.setCell ⟨N0, 3, none⟩ (.slice A2 XS.length c2) = w6 at *
          by_cases he : e1i = 0
          · subst he
            have HM1 := Lib.hid (show many kidR (g + 1) li ei = ((x : Int) :: (many kidR g L1i 0).1, (many kidR g L1i 0).2) by rw [many_one (by rw [HV.out]), HV.out])
            go_wp2_with (fail)
            refine (must_ok br L1i w6 HR6.out).mono ?_
            rintro e w7 ⟨rfl, hw⟩
            subst hw
            go_wp2
            go_roundg g
            case measure => exact Nat.lt_succ_self _
            case rel => exact ⟨i + 1, A2, c2, XS, L1i, 0, by go_num, HLT.out, HN6, HK6, HR6, HU6, Lib.hid (by rw [HM.out, HM1.out, HXS.out]; simp), Lib.hid (Nat.le_trans HQ.out hli.out), hxl⟩
          · have hb : (kidR li ei).2.2 ≠ 0 := by rw [HV.out]; exact he
            have HF := Lib.hid (show RR = (zRn, [], 10) by rw [HRR.out, HM.out, many_bad hb, HV.out]; exact inn1_err _ _ _ _ he)
            go_wp2_with (fail)
            refine (must_bad br L1i e1i w6 HR6.out he).mono ?_
            rintro e w7 ⟨rfl, hw⟩
            subst hw
            go_wp2
            exact ⟨rfl, RdPost.bad (by rw [HF.out]) (by decide) (upd_w U3.out HN0.out HU6.out)⟩
        · have dummy : True := trivial
          refine step_build1 (some 49) rfl (by rfl) 25 3 (.tmp 48) rfl Try.underlying25 info3 (.int .i64 (x : Int)) rfl rfl rfl (hK.out _ _ trivial (fun hS => ?_))
          clear hK K
          simp only [Act.put, List.setIfInBounds_toArray, List.set_cons_zero, List.set_cons_succ]
          refine wpAnyH_ready (rs := [1]) (by kernel_rfl) (by simp) ?_
          refine AllReadyH.cons rfl (fun K hK => ?_) AllReadyH.nil
          refine Rg.step_load (some 45) rfl (by rfl) 25 (.tmp 44) rfl ⟨N0, 3, none⟩ rfl (.slice A xs.length c) (by have q := cell_heap (heap_alloc_lt HN1.out (.cells [(.int .i64 (x : Int))].toArray 3)) 3 (.slice A xs.length c) rfl; go_simp) (hK.out _ _ trivial (fun hS => ?_))
          clear hK K
          simp only [Act.put, List.setIfInBounds_toArray, List.set_cons_zero, List.set_cons_succ]
          refine wpAnyH_ready (rs := [6]) (by kernel_rfl) (by simp) ?_
          refine AllReadyH.cons rfl (fun K hK => ?_) AllReadyH.nil
          refine Kd.R_append_step (Kd.int .i64) (w0 := w1) w3.heap.size (by rfl) (.tmp 45) (.tmp 49) 25 3 (.int .i64 0) 8 rfl Try.underlying25 info3 rfl (by decide) (by omega) (.slice A xs.length c) xs (x : Int) [(.int .i64 (x : Int))] (fun _ => True) (fun _ => False) rfl rfl rfl (fun _ hk => hk.elim) (fun _ _ => trivial) HK1.out (Below.refl _ _) LW1.out HSZ.out ?_
          intro v2 w5 hK3 hb3 hg3 hat3
          obtain ⟨XS, hXS⟩ : ∃ XS, XS = xs ++ [(x : Int)] := ⟨_, rfl⟩
          rw [← hXS] at hK3
          have HXS := Lib.hid hXS
          clear hXS
          obtain ⟨A2, c2, rfl⟩ := Kd.R_slice hK3
          have hN5 := (hb3.block N0 LBS.out.1).trans HN1.out
          have hR5 : Rd w5 br L1i e1i := (hb3.block br LBS.out.2).trans HR1.out
          have hU5 := (HU.out.trans U1.out (fun k hk f => .inl f)).trans (Upd.of_below hb3) (fun k hk h => absurd hk (Nat.not_lt.2 h))
          refine hK.out _ _ trivial (fun hS => ?_)
          clear hK K
          simp only [Act.put, List.setIfInBounds_toArray, List.set_cons_zero, List.set_cons_succ]
          refine take_first (i := 7) (some 51) (v := ?_) rfl rfl (by kernel_rfl) (by kernel_rfl) (by kernel_rfl) (fun _ _ _ h => h) (Or.inl ⟨by rfl, ?_⟩) hS ?_
          rotate_left
          · intro w' hSw; go_simp; try with_reducible rfl
          simp only [Act.put, List.setIfInBounds_toArray, List.set_cons_zero, List.set_cons_succ]
          refine wpAnyH_ready (rs := [8]) (by kernel_rfl) (by simp) ?_
          refine AllReadyH.cons rfl (fun K hK => ?_) AllReadyH.nil
          refine Rg.step_store rfl (by rfl) 25 (.tmp 51) (.tmp 50) rfl ⟨N0, 3, none⟩ rfl (.slice A2 XS.length c2) rfl (by have q := cell_heap hN5 3 (.slice A xs.length c) rfl; have q2 := free_heap hN5 3; go_simp; rfl) (hK.out _ _ trivial (fun hS => ?_))
          clear hK K
          simp only [Act.put, List.setIfInBounds_toArray, List.set_cons_zero, List.set_cons_succ]
          refine wpAnyH_done (by kernel_rfl) ?_ _
          have HN6 := Lib.hid (heap_setCell_eq (i := 3) hN5 (.slice A2 XS.length c2))
          have HR6 : Hid (Rd (w5.setCell ⟨N0, 3, none⟩ (.slice A2 XS.length c2)) br L1i e1i) := Lib.hid (heap_setCell_ne hR5 _ _ (Ne.symm NB.out))
          have HK6 := Lib.hid (R_set1 hK3 (p := ⟨N0, 3, none⟩) LBS.out.1 (.slice A2 XS.length c2))
          have HU6 := Lib.hid (hU5.setCell (p := ⟨N0, 3, none⟩) (fun _ => .inr rfl) (.slice A2 XS.length c2))
          have hxl := Lib.hid (show XS.length = i + 1 by exact app_len HXS.out hxi.out)
          clear hK3 hb3 hg3 hat3 hN5 hR5 hU5 HN1 HK1 HR1
          generalize w5.setCell ⟨N0, 3, none⟩ (.slice A2 XS.length c2) = w6 at *
          by_cases he : e1i = 0
          · subst he
            have HM1 := Lib.hid (show many kidR (g + 1) li ei = ((x : Int) :: (many kidR g L1i 0).1, (many kidR g L1i 0).2) by rw [many_one (by rw [HV.out]), HV.out])
            go_wp2_with (fail)
            refine (must_ok br L1i w6 HR6.out).mono ?_
            rintro e w7 ⟨rfl, hw⟩
            subst hw
            go_wp2
            go_roundg g
            case measure => exact Nat.lt_succ_self _
            case rel => exact ⟨i + 1, A2, c2, XS, L1i, 0, by go_num, HLT.out, HN6, HK6, HR6, HU6, Lib.hid (by rw [HM.out, HM1.out, HXS.out]; simp), Lib.hid (Nat.le_trans HQ.out hli.out), hxl⟩
          · have hb : (kidR li ei).2.2 ≠ 0 := by rw [HV.out]; exact he
            have HF := Lib.hid (show RR = (zRn, [], 10) by rw [HRR.out, HM.out, many_bad hb, HV.out]; exact inn1_err _ _ _ _ he)
            go_wp2_with (fail)
            refine (must_bad br L1i e1i w6 HR6.out he).mono ?_
            rintro e w7 ⟨rfl, hw⟩
            subst hw
            go_wp2
            exact ⟨rfl, RdPost.bad (by rw [HF.out]) (by decide) (upd_w U3.out HN0.out HU6.out)⟩
end Go.Proofs.Ytnoimnijoklkdaa.Px
