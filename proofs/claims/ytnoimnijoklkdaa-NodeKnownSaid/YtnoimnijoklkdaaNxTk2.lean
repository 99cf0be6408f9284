/- node.read: its walk. -/
import Derived.Test.YtnoimnijoklkdaaNxTk1
set_option linter.unusedVariables false
set_option linter.unusedSimpArgs false
namespace Go.Proofs.Ytnoimnijoklkdaa.Px
open Go.RowKit Go.Shelf Go.Proofs.YtnoimnijoklkdaaW.PrintWords Go.Proofs.YtnoimnijoklkdaaW.PrintLast

/-- How read ends. -/
def RdPost (R : Rn × List UInt8 × Int) (br : Nat) (w : World) (e : Ending) (w' : World) : Prop :=
  (R.2.2 ≠ 0 ∧ e = .panicked [{ v := tornV R.2.2, recovered := false }] ∧ Upd (fun k => k = br) w w') ∨
  (R.2.2 = 0 ∧ ∃ v1 v2 v3 vt : Value, e = .returned (.tuple #[.agg #[.bool R.1.leaf, v1, v2, v3, .slice none 0 0], vt]) ∧
    Kd.R k75 75 w' w.heap.size (fun _ => True) v1 R.1.es ∧ Kd.R Kd.string 9 w' w.heap.size (fun _ => True) v2 R.1.ps ∧ Kd.R (Kd.int .i64) 3 w' w.heap.size (fun _ => True) v3 R.1.ks ∧
    Kd.R Kd.string 9 w' w.heap.size (fun _ => True) vt R.1.ts ∧ Rd w' br R.2.1 0 ∧ Upd (fun k => k = br) w w')
theorem RdPost.bad {R : Rn × List UInt8 × Int} {br : Nat} {w w' : World} {c : Int} (hR : R.2.2 = c) (hc : c ≠ 0) (hu : Upd (fun k => k = br) w w') : RdPost R br w (.panicked [{ v := .iface 62 (.agg #[.int .i64 c]), recovered := false }]) w' :=
  .inl ⟨by rw [hR]; exact hc, by rw [hR]; rfl, hu⟩

theorem many_one {α : Type} {R : List UInt8 → Int → α × List UInt8 × Int} {g : Nat} {l : List UInt8} {e : Int} (h : (R l e).2.2 = 0) : many R (g + 1) l e = ((R l e).1 :: (many R g (R l e).2.1 (R l e).2.2).1, (many R g (R l e).2.1 (R l e).2.2).2) := by
  rw [many, if_neg (by rw [h]; decide)]
theorem many_bad {α : Type} {R : List UInt8 → Int → α × List UInt8 × Int} {g : Nat} {l : List UInt8} {e : Int} (h : (R l e).2.2 ≠ 0) : many R (g + 1) l e = ([], (R l e).2) := by
  rw [many, if_pos h]

def set5 (W : World) (N : Nat) (v0 v1 v2 v3 v4 : Value) : World := ((((W.setCell ⟨N, 0, none⟩ v0).setCell ⟨N, 1, none⟩ v1).setCell ⟨N, 2, none⟩ v2).setCell ⟨N, 3, none⟩ v3).setCell ⟨N, 4, none⟩ v4
theorem set5_at {W : World} {N : Nat} {t : TypeId} {a0 a1 a2 a3 a4 : Value} (h : W.heap[N]? = some (.cells #[a0, a1, a2, a3, a4] t (0, 0))) (v0 v1 v2 v3 v4 : Value) : (set5 W N v0 v1 v2 v3 v4).heap[N]? = some (.cells #[v0, v1, v2, v3, v4] t (0, 0)) :=
  heap_setCell_eq (i := 4) (heap_setCell_eq (i := 3) (heap_setCell_eq (i := 2) (heap_setCell_eq (i := 1) (heap_setCell_eq (i := 0) h v0) v1) v2) v3) v4
theorem set5_ne {W : World} {N b : Nat} {o : Obj} (h : W.heap[b]? = some o) (hb : b ≠ N) (v0 v1 v2 v3 v4 : Value) : (set5 W N v0 v1 v2 v3 v4).heap[b]? = some o :=
  heap_setCell_ne (heap_setCell_ne (heap_setCell_ne (heap_setCell_ne (heap_setCell_ne h _ _ hb) _ _ hb) _ _ hb) _ _ hb) _ _ hb
theorem set5_upd {F : Nat → Prop} {w W : World} (h : Upd F w W) {N : Nat} (hN : N < w.heap.size → F N) (v0 v1 v2 v3 v4 : Value) : Upd F w (set5 W N v0 v1 v2 v3 v4) :=
  ((((h.setCell (p := ⟨N, 0, none⟩) hN v0).setCell (p := ⟨N, 1, none⟩) hN v1).setCell (p := ⟨N, 2, none⟩) hN v2).setCell (p := ⟨N, 3, none⟩) hN v3).setCell (p := ⟨N, 4, none⟩) hN v4
theorem set5_R {α : Type} {d : Kd α} {e base : Nat} {v : Value} {xs : List α} {W : World} (h : d.R e W base (fun _ => True) v xs) {N : Nat} (hN : N < base) (v0 v1 v2 v3 v4 : Value) : d.R e (set5 W N v0 v1 v2 v3 v4) base (fun _ => True) v xs :=
  Kd.R_mono (Kd.R_far (p := ⟨N, 4, none⟩) (Kd.R_far (p := ⟨N, 3, none⟩) (Kd.R_far (p := ⟨N, 2, none⟩) (Kd.R_far (p := ⟨N, 1, none⟩) (Kd.R_far (p := ⟨N, 0, none⟩) (Kd.R_bound h) (fun k hk => by have := hk.2.1; show k ≠ N; omega) v0)
    (fun k hk => by have := hk.2.1; show k ≠ N; omega) v1) (fun k hk => by have := hk.2.1; show k ≠ N; omega) v2) (fun k hk => by have := hk.2.1; show k ≠ N; omega) v3) (fun k hk => by have := hk.2.1; show k ≠ N; omega) v4) (fun _ _ => trivial)
theorem R_set1 {α : Type} {d : Kd α} {e base : Nat} {v : Value} {xs : List α} {W : World} (h : d.R e W base (fun _ => True) v xs) {p : Addr} (hN : p.block < base) (u : Value) : d.R e (W.setCell p u) base (fun _ => True) v xs :=
  Kd.R_mono (Kd.R_far (Kd.R_bound h) (fun k hk => by have := hk.2.1; omega) u) (fun _ _ => trivial)
/-- A row above a base stays where only a block below it was touched. -/
theorem R_upd {α : Type} {d : Kd α} {e base : Nat} {v : Value} {xs : List α} {W W' : World} {F : Nat → Prop} (h : d.R e W base (fun _ => True) v xs) (hu : Upd F W W') (hF : ∀ k, base ≤ k → ¬ F k) : d.R e W' base (fun _ => True) v xs :=
  Kd.R_mono (Kd.R_move (Kd.R_bound h) (fun k hk => hu.block k hk.2.2.1 (hF k hk.2.1))) (fun _ _ => trivial)

set_option maxHeartbeats 8000000 in
set_option maxRecDepth 100000 in
theorem read_leaf (br : Nat) (l : List UInt8) (w : World) (hl : l.length ≤ 1000000) (hR : Rd w br l 0) (h0 : (rU8 l 0).2.2 = 0) (h1 : (rU8 l 0).1 = 1) :
    Calls Try.prog 32 #[.pointer (some ⟨br, 0, none⟩)] w (RdPost (rdN l) br w) := by
  have hun := Try.underlying28
  have hue := Try.underlying75
  have lbr := lt_of_heap hR
  obtain ⟨RR, hRR⟩ : ∃ RR, RR = rdN l := ⟨_, rfl⟩
  rw [← hRR]
  unfold rdN at hRR
  dsimp only at hRR
  rw [if_neg (by rw [h0]; decide), if_pos h1] at hRR
  have q1 := rU8_le l 0
  have H1 := Lib.hid (fun w h => Reader_U8 br l 0 w (by omega) h)
  generalize rU8 l 0 = a at *
  obtain ⟨k, L1, e1⟩ := a
  dsimp only at h0 h1 hRR q1 H1
  subst h0 h1
  have H2 := Lib.hid (fun w h => Reader_U16 br L1 0 w (by omega) h)
  have q2 := rU16_le L1 0
  have b2 := rU16_lt L1 0
  unfold leafN at hRR
  generalize rU16 L1 0 = c at *
  obtain ⟨n, L2, e2⟩ := c
  dsimp only at hRR q2 b2 H2
  unfold Two16 at b2
  have HRR := Lib.hid hRR
  clear hRR
  have hN := heap_alloc_new w (.cells #[.bool false, .slice none 0 0, .slice none 0 0, .slice none 0 0, .slice none 0 0] 28)
  have hRa : Rd (w.alloc (.cells #[.bool false, .slice none 0 0, .slice none 0 0, .slice none 0 0, .slice none 0 0] 28)) br l 0 := heap_alloc_lt hR _
  have u0 := (Upd.refl (fun k => k = br) w).alloc (.cells #[.bool false, .slice none 0 0, .slice none 0 0, .slice none 0 0, .slice none 0 0] 28)
  have NB := Lib.hid (show w.heap.size ≠ br by omega)
  go_enter Try.func32, Try.ntmps32
  go_wp2_with (fail)
  refine (H1.out _ hRa).mono ?_
  rintro e w1 ⟨rfl, hR1, u1⟩
  have U1 := Lib.hid (u0.trans u1 (fun _ _ f => f))
  have HN1 := u1.heap hN NB.out
  clear u0 u1 hN hRa
  go_wp2_with (fail)
  refine (must_ok br L1 w1 hR1).mono ?_
  rintro e w2 ⟨rfl, hw⟩
  subst hw
  have f0 := free_heap HN1 0
  have d0 := cell_heap HN1 0 (.bool false) rfl
  have o1 : (((1 : Nat) : Int) == 1) = true := rfl
  have o2 : ((1 : Int) == 1) = true := rfl
  have HN2 := heap_setCell_eq (i := 0) HN1 (.bool true)
  have hR2 : Rd (w2.setCell ⟨w.heap.size, 0, none⟩ (.bool true)) br L1 0 := heap_setCell_ne hR1 _ _ (Ne.symm NB.out)
  have U2 := Lib.hid (U1.out.setCell (p := ⟨w.heap.size, 0, none⟩) (fun h => absurd h (Nat.lt_irrefl _)) (.bool true))
  go_wp2_with (fail)
  refine (H2.out _ hR2).mono ?_
  rintro e w3 ⟨rfl, hR3, u3⟩
  have HN3 := u3.heap HN2 NB.out
  have U3 := Lib.hid (U2.out.trans u3 (fun _ _ f => f))
  have HR3 := Lib.hid hR3
  clear u3 hR2 HN2 f0 d0 HN1 hR1 U1 U2
  go_wp2
  obtain ⟨N0, hN0⟩ : ∃ N0, w.heap.size = N0 := ⟨_, rfl⟩
  have HN0 := Lib.hid hN0
  have LB3 := Lib.hid (show N0 < w3.heap.size ∧ br < w3.heap.size by
    have h1 := lt_of_heap HN3
    have h2 := lt_of_heap hR3
    rw [hN0] at h1
    exact ⟨h1, h2⟩)
  rw [hN0] at NB HN3 ⊢
  have HN3' := Lib.hid (show w3.heap[N0]? = some (.cells #[.bool true, .slice none 0 0, .slice none 0 0, .slice none 0 0, .slice none 0 0] 28 (0, 0)) from HN3)
  clear hR3 HN3 hN0 hR
  go_loopg [19] n (fun g v19 wr => ∃ (i : Nat) (A : Option Addr) (c : Nat) (xs : List S75) (li : List UInt8) (ei : Int), v19 = .int .u16 i ∧ i + g = n ∧ Hid (wr.heap[N0]? = some (.cells #[.bool true, .slice A xs.length c, .slice none 0 0, .slice none 0 0, .slice none 0 0] 28 (0, 0))) ∧
    Hid (Kd.R k75 75 wr w3.heap.size (fun _ => True) (.slice A xs.length c) xs) ∧ Hid (Rd wr br li ei) ∧ Hid (Upd (fun k => k = br ∨ k = N0) w3 wr) ∧ Hid (many entR n L2 e2 = (xs ++ (many entR g li ei).1, (many entR g li ei).2)) ∧ li.length ≤ 1000000 ∧ Hid (xs.length = i))
  case atStart => exact ⟨0, none, 0, [], L2, e2, rfl, by omega, HN3', Lib.hid (Kd.R_nil _ _ _ _ _), HR3, Lib.hid (Upd.refl _ _), Lib.hid (by simp), by omega, Lib.hid rfl⟩
  case round =>
    clear HN3' HR3
    obtain ⟨i, A, c, xs, li, ei, rfl, hig, HN, HK, HRi, HU, HM, hli, hxi⟩ := hrel
    have UW := Lib.hid (U3.out.trans HU.out (fun k hk f => by
      rcases f with f | f
      · exact f
      · have := HN0.out; omega) : Upd (fun k => k = br) w wr)
    cases gk with
    | zero =>
      obtain rfl : i = n := by omega
      have hlt : decide ((i : Int) < (i : Int)) = false := decide_eq_false (by omega)
      have hm : many entR i L2 e2 = (xs, li, ei) := by rw [HM.out]; simp [many]
      rw [hm] at HRR
      dsimp only at HRR
      clear HM hm
      by_cases he : ei = 0
      · subst he
        have HF := Lib.hid (HRR.out.trans (if_neg (by simp)))
        have d0 := cell_heap HN.out 0 (.bool true) rfl
        have d1 := cell_heap HN.out 1 (.slice A xs.length c) rfl
        have d2 := cell_heap HN.out 2 (.slice none 0 0) rfl
        have d3 := cell_heap HN.out 3 (.slice none 0 0) rfl
        have d4 := cell_heap HN.out 4 (.slice none 0 0) rfl
        have f0 := free_heap HN.out 0
        have f1 := free_heap HN.out 1
        have f2 := free_heap HN.out 2
        have f3 := free_heap HN.out 3
        have f4 := free_heap HN.out 4
        go_wp2_with (fail)
        refine (must_ok br li wr HRi.out).mono ?_
        rintro e w4 ⟨rfl, hw⟩
        subst hw
        go_wp2
        have z := set5_at HN.out (.bool true) (.slice A xs.length c) (.slice none 0 0) (.slice none 0 0) (.slice none 0 0)
        have zu := set5_upd UW.out (N := N0) (fun h => absurd h (by have := HN0.out; omega)) (.bool true) (.slice A xs.length c) (.slice none 0 0) (.slice none 0 0) (.slice none 0 0)
        have zr := set5_R HK.out LB3.out.1 (.bool true) (.slice A xs.length c) (.slice none 0 0) (.slice none 0 0) (.slice none 0 0)
        have zd : Rd _ br li 0 := set5_ne HRi.out (Ne.symm NB.out) (.bool true) (.slice A xs.length c) (.slice none 0 0) (.slice none 0 0) (.slice none 0 0)
        unfold set5 at z zu zr zd
        generalize ((((w4.setCell ⟨N0, 0, none⟩ (.bool true)).setCell ⟨N0, 1, none⟩ (.slice A xs.length c)).setCell ⟨N0, 2, none⟩ (.slice none 0 0)).setCell ⟨N0, 3, none⟩ (.slice none 0 0)).setCell ⟨N0, 4, none⟩ (.slice none 0 0) = W6 at z zu zr zd ⊢
        have z0 := cell_heap z 0 _ rfl
        have z1 := cell_heap z 1 _ rfl
        have z2 := cell_heap z 2 _ rfl
        have z3 := cell_heap z 3 _ rfl
        have z4 := cell_heap z 4 _ rfl
        refine bodyPost_ret (v := .tuple #[.agg #[.bool true, .slice A xs.length c, .slice none 0 0, .slice none 0 0, .slice none 0 0], .slice none 0 0]) ?_ rfl ?_
        · simp [results, Try.results32, go_sem, hun, z0, z1, z2, z3, z4]
        · rw [HF.out]
          exact .inr ⟨rfl, _, _, _, _, rfl, Kd.R_lower zr (by have := LB3.out; have := HN0.out; omega), Kd.R_nil _ _ _ _ _, Kd.R_nil _ _ _ _ _, Kd.R_nil _ _ _ _ _, zd, zu⟩
      · have HF := Lib.hid (HRR.out.trans (if_pos he))
        go_wp2_with (fail)
        refine (must_bad br li ei wr HRi.out he).mono ?_
        rintro e w4 ⟨rfl, hw⟩
        subst hw
        go_wp2
        exact ⟨rfl, RdPost.bad (by rw [HF.out]) (by decide) UW.out⟩
    | succ g =>
      have hi : i < n := by omega
      have hlt : decide ((i : Int) < (n : Int)) = true := decide_eq_true (by omega)
      have hwi : IntKind.u16.wrap ((i : Int) + 1) = ((i + 1 : Nat) : Int) := by rw [IntWalk.u16_in _ (by omega)]; omega
      have hle := entR_le li ei
      have hv : entR li ei = (⟨⟨(rText li ei).1.toArray⟩, ⟨(rText (rText li ei).2.1 (rText li ei).2.2).1.toArray⟩⟩, (rText (rText li ei).2.1 (rText li ei).2.2).2) := rfl
      have HV := Lib.hid hv
      rw [hv] at hle
      have q5 := rText_rest li ei
      have H5 := Lib.hid (fun w h => Reader_Text br li ei w (by omega) h)
      clear hv
      generalize rText li ei = y at *
      obtain ⟨s1, La, ea⟩ := y
      dsimp only at HV H5 hle q5
      have H6 := Lib.hid (fun w h => Reader_Text br La ea w (by omega) h)
      generalize rText La ea = y2 at *
      obtain ⟨s2, Lb, eb⟩ := y2
      dsimp only at HV H6 hle
      go_wp2_with (fail)
      refine (H5.out _ HRi.out).mono ?_
      rintro e wa ⟨rfl, hRa, ua⟩
      have hX0 := heap_alloc_new wa (.cells #[.string ⟨s1.toArray⟩, .string ⟨#[]⟩] 75)
      have hRa2 : Rd (wa.alloc (.cells #[.string ⟨s1.toArray⟩, .string ⟨#[]⟩] 75)) br La ea := heap_alloc_lt hRa _
      have ua2 := ua.alloc (.cells #[.string ⟨s1.toArray⟩, .string ⟨#[]⟩] 75)
      have lwr := lt_of_heap HN.out
      have lra := lt_of_heap hRa
      have hsz := ua.size
      have NX := Lib.hid (show wa.heap.size ≠ br by omega)
      clear hRa ua
      go_wp2_with (fail)
      refine (H6.out _ hRa2).mono ?_
      rintro e wb ⟨rfl, hRb, ub⟩
      have hX := ub.heap hX0 NX.out
      have x1 := cell_heap hX 1 (.string ⟨#[]⟩) rfl
      have xf := free_heap hX 1
      have hX2 := heap_setCell_eq (i := 1) hX (.string ⟨s2.toArray⟩)
      have hRc : Rd (wb.setCell ⟨wa.heap.size, 1, none⟩ (.string ⟨s2.toArray⟩)) br Lb eb := heap_setCell_ne hRb _ _ (Ne.symm NX.out)
      have uc := (ua2.trans ub (fun _ _ f => f)).setCell (p := ⟨wa.heap.size, 1, none⟩) (fun h => absurd h (Nat.not_lt.2 hsz)) (.string ⟨s2.toArray⟩)
      have UC := Lib.hid uc
      have HX2 := Lib.hid (show (wb.setCell ⟨wa.heap.size, 1, none⟩ (.string ⟨s2.toArray⟩)).heap[wa.heap.size]? = some (.cells #[.string ⟨s1.toArray⟩, .string ⟨s2.toArray⟩] 75 (0, 0)) from hX2)
      have HRc := Lib.hid hRc
      clear hX hX0 hRa2 ua2 ub uc hX2 hRc hRb
      generalize hX : wa.heap.size = X at *
      clear hX
      by_cases he : eb = 0
      · subst he
        have hm1 : many entR (g + 1) li ei = (⟨⟨s1.toArray⟩, ⟨s2.toArray⟩⟩ :: (many entR g Lb 0).1, (many entR g Lb 0).2) := by rw [many_one (by rw [HV.out]), HV.out]
        have HM1 := Lib.hid hm1
        clear hm1
        go_wp2_with (fail)
        refine (must_ok br Lb _ HRc.out).mono ?_
        rintro e w4 ⟨rfl, hw⟩
        rw [← hw] at HX2 HRc UC
        clear hw
        have HNc := Lib.hid (UC.out.heap HN.out NB.out)
        have d1 := cell_heap HNc.out 1 (.slice A xs.length c) rfl
        have x0 := cell_heap HX2.out 0 (.string ⟨s1.toArray⟩) rfl
        have x1 := cell_heap HX2.out 1 (.string ⟨s2.toArray⟩) rfl
        have HK2 := Lib.hid (R_upd HK.out UC.out (fun k hk f => by have := LB3.out; omega))
        have lw4 : w3.heap.size ≤ w4.heap.size := Nat.le_trans HU.out.size UC.out.size
        go_wp2_with (
          at_builtin
          refine Kd.R_append k75 (w0 := w4) w3.heap.size rfl (.tmp 30) (.tmp 32) 23 75 (.agg #[(.string ⟨#[]⟩), (.string ⟨#[]⟩)]) 32 rfl Try.underlying23 info75 rfl (by decide) (by omega) (.slice A xs.length c) xs ⟨⟨s1.toArray⟩, ⟨s2.toArray⟩⟩ [.string ⟨s1.toArray⟩, .string ⟨s2.toArray⟩] (fun _ => True) (fun _ => False) rfl rfl (k75_mkM _ _ _ _) (fun _ hk => hk.elim) (fun _ _ => trivial) HK2.out (Below.refl _ _) lw4 (by have := hxi.out; omega) ?_
          intro v2 w5 hK3 hb3 hg3 hat3
          obtain ⟨XS, hXS⟩ : ∃ XS, XS = xs ++ [(⟨⟨s1.toArray⟩, ⟨s2.toArray⟩⟩ : S75)] := ⟨_, rfl⟩
          rw [← hXS] at hK3
          have HXS := Lib.hid hXS
          clear hXS
          obtain ⟨A2, c2, rfl⟩ := Kd.R_slice hK3
          have hN5 := (hb3.block N0 LB3.out.1).trans HNc.out
          have e1 := cell_heap hN5 1 (.slice A xs.length c) rfl
          have ef := free_heap hN5 1
          have HN6 := Lib.hid (heap_setCell_eq (i := 1) hN5 (.slice A2 XS.length c2))
          have HR6 : Hid (Rd (w5.setCell ⟨N0, 1, none⟩ (.slice A2 XS.length c2)) br Lb 0) := Lib.hid (heap_setCell_ne ((hb3.block br LB3.out.2).trans HRc.out) _ _ (Ne.symm NB.out))
          have HK6 := Lib.hid (R_set1 hK3 (p := ⟨N0, 1, none⟩) LB3.out.1 (.slice A2 XS.length c2))
          have HU6 := Lib.hid (((HU.out.trans UC.out (fun k hk f => .inl f)).trans (Upd.of_below hb3) (fun k hk h => absurd hk (by omega))).setCell (p := ⟨N0, 1, none⟩) (fun _ => .inr rfl) (.slice A2 XS.length c2))
          have hxl := Lib.hid (show XS.length = i + 1 by rw [HXS.out]; simp [hxi.out])
          clear hK3 hb3 hg3 hat3 hN5 d1 x0 x1)
        go_roundg g
        case measure => omega
        case rel =>
          refine ⟨i + 1, A2, c2, XS, Lb, 0, by go_num, by omega, ?_, ?_, ?_, ?_, Lib.hid ?_, by omega, hxl⟩
          · exact HN6
          · exact HK6
          · exact HR6
          · exact HU6
          · rw [HM.out, HM1.out, HXS.out]; simp
      · have hb : (entR li ei).2.2 ≠ 0 := by rw [HV.out]; exact he
        have HF := Lib.hid (HRR.out.trans (if_pos (by rw [HM.out, many_bad hb, HV.out]; exact he)))
        go_wp2_with (fail)
        refine (must_bad br Lb eb _ HRc.out he).mono ?_
        rintro e w4 ⟨rfl, hw⟩
        subst hw
        go_wp2
        exact ⟨rfl, RdPost.bad (by rw [HF.out]) (by decide) (UW.out.trans UC.out (fun _ _ f => f))⟩
end Go.Proofs.Ytnoimnijoklkdaa.Px
