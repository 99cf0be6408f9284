/- table.read at both kinds, for the printer. -/
import Derived.Test.YtlhjhkmmgkfmpaaPxTk1
import Derived.WalkMore
import Derived.Outline
set_option linter.unusedVariables false
set_option linter.unusedSimpArgs false
namespace Go.Proofs.Ytlhjhkmmgkfmpaa.Px
open Go.RowKit Go.Shelf Go.Proofs.YtlhjhkmmgkfmpaaW.PrintWords Go.Proofs.YtlhjhkmmgkfmpaaW.PrintLast

def readS : Nat → List UInt8 → Int → List S53 × List UInt8 × Int
  | 0, l, e => ([], l, e)
  | n + 1, l, e => if (snapR l e).2.2 ≠ 0 then ([], (snapR l e).2) else ((snapR l e).1 :: (readS n (snapR l e).2.1 (snapR l e).2.2).1, (readS n (snapR l e).2.1 (snapR l e).2.2).2)
def readR : Nat → List UInt8 → Int → List S65 × List UInt8 × Int
  | 0, l, e => ([], l, e)
  | n + 1, l, e => if (refR l e).2.2 ≠ 0 then ([], (refR l e).2) else ((refR l e).1 :: (readR n (refR l e).2.1 (refR l e).2.2).1, (readR n (refR l e).2.1 (refR l e).2.2).2)
theorem snapR_le (l : List UInt8) (e : Int) : (snapR l e).2.1.length ≤ l.length := by
  unfold snapR
  exact Nat.le_trans (rU64_le _ _) (Nat.le_trans (rU64_le _ _) (Nat.le_trans (rU16_le _ _) (rText_le _ _)))
theorem refR_le (l : List UInt8) (e : Int) : (refR l e).2.1.length ≤ l.length := by
  unfold refR
  exact Nat.le_trans (rU16_le _ _) (rU16_le _ _)
theorem readS_len : ∀ (n : Nat) (l : List UInt8) (e : Int), (readS n l e).1.length ≤ n ∧ (readS n l e).2.1.length ≤ l.length
  | 0, _, _ => ⟨Nat.le_refl _, Nat.le_refl _⟩
  | n + 1, l, e => by
    unfold readS
    have := readS_len n (snapR l e).2.1 (snapR l e).2.2
    have := snapR_le l e
    split
    · exact ⟨Nat.zero_le _, this⟩
    · exact ⟨by simp; omega, by dsimp only; omega⟩
theorem readR_len : ∀ (n : Nat) (l : List UInt8) (e : Int), (readR n l e).1.length ≤ n ∧ (readR n l e).2.1.length ≤ l.length
  | 0, _, _ => ⟨Nat.le_refl _, Nat.le_refl _⟩
  | n + 1, l, e => by
    unfold readR
    have := readR_len n (refR l e).2.1 (refR l e).2.2
    have := refR_le l e
    split
    · exact ⟨Nat.zero_le _, this⟩
    · exact ⟨by simp; omega, by dsimp only; omega⟩

set_option maxHeartbeats 4000000 in
set_option maxRecDepth 100000 in
theorem readS_walk (bp br n : Nat) (l : List UInt8) (e : Int) (w : World) (hn : n ≤ 65535) (hl : l.length ≤ 1000000) (hbp : w.heap[bp]? = some (.cells #[.pointer (some ⟨br, 0, none⟩)] 74 (0, 0))) (hR : Rd w br l e) (hne : bp ≠ br) :
    Calls Try.prog 37 #[.pointer (some ⟨br, 0, none⟩), .int .i64 n, .func (.func 39) #[] #[.pointer (some ⟨bp, 0, none⟩)]] w (fun e' w' => ∃ v, e' = .returned v ∧ Kd.R k53 53 w' w.heap.size (fun _ => True) v (readS n l e).1 ∧ Rd w' br (readS n l e).2.1 (readS n l e).2.2 ∧ Upd (fun k => k = br) w w') := by
  have hu53 := Try.underlying53
  have HT : Hid (∀ (l : List UInt8) (e : Int) (w' : World), l.length ≤ 1000000 → Upd (fun k => k = br) w w' → Rd w' br l e → Calls Try.prog 39 #[.pointer (some ⟨bp, 0, none⟩)] w' (fun e' w2 => e' = .returned (snapV (snapR l e).1) ∧ Rd w2 br (snapR l e).2.1 (snapR l e).2.2 ∧ Upd (fun k => k = br) w' w2)) :=
    fun l e w' h1 h2 h3 => take1_walk bp br l e w' h1 (h2.heap hbp hne) h3 hne
  obtain ⟨R, hRe⟩ : ∃ R, R = readS n l e := ⟨_, rfl⟩
  rw [← hRe]
  have HRe := Lib.hid hRe
  have HR := Lib.hid hR
  have lbr := lt_of_heap hR
  clear hRe hR hbp hne
  go_enter Try.func37, Try.ntmps37
  go_wp2
  go_step3
  go_wp2
  go_step3
  go_wp2
  go_loopg [7, 10] n (fun g v7 v10 wr => ∃ (i : Nat) (v : Value) (xs : List S53) (li : List UInt8) (ei : Int), v = v7 ∧ v10 = .int .i64 i ∧ i + g = n ∧ Hid (Kd.R k53 53 wr w.heap.size (fun _ => True) v xs) ∧ Hid (Rd wr br li ei) ∧ Hid (Upd (fun k => k = br) w wr) ∧ Hid (R = (xs ++ (readS g li ei).1, (readS g li ei).2)) ∧ li.length ≤ 1000000 ∧ xs.length = i)
  case atStart => exact ⟨0, _, [], l, e, rfl, rfl, by omega, Lib.hid (Kd.R_nil _ _ _ _ _), HR, Lib.hid (Upd.refl _ _), Lib.hid (by rw [HRe.out]; rfl), hl, rfl⟩
  case round =>
    obtain ⟨i, v, xs, li, ei, rfl, rfl, hig, HK, HRi, HU, HE, hli, hxi⟩ := hrel
    cases gk with
    | zero =>
      obtain rfl : i = n := by omega
      go_wp2
      simp only [Exit.noGoto_ret, Exit.inBlock, Exit.then]
      go_ret
      refine ⟨_, rfl, ?_⟩
      rw [HE.out]
      exact ⟨by rw [show (readS 0 li ei).1 = [] from rfl, List.append_nil]; exact HK.out, HRi.out, HU.out⟩
    | succ g =>
      have hlt : decide ((i : Int) < (n : Int)) = true := decide_eq_true (by omega)
      have hx := HT.out li ei wr hli HU.out HRi.out
      have hle := snapR_le li ei
      have he : readS (g + 1) li ei = if (snapR li ei).2.2 ≠ 0 then ([], (snapR li ei).2) else ((snapR li ei).1 :: (readS g (snapR li ei).2.1 (snapR li ei).2.2).1, (readS g (snapR li ei).2.1 (snapR li ei).2.2).2) := rfl
      generalize snapR li ei = y at hx hle he
      obtain ⟨x, L, E⟩ := y
      dsimp only at hx hle he
      unfold snapV at hx
      have HX := Lib.hid hx
      have HEE := Lib.hid he
      clear hx he
      by_cases hE : E = 0
      · have hEb : (E != 0) = false := by simp [hE]
        have hee := HEE.out
        rw [if_neg (by simp [hE])] at hee
        go_wp2_with (refine HX.out.mono ?_; rintro e' w1 ⟨rfl, hR1, u1⟩)
        have hR2 : Rd (w1.alloc (.cells #[.string x.f0, .int .i64 x.f1, .int .u64 x.f2, .int .u64 x.f3] 53)) br L E := heap_alloc_lt hR1 _
        refine (Reader_Err br L E _ hR2).mono ?_
        rintro e' w2 ⟨rfl, hw⟩
        have hbx := heap_alloc_new w1 (.cells #[.string x.f0, .int .i64 x.f1, .int .u64 x.f2, .int .u64 x.f3] 53)
        have hu2 : Upd (fun k => k = br) wr (w1.alloc (.cells #[.string x.f0, .int .i64 x.f1, .int .u64 x.f2, .int .u64 x.f3] 53)) := u1.alloc _
        rw [hw] at hR2 hbx hu2
        have x0 := cell_heap hbx 0 (.string x.f0) rfl
        have x1 := cell_heap hbx 1 (.int .i64 x.f1) rfl
        have x2 := cell_heap hbx 2 (.int .u64 x.f2) rfl
        have x3 := cell_heap hbx 3 (.int .u64 x.f3) rfl
        have HU2 := Lib.hid (HU.out.trans hu2 (fun _ _ f => f))
        have lw := lt_of_heap hR2
        have hK2 : Kd.R k53 53 w2 w.heap.size (fun _ => True) v xs := Kd.R_mono (Kd.R_move (Kd.R_bound HK.out) (fun k hk => hu2.block k hk.2.2.1 (by show ¬ k = br; have := hk.2.1; omega))) (fun _ _ => trivial)
        have HR2 := Lib.hid hR2
        have HK2 := Lib.hid hK2
        clear hR1 u1 hw hbx hu2 hR2 hK2
        go_wp2_with (at_builtin; refine Kd.R_append k53 (w0 := w2) w.heap.size rfl (.tmp 17) (.tmp 19) 23 53 (.agg #[(.string ⟨#[]⟩), (.int .i64 0), (.int .u64 0), (.int .u64 0)]) 40 rfl Try.underlying23 info53 rfl (by decide) (by omega) _ xs x [.string x.f0, .int .i64 x.f1, .int .u64 x.f2, .int .u64 x.f3] (fun _ => True) (fun _ => False) rfl rfl (k53_mkM _ _ _ x) (fun _ hk => hk.elim) (fun _ _ => trivial) HK2.out (Below.refl _ _) HU2.out.size (by omega) ?_; intro v2 w3 hK3 hb3 hg3 hat3)
        go_roundg g
        case measure => omega
        case rel =>
          refine ⟨i + 1, v2, xs ++ [x], L, E, rfl, by go_num, by omega, Lib.hid hK3, Lib.hid ((hb3.block br lbr).trans HR2.out), Lib.hid (HU2.out.trans (Upd.of_below hb3) (fun k hk h => absurd hk (by omega))), Lib.hid ?_, by omega, by simp; omega⟩
          rw [HE.out, hee]
          simp
      · have hEb : (E != 0) = true := by simp [hE]
        have hee := HEE.out
        rw [if_pos hE] at hee
        go_wp2_with (refine HX.out.mono ?_; rintro e' w1 ⟨rfl, hR1, u1⟩)
        have hR2 : Rd (w1.alloc (.cells #[.string x.f0, .int .i64 x.f1, .int .u64 x.f2, .int .u64 x.f3] 53)) br L E := heap_alloc_lt hR1 _
        refine (Reader_Err br L E _ hR2).mono ?_
        rintro e' w2 ⟨rfl, hw⟩
        have hu2 : Upd (fun k => k = br) wr (w1.alloc (.cells #[.string x.f0, .int .i64 x.f1, .int .u64 x.f2, .int .u64 x.f3] 53)) := u1.alloc _
        rw [hw] at hR2 hu2
        have hK2 : Kd.R k53 53 w2 w.heap.size (fun _ => True) v xs := Kd.R_mono (Kd.R_move (Kd.R_bound HK.out) (fun k hk => hu2.block k hk.2.2.1 (by show ¬ k = br; have := hk.2.1; omega))) (fun _ _ => trivial)
        have HU2 := Lib.hid (HU.out.trans hu2 (fun _ _ f => f))
        have HR2 := Lib.hid hR2
        have HK2 := Lib.hid hK2
        clear hR1 u1 hw hu2 hR2 hK2
        go_wp2
        simp only [Exit.noGoto_ret, Exit.inBlock, Exit.then]
        go_ret
        refine ⟨_, rfl, ?_⟩
        rw [HE.out, hee]
        exact ⟨by rw [List.append_nil]; exact HK2.out, HR2.out, HU2.out⟩

set_option maxHeartbeats 4000000 in
set_option maxRecDepth 100000 in
theorem readR_walk (bp br n : Nat) (l : List UInt8) (e : Int) (w : World) (hn : n ≤ 65535) (hl : l.length ≤ 1000000) (hbp : w.heap[bp]? = some (.cells #[.pointer (some ⟨br, 0, none⟩)] 74 (0, 0))) (hR : Rd w br l e) (hne : bp ≠ br) :
    Calls Try.prog 42 #[.pointer (some ⟨br, 0, none⟩), .int .i64 n, .func (.func 43) #[] #[.pointer (some ⟨bp, 0, none⟩)]] w (fun e' w' => ∃ v, e' = .returned v ∧ Kd.R k65 65 w' w.heap.size (fun _ => True) v (readR n l e).1 ∧ Rd w' br (readR n l e).2.1 (readR n l e).2.2 ∧ Upd (fun k => k = br) w w') := by
  have hu65 := Try.underlying65
  have HT : Hid (∀ (l : List UInt8) (e : Int) (w' : World), l.length ≤ 1000000 → Upd (fun k => k = br) w w' → Rd w' br l e → Calls Try.prog 43 #[.pointer (some ⟨bp, 0, none⟩)] w' (fun e' w2 => e' = .returned (refV (refR l e).1) ∧ Rd w2 br (refR l e).2.1 (refR l e).2.2 ∧ Upd (fun k => k = br) w' w2)) :=
    fun l e w' h1 h2 h3 => take2_walk bp br l e w' h1 (h2.heap hbp hne) h3 hne
  obtain ⟨R, hRe⟩ : ∃ R, R = readR n l e := ⟨_, rfl⟩
  rw [← hRe]
  have HRe := Lib.hid hRe
  have HR := Lib.hid hR
  have lbr := lt_of_heap hR
  clear hRe hR hbp hne
  go_enter Try.func42, Try.ntmps42
  go_wp2
  go_step3
  go_wp2
  go_step3
  go_wp2
  go_loopg [7, 10] n (fun g v7 v10 wr => ∃ (i : Nat) (v : Value) (xs : List S65) (li : List UInt8) (ei : Int), v = v7 ∧ v10 = .int .i64 i ∧ i + g = n ∧ Hid (Kd.R k65 65 wr w.heap.size (fun _ => True) v xs) ∧ Hid (Rd wr br li ei) ∧ Hid (Upd (fun k => k = br) w wr) ∧ Hid (R = (xs ++ (readR g li ei).1, (readR g li ei).2)) ∧ li.length ≤ 1000000 ∧ xs.length = i)
  case atStart => exact ⟨0, _, [], l, e, rfl, rfl, by omega, Lib.hid (Kd.R_nil _ _ _ _ _), HR, Lib.hid (Upd.refl _ _), Lib.hid (by rw [HRe.out]; rfl), hl, rfl⟩
  case round =>
    obtain ⟨i, v, xs, li, ei, rfl, rfl, hig, HK, HRi, HU, HE, hli, hxi⟩ := hrel
    cases gk with
    | zero =>
      obtain rfl : i = n := by omega
      go_wp2
      simp only [Exit.noGoto_ret, Exit.inBlock, Exit.then]
      go_ret
      refine ⟨_, rfl, ?_⟩
      rw [HE.out]
      exact ⟨by rw [show (readR 0 li ei).1 = [] from rfl, List.append_nil]; exact HK.out, HRi.out, HU.out⟩
    | succ g =>
      have hlt : decide ((i : Int) < (n : Int)) = true := decide_eq_true (by omega)
      have hx := HT.out li ei wr hli HU.out HRi.out
      have hle := refR_le li ei
      have he : readR (g + 1) li ei = if (refR li ei).2.2 ≠ 0 then ([], (refR li ei).2) else ((refR li ei).1 :: (readR g (refR li ei).2.1 (refR li ei).2.2).1, (readR g (refR li ei).2.1 (refR li ei).2.2).2) := rfl
      generalize refR li ei = y at hx hle he
      obtain ⟨x, L, E⟩ := y
      dsimp only at hx hle he
      unfold refV at hx
      have HX := Lib.hid hx
      have HEE := Lib.hid he
      clear hx he
      by_cases hE : E = 0
      · have hEb : (E != 0) = false := by simp [hE]
        have hee := HEE.out
        rw [if_neg (by simp [hE])] at hee
        go_wp2_with (refine HX.out.mono ?_; rintro e' w1 ⟨rfl, hR1, u1⟩)
        have hR2 : Rd (w1.alloc (.cells #[.int .i64 x.f0, .int .i64 x.f1] 65)) br L E := heap_alloc_lt hR1 _
        refine (Reader_Err br L E _ hR2).mono ?_
        rintro e' w2 ⟨rfl, hw⟩
        have hbx := heap_alloc_new w1 (.cells #[.int .i64 x.f0, .int .i64 x.f1] 65)
        have hu2 : Upd (fun k => k = br) wr (w1.alloc (.cells #[.int .i64 x.f0, .int .i64 x.f1] 65)) := u1.alloc _
        rw [hw] at hR2 hbx hu2
        have x0 := cell_heap hbx 0 (.int .i64 x.f0) rfl
        have x1 := cell_heap hbx 1 (.int .i64 x.f1) rfl
        have HU2 := Lib.hid (HU.out.trans hu2 (fun _ _ f => f))
        have lw := lt_of_heap hR2
        have hK2 : Kd.R k65 65 w2 w.heap.size (fun _ => True) v xs := Kd.R_mono (Kd.R_move (Kd.R_bound HK.out) (fun k hk => hu2.block k hk.2.2.1 (by show ¬ k = br; have := hk.2.1; omega))) (fun _ _ => trivial)
        have HR2 := Lib.hid hR2
        have HK2 := Lib.hid hK2
        clear hR1 u1 hw hbx hu2 hR2 hK2
        go_wp2_with (at_builtin; refine Kd.R_append k65 (w0 := w2) w.heap.size rfl (.tmp 17) (.tmp 19) 24 65 (.agg #[(.int .i64 0), (.int .i64 0)]) 16 rfl Try.underlying24 info65 rfl (by decide) (by omega) _ xs x [.int .i64 x.f0, .int .i64 x.f1] (fun _ => True) (fun _ => False) rfl rfl (k65_mkM _ _ _ x) (fun _ hk => hk.elim) (fun _ _ => trivial) HK2.out (Below.refl _ _) HU2.out.size (by omega) ?_; intro v2 w3 hK3 hb3 hg3 hat3)
        go_roundg g
        case measure => omega
        case rel =>
          refine ⟨i + 1, v2, xs ++ [x], L, E, rfl, by go_num, by omega, Lib.hid hK3, Lib.hid ((hb3.block br lbr).trans HR2.out), Lib.hid (HU2.out.trans (Upd.of_below hb3) (fun k hk h => absurd hk (by omega))), Lib.hid ?_, by omega, by simp; omega⟩
          rw [HE.out, hee]
          simp
      · have hEb : (E != 0) = true := by simp [hE]
        have hee := HEE.out
        rw [if_pos hE] at hee
        go_wp2_with (refine HX.out.mono ?_; rintro e' w1 ⟨rfl, hR1, u1⟩)
        have hR2 : Rd (w1.alloc (.cells #[.int .i64 x.f0, .int .i64 x.f1] 65)) br L E := heap_alloc_lt hR1 _
        refine (Reader_Err br L E _ hR2).mono ?_
        rintro e' w2 ⟨rfl, hw⟩
        have hu2 : Upd (fun k => k = br) wr (w1.alloc (.cells #[.int .i64 x.f0, .int .i64 x.f1] 65)) := u1.alloc _
        rw [hw] at hR2 hu2
        have hK2 : Kd.R k65 65 w2 w.heap.size (fun _ => True) v xs := Kd.R_mono (Kd.R_move (Kd.R_bound HK.out) (fun k hk => hu2.block k hk.2.2.1 (by show ¬ k = br; have := hk.2.1; omega))) (fun _ _ => trivial)
        have HU2 := Lib.hid (HU.out.trans hu2 (fun _ _ f => f))
        have HR2 := Lib.hid hR2
        have HK2 := Lib.hid hK2
        clear hR1 u1 hw hu2 hR2 hK2
        go_wp2
        simp only [Exit.noGoto_ret, Exit.inBlock, Exit.then]
        go_ret
        refine ⟨_, rfl, ?_⟩
        rw [HE.out, hee]
        exact ⟨by rw [List.append_nil]; exact HK2.out, HR2.out, HU2.out⟩

end Go.Proofs.Ytlhjhkmmgkfmpaa.Px
