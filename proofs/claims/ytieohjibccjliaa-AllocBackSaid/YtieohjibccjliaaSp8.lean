/- slices.Insert of one span in the middle, no room; Insert as one contract. -/
import Derived.Test.YtieohjibccjliaaSp7
set_option linter.unusedVariables false
set_option linter.unusedSimpArgs false
namespace Go.Proofs.Ytieohjibccjliaa
open Go.RowKit Go.Shelf Go.Lib

set_option maxHeartbeats 1000000 in
set_option maxRecDepth 100000 in
theorem ins_mid_grow {w : World} {r off cap : Nat} {a b : List Ex} {x : Ex} {vb : Nat} (h : RowAt w (.slice (some ⟨r, off, none⟩) (a ++ b).length cap) (some r) (a ++ b)) (hv : OneAt w vb x) (hl : (a ++ b).length ≤ 4096) (hroom : cap < (a ++ b).length + 1) (hb : b ≠ []) :
    Calls Try.prog 61 #[.slice (some ⟨r, off, none⟩) (a ++ b).length cap, .int .i64 (a.length : Nat), .slice (some ⟨vb, 0, none⟩) 1 1] w (InsP w (some r) (a ++ x :: b)) := by
  have t22 := Try.underlying93
  obtain ⟨i0, hi0, hq0, hq1, hq2⟩ := info_parts Try.infoEx
  obtain ⟨cur, h3, h4, h5, h6, h7⟩ := h.open
  obtain ⟨i, hi⟩ : ∃ i, i = a.length := ⟨_, rfl⟩
  have hm0 : 0 < b.length := List.length_pos_iff.2 hb
  obtain ⟨N, hN⟩ : ∃ N, N = (a ++ b).length := ⟨_, rfl⟩
  have hNl : N = i + b.length := by rw [hN, List.length_append, hi]
  rw [← hN] at hl hroom h5 ⊢
  rw [← hi]
  have hcN : cap = N := by omega
  subst hcN
  have hrlt := lt_of_heap h3
  have hvlt := lt_of_heap hv
  have hold : (Builtin.firstCells i0.size i (.slice (some ⟨r, off, none⟩) i cap)).run Try.prog w.drew = .ok (exs a).toArray w.drew := by
    rw [hq1]
    exact run_firstCells_some w.drew 2 i ⟨r, off, none⟩ i cap (exs a) (by rw [exs_len, hi]) (fun j u hj => by
      rw [Addr.add_lit]
      refine cell_heap (heap_drew h3) _ _ (h7 j u ?_)
      have hjl := (List.getElem?_eq_some_iff.1 hj).1
      rw [exs_len] at hjl
      rw [exs_app, if_pos hjl]
      exact hj)
  have hrz : ∀ ty, (Builtin.append_ #[93, 3] ty #[.slice (some ⟨r, off, none⟩) i cap, .int .i64 ((cap : Int) + 1 - (i : Int))]).run Try.prog w =
      .ok (.slice (some ⟨w.heap.size, 0, none⟩) (cap + 1) (grownCap w (cap + 1) cap 99)) (w.drew.alloc (.cells ((exs a).toArray ++ Builtin.zeroCells (Value.agg #[.int .i64 0, .int .i64 0]).cells (cap + 1 - i) ++ Builtin.zeroCells (Value.agg #[.int .i64 0, .int .i64 0]).cells (grownCap w (cap + 1) cap 99 - (cap + 1))) 99)) := fun ty => by
    have h := Lib.run_append_grow_zeros (P := Try.prog) w 93 3 ty 99 i0 _ .i64 .i64 t22 Try.underlying3 hi0 hq0 (some ⟨r, off, none⟩) i cap (exs a) hold (cap + 1 - i) (by omega) (by omega) (by omega) (by omega) (by rw [hq2]; omega) (by rw [hq2]; exact growslice_fits (by omega) (by omega))
    rw [show i + (cap + 1 - i) = cap + 1 by omega] at h
    rw [show (cap : Int) + 1 - (i : Int) = ((cap + 1 - i : Nat) : Int) by omega]
    exact h
  have hGn : cap + 1 ≤ grownCap w (cap + 1) cap 99 := grownCap_ge w _ _ _
  have hG63 : grownCap w (cap + 1) cap 99 ≤ maxLen := grownCap_le_maxLen w (cap + 1) cap 99 (by unfold maxLen; omega)
  obtain ⟨G, hG⟩ : ∃ G, G = grownCap w (cap + 1) cap 99 := ⟨_, rfl⟩
  rw [← hG] at hrz hGn hG63
  obtain ⟨ROW, hROW⟩ : ∃ ROW : Array Value, ROW = (exs a).toArray ++ Builtin.zeroCells (Value.agg #[.int .i64 0, .int .i64 0]).cells (cap + 1 - i) ++ Builtin.zeroCells (Value.agg #[.int .i64 0, .int .i64 0]).cells (G - (cap + 1)) := ⟨_, rfl⟩
  rw [← hROW] at hrz
  have hRs : ROW.size = G * 2 := by
    rw [hROW]
    simp [Builtin.zeroCells, Value.cells, exs_len]
    omega
  have hR0 : ∀ (j : Nat) (u : Value), (exs a)[j]? = some u → ROW[j]? = some u := fun j u hu => by
    have hjl := (List.getElem?_eq_some_iff.1 hu).1
    rw [hROW, Array.append_assoc, Array.getElem?_append_left (by simpa using hjl)]
    simpa using hu
  obtain ⟨W1, hW1⟩ : ∃ W1, W1 = w.drew.alloc (.cells ROW 99) := ⟨_, rfl⟩
  rw [← hW1] at hrz
  have hU1 : Upd (fun _ => False) w W1 := by rw [hW1]; exact (Upd.refl _ _).drew.alloc _
  have q1 : W1.heap[w.heap.size]? = some (.cells ROW 99 (0, 0)) := by rw [hW1]; exact heap_alloc_new w.drew _
  have hv1 : OneAt W1 vb x := hU1.heap hv (fun f => f)
  have hc1 : ∀ ty, (Builtin.copy_ #[93, 93] ty #[.slice (some ⟨w.heap.size, i * 2, none⟩) (cap + 1 - i) (G - i), .slice (some ⟨vb, 0, none⟩) 1 1]).run Try.prog W1 = .ok (goInt (Nat.min 1 (cap + 1 - i))) (W1.setCells w.heap.size (i * 2) (exV x)) := fun ty =>
    run_copy2 W1 _ _ ty 99 w.heap.size (i * 2) _ _ ⟨vb, 0, none⟩ 1 1 (exV x) t22 info2 (by rw [exs_one_len, show Nat.min 1 (cap + 1 - i) = 1 from Nat.min_eq_left (by omega)]) hv1.cells'
      (fun j hj => by rw [exs_one_len] at hj; rw [cell_heap q1 _ _ (Array.getElem?_eq_getElem (by omega))]; rfl) (fun j hj => free_heap q1 _) (exV_one x)
  obtain ⟨cur1, g1, g2, g3, g4, g5⟩ := setCells_heap w.heap.size (exV x) (i * 2) W1 ROW q1 (by rw [exs_one_len]; omega)
  obtain ⟨W2, hW2⟩ : ∃ W2, W2 = W1.setCells w.heap.size (i * 2) (exV x) := ⟨_, rfl⟩
  rw [← hW2] at hc1 g1
  have hU2 : Upd (fun _ => False) w W2 := by
    have : Upd (fun k => k = w.heap.size) w W2 := by rw [hW2]; exact upd_setCells (F := fun k => k = w.heap.size) w.heap.size (fun _ => rfl) _ _ _ (hU1.mono (fun _ _ f => f.elim))
    exact this.mono (fun k hk e => by omega)
  obtain ⟨news, hnews⟩ : ∃ news, news = exs b := ⟨_, rfl⟩
  have hlen : news.length = b.length * 2 := by rw [hnews, exs_len]
  have hmem : ∀ u ∈ news, u.oneCell' = true := by rw [hnews]; exact exs_one b
  have h32 := hU2.heap h3 (fun f => f)
  have hc2 : (Builtin.copy_ #[93, 93] 3 #[.slice (some ⟨w.heap.size, (i + 1) * 2, none⟩) (cap + 1 - (i + 1)) (G - (i + 1)), .slice (some ⟨r, off + i * 2, none⟩) (cap - i) (cap - i)]).run Try.prog W2.drew = .ok (goInt (Nat.min (cap - i) (cap + 1 - (i + 1)))) (W2.drew.setCells w.heap.size ((i + 1) * 2) news) :=
    run_copy2 W2.drew _ _ _ 99 w.heap.size ((i + 1) * 2) _ _ ⟨r, off + i * 2, none⟩ _ _ news t22 info2 (by rw [hlen, show cap - i = b.length by omega, show cap + 1 - (i + 1) = b.length by omega]; show _ = Nat.min _ _ * 2; simp [Nat.min_def])
      (fun j u hj => by
        rw [Addr.add_lit, Nat.add_assoc]
        refine cell_heap (heap_drew h32) _ _ (h7 _ _ ?_)
        rw [exs_app, if_neg (by omega), ← hi, Nat.add_sub_cancel_left, ← hnews]
        exact hj)
      (fun j hj => by rw [hlen] at hj; rw [cell_heap (heap_drew g1) _ _ (Array.getElem?_eq_getElem (by omega))]; rfl) (fun j hj => free_heap (heap_drew g1) _) hmem
  obtain ⟨cur2, k1, k2, k3, k4, k5⟩ := setCells_heap w.heap.size news ((i + 1) * 2) W2.drew cur1 (heap_drew g1) (by rw [hlen]; omega)
  obtain ⟨W3, hW3⟩ : ∃ W3, W3 = W2.drew.setCells w.heap.size ((i + 1) * 2) news := ⟨_, rfl⟩
  rw [← hW3] at hc2 k1
  have hU3 : Upd (fun k => some r = some k) w W3 := by
    have : Upd (fun k => k = w.heap.size) w W3 := by rw [hW3]; exact upd_setCells (F := fun k => k = w.heap.size) w.heap.size (fun _ => rfl) _ _ _ (hU2.mono (fun _ _ f => f.elim)).drew
    exact this.mono (fun k hk e => by omega)
  have hlen2 : (a ++ x :: b).length = cap + 1 := by rw [List.length_append, List.length_cons]; omega
  have hRow : RowAt W3 (.slice (some ⟨w.heap.size, 0, none⟩) (a ++ x :: b).length G) (some w.heap.size) (a ++ x :: b) := by
    refine RowAt.mk0 k1 (by omega) (by omega) hG63 fun j u hu => ?_
    rw [exs_mid, ← hi] at hu
    split at hu
    · rename_i hj
      rw [k3 _ (by omega), g3 _ (by omega)]
      exact hR0 j u hu
    · split at hu
      · rw [k3 _ (by omega)]
        have := g4 _ u hu
        rw [show i * 2 + (j - i * 2) = j by omega] at this
        exact this
      · rw [← hnews] at hu
        have := k4 _ u hu
        rw [show (i + 1) * 2 + (j - (i + 1) * 2) = j by omega] at this
        exact this
  rw [hlen2] at hRow
  have HRow := Lib.hid hRow
  have HU := Lib.hid hU3
  have HC2 := Lib.hid hc2
  have HRZ := Lib.hid hrz
  have p1 : IntKind.i64.wrap ((i : Int) + 1) = (i : Int) + 1 := IntWalk.i64_in _ (by omega)
  have p2 : ¬ ((i : Int) = (cap : Int)) := by omega
  have p3 : (0 : Int) ≤ (i : Int) + 1 := by omega
  have p4 : (i : Int) + 1 ≤ (cap : Int) + 1 := by omega
  have p5 : G ≤ 9223372036854775807 := by unfold maxLen at hG63; omega
  have p6 : ¬ (G = i + 1) := by omega
  have p7 : ¬ (G = i) := by omega
  have p8 : ((i : Int) + 1).toNat = i + 1 := by omega
  have p9 : (i : Int) ≤ (cap : Int) + 1 := by omega
  have p10 : i ≤ cap := by omega
  have p11 : ¬ (cap = i) := by omega
  have p12 : (cap : Int) < (cap : Int) + 1 := by omega
  have p13 : (i : Int) ≤ (cap : Int) := by omega
  have mixed : Try.prog.follows Departure.mixedOrders = true := by kernel_rfl
  clear h hv h3 h4 h5 h6 h7 g1 g2 g3 g4 g5 k1 k2 k3 k4 k5 hU1 hU2 hU3 hRow hi hnews hlen hmem hc2 hrz hW1 hW2 hW3 hv1 hlen2 hb hN hNl hm0 hrlt hvlt hold hG hGn hG63 hROW hRs hR0 q1 h32 hroom
  go_enter Try.func61, Try.ntmps61
  go_wp2_with (at_builtin; refine Lib.wpList_append_run _ rfl _ _ _ _ rfl _ _ rfl rfl _ _ (HRZ.out _) ?_)
  go_region_law_o (refine step_copy_runI rfl _ _ 93 93 rfl (.slice (some ⟨w.heap.size, (i + 1) * 2, none⟩) (cap + 1 - (i + 1)) (G - (i + 1))) (.slice (some ⟨r, off + i * 2, none⟩) (cap - i) (cap - i)) (by simp [Act.eval, Act.put]) (by simp [Act.eval, Act.put]) HC2.out ?_)
  go_wp2
  go_ret
  exact ⟨_, _, rfl, HRow.out, .inr ⟨_, rfl, Nat.le_refl _⟩, HU.out⟩
/-- Insert, wherever. -/
theorem ins_any {w : World} {v : Value} {row : Option Nat} {a b : List Ex} {x : Ex} {vb : Nat} (h : RowAt w v row (a ++ b)) (hv : OneAt w vb x) (hne : row ≠ some vb) (hl : (a ++ b).length ≤ 4096) :
    Calls Try.prog 61 #[v, .int .i64 (a.length : Nat), .slice (some ⟨vb, 0, none⟩) 1 1] w (InsP w row (a ++ x :: b)) := by
  by_cases hb : b = []
  · subst hb
    rw [List.append_nil] at h hl
    obtain ⟨ad, cap, rfl, hlc, hcm, hnil⟩ := h.form
    by_cases hr : a.length + 1 ≤ cap
    · rcases h with ⟨e1, e2, e3⟩ | ⟨r, off, cap', cur, e1, e2, h3⟩
      · subst e3
        cases e1
        simp at hr
      · subst e1
        have e3 := e2
        simp only [Value.slice.injEq] at e3
        obtain ⟨rfl, _, rfl⟩ := e3
        exact ins_end_room (.inr ⟨r, off, cap, cur, rfl, rfl, h3⟩) hv hl hr
    · exact ins_end_grow h hv hl (by omega)
  · rcases h with ⟨e1, e2, e3⟩ | ⟨r, off, cap, cur, rfl, rfl, h3⟩
    · exact absurd (List.append_eq_nil_iff.1 e3).2 hb
    · by_cases hr : (a ++ b).length + 1 ≤ cap
      · exact ins_mid_room (.inr ⟨r, off, cap, cur, rfl, rfl, h3⟩) hv (fun e => hne (by rw [e])) hl hr hb
      · exact ins_mid_grow (.inr ⟨r, off, cap, cur, rfl, rfl, h3⟩) hv hl (by omega) hb

end Go.Proofs.Ytieohjibccjliaa
