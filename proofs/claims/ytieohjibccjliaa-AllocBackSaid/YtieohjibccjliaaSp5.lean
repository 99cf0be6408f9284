/- slices.Delete of one span. -/
import Derived.Test.YtieohjibccjliaaSp4
set_option linter.unusedVariables false
set_option linter.unusedSimpArgs false
namespace Go.Proofs.Ytieohjibccjliaa
open Go.RowKit Go.Shelf

set_option maxHeartbeats 1000000 in
set_option maxRecDepth 100000 in
theorem del_one {w : World} {r off cap : Nat} {a b : List Ex} {x : Ex} (h : RowAt w (.slice (some ⟨r, off, none⟩) (a ++ x :: b).length cap) (some r) (a ++ x :: b)) (hl : (a ++ x :: b).length ≤ 4096) :
    Calls Try.prog 60 #[.slice (some ⟨r, off, none⟩) (a ++ x :: b).length cap, .int .i64 (a.length : Nat), .int .i64 ((a.length : Nat) + 1)] w fun e w' =>
      e = .returned (.slice (some ⟨r, off, none⟩) (a ++ b).length cap) ∧ RowAt w' (.slice (some ⟨r, off, none⟩) (a ++ b).length cap) (some r) (a ++ b) ∧ Upd (fun k => k = r) w w' := by
  have t22 := Try.underlying93
  obtain ⟨i0, hi0, hq0, hq1, hq2⟩ := info_parts Try.infoEx
  have v23 : ∀ w, (zeroValue 99).run Try.prog w = .ok (.agg #[.int .i64 0, .int .i64 0]) w := fun w => Try.zeroValue99 w
  have hcells := h.cells rfl
  rcases h with ⟨e, _⟩ | ⟨r', off', cap', cur, e1, e2, h3, h4, h5, h6, h7⟩
  · cases e
  cases e1
  simp only [Value.slice.injEq, Option.some.injEq, Addr.mk.injEq] at e2
  obtain ⟨⟨_, rfl, _⟩, _, rfl⟩ := e2
  obtain ⟨i, hi⟩ : ∃ i, i = a.length := ⟨_, rfl⟩
  obtain ⟨m, hm⟩ : ∃ m, m = b.length := ⟨_, rfl⟩
  have hN : (a ++ x :: b).length = i + 1 + m := by rw [List.length_append, List.length_cons, hi, hm]; omega
  have hN2 : (a ++ b).length = i + m := by rw [List.length_append, hi, hm]
  rw [hN] at h5 hl ⊢
  rw [hN2, ← hi]
  -- what is moved
  obtain ⟨news, hnews⟩ : ∃ news, news = exs b := ⟨_, rfl⟩
  have hlen : news.length = m * 2 := by rw [hnews, exs_len, hm]
  have hmem : ∀ u ∈ news, u.oneCell' = true := by rw [hnews]; exact exs_one b
  obtain ⟨A, hA, hsrc⟩ : ∃ A : Addr, (if cap = i + 1 then (some (⟨r, off, none⟩ : Addr)) else some ⟨r, off + (i + 1) * 2, none⟩) = some A ∧ Hid (∀ t u, news[t]? = some u → w.drew.cell? (A.add t) = some u) := by
    by_cases h : cap = i + 1
    · refine ⟨⟨r, off, none⟩, by simp [h], fun t u hu => ?_⟩
      have h0 : news.length = 0 := by rw [hlen]; omega
      rw [List.length_eq_zero_iff.1 h0] at hu
      simp at hu
    · refine ⟨⟨r, off + (i + 1) * 2, none⟩, by simp [h], fun t u hu => ?_⟩
      rw [Addr.add_lit, Nat.add_assoc]
      refine hcells _ u ?_
      rw [exs_append, exs_cons, List.getElem?_append_right (by rw [exs_len]; omega), exs_len]
      unfold exV
      rw [List.getElem?_append_right (by simp; omega), ← hnews]
      rw [show (i + 1) * 2 + t - a.length * 2 - [Value.int IntKind.i64 x.1, Value.int IntKind.i64 x.2].length = t by simp; omega]
      exact hu
  have hsz : ∀ j, j < cur.size → (w.cell? ⟨r, j, none⟩).isSome = true := fun j hj => by rw [cell_heap h3 j _ (Array.getElem?_eq_getElem hj)]; rfl
  have s1 := Lib.hid hlen
  have s2 := Lib.hid hmem
  have s3 := Lib.hid (show ∀ t, t < news.length → (w.drew.cell? ⟨r, off + i * 2 + t, none⟩).isSome = true ∧ w.drew.frozen? ⟨r, off + i * 2 + t, none⟩ = false from fun t ht => by
    rw [hlen] at ht
    exact ⟨hsz _ (by omega), free_heap h3 _⟩)
  obtain ⟨W1, hW1⟩ : ∃ W1, W1 = w.drew.setCells r (off + i * 2) news := ⟨_, rfl⟩
  obtain ⟨cur1, g1, g2, g3, g4, g5⟩ := setCells_heap r news (off + i * 2) w.drew cur h3 (by rw [hlen]; omega)
  rw [← hW1] at g1
  have hsz1 : ∀ j, j < cur.size → (W1.cell? ⟨r, j, none⟩).isSome = true := fun j hj => by rw [cell_heap g1 j _ (Array.getElem?_eq_getElem (by omega))]; rfl
  have hcl : ∀ ty, (Builtin.clear_ #[93] ty #[.slice (some ⟨r, off + (i + m) * 2, none⟩) 1 (cap - (i + m))]).run Try.prog W1 = .ok (.tuple #[]) (W1.setCells r (off + (i + m) * 2) [.int .i64 0, .int .i64 0]) := fun ty =>
    run_clear2 W1 _ _ ty _ _ t22 v23 ⟨rfl, rfl⟩ r (off + (i + m) * 2) _ (fun j hj => hsz1 _ (by omega)) (fun j hj => free_heap g1 _)
  obtain ⟨cur2, k1, k2, k3, k4, k5⟩ := setCells_heap r [.int .i64 0, .int .i64 0] (off + (i + m) * 2) W1 cur1 g1 (by simp; omega)
  have hU : Upd (fun k => k = r) w (W1.setCells r (off + (i + m) * 2) [.int .i64 0, .int .i64 0]) := by
    refine upd_setCells (F := fun k => k = r) r (fun _ => rfl) _ _ _ ?_
    rw [hW1]
    exact upd_setCells (F := fun k => k = r) r (fun _ => rfl) _ _ _ (Upd.refl _ _).drew
  have hRow : RowAt (W1.setCells r (off + (i + m) * 2) [.int .i64 0, .int .i64 0]) (.slice (some ⟨r, off, none⟩) (i + m) cap) (some r) (a ++ b) := by
    refine .inr ⟨r, off, cap, cur2, rfl, by rw [hN2], k1, by omega, by omega, h6, fun j y hy => ?_⟩
    have hj := (List.getElem?_eq_some_iff.1 hy).1
    rw [hN2] at hj
    rw [k3 _ (by omega), k3 _ (by omega)]
    by_cases hji : j < i
    · rw [g3 _ (by omega), g3 _ (by omega)]
      refine h7 j y ?_
      rw [List.getElem?_append_left (by omega)] at hy ⊢
      exact hy
    · rw [List.getElem?_append_right (by omega), ← hi] at hy
      obtain ⟨e1, e2⟩ := exs_get b (j - i) y hy
      rw [← hnews] at e1 e2
      have q1 := g4 _ _ e1
      have q2 := g4 _ _ e2
      rw [show off + i * 2 + 2 * (j - i) = off + 2 * j by omega] at q1
      rw [show off + i * 2 + (2 * (j - i) + 1) = off + 2 * j + 1 by omega] at q2
      exact ⟨q1, q2⟩
  have HU := Lib.hid hU
  have HRow := Lib.hid hRow
  have hW : Hid (W1 = w.drew.setCells r (off + i * 2) news) := hW1
  obtain ⟨W2, hW2⟩ : ∃ W2, W2 = W1.setCells r (off + (i + m) * 2) [.int .i64 0, .int .i64 0] := ⟨_, rfl⟩
  rw [← hW2] at hcl HU HRow
  have p1 : i + 1 ≤ cap := by omega
  have p2 : i ≤ cap := by omega
  have p3 : i + 1 + m ≤ cap := by omega
  have p4 : ¬ (cap = i + m) := by omega
  have p5 : cap ≤ 9223372036854775807 := by unfold maxLen at h6; omega
  have p6 : i ≤ 4096 := by omega
  have p7 : m ≤ 4096 := by omega
  have p8 : i + 1 + m - (i + m) = 1 := by omega
  have p9 : i + 1 + m - (i + 1) = m := by omega
  have mixed : Try.prog.follows Departure.mixedOrders = true := by kernel_rfl
  have p11 : (0 : Int) ≤ (i : Int) + 1 := by omega
  have p12 : (i : Int) + 1 ≤ (i : Int) + 1 + (m : Int) := by omega
  have p10 : (i : Int) + (m : Int) ≤ (i : Int) + 1 + (m : Int) := by omega
  clear hW1 hW2 g1 g2 g3 g4 g5 k1 k2 k3 k4 k5 hU hRow h3 h4 h5 h6 h7 hsz hsz1 hcells hlen hmem hN hN2 hi hm hnews hl
  go_enter Try.func60, Try.ntmps60
  go_wp2_with fail
  go_region_law_o (refine step_append_room rfl (.tmp 22) (.tmp 25) 93 rfl 99 i0 2 t22 hi0 hq1 r off i cap (by simp [Act.eval, Act.put]) A m (cap - (i + 1)) news (by simp [Act.eval, Act.put]) s1.out hsrc.out s2.out (by omega) s3.out ?_; rw [← hW.out])
  go_wp2
  go_ret
  exact ⟨rfl, HRow.out, HU.out⟩

end Go.Proofs.Ytieohjibccjliaa
