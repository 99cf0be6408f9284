/- slices.Insert of one span: at the end, in the middle; with room and without. -/
import Derived.Test.YtieohjibccjliaaSp5
import Derived.Shelf.Spec.SlicesInsertGrow
set_option linter.unusedVariables false
set_option linter.unusedSimpArgs false
namespace Go.Proofs.Ytieohjibccjliaa
open Go.RowKit Go.Shelf

theorem run_copy2 {P : Program} (w : World) (dT sT ty elem : TypeId) (b o dLen dCap : Nat) (a : Addr) (sLen sCap : Nat) (cs : List Value)
    (hu : P.underlying dT = some (.slice elem)) (hs : (P.info? elem).map (·.size) = some 2) (hn : cs.length = Nat.min sLen dLen * 2)
    (hsrc : ∀ j v, cs[j]? = some v → w.cell? (a.add j) = some v) (hc : ∀ j, j < cs.length → (w.cell? ⟨b, o + j, none⟩).isSome = true) (hf : ∀ j, j < cs.length → w.frozen? ⟨b, o + j, none⟩ = false) (h1 : ∀ v ∈ cs, v.oneCell' = true) :
    (Builtin.copy_ #[dT, sT] ty #[.slice (some ⟨b, o, none⟩) dLen dCap, .slice (some a) sLen sCap]).run P w = .ok (goInt (Nat.min sLen dLen)) (w.setCells b o cs) := by
  have hl := run_loadCells_list (P := P) w a cs hsrc
  have hst := run_storeCells_cells (P := P) b o cs 0 w (by simpa using hc) (by simpa using hf) h1
  cases hq : P.info? elem with
  | none => simp [hq] at hs
  | some i =>
    have hi : i.size = 2 := by simpa [hq] using hs
    simp [Builtin.copy_, run_underlying hu, Builtin.lenOf, Builtin.firstCells, sizeOf, typeInfo, hq, hi, ← hn, hl, hst]

/-- A span in a block of its own (slices.Insert's values). -/
def OneAt (w : World) (vb : Nat) (x : Ex) : Prop := w.heap[vb]? = some (.cells #[.int .i64 x.1, .int .i64 x.2] 99 (0, 0))
theorem OneAt.cells {w : World} {vb : Nat} {x : Ex} (h : OneAt w vb x) : ∀ j u, (exV x)[j]? = some u → w.cell? ⟨vb, 0 + j, none⟩ = some u := by
  intro j u hu
  rw [Nat.zero_add]
  refine cell_heap h j u ?_
  unfold exV at hu
  simpa using hu
theorem OneAt.cells' {w : World} {vb : Nat} {x : Ex} (h : OneAt w vb x) : ∀ j u, (exV x)[j]? = some u → w.cell? ((⟨vb, 0, none⟩ : Addr).add j) = some u := fun j u hu => by
  rw [Addr.add_lit]; exact h.cells j u hu
theorem exV_one (x : Ex) : ∀ u ∈ exV x, u.oneCell' = true := by intro u hu; unfold exV at hu; simp at hu; rcases hu with rfl | rfl <;> rfl
theorem exs_one_len (x : Ex) : (exV x).length = 2 := rfl
/-- A row that a block holds. -/
theorem RowAt.mkAt {w : World} {g off cap : Nat} {cur : Array Value} {l : List Ex} (h : w.heap[g]? = some (.cells cur 99 (0, 0))) (hs : off + 2 * cap ≤ cur.size) (hl : l.length ≤ cap) (hm : cap ≤ maxLen)
    (hc : ∀ (j : Nat) (u : Value), (exs l)[j]? = some u → cur[off + j]? = some u) : RowAt w (.slice (some ⟨g, off, none⟩) l.length cap) (some g) l := by
  refine .inr ⟨g, off, cap, cur, rfl, rfl, h, hs, hl, hm, fun j x hx => ?_⟩
  obtain ⟨e1, e2⟩ := exs_get l j x hx
  exact ⟨hc _ _ e1, by have := hc _ _ e2; rw [← Nat.add_assoc] at this; exact this⟩
theorem RowAt.mk0 {w : World} {g cap : Nat} {cur : Array Value} {l : List Ex} (h : w.heap[g]? = some (.cells cur 99 (0, 0))) (hs : 2 * cap ≤ cur.size) (hl : l.length ≤ cap) (hm : cap ≤ maxLen)
    (hc : ∀ (j : Nat) (u : Value), (exs l)[j]? = some u → cur[j]? = some u) : RowAt w (.slice (some ⟨g, 0, none⟩) l.length cap) (some g) l :=
  RowAt.mkAt h (by omega) hl hm (fun j u hu => by rw [Nat.zero_add]; exact hc j u hu)
/-- The cells of a row, read back. -/
theorem RowAt.open {w : World} {r off cap : Nat} {l : List Ex} (h : RowAt w (.slice (some ⟨r, off, none⟩) l.length cap) (some r) l) : ∃ cur, w.heap[r]? = some (.cells cur 99 (0, 0)) ∧ off + 2 * cap ≤ cur.size ∧ l.length ≤ cap ∧ cap ≤ maxLen ∧ (∀ j u, (exs l)[j]? = some u → cur[off + j]? = some u) := by
  have hc := h.cells rfl
  rcases h with ⟨e, _⟩ | ⟨r', off', cap', cur, e1, e2, h3, h4, h5, h6, h7⟩
  · cases e
  cases e1
  simp only [Value.slice.injEq, Option.some.injEq, Addr.mk.injEq] at e2
  obtain ⟨⟨_, rfl, _⟩, _, rfl⟩ := e2
  refine ⟨cur, h3, h4, h5, h6, fun j u hu => ?_⟩
  have := hc j u hu
  rw [cell_of_row _ r _ cur _ _ h3] at this
  exact this

/-- What Insert leaves. -/
def InsP (w : World) (row : Option Nat) (l : List Ex) (e : Ending) (w' : World) : Prop :=
  ∃ v' row', e = .returned v' ∧ RowAt w' v' row' l ∧ (row' = row ∨ ∃ x, row' = some x ∧ w.heap.size ≤ x) ∧ Upd (fun k => row = some k) w w'
theorem ins_end_room {w : World} {r off cap : Nat} {l : List Ex} {x : Ex} {vb : Nat} (h : RowAt w (.slice (some ⟨r, off, none⟩) l.length cap) (some r) l) (hv : OneAt w vb x) (hl : l.length ≤ 4096) (hroom : l.length + 1 ≤ cap) :
    Calls Try.prog 61 #[.slice (some ⟨r, off, none⟩) l.length cap, .int .i64 (l.length : Nat), .slice (some ⟨vb, 0, none⟩) 1 1] w (InsP w (some r) (l ++ [x])) := by
  have t22 := Try.underlying93
  obtain ⟨i0, hi0, hq0, hq1, hq2⟩ := info_parts Try.infoEx
  obtain ⟨cur, h3, h4, h5, h6, h7⟩ := h.open
  obtain ⟨N, hN⟩ : ∃ N, N = l.length := ⟨_, rfl⟩
  rw [← hN] at hl hroom h5 ⊢
  have hrun := fun ty => run_append_room_cells (P := Try.prog) w 93 ty 99 i0 t22 hi0 r off N cap ⟨vb, 0, none⟩ 1 1 (exV x) (by rw [hq1]; rfl) hv.cells' (exV_one x) hroom
    (fun j hj => by rw [exs_one_len] at hj; rw [hq1, cell_heap h3 _ _ (Array.getElem?_eq_getElem (by omega))]; rfl) (fun j hj => free_heap h3 _)
  rw [hq1] at hrun
  obtain ⟨cur', g1, g2, g3, g4, g5⟩ := setCells_heap r (exV x) (off + N * 2) w cur h3 (by rw [exs_one_len]; omega)
  have hU : Upd (fun k => some r = some k) w (w.setCells r (off + N * 2) (exV x)) := upd_setCells (F := fun k => some r = some k) r (fun _ => rfl) _ _ _ (Upd.refl _ _)
  have hRow : RowAt (w.setCells r (off + N * 2) (exV x)) (.slice (some ⟨r, off, none⟩) (l ++ [x]).length cap) (some r) (l ++ [x]) := by
    refine RowAt.mkAt g1 (by omega) (by simp; omega) h6 fun j u hu => ?_
    rw [exs_append] at hu
    by_cases hj : j < N * 2
    · rw [g3 _ (by omega)]
      rw [List.getElem?_append_left (by rw [exs_len]; omega)] at hu
      exact h7 j u hu
    · rw [List.getElem?_append_right (by rw [exs_len]; omega), exs_len, ← hN] at hu
      have := g4 (j - N * 2) u (by rw [exs_cons] at hu; simpa [exs] using hu)
      rw [show off + N * 2 + (j - N * 2) = off + j by omega] at this
      exact this
  have hlen : (l ++ [x]).length = N + 1 := by simp [hN]
  rw [hlen] at hRow
  have HRow := Lib.hid hRow
  have HU := Lib.hid hU
  have HRUN := Lib.hid hrun
  have hz1 : ¬ (N = 0 ∧ False) := by simp
  clear h hv h3 h4 h5 h6 h7 hrun g1 g2 g3 g4 g5 hU hRow hN
  go_enter Try.func61, Try.ntmps61
  go_wp2_with (at_builtin; refine wpList_append_by rfl (.tmp 23) (.tmp 24) 93 rfl _ _ _ rfl rfl (HRUN.out _) ?_)
  go_ret
  exact ⟨_, _, rfl, HRow.out, .inl rfl, HU.out⟩
theorem ins_end_grow {w : World} {ad : Option Addr} {row : Option Nat} {cap : Nat} {l : List Ex} {x : Ex} {vb : Nat} (h : RowAt w (.slice ad l.length cap) row l) (hv : OneAt w vb x) (hl : l.length ≤ 4096) (hroom : cap < l.length + 1) :
    Calls Try.prog 61 #[.slice ad l.length cap, .int .i64 (l.length : Nat), .slice (some ⟨vb, 0, none⟩) 1 1] w (InsP w row (l ++ [x])) := by
  have t22 := Try.underlying93
  obtain ⟨i0, hi0, hq0, hq1, hq2⟩ := info_parts Try.infoEx
  have hform := h.form
  obtain ⟨ad', cap', e0, hlc, hcm, hnil⟩ := hform
  cases e0
  obtain ⟨N, hN⟩ : ∃ N, N = l.length := ⟨_, rfl⟩
  have hsrc : Src Try.prog i0.size 93 (.slice (some ⟨vb, 0, none⟩) 1 1) 1 (exV x) w := by rw [hq1]; exact Src.ofSlice w t22 ⟨vb, 0, none⟩ 1 1 (exV x) rfl hv.cells' (exV_one x)
  have hold : (Builtin.firstCells i0.size l.length (.slice ad l.length cap)).run Try.prog w.drew = .ok (exs l).toArray w.drew := by
    rw [hq1]
    cases ad with
    | none =>
      obtain ⟨rfl, rfl⟩ := hnil rfl
      exact run_firstCells_none w.drew 2 0 0 0
    | some a =>
      rcases h with ⟨e, _⟩ | ⟨r', off', cap', cur, e1, e2, h3⟩
      · cases e
      · have e2' := e2
        simp only [Value.slice.injEq, Option.some.injEq] at e2'
        obtain ⟨rfl, _, rfl⟩ := e2'
        exact run_firstCells_some w.drew 2 l.length ⟨r', off', none⟩ l.length cap (exs l) (exs_len l) (fun j u hj => by
          rw [Addr.add_lit]
          exact (RowAt.cells (w := w) (row := row) (.inr ⟨r', off', cap, cur, e1, rfl, h3⟩) rfl) j u hj)
  have hrun := fun ty => run_append_grow_src (P := Try.prog) w 93 93 ty 99 i0 _ t22 hi0 hq0 ad l.length cap (exs l) hold _ 1 (exV x) hsrc hroom (by omega) (by rw [hq2]; exact growslice_fits hroom (by omega))
  have hG := grownCap_ge w (l.length + 1) cap 99
  have hG2 := grownCap_le_maxLen w (l.length + 1) cap 99 (by unfold maxLen; omega)
  generalize grownCap w (l.length + 1) cap 99 = G at hrun hG hG2
  have hU : Upd (fun k => row = some k) w (w.drew.alloc (.cells ((exs l ++ exV x).toArray ++ Builtin.zeroCells (Value.agg #[.int .i64 0, .int .i64 0]).cells (G - (l.length + 1))) 99)) := (Upd.refl _ _).drew.alloc _
  have hRow : RowAt (w.drew.alloc (.cells ((exs l ++ exV x).toArray ++ Builtin.zeroCells (Value.agg #[.int .i64 0, .int .i64 0]).cells (G - (l.length + 1))) 99)) (.slice (some ⟨w.heap.size, 0, none⟩) (l ++ [x]).length G) (some w.heap.size) (l ++ [x]) := by
    refine RowAt.mk0 (heap_alloc_new _ _) ?_ (by simp; omega) hG2 fun j u hu => ?_
    · simp [exs_len, exs_one_len, Builtin.zeroCells, Value.cells]
      omega
    · have he : exs (l ++ [x]) = exs l ++ exV x := by rw [exs_append, exs_cons]; simp [exs]
      rw [he] at hu
      rw [Array.getElem?_append_left (by have := (List.getElem?_eq_some_iff.1 hu).1; simpa using this)]
      simpa using hu
  have hlen : (l ++ [x]).length = N + 1 := by simp [hN]
  rw [hlen] at hRow
  rw [← hN] at hrun hl hRow hU hroom hlc ⊢
  have HRow := Lib.hid hRow
  have HU := Lib.hid hU
  have HRUN := Lib.hid hrun
  clear h hv hrun hU hRow hN hold hsrc hG hG2 hlen
  cases ad with
  | none =>
    obtain ⟨rfl, rfl⟩ := hnil rfl
    obtain rfl : N = 0 := by omega
    go_enter Try.func61, Try.ntmps61
    go_wp2_with (at_builtin; refine wpList_append_by rfl (.tmp 23) (.tmp 24) 93 rfl _ _ _ rfl rfl (HRUN.out _) ?_)
    go_ret
    exact ⟨_, _, rfl, HRow.out, .inr ⟨_, rfl, Nat.le_refl _⟩, HU.out⟩
  | some a =>
    obtain ⟨ab, ao, asp⟩ := a
    clear hnil
    go_enter Try.func61, Try.ntmps61
    go_wp2_with (at_builtin; refine wpList_append_by rfl (.tmp 23) (.tmp 24) 93 rfl _ _ _ rfl rfl (HRUN.out _) ?_)
    all_goals (go_ret; exact ⟨_, _, rfl, HRow.out, .inr ⟨_, rfl, Nat.le_refl _⟩, HU.out⟩)

end Go.Proofs.Ytieohjibccjliaa
