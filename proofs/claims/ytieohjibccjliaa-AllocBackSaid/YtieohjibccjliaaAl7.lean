/- An allocator: Commit's walk. -/
import Derived.Test.YtieohjibccjliaaAl6
set_option linter.unusedVariables false
set_option linter.unusedSimpArgs false
namespace Go.Proofs.Ytieohjibccjliaa
open Go.RowKit Go.Shelf Go.Maps
set_option maxRecDepth 100000

section
variable {P : Program}
theorem wpList_clear_by {ops : Array Oper} {rest : List Oper} {o : Oper} {a : Act} {w w' : World} {Q : Exit → Act → World → Prop} (hgd : o.guard = none) (s : Operand) (t : TypeId)
    (ho : o.op = .call { callee := .builtin .clear, args := #[s], argTypes := #[t] }) (vs : Value) (hs : a.eval s = vs) (hrun : (Builtin.clear_ #[t] o.type #[vs]).run P w = .ok (.tuple #[]) w')
    (h : wpList P ops Q rest (a.put o.dst (.tuple #[])) w') : wpList P ops Q (o :: rest) a w :=
  wpList_plain hgd fun _ hK => by
    unfold Oper.wp execOp
    simp only [ho, resolve, invoke, builtin, Sem.run_bind, Sem.run_pure, Result.andThen_ok, List.map_toArray, List.map_cons, List.map_nil, hs, hrun]
    exact hK _ _ h
end
/-- In the first loop. -/
structure C1 (lo : Nat) (w : World) (b : Nat) (s : AlS) (h : AlB) (wr : World) (left : Lit → Bool) (cnt : Nat) : Prop where
  at_ : AlAt lo wr b { s with ch := mapK (sureC left) s.ch } { h with xs := mapK (sureX left) h.xs }
  rg : wr.ranges (H := Unit) Try.prog 3 ptrRn h.bc w.heap.size 5000 (mD (mapV blkI h.xs)) left cnt
  keys : ∀ kl, left kl = true → has (mD (mapV blkI h.xs)) kl = true
  upd : Upd (AlF h) w wr
theorem blk_sureX (left : Lit → Bool) (xs : List (Int × CB)) : mapV blkI (mapK (sureX left) xs) = mapV blkI xs := by unfold mapV mapK; rw [List.map_map]; rfl
theorem mapK_id {α : Type} {f : Int → α → α} {ps : List (Int × α)} (h : ∀ x ∈ ps, f x.1 x.2 = x.2) : mapK f ps = ps := by
  unfold mapK
  conv => rhs; rw [← List.map_id ps]
  exact List.map_congr_left fun x hx => by rw [h x hx]; rfl
theorem C1.start {lo : Nat} {w : World} {b : Nat} {s : AlS} {h : AlB} (H : AlAt lo w b s h) (ok : AlOk s) {w0 : World} (hr : w0.ranges (H := Unit) Try.prog 3 ptrRn h.bc w.heap.size 5000 (mD (mapV blkI h.xs)) (has (mD (mapV blkI h.xs))) (Maps.size (mD (mapV blkI h.xs)))) (hg : w.grownBy w0 none) :
    C1 lo w b s h w0 (has (mD (mapV blkI h.xs))) (Maps.size (mD (mapV blkI h.xs))) := by
  have hu : Upd (fun _ => False) w w0 := (Upd.refl _ w).grown hg (fun i e _ => by cases e)
  have hks := H.ks ok
  have hx : ∀ x ∈ h.xs, has (mD (mapV blkI h.xs)) (.int .i64 x.1) = true := fun x hx => by rw [mD_has, getP_map, hks.get hx]; rfl
  have e1 : mapK (sureX (has (mD (mapV blkI h.xs)))) h.xs = h.xs := mapK_id fun x hm => by
    unfold sureX sureC; rw [hx x hm]; simp
  have e2 : mapK (sureC (has (mD (mapV blkI h.xs)))) s.ch = s.ch := mapK_id fun x hm => by
    rw [H.ch] at hm
    obtain ⟨y, hy, rfl⟩ := List.mem_map.1 hm
    unfold sureC; dsimp only; rw [hx y hy]; simp
  refine ⟨?_, hr, fun kl h => h, hu.mono (fun _ _ f => f.elim)⟩
  rw [e1, e2]
  exact H.later hu
theorem okC1 {s : AlS} (ok : AlOk s) (left : Lit → Bool) : AlOk { s with ch := mapK (sureC left) s.ch } := by
  refine ⟨ok.free, ok.ksc.mapk _, ok.ksw, fun x hx => ?_, ok.wait⟩
  obtain ⟨y, hy, rfl⟩ := List.mem_map.1 hx
  exact ok.ch y hy
/-- The entry that has come, and its chain made sure. -/
theorem C1.step {lo : Nat} {w : World} {b : Nat} {s : AlS} {h : AlB} (ok : AlOk s) {wr : World} {left : Lit → Bool} {cnt : Nat} (C : C1 lo w b s h wr left cnt) (hks : KS h.xs) (hbc : h.bc < w.heap.size) {x : Int} {c : Option Nat} {kl : Lit} {y : DataW Unit × List MemPlace} {w' : World} {cnt' : Nat}
    (h1 : keyOf Try.prog 3 (.int .i64 x) = some kl) (h2 : left kl = true) (h3 : ptrRn (optP c) = some y) (h4 : ∀ zd, (mD (mapV blkI h.xs)).atKey kl zd = y.1)
    (h5 : w'.ranges (H := Unit) Try.prog 3 ptrRn h.bc w.heap.size 5000 (mD (mapV blkI h.xs)) (fun z => left z && !z.sameKey kl) cnt') (h6 : wr.grownBy w' (some w.heap.size)) :
    ∃ k r cc v, c = some k ∧ ChV w' v (k, r, cc) ∧ C1 lo w b s h (w'.setCell ⟨k, 2, none⟩ (.bool true)) (fun z => left z && !z.sameKey kl) cnt' := by
  have hkl : kl = .int .i64 x := by
    obtain ⟨x', e1, e2, _⟩ := Maps.keyOf_int_inv Try.underlying3 h1
    cases e1; exact e2
  subst hkl
  have hh := C.keys _ h2
  rw [mD_has, getP_map] at hh
  cases hg : getP h.xs x with
  | none => rw [hg] at hh; cases hh
  | some yb =>
    have hd := h4 (.lit (.int .i64 0))
    rw [mD_at (v := blkI yb) (hks.mapd blkI) (by rw [getP_map, hg]; rfl)] at hd
    obtain ⟨yd, yp⟩ := y
    dsimp only at hd
    subst hd
    have hc : c = some yb.1 := by
      rcases ptrRn_inv h3 with ⟨e, _⟩ | ⟨k, e, e2⟩
      · unfold blkI at e; omega
      · unfold blkI at e
        obtain rfl : k = yb.1 := by omega
        cases c with
        | none => cases e2
        | some c => unfold optP at e2; simp only [Value.pointer.injEq, Option.some.injEq, Addr.mk.injEq] at e2; rw [e2.1]
    have hu : Upd (fun i => i = w.heap.size) wr w' := (Upd.refl _ wr).grown h6 (fun i e _ => by cases e; rfl)
    have A1 := C.at_.iter (ranges_iter C.rg) hu
    have hg2 : getP (mapK (sureX left) h.xs) x = some (yb.1, yb.2.1, sureC left x yb.2.2) := by rw [getP_mapK, hg]; rfl
    obtain ⟨v, hv, hrow⟩ := A1.each _ (getP_mem hg2)
    dsimp only at hv hrow
    have hnotsure : (sureC left x yb.2.2) = yb.2.2 := by unfold sureC; rw [h2]; simp
    refine ⟨yb.1, yb.2.1, sureC left x yb.2.2, v, hc, ⟨hv, hrow⟩, ?_⟩
    have hu2 := upd_cell w' yb.1 2 (.bool true)
    have hrk : yb.2.1 ≠ yb.1 := by
      obtain ⟨off, cap, cur, _, hrow, _⟩ := hrow
      intro e; rw [e, hv] at hrow; simp only [Option.some.injEq, Obj.cells.injEq] at hrow; exact absurd hrow.2.1 (by decide)
    have A2 := A1.turn (okC1 ok left) hg2 hu2 (c' := ((sureC left x yb.2.2).1, (sureC left x yb.2.2).2.1, true)) ⟨v, by rw [heap_setCell_eq hv]; rfl, hrow.upd hu2 hrk⟩
    have hlive : ∀ j, (left (.int .i64 j) && !(Lit.int .i64 j).sameKey (.int .i64 x)) = if j = x then false else left (.int .i64 j) := fun j => by
      by_cases e : j = x
      · subst e; rw [if_pos rfl, WideAt.sameKey_self (key_lit j)]; simp
      · rw [if_neg e]
        have : (Lit.int .i64 j).sameKey (.int .i64 x) = false := by
          rw [← Bool.not_eq_true]; intro hs; have := WideAt.sameKey_eq hs; simp at this; exact e this
        rw [this]; simp
    have ex : putP (mapK (sureX left) h.xs) x (yb.1, yb.2.1, ((sureC left x yb.2.2).1, (sureC left x yb.2.2).2.1, true)) = mapK (sureX (fun z => left z && !z.sameKey (.int .i64 x))) h.xs :=
      KS.ext ((hks.mapk _).put _ _) (hks.mapk _) fun j => by
        rw [getP_put _ (hks.mapk _), getP_mapK, getP_mapK]
        by_cases e : j = x
        · subst e
          rw [if_pos rfl, hg]
          unfold sureX sureC
          simp [hlive]
        · rw [if_neg e]
          congr 1
          funext z
          unfold sureX sureC
          dsimp only
          rw [hlive, if_neg e]
    have ec : putP (mapK (sureC left) s.ch) x ((sureC left x yb.2.2).1, (sureC left x yb.2.2).2.1, true) = mapK (sureC (fun z => left z && !z.sameKey (.int .i64 x))) s.ch :=
      KS.ext ((ok.ksc.mapk _).put _ _) (ok.ksc.mapk _) fun j => by
        rw [getP_put _ (ok.ksc.mapk _), getP_mapK, getP_mapK]
        have hgs : getP s.ch x = some yb.2.2 := by
          have := A1.get x
          dsimp only at this
          rw [hg2, getP_mapK] at this
          cases hq : getP s.ch x with
          | none => rw [hq] at this; cases this
          | some z =>
            rw [hq] at this
            have h9 := Option.some.inj this
            rw [hnotsure] at h9
            have : sureC left x z = z := by unfold sureC; rw [h2]; simp
            rw [this] at h9
            rw [h9]
        by_cases e : j = x
        · subst e
          rw [if_pos rfl, hgs]
          unfold sureC
          simp [hlive]
        · rw [if_neg e]
          congr 1
          funext z
          unfold sureC
          dsimp only
          rw [hlive, if_neg e]
    dsimp only at A2
    rw [ex, ec] at A2
    refine ⟨A2, ranges_upd h5 hu2 (ranges_ne h5 hv).2.symm (ranges_ne h5 hv).1.symm, fun kl hk => C.keys kl (by simp at hk; exact hk.1), ?_⟩
    refine (C.upd.trans hu (fun i hi e => by omega)).trans hu2 (fun i _ e => .inr (.inr (.inr (.inr ⟨(x, yb), getP_mem hg, e.symm⟩))))

/-- In the second loop. -/
structure C2 (lo : Nat) (w : World) (b : Nat) (s : AlS) (h : AlB) (wr : World) (left : Lit → Bool) (cnt : Nat) (l : List Ex) : Prop where
  at_ : AlSt lo w b h wr { s with free := l } h.xs
  rg : wr.ranges (H := Unit) Try.prog 3 anyR h.bw w.heap.size 5000 (mD (mapV (fun _ => (0 : Int)) s.wait)) left cnt
  keys : ∀ kl, left kl = true → has (mD (mapV (fun _ => (0 : Int)) s.wait)) kl = true
  free : SpOk s.n l ∧ ∀ k, hasB l k = (hasB s.free k || ((getP s.wait k).isSome && !left (.int .i64 k)))
theorem C2.start {lo : Nat} {w : World} {b : Nat} {s : AlS} {h : AlB} (H : AlAt lo w b s h) (ok : AlOk s) {w0 : World} (hr : w0.ranges (H := Unit) Try.prog 3 anyR h.bw w.heap.size 5000 (mD (mapV (fun _ => (0 : Int)) s.wait)) (has (mD (mapV (fun _ => (0 : Int)) s.wait))) (Maps.size (mD (mapV (fun _ => (0 : Int)) s.wait)))) (hg : w.grownBy w0 none) :
    C2 lo w b s h w0 (has (mD (mapV (fun _ => (0 : Int)) s.wait))) (Maps.size (mD (mapV (fun _ => (0 : Int)) s.wait))) s.free := by
  have hu : Upd (fun _ => False) w w0 := (Upd.refl _ w).grown hg (fun i e _ => by cases e)
  refine ⟨(AlSt.start H ok).later hu, hr, fun kl h => h, ok.free, fun k => ?_⟩
  rw [mD_has, getP_map]
  cases getP s.wait k <;> simp
theorem C2.step {lo : Nat} {w : World} {b : Nat} {s : AlS} {h : AlB} (ok : AlOk s) (hlo : lo ≤ w.heap.size) {wr : World} {left : Lit → Bool} {cnt : Nat} {l : List Ex} (C : C2 lo w b s h wr left cnt l) {x : Int} {kl : Lit} {w' : World} {cnt' : Nat}
    (h1 : keyOf Try.prog 3 (.int .i64 x) = some kl) (h2 : left kl = true)
    (h5 : w'.ranges (H := Unit) Try.prog 3 anyR h.bw w.heap.size 5000 (mD (mapV (fun _ => (0 : Int)) s.wait)) (fun z => left z && !z.sameKey kl) cnt') (h6 : wr.grownBy w' (some w.heap.size)) :
    w'.cell? ⟨b, 0, none⟩ = some (.pointer (some ⟨h.bs, 0, none⟩)) ∧ Calls Try.prog 32 #[.pointer (some ⟨h.bs, 0, none⟩), .int .i64 x] w' fun e w2 => (∃ v, e = .returned (.int .i64 v)) ∧ C2 lo w b s h w2 (fun z => left z && !z.sameKey kl) cnt' (giveA s.n l x).1 := by
  have hkl : kl = .int .i64 x := by
    obtain ⟨x', e1, e2, _⟩ := Maps.keyOf_int_inv Try.underlying3 h1
    cases e1; exact e2
  subst hkl
  have hh := C.keys _ h2
  rw [mD_has, getP_map] at hh
  have hx : ∃ u, getP s.wait x = some u := by
    cases hq : getP s.wait x with
    | none => rw [hq] at hh; cases hh
    | some u => exact ⟨u, rfl⟩
  obtain ⟨u, hx⟩ := hx
  have hxb := ok.wait _ (getP_mem hx)
  dsimp only at hxb
  have hu : Upd (fun i => i = w.heap.size) wr w' := (Upd.refl _ wr).grown h6 (fun i e _ => by cases e; rfl)
  obtain ⟨row, v, q1, q2, q3, q4⟩ := C.at_
  have A1 := q1.iter (ranges_iter C.rg) hu
  have u4 : Upd (AlF h) w w' := q4.trans hu (fun i hi e => by omega)
  refine ⟨cell_heap A1.obj 0 _ rfl, ?_⟩
  refine (sp_Give A1.set C.free.1 x).mono ?_
  rintro e w2 ⟨rfl, hp⟩
  obtain ⟨g1, g2⟩ := giveA_in C.free.1 x hxb
  obtain ⟨a1, a2⟩ := AlSt.free hlo A1 q2 q3 u4 g1 hp
  refine ⟨⟨_, rfl⟩, a1, ranges_upd h5 a2 ?_ ?_, fun kl hk => C.keys kl (by simp at hk; exact hk.1), g1, fun k => ?_⟩
  · rintro (e | e)
    · exact (ranges_ne h5 A1.set.set).2 e.symm
    · rcases A1.set.row with ⟨_, e2, _⟩ | ⟨r', off, cap, cur, e2, _, e3, _⟩
      · have e2 : row = _ := e2; rw [e2] at e; cases e
      · have e2 : row = _ := e2; rw [e2] at e; cases e; exact (ranges_ne h5 e3).2 rfl
  · rintro (e | e)
    · exact (ranges_ne h5 A1.set.set).1 e.symm
    · rcases A1.set.row with ⟨_, e2, _⟩ | ⟨r', off, cap, cur, e2, _, e3, _⟩
      · have e2 : row = _ := e2; rw [e2] at e; cases e
      · have e2 : row = _ := e2; rw [e2] at e; cases e; exact (ranges_ne h5 e3).1 rfl
  · rw [g2, C.free.2]
    by_cases e : k = x
    · subst e
      rw [hx, WideAt.sameKey_self (key_lit k)]
      simp
    · have : (Lit.int .i64 k).sameKey (.int .i64 x) = false := by
        rw [← Bool.not_eq_true]; intro hs; have := WideAt.sameKey_eq hs; simp at this; exact e this
      rw [this, decide_eq_false e]
      simp

end Go.Proofs.Ytieohjibccjliaa
