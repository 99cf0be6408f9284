/- An allocator: Drop's walk. -/
import Derived.Test.YtieohjibccjliaaAl4
set_option linter.unusedVariables false
set_option linter.unusedSimpArgs false
namespace Go.Proofs.Ytieohjibccjliaa
open Go.RowKit Go.Shelf Go.Maps
set_option maxRecDepth 100000

theorem drop_none {lo : Nat} {w : World} {b : Nat} {s : AlS} {h : AlB} (H : AlAt lo w b s h) (ok : AlOk s) (p : Int) (hp : inI p) (hg : getP h.xs p = none) :
    Calls Try.prog 11 #[.pointer (some ⟨b, 0, none⟩), .int .i64 p] w (DropP lo w b h (false, 5, s)) := by
  have HF := Lib.hid (al_find H ok p hp)
  rw [hg] at HF
  simp only [ptrOf, Option.isSome_none, Bool.false_eq_true, if_false] at HF
  have HH := Lib.hid (And.intro H ok)
  clear H ok
  unfold DropP
  go_enter Try.func11, Try.ntmps11
  go_wp2_with (go_at_call 36; refine HF.out.mono ?_; rintro e w' ⟨rfl, rfl⟩)
  go_ret2
  exact ⟨rfl, ⟨h, HH.out.1⟩, HH.out.2, Upd.refl _ _⟩
theorem drop_less {lo : Nat} {w : World} {b : Nat} {s : AlS} {h : AlB} (H : AlAt lo w b s h) (ok : AlOk s) (p : Int) (hp : inI p) {k r : Nat} {c : Ch} (hg : getP h.xs p = some (k, r, c)) (h1 : 1 < c.2.1) :
    Calls Try.prog 11 #[.pointer (some ⟨b, 0, none⟩), .int .i64 p] w (DropP lo w b h (false, 0, { s with ch := putP s.ch p (c.1, c.2.1 - 1, c.2.2) })) := by
  have HF := Lib.hid (al_find H ok p hp)
  rw [hg] at HF
  simp only [ptrOf, Option.isSome_some, if_true] at HF
  obtain ⟨l, q, sr⟩ := c
  have hm := getP_mem hg
  obtain ⟨v, hc, hrow⟩ := H.chain hg
  have hgs : getP s.ch p = some (l, q, sr) := by rw [H.get p, hg]; rfl
  have hq := (ok.ch _ (getP_mem hgs)).2.2.1
  dsimp only at *
  have c1 := cell_heap hc 1 _ rfl
  have f1 := free_heap hc 1
  have hw : IntKind.i64.wrap (q - 1) = q - 1 := IntWalk.i64_in _ (by omega)
  have hd : decide (q - 1 > 0) = true := decide_eq_true (by omega)
  have hd2 : q - 1 > 0 := by omega
  have HH := Lib.hid (And.intro H ok)
  have HC := Lib.hid hc
  have HR := Lib.hid hrow
  have HQ := Lib.hid hq
  clear H ok hc hq hrow h1
  unfold DropP
  go_enter Try.func11, Try.ntmps11
  go_wp2_with (go_at_call 36; refine HF.out.mono ?_; rintro e w' ⟨rfl, rfl⟩)
  go_ret2
  have hu := upd_cell w k 1 (.int .i64 (q - 1))
  have hrk : r ≠ k := by
    obtain ⟨off, cap, cur, _, hrow, _⟩ := HR.out
    intro e; rw [e, HC.out] at hrow; simp only [Option.some.injEq, Obj.cells.injEq] at hrow; exact absurd hrow.2.1 (by decide)
  refine ⟨rfl, ⟨_, HH.out.1.turn HH.out.2 hg hu ⟨v, ?_, HR.out.upd hu hrk⟩⟩, HH.out.2.turn hgs rfl ?_, hu.mono (fun i _ e => ?_)⟩
  · rw [heap_setCell_eq HC.out]; rfl
  · have := HQ.out; dsimp only; omega
  · exact .inr (.inr (.inr (.inr ⟨_, hm, e.symm⟩)))
theorem drop_map {w : World} {bc : Nat} {xs : List (Int × CB)} (hk : KS xs) (h : w.ownsMap (H := Unit) Try.prog 3 ptrRn bc 5000 (mD (mapV blkI xs))) (p : Int) (hp : inI p) (ty : TypeId) :
    ∃ w', (Builtin.delete_ #[63, 3] ty #[.map (some bc), .int .i64 p]).run Try.prog w = .ok (.tuple #[]) w' ∧ w'.ownsMap (H := Unit) Try.prog 3 ptrRn bc 5000 (mD (delP (mapV blkI xs) p)) ∧ Upd (fun i => i = bc) w w' := by
  obtain ⟨w', h1, h2, h3⟩ := World.ownsMap.drop h KI Try.underlying63 (key_of p hp) ty
  rw [mD_del (hk.mapd blkI) p (h2.canon KI)] at h2
  exact ⟨w', h1, h2, (Upd.refl _ w).grown h3.grown (fun i e _ => by cases e; rfl)⟩
section
variable {P : Program}
theorem wpList_delete_by {ops : Array Oper} {rest : List Oper} {o : Oper} {a : Act} {w w' : World} {Q : Exit → Act → World → Prop} (hgd : o.guard = none) (s x : Operand) (t k : TypeId)
    (ho : o.op = .call { callee := .builtin .delete, args := #[s, x], argTypes := #[t, k] }) (vs vx : Value) (hs : a.eval s = vs) (hx : a.eval x = vx) (hrun : (Builtin.delete_ #[t, k] o.type #[vs, vx]).run P w = .ok (.tuple #[]) w')
    (h : wpList P ops Q rest (a.put o.dst (.tuple #[])) w') : wpList P ops Q (o :: rest) a w :=
  wpList_plain hgd fun _ hK => by
    unfold Oper.wp execOp
    simp only [ho, resolve, invoke, builtin, Sem.run_bind, Sem.run_pure, Result.andThen_ok, List.map_toArray, List.map_cons, List.map_nil, hs, hx, hrun]
    exact hK _ _ h
end
theorem drop_last {lo : Nat} {w : World} {b : Nat} {s : AlS} {h : AlB} (H : AlAt lo w b s h) (ok : AlOk s) (hlo : lo ≤ w.heap.size) (p : Int) (hp : inI p) {k r : Nat} {c : Ch} (hg : getP h.xs p = some (k, r, c)) (h1 : c.2.1 = 1) :
    Calls Try.prog 11 #[.pointer (some ⟨b, 0, none⟩), .int .i64 p] w (DropP lo w b h (true, 0, goneA s p c c.1)) := by
  have HF := Lib.hid (al_find H ok p hp)
  rw [hg] at HF
  simp only [ptrOf, Option.isSome_some, if_true] at HF
  obtain ⟨l, q, sr⟩ := c
  have hm := getP_mem hg
  obtain ⟨v, hc, hrow⟩ := H.chain hg
  have hgs : getP s.ch p = some (l, q, sr) := by rw [H.get p, hg]; rfl
  have hq := (ok.ch _ (getP_mem hgs)).2.2.2
  dsimp only at *
  subst h1
  have c1 := cell_heap hc 1 _ rfl
  have f1 := free_heap hc 1
  have hks := H.ks ok
  have hu := upd_cell w k 1 (.int .i64 0)
  have hrk : r ≠ k := by
    obtain ⟨off, cap, cur, _, hrow, _⟩ := hrow
    intro e; rw [e, hc] at hrow; simp only [Option.some.injEq, Obj.cells.injEq] at hrow; exact absurd hrow.2.1 (by decide)
  have hc1 : (w.setCell ⟨k, 1, none⟩ (.int .i64 0)).heap[k]? = some (.cells #[v, .int .i64 0, .bool sr] 71 (0, 0)) := by rw [heap_setCell_eq hc]; rfl
  have hca : ChAt (w.setCell ⟨k, 1, none⟩ (.int .i64 0)) (k, r, (l, 0, sr)) := ⟨v, hc1, hrow.upd hu hrk⟩
  have hkb : h.bc ≠ k := fun e => ownsMap_ne H.chains hc e.symm
  have HD := Lib.hid (fun ty => drop_map hks (ownsMap_upd H.chains hu hkb) p hp ty)
  have hbk : b ≠ k := fun e => by have := H.obj; rw [e, hc] at this; simp only [Option.some.injEq, Obj.cells.injEq] at this; exact absurd this.2.1 (by decide)
  have d1 : (w.setCell ⟨k, 1, none⟩ (.int .i64 0)).cell? ⟨b, 1, none⟩ = some (.map (some h.bc)) := cell_heap (hu.heap H.obj hbk) 1 _ rfl
  have d2 := cell_heap hc1 1 _ rfl
  have HG := Lib.hid (fun (w2 : World) (hu2 : Upd (fun i => i = h.bc) (w.setCell ⟨k, 1, none⟩ (.int .i64 0)) w2) (ho : w2.ownsMap (H := Unit) Try.prog 3 ptrRn h.bc 5000 (mD (delP (mapV blkI h.xs) p))) => H.gone ok hg hu hca hu2 ho)
  have HQ := Lib.hid hq
  have HLO := Lib.hid hlo
  obtain ⟨N, hN⟩ : ∃ N, N = l.length := ⟨_, rfl⟩
  have HN := Lib.hid hN
  clear H ok hq hrow hlo hca hc hks hN hrk hkb hu hc1 hbk
  unfold DropP
  go_enter Try.func11, Try.ntmps11
  go_wp2_with (first | (go_at_call 36; refine HF.out.mono ?_; rintro e w' ⟨rfl, rfl⟩) | (at_delete; obtain ⟨w2, hdr, hdo, hdu⟩ := HD.out _; refine wpList_delete_by rfl (.tmp 33) (.tmp 34) 63 3 rfl _ _ rfl rfl hdr ?_; obtain ⟨HSt, HCh⟩ := HG.out _ hdu hdo; obtain ⟨v8, HCV⟩ := HCh; have HCW := Lib.hid (show ChV w2 v8 (k, r, (l, 0, sr)) from HCV); obtain ⟨hc8, off, cap, cur, rfl, _, hcp, _⟩ := HCV; have d8 := cell_heap hc8 0 _ rfl; dsimp only at d8 hcp HCW; rw [← HN.out] at d8 hcp HCW; clear hc8; have HST := Lib.hid (And.intro HSt HCW.out); clear HSt HCW) | fail)
  have hN4 : N ≤ 4096 := by have := HQ.out.2; have := HN.out; omega
  have HN4 := Lib.hid hN4
  clear hN4
  go_loopg [8, 40] N (fun kx s8 s40 wr => ∃ i : Nat, s40 = .int .i64 i ∧ i + kx = N ∧ Hid (AlSt lo w b h wr (goneA s p (l, 1, sr) (l.take i)) (delP h.xs p) ∧ ChV wr (.slice (some ⟨r, off, none⟩) N cap) (k, r, (l, 0, sr))))
  case atStart =>
    refine ⟨0, rfl, by omega, Lib.hid ⟨?_, HST.out.2⟩⟩
    have e : goneA s p (l, 1, sr) (l.take 0) = { s with ch := delP s.ch p } := by
      unfold goneA waitF freeF; cases sr <;> rfl
    rw [e]; exact HST.out.1
  case round =>
    obtain ⟨i, rfl, hik, HI⟩ := hrel
    cases gk with
    | zero =>
      obtain rfl : i = N := by omega
      go_wp2
      go_ret2
      obtain ⟨⟨row, v9, q1, q2, q3, q4⟩, q5⟩ := HI.out
      rw [List.take_of_length_le (by have := HN.out; omega)] at q1 q2
      exact ⟨rfl, ⟨_, q1⟩, q2, q4⟩
    | succ g =>
      have hil : i < l.length := by have := HN.out; omega
      have hd : decide ((i : Int) < (N : Int)) = true := decide_eq_true (by omega)
      have hiN : i < N := by omega
      have hw1 : IntKind.i64.wrap ((i : Int) + 1) = (i : Int) + 1 := IntWalk.i64_in _ (by have := HN4.out; omega)
      have HXI := Lib.hid (HQ.out.1 l[i] (List.getElem_mem hil))
      have HWS := Lib.hid (And.intro (waitF_step s.wait l i hil) (freeF_step s.n s.free l i hil))
      obtain ⟨cx, d2c, b0, b2⟩ : wr.cell? ⟨r, off + i, none⟩ = some (.int .i64 l[i]) ∧ wr.cell? ⟨k, 2, none⟩ = some (.bool sr) ∧ wr.cell? ⟨b, 0, none⟩ = some (.pointer (some ⟨h.bs, 0, none⟩)) ∧ wr.cell? ⟨b, 2, none⟩ = some (.map (some h.bw)) := by
        obtain ⟨⟨row, v9, q1, q2, q3, q4⟩, q5, o1, o2, o3, o4, o5, o6, o7, o8⟩ := HI.out
        dsimp only at o4 o5 o8
        simp only [Value.slice.injEq, Option.some.injEq, Addr.mk.injEq] at o4
        obtain ⟨⟨_, rfl, _⟩, _⟩ := o4
        exact ⟨cell_heap o5 _ _ (o8 i _ (List.getElem?_eq_getElem hil)), cell_heap q5 2 _ rfl, cell_heap q1.obj 0 _ rfl, cell_heap q1.obj 2 _ rfl⟩
      generalize l[i] = y at *
      clear hil d8 hcp c1 f1 d1 d2 hdr hdo hdu
      cases sr with
      | true =>
        obtain ⟨⟨q, hlk⟩, HUP⟩ := AlSt.wait HI.out.1 y HXI.out HI.out.2
        obtain ⟨w3, hup, HS3, HC3⟩ := HUP (wrap64 (q + 1))
        have HU3 := Lib.hid (And.intro HS3 HC3)
        clear HUP HS3 HC3
        go_wp2
        go_roundg g
        case measure => omega
        case rel =>
          refine ⟨i + 1, by rw [Int.natCast_add]; rfl, by omega, Lib.hid ⟨?_, HU3.out.2⟩⟩
          have := HU3.out.1
          unfold goneA at this ⊢
          dsimp only at this ⊢
          rw [if_pos rfl, if_pos rfl] at this ⊢
          rw [HWS.out.1]
          exact this
      | false =>
        have HGV := Lib.hid (AlSt.give HI.out.1 HLO.out y HI.out.2)
        go_wp2_with (fail)
        refine HGV.out.mono ?_
        rintro e w3 ⟨⟨q, rfl⟩, HS3, HC3⟩
        have HU3 := Lib.hid (And.intro HS3 HC3)
        clear HS3 HC3
        go_wp2
        go_roundg g
        case measure => omega
        case rel =>
          refine ⟨i + 1, by rw [Int.natCast_add]; rfl, by omega, Lib.hid ⟨?_, HU3.out.2⟩⟩
          have := HU3.out.1
          unfold goneA at this ⊢
          dsimp only at this ⊢
          rw [if_neg Bool.false_ne_true, if_neg Bool.false_ne_true] at this ⊢
          rw [HWS.out.2]
          exact this
theorem at_Drop {lo : Nat} {w : World} {b : Nat} {s : AlS} {h : AlB} (H : AlAt lo w b s h) (ok : AlOk s) (hlo : lo ≤ w.heap.size) (p : Int) (hp : inI p) :
    Calls Try.prog 11 #[.pointer (some ⟨b, 0, none⟩), .int .i64 p] w (DropP lo w b h (dropA s p)) := by
  unfold dropA
  rw [H.get p]
  cases hg : getP h.xs p with
  | none => exact drop_none H ok p hp hg
  | some y =>
    obtain ⟨k, r, c⟩ := y
    have hgs : getP s.ch p = some c := by rw [H.get p, hg]; rfl
    have hq := (ok.ch _ (getP_mem hgs)).2.2.1
    dsimp only [Option.map_some] at *
    split
    · exact drop_less H ok p hp hg (by assumption)
    · exact drop_last H ok hlo p hp hg (by omega)

end Go.Proofs.Ytieohjibccjliaa
