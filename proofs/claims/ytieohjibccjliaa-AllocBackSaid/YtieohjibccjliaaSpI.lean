/- A set of sectors: Take of some. -/
import Derived.Test.YtieohjibccjliaaSpH
set_option linter.unusedVariables false
set_option linter.unusedSimpArgs false
namespace Go.Proofs.Ytieohjibccjliaa
open Go.RowKit Go.Shelf
attribute [local go_sem] Oper.semAt_some

theorem mem_flatE (l : List Ex) (y : Int) : y ∈ flatE l ↔ ∃ x ∈ l, x.1 ≤ y ∧ y < x.1 + (x.2.toNat : Int) := by
  unfold flatE
  rw [List.mem_flatMap]
  constructor
  · rintro ⟨x, hx, hy⟩
    unfold seqE at hy
    obtain ⟨j, hj, rfl⟩ := List.mem_map.1 hy
    have := List.mem_range.1 hj
    exact ⟨x, hx, by omega, by omega⟩
  · rintro ⟨x, hx, h1, h2⟩
    refine ⟨x, hx, ?_⟩
    unfold seqE
    exact List.mem_map.2 ⟨(y - x.1).toNat, List.mem_range.2 (by omega), by omega⟩
theorem flat_find {n : Int} {l : List Ex} (h : SpOk n l) (y : Int) (hy : y ∈ flatE l) : ∃ hl : findN l y < l.length, l[findN l y].1 ≤ y ∧ y < l[findN l y].1 + l[findN l y].2 ∧ (0 ≤ y ∧ y < n) := by
  obtain ⟨x, hx, h1, h2⟩ := (mem_flatE l y).1 hy
  have hb := h.2.1 x hx
  have hh : hasB l y = true := (hasB_iff l y).2 ⟨x, hx, h1, by omega⟩
  rw [has_find h y] at hh
  split at hh
  · rename_i hl
    exact ⟨hl, of_decide_eq_true hh, (h.find y).2 _ hl (Nat.le_refl _), by omega, by omega⟩
  · cases hh
theorem exs_drop (l : List Ex) (i j : Nat) : (exs (l.drop i))[j]? = (exs l)[i * 2 + j]? := by
  by_cases h : i ≤ l.length
  · conv => rhs; rw [← List.take_append_drop i l]
    rw [exs_app, List.length_take, Nat.min_eq_left h, if_neg (by omega), Nat.add_sub_cancel_left]
  · have e : (exs l)[i * 2 + j]? = none := List.getElem?_eq_none (by rw [exs_len]; omega)
    rw [e, List.drop_of_length_le (by omega)]
    simp [exs]
theorem RowAt.dropped {w : World} {r off cap : Nat} {l : List Ex} (h : RowAt w (.slice (some ⟨r, off, none⟩) l.length cap) (some r) l) (i : Nat) (hi : i ≤ l.length) : RowAt w (.slice (some ⟨r, off + i * 2, none⟩) (l.drop i).length (cap - i)) (some r) (l.drop i) := by
  obtain ⟨cur, r1, r2, r3, r4, r5⟩ := h.open
  refine RowAt.mkAt r1 (by omega) (by rw [List.length_drop]; omega) (by omega) fun j u hu => ?_
  rw [exs_drop] at hu
  rw [Nat.add_assoc]
  exact r5 _ u hu
theorem RowAt.dropSet {w : World} {r off cap : Nat} {l : List Ex} (h : RowAt w (.slice (some ⟨r, off, none⟩) l.length cap) (some r) l) (i : Nat) (hi : i < l.length) (a c : Int) :
    RowAt ((w.setCell ⟨r, off + i * 2, none⟩ (.int .i64 a)).setCell ⟨r, off + i * 2 + 1, none⟩ (.int .i64 c)) (.slice (some ⟨r, off + i * 2, none⟩) ((a, c) :: l.drop (i + 1)).length (cap - i)) (some r) ((a, c) :: l.drop (i + 1)) := by
  obtain ⟨cur, r1, r2, r3, r4, r5⟩ := h.open
  refine RowAt.mkAt (heap_setCell_eq (heap_setCell_eq r1 _) _) (by simp; omega) (by rw [List.length_cons, List.length_drop]; omega) (by omega) fun j u hu => ?_
  rw [exs_cons] at hu
  by_cases h0 : j < 2
  · rw [List.getElem?_append_left (by rw [exs_one_len]; omega)] at hu
    unfold exV at hu
    rcases Nat.lt_or_ge j 1 with hj | hj
    · obtain rfl : j = 0 := by omega
      simp only [List.getElem?_cons_zero, Option.some.injEq] at hu
      subst hu
      rw [Nat.add_zero, Array.getElem?_setIfInBounds_ne (by omega)]
      simp [Array.getElem?_setIfInBounds]
      omega
    · obtain rfl : j = 1 := by omega
      simp only [List.getElem?_cons_succ, List.getElem?_cons_zero, Option.some.injEq] at hu
      subst hu
      simp [Array.getElem?_setIfInBounds]
      omega
  · rw [List.getElem?_append_right (by rw [exs_one_len]; omega), exs_one_len, exs_drop] at hu
    rw [Array.getElem?_setIfInBounds_ne (by omega), Array.getElem?_setIfInBounds_ne (by omega)]
    have := r5 _ u hu
    rw [show off + ((i + 1) * 2 + (j - 2)) = off + i * 2 + j by omega] at this
    exact this
theorem upd_putObj (W : World) (D : Nat) (o : Obj) : Upd (fun k => k = D) W (W.putObj D o) :=
  ⟨rfl, rfl, rfl, by simp [World.putObj], fun k hk hn => by simp [World.putObj, Array.getElem?_setIfInBounds, Ne.symm hn]⟩
theorem take_close {w WF : World} {b D B0 : Nat} {row row' : Option Nat} {n : Int} {v' vt : Value} {l' : List Ex} {xs : List Int} (hU : Upd (fun k => k = b ∨ row = some k) w WF) (hS : SpAt WF b row' n v' l') (hr : ∀ x, row' = some x → row = some x ∨ w.heap.size ≤ x)
    (hown : WF.ownsRow B0 3 1 vt xs.length (xs.map (Value.int .i64))) (hB : w.heap.size ≤ B0) (hK : WF.heap[D]? = some (.deferred (some []))) (hD : w.heap.size ≤ D) :
    TakeP w b row n (xs, 0, l') (.returned (.tuple #[vt, .int .i64 0])) (WF.putObj D (.deferred none)) := by
  have hDb : D ≠ b := fun e => by rw [e, hS.set] at hK; cases hK
  have hDr : ∀ x, row' = some x → x ≠ D := by
    intro x e f
    rcases hS.row with ⟨_, h2, _⟩ | ⟨r, off, cap, cur, h1, h2, h3, _⟩
    · rw [h2] at e; cases e
    · rw [h1] at e; cases e; rw [f, hK] at h3; cases h3
  have u := upd_putObj WF D (.deferred none)
  refine ⟨vt, rfl, ownsRow_putObj (owns_later (w' := WF) hown hB) _ hK rfl, v', row', hS.upd u (fun e => hDb e.symm) (fun x e f => hDr x e f), hr, hU.trans u (fun k hk e => by omega)⟩
set_option maxRecDepth 100000 in
set_option maxHeartbeats 4000000 in
theorem take_part {w : World} {b : Nat} {row : Option Nat} {n : Int} {v : Value} {l : List Ex} (h : SpAt w b row n v l) (hok : SpOk n l) (k : Nat) (hk : 1 ≤ k) (hk2 : (k : Int) < cntE l) :
    CallsIn Fence.wide 5 Try.prog 34 #[.pointer (some ⟨b, 0, none⟩), .int .i64 (k : Int)] w (TakeP w b row n ((flatE l).take k, 0, takeL l ((flatE l).getD (k - 1) 0))) := by
  obtain ⟨i0, hi, hz0, hz1, hz2⟩ := info_parts Try.infoI
  have hfl := flat_len hok
  have hcn := hok.cnt
  have hnn := hok.1
  have hl4 : (flatE l).length ≤ 4096 := by omega
  have hkl : k < (flatE l).length := by omega
  have u1 : Upd (fun _ => False) w (w.alloc (.cells #[.int .i64 (k : Int)] 3)) := (Upd.refl _ _).alloc _
  have h1 := h.upd u1 (fun f => f) (fun _ _ f => f)
  have HC := Lib.hid (sp_Count h1 hok)
  have HI := fun w' (hu : Upd (fun _ => False) (w.alloc (.cells #[.int .i64 (k : Int)] 3)) w') => Lib.hid (sp_is (h1.upd hu (fun f => f) (fun _ _ f => f)))
  rw [decide_eq_true (show 0 < n by have := hok.1; omega)] at HI
  have ck := cell_heap (heap_alloc_new w (.cells #[.int .i64 (k : Int)] 3)) 0 _ rfl
  have HU1 := Lib.hid u1
  have HS := Lib.hid h
  have HO := Lib.hid hok
  have hk3 : ¬ ((k : Int) < 1) := by omega
  have hk4 : ¬ (cntE l < (k : Int)) := by omega
  have hk5 : ¬ ((k : Int) = cntE l) := by omega
  have HFL := Lib.hid hfl
  clear h h1 hok u1 hfl hcn hnn
  generalize cntE l = C at HC hk4 hk5 hk2 HFL
  refine callsIn_of_wp_marks Try.func34 rfl trivial ?_ rfl
  simp only [Try.ntmps34, List.size_toArray, List.length_cons, List.length_nil, Nat.reduceAdd, Nat.reduceSub, Array.replicate_succ, Array.replicate_zero, List.push_toArray, List.append_toArray, List.nil_append, List.cons_append]
  gi_wp2_with (fail)
  refine ⟨trivial, (callsIn_wide.2 HC.out).mono ?_⟩
  rintro e w1 ⟨rfl, u2⟩
  have ck1 := u2.cell ck (fun f => f)
  gi_wp2_with (first | (refine ⟨trivial, ?_⟩; gi_at_call 52; refine (callsIn_wide.2 (HI _ u2).out).mono ?_; rintro e w' ⟨rfl, rfl⟩) | (refine ⟨trivial, ?_⟩; gi_at_call 55; refine (each_in _ b _).mono ?_; rintro e w' ⟨rfl, rfl⟩))
  have hw1s : w.heap.size < w1.heap.size := by have := u2.size; rw [World.size_alloc] at this; omega
  have u4 : Upd (fun _ => False) w1 ((w1.alloc (.cells #[.slice none 0 0] 26)).alloc (.cells #[.pointer (some ⟨b, 0, none⟩)] 62)) := ((Upd.refl _ _).alloc _).alloc _
  have hS1 := HS.out.upd (HU1.out.trans u2 (fun _ _ f => f)) (fun f => f) (fun _ _ f => f)
  have bO := Boxed.new w1 26 (.slice none 0 0)
  have bN := Boxed.new (w1.alloc (.cells #[.slice none 0 0] 26)) 62 (.pointer (some ⟨b, 0, none⟩))
  rw [World.size_alloc] at bN
  have hB0 : Below w1.heap.size w1 ((w1.alloc (.cells #[.slice none 0 0] 26)).alloc (.cells #[.pointer (some ⟨b, 0, none⟩)] 62)) := ((Below.refl _ w1).alloc (Nat.le_refl _) _).alloc (by simp) _
  have HS1 := Lib.hid hS1
  have HU2 := Lib.hid u2
  refine wpIn_rangeFunc_ownG rfl (by omega) (gf := 63) (lb := #[.pointer (some ⟨w1.heap.size + 1, 0, none⟩)]) rfl trivial (enters_of Try.func63 (by kernel_rfl) rfl)
    (each_stops (5 - 1) (by omega) (w1.heap.size + 1) w1.heap.size b row n v l HO.out _ (by simp; omega) bN.cell (hS1.upd u4 (fun f => f) (fun _ _ f => f)) (lt_of_heap hS1.set) (fun r e => hS1.row.lt r e)) (fun h k => h.trans k) (fun W l o o' hl ho hcs hw => KpE.put (by simp at hl; omega) ho hcs (belowK_b (w := w1) (Nat.le_refl _) W l o o' (by simp at hl; omega) ho hcs hw)) (Below.refl _ _) (fun _ => rfl)
    (fun pre W => (∃ v, Boxed W w1.heap.size 26 v ∧ W.ownsRow w1.heap.size 3 1 v pre.length (pre.map (Value.int .i64)) ∧ pre.length < k) ∧ Below w1.heap.size w1 W)
    (fun c pre W => (∃ v, Boxed W w1.heap.size 26 v ∧ W.ownsRow w1.heap.size 3 1 v pre.length (pre.map (Value.int .i64)) ∧ (pre.length = k ∧ c = Code.exit 1)) ∧ Below w1.heap.size w1 W)
    (OwnFrom.and (Own.from (holdsRow_own w1.heap.size w1.heap.size 26 3 1 (fun pre : List Int => pre.length) (fun pre => pre.map (Value.int .i64)) (fun pre v => pre.length < k)) _) (ownFrom_below (Nat.le_refl _) (by simp; omega)))
    (fun c => OwnFrom.and (Own.from (holdsRow_own w1.heap.size w1.heap.size 26 3 1 (fun pre : List Int => pre.length) (fun pre => pre.map (Value.int .i64)) (fun pre v => pre.length = k ∧ c = Code.exit 1)) _) (ownFrom_below (Nat.le_refl _) (by simp; omega)))
    ⟨⟨_, bO.alloc _, World.ownsRow_nil _ _ _ _, by simp; omega⟩, hB0⟩ ?a1 ?assign ?body ?done ?stop
  case assign =>
    intro l x W K hK
    gi_wp2
    exact hK
  case body =>
    clear hS1 u4 bO bN hB0
    rintro l' pre x W ⟨⟨v, hv, hrow, hlt⟩, hB⟩ hlen
    have hcc := hv.cell
    have ckW : W.cell? ⟨w.heap.size, 0, none⟩ = some (.int .i64 (k : Int)) := (hB.cell (p := ⟨w.heap.size, 0, none⟩) hw1s).trans ck1
    by_cases hend : k = pre.length + 1
    · subst hend
      have hd : (((pre.length : Nat) : Int) + 1 == ((pre.length + 1 : Nat) : Int)) = true := by simp
      gi_wp2_with (gi_at_builtin; refine wpListIn_append_own _ rfl _ _ 26 rfl w1.heap.size 3 i0 (.int .i64 0) 1 8 Try.underlying26 hi hz0 hz1 hz2 rfl (by decide) _ _ _ rfl (hrow.alloc _) ⟨W.heap.size, 0, none⟩ 1 1 [.int .i64 x] rfl rfl (cell_one_new _ _ _) (by simp [Value.oneCell']) (by unfold maxLen; omega) (by omega) (by have := hB.size; simp; omega) ?_; intro v' w2 hown' hgrow _; obtain ⟨g', cap', rfl⟩ := ownsRow_succ hown'; obtain ⟨hv1, hv2, hr2, hk2, hb2⟩ := hv.appended (by decide) hrow hB.size (Nat.le_refl _) hown' hgrow; have hc1 := hv1.cell; have hf1 := hv1.frozen; have hkp := kpE_appended hv hrow hB.size (Nat.le_refl _) hown' hgrow hb2; have hc2 := hv2.cell; have ck2 := hgrow.cell (a := ⟨w.heap.size, 0, none⟩) (((Upd.refl (fun _ => False) W).alloc _).cell ckW (fun f => f)) (fun e => by have := (hrow.lt _ e.symm).1; simp at this; omega))
      exact ⟨hk2.from _, ⟨_, hv2, by simpa using hr2, by simp, rfl⟩, hB.trans hb2⟩
    · have hd : (((pre.length : Nat) : Int) + 1 == (k : Int)) = false := by simp; omega
      gi_wp2_with (gi_at_builtin; refine wpListIn_append_own _ rfl _ _ 26 rfl w1.heap.size 3 i0 (.int .i64 0) 1 8 Try.underlying26 hi hz0 hz1 hz2 rfl (by decide) _ _ _ rfl (hrow.alloc _) ⟨W.heap.size, 0, none⟩ 1 1 [.int .i64 x] rfl rfl (cell_one_new _ _ _) (by simp [Value.oneCell']) (by unfold maxLen; omega) (by omega) (by have := hB.size; simp; omega) ?_; intro v' w2 hown' hgrow _; obtain ⟨g', cap', rfl⟩ := ownsRow_succ hown'; obtain ⟨hv1, hv2, hr2, hk2, hb2⟩ := hv.appended (by decide) hrow hB.size (Nat.le_refl _) hown' hgrow; have hc1 := hv1.cell; have hf1 := hv1.frozen; have hkp := kpE_appended hv hrow hB.size (Nat.le_refl _) hown' hgrow hb2; have hc2 := hv2.cell; have ck2 := hgrow.cell (a := ⟨w.heap.size, 0, none⟩) (((Upd.refl (fun _ => False) W).alloc _).cell ckW (fun f => f)) (fun e => by have := (hrow.lt _ e.symm).1; simp at this; omega))
      exact ⟨hk2.from _, hkp, ⟨_, hv2, by simpa using hr2, by rw [List.length_append, List.length_singleton]; omega⟩, hB.trans hb2⟩
  case done =>
    rintro D ys W hD rfl ⟨⟨v, hv, hrow, hlt⟩, hB⟩ hK
    omega
  case stop =>
    clear hS1 u4 bO bN hB0
    rintro D c pre W hD hpre ⟨⟨v', hv, hrow, hpl, rfl⟩, hB⟩ hK
    have hcc := hv.cell
    have ckW : W.cell? ⟨w.heap.size, 0, none⟩ = some (.int .i64 (k : Int)) := (hB.cell (p := ⟨w.heap.size, 0, none⟩) hw1s).trans ck1
    have hSW := HS1.out.upd (Upd.none_of_below hB) (fun f => f) (fun _ _ f => f)
    have hpe : pre = (flatE l).take k := by rw [← hpl]; exact List.prefix_iff_eq_take.1 hpre
    obtain ⟨last, hlast⟩ : ∃ last, last = (flatE l).getD (k - 1) 0 := ⟨_, rfl⟩
    have hl1 : (flatE l)[k - 1]? = some last := by rw [hlast, List.getD_eq_getElem?_getD, List.getElem?_eq_getElem (by omega)]; rfl
    have hl2 : pre[k - 1]? = some last := by rw [hpe, List.getElem?_take_of_lt (by omega)]; exact hl1
    obtain ⟨fx, fx1, fx2, fx3⟩ := flat_find HO.out last (List.mem_of_getElem? hl1)
    rcases hrow.2 with ⟨_, e⟩ | ⟨g, capv, curv, rfl, hg, hgh, _, _, _, htk⟩
    · omega
    have cl : W.cell? ⟨g, k - 1, none⟩ = some (.int .i64 last) := by
      have := hrow.cells (g := g) (by simp [Value.ownBlock]) (k - 1) (.int .i64 last) (by rw [List.getElem?_map, hl2]; rfl)
      rw [Addr.add_lit, Nat.zero_add] at this
      exact this
    rw [hpl] at hcc hrow hv
    have HCC := Lib.hid hcc
    have HLAST := Lib.hid hlast
    have HPE := Lib.hid hpe
    have HF := Lib.hid (sp_find hSW HO.out last ⟨by have := HO.out.1; omega, by have := HO.out.1; omega⟩)
    obtain ⟨i, hi2⟩ : ∃ i, i = findN l last := ⟨_, rfl⟩
    have hle : i < l.length := by rw [hi2]; exact fx
    have hnb := hSW.neb
    obtain ⟨r, off, cap, rfl, rfl, cA, cB, cfz⟩ := hSW.row.get (findN l last) fx
    rw [Nat.mul_comm] at cA cB
    have hdr : l.drop i = l[findN l last] :: l.drop (i + 1) := by rw [List.drop_eq_getElem_cons hle]; simp only [hi2]
    have hxb := HO.out.2.1 _ (List.getElem_mem fx)
    generalize l[findN l last] = y at cA cB fx1 fx2 hdr hxb
    rw [← hi2] at cA cB HF
    obtain ⟨y1, y2⟩ := y
    dsimp only at cA cB fx1 fx2 hxb
    have hlen := HO.out.len
    have hnn := HO.out.1
    obtain ⟨curR, r1, r2, r3, r4, r5⟩ := hSW.row.open
    obtain ⟨N, hN⟩ : ∃ N, N = l.length := ⟨_, rfl⟩
    rw [← hN] at hle r3
    have cb : W.cell? ⟨b, 1, none⟩ = some (.slice (some ⟨r, off, none⟩) N cap) := by rw [hN]; exact cell_heap hSW.set 1 _ rfl
    have CC := Lib.hid (show ∀ w', Upd (fun _ => False) W w' → w'.cell? ⟨r, off + i * 2, none⟩ = some (.int .i64 y1) ∧ w'.cell? ⟨r, off + i * 2 + 1, none⟩ = some (.int .i64 y2) ∧ w'.cell? ⟨b, 1, none⟩ = some (.slice (some ⟨r, off, none⟩) N cap) from fun w' hu => ⟨hu.cell cA (fun f => f), hu.cell cB (fun f => f), hu.cell cb (fun f => f)⟩)
    have HSW := Lib.hid hSW
    have lb := lt_of_heap hSW.set
    have lr := hSW.row.lt r rfl
    have hbr : b ≠ r := fun e => hnb (by rw [e])
    have hgb : g ≠ b := fun e => by subst e; exact owns_ne hrow hSW.set (by decide) (by simp [Value.ownBlock])
    have hgr : g ≠ r := fun e => by subst e; exact owns_ne hrow r1 (by decide) (by simp [Value.ownBlock])
    have hDb : D ≠ b := fun e => by rw [e, hSW.set] at hK; cases hK
    have hDr : D ≠ r := fun e => by rw [e, r1] at hK; cases hK
    have HT := Lib.hid (show takeL l last = (if last + 1 < y1 + y2 then (last + 1, y1 + y2 - last - 1) :: l.drop (i + 1) else l.drop (i + 1)) by unfold takeL; rw [← hi2, hdr])
    have k1 : IntKind.i64.wrap ((k : Int) - 1) = (k : Int) - 1 := IntWalk.i64_in _ (by omega)
    have k2 : (0 : Int) ≤ (k : Int) - 1 := by omega
    have k3 : (k : Int) - 1 < (k : Int) := by omega
    have k4 : ((k : Int) - 1).toNat = k - 1 := by omega
    have k5 : (1 : Int) ≤ (k : Int) := by omega
    have e1 : IntKind.i64.wrap (y1 + y2) = y1 + y2 := IntWalk.i64_in _ (by omega)
    have e2 : IntKind.i64.wrap (last + 1) = last + 1 := IntWalk.i64_in _ (by omega)
    have e3 : IntKind.i64.wrap (y1 + y2 - last) = y1 + y2 - last := IntWalk.i64_in _ (by omega)
    have e4 : IntKind.i64.wrap (y1 + y2 - last - 1) = y1 + y2 - last - 1 := IntWalk.i64_in _ (by omega)
    have i1 : (i : Int) < (N : Int) := by omega
    have i2 : i ≤ N := by omega
    have i3 : ¬ (cap = i) := by omega
    have i4 : (i : Int) ≤ (N : Int) := by omega
    have i5 : 0 < N - i := by omega
    have i6 : (0 : Int) < ((N - i : Nat) : Int) := by omega
    have i7 : i ≤ cap := by omega
    have i8 : cap ≤ 9223372036854775807 := by unfold maxLen at r4; omega
    have i9 : (1 : Int) ≤ ((N - i : Nat) : Int) := by omega
    have i10 : 1 ≤ N - i := by omega
    have HROW := Lib.hid hrow
    have HV := Lib.hid hv
    have HB := Lib.hid hB
    have HCUR := Lib.hid (And.intro r1 (And.intro r2 (And.intro r3 r5)))
    have HDR := Lib.hid hdr
    have HN := Lib.hid hN
    have HK := Lib.hid hK
    have HNE := Lib.hid (And.intro hgb (And.intro hgr (And.intro hDb hDr)))
    have HT2 := HT
    have HPL := Lib.hid hpl
    by_cases hcond : last + 1 < y1 + y2
    ·
      clear hSW r1 r2 r3 r4 r5 hdr hN hK hrow hv hB cA cB cfz cb hlen hi2 hl1 hl2 hlast hpe hpre hgh htk fx1 fx2 fx3 hxb hnb hnn hgb hgr hDb hDr HT hle fx hkl hl4
      gi_wp2_with (fail)
      refine ⟨trivial, (callsIn_wide.2 HF.out).mono ?_⟩
      rintro e w3 ⟨rfl, u5⟩
      obtain ⟨d1, d2, d3⟩ := CC.out _ u5
      have u6 : Upd (fun _ => False) W (w3.alloc (.cells #[.int .i64 y1, .int .i64 y2] 99)) := u5.alloc _
      obtain ⟨d4, d5, d6⟩ := CC.out _ u6
      have hb6 := u6.heap HSW.out.set (fun f => f)
      have fb6 := free_heap hb6 1
      have hr6 := u6.heap HCUR.out.1 (fun f => f)
      have fr6 := fun j => free_heap hr6 j
      have hx6 := heap_alloc_new w3 (.cells #[.int .i64 y1, .int .i64 y2] 99)
      have xa6 := cell_heap hx6 0 _ rfl
      have xb6 := cell_heap hx6 1 _ rfl
      have n1 : b ≠ w3.heap.size := by have := u5.size; omega
      have n2 : r ≠ w3.heap.size := by have := u5.size; omega
      have n3 : ¬ (r = b) := fun e => hbr e.symm
      have HU6 := Lib.hid u6
      have HB6 := Lib.hid hb6
      have HR6 := Lib.hid hr6
      have d8 := u6.cell HCC.out (fun f => f)
      have n4 : ¬ (b = w1.heap.size) := by have := lt_of_heap HS1.out.set; omega
      have n5 : ¬ (r = w1.heap.size) := by have := HS1.out.row.lt r rfl; omega
      have n6 : ¬ (w1.heap.size = b) := fun e => n4 e.symm
      have n7 : ¬ (w1.heap.size = r) := fun e => n5 e.symm
      clear hb6 hr6 hx6 u6
      gi_wp2
      have hSb : SpAt (w3.alloc (.cells #[.int .i64 y1, .int .i64 y2] 99)) b (some r) n (.slice (some ⟨r, off, none⟩) l.length cap) l := HSW.out.upd HU6.out (fun f => f) (fun _ _ f => f)
      have hU0 : Upd (fun k => k = b ∨ some r = some k) w (w3.alloc (.cells #[.int .i64 y1, .int .i64 y2] 99)) := (((HU1.out.trans HU2.out (fun _ _ f => f)).trans (Upd.none_of_below HB.out) (fun _ _ f => f)).trans HU6.out (fun _ _ f => f)).mono (fun _ _ f => f.elim)
      have hR0 := HU6.out.owns HROW.out (fun _ _ f => f)
      have hK0 := HU6.out.heap HK.out (fun f => f)
      have hDs : w.heap.size ≤ D := by have := hD; simp at this; omega
      have uA := (Upd.refl (fun k => k = b) (w3.alloc (.cells #[.int .i64 y1, .int .i64 y2] 99))).setCell (p := ⟨b, 1, none⟩) (fun _ => rfl) (.slice (some ⟨r, off + i * 2, none⟩) (N - i) (cap - i))
      have uB := ((Upd.refl (fun k => k = r) ((w3.alloc (.cells #[.int .i64 y1, .int .i64 y2] 99)).setCell ⟨b, 1, none⟩ (.slice (some ⟨r, off + i * 2, none⟩) (N - i) (cap - i)))).setCell (p := ⟨r, off + i * 2, none⟩) (fun _ => rfl) (.int .i64 (last + 1))).setCell (p := ⟨r, off + i * 2 + 1, none⟩) (fun _ => rfl) (.int .i64 (y1 + y2 - last - 1))
      have hrA := hSb.row.upd uA (fun x e f => by cases e; exact hbr f.symm)
      have hrB := hrA.dropSet i (by have := HN.out; omega) (last + 1) (y1 + y2 - last - 1)
      have hln : ((last + 1, y1 + y2 - last - 1) :: l.drop (i + 1)).length = N - i := by rw [List.length_cons, List.length_drop, ← HN.out]; omega
      rw [hln] at hrB
      have hbF : (((w3.alloc (.cells #[.int .i64 y1, .int .i64 y2] 99)).setCell ⟨b, 1, none⟩ (.slice (some ⟨r, off + i * 2, none⟩) (N - i) (cap - i))).setCell ⟨r, off + i * 2, none⟩ (.int .i64 (last + 1))).setCell ⟨r, off + i * 2 + 1, none⟩ (.int .i64 (y1 + y2 - last - 1)) |>.heap[b]? = some (.cells #[.int .i64 n, .slice (some ⟨r, off + i * 2, none⟩) (N - i) (cap - i)] 95 (0, 0)) := uB.heap (by rw [heap_setCell_eq hSb.set]; rfl) hbr
      have hSF : SpAt _ b (some r) n _ _ := ⟨hbF, hrB⟩
      have hRF := uB.owns (uA.owns hR0 (fun k hk e => by simp [Value.ownBlock] at hk; subst hk; exact HNE.out.1 e)) (fun k hk e => by simp [Value.ownBlock] at hk; subst hk; exact HNE.out.2.1 e)
      have hKF := uB.heap (uA.heap hK0 HNE.out.2.2.1) HNE.out.2.2.2
      have hUF := (hU0.trans uA (fun _ _ e => Or.inl e)).trans uB (fun _ _ e => Or.inr (by rw [e]))
      refine ⟨by simp, .inl ⟨_, _, rfl, run_takeDeferred hKF, ?_⟩⟩
      refine ⟨_, results_tmp2 rfl _ _ _, ?_⟩
      rw [← HLAST.out, HT2.out, if_pos hcond, ← HPE.out]
      have hkp := HPL.out
      refine take_close (B0 := w1.heap.size) hUF hSF (fun x e => .inl e) ?_ (by omega) hKF hDs
      rw [hkp]
      exact hRF
    ·
      clear hSW r1 r2 r3 r4 r5 hdr hN hK hrow hv hB cA cB cfz cb hlen hi2 hl1 hl2 hlast hpe hpre hgh htk fx1 fx2 fx3 hxb hnb hnn hgb hgr hDb hDr HT hle fx hkl hl4
      by_cases hc1 : cap - i = 1
      · gi_wp2_with (fail)
        refine ⟨trivial, (callsIn_wide.2 HF.out).mono ?_⟩
        rintro e w3 ⟨rfl, u5⟩
        obtain ⟨d1, d2, d3⟩ := CC.out _ u5
        have u6 : Upd (fun _ => False) W (w3.alloc (.cells #[.int .i64 y1, .int .i64 y2] 99)) := u5.alloc _
        obtain ⟨d4, d5, d6⟩ := CC.out _ u6
        have hb6 := u6.heap HSW.out.set (fun f => f)
        have fb6 := free_heap hb6 1
        have hr6 := u6.heap HCUR.out.1 (fun f => f)
        have fr6 := fun j => free_heap hr6 j
        have hx6 := heap_alloc_new w3 (.cells #[.int .i64 y1, .int .i64 y2] 99)
        have xa6 := cell_heap hx6 0 _ rfl
        have xb6 := cell_heap hx6 1 _ rfl
        have n1 : b ≠ w3.heap.size := by have := u5.size; omega
        have n2 : r ≠ w3.heap.size := by have := u5.size; omega
        have n3 : ¬ (r = b) := fun e => hbr e.symm
        have HU6 := Lib.hid u6
        have HB6 := Lib.hid hb6
        have HR6 := Lib.hid hr6
        have d8 := u6.cell HCC.out (fun f => f)
        have n4 : ¬ (b = w1.heap.size) := by have := lt_of_heap HS1.out.set; omega
        have n5 : ¬ (r = w1.heap.size) := by have := HS1.out.row.lt r rfl; omega
        have n6 : ¬ (w1.heap.size = b) := fun e => n4 e.symm
        have n7 : ¬ (w1.heap.size = r) := fun e => n5 e.symm
        clear hb6 hr6 hx6 u6
        gi_wp2
        have hSb : SpAt (w3.alloc (.cells #[.int .i64 y1, .int .i64 y2] 99)) b (some r) n (.slice (some ⟨r, off, none⟩) l.length cap) l := HSW.out.upd HU6.out (fun f => f) (fun _ _ f => f)
        have hU0 : Upd (fun k => k = b ∨ some r = some k) w (w3.alloc (.cells #[.int .i64 y1, .int .i64 y2] 99)) := (((HU1.out.trans HU2.out (fun _ _ f => f)).trans (Upd.none_of_below HB.out) (fun _ _ f => f)).trans HU6.out (fun _ _ f => f)).mono (fun _ _ f => f.elim)
        have hR0 := HU6.out.owns HROW.out (fun _ _ f => f)
        have hK0 := HU6.out.heap HK.out (fun f => f)
        have hDs : w.heap.size ≤ D := by have := hD; simp at this; omega
        have uA := ((Upd.refl (fun k => k = b) (w3.alloc (.cells #[.int .i64 y1, .int .i64 y2] 99))).setCell (p := ⟨b, 1, none⟩) (fun _ => rfl) (.slice (some ⟨r, off + i * 2, none⟩) (N - i) 1)).setCell (p := ⟨b, 1, none⟩) (fun _ => rfl) (.slice (some ⟨r, off + i * 2, none⟩) (N - i - 1) 0)
        have hrA : RowAt (w3.alloc (.cells #[.int .i64 y1, .int .i64 y2] 99)) (.slice (some ⟨r, off + i * 2, none⟩) (N - i - 1) 0) (some r) (l.drop (i + 1)) := by
          have hrc := HCUR.out.2.2.1
          have hd0 : l.drop (i + 1) = [] := List.drop_of_length_le (by have := HN.out; omega)
          have hn0 : N - i - 1 = 0 := by omega
          obtain ⟨cur, q1, q2, q3, q4, q5⟩ := hSb.row.open
          rw [hd0, hn0]
          exact RowAt.mkAt (l := []) q1 (by omega) (Nat.le_refl _) (Nat.zero_le _) (fun j u hu => by simp [exs] at hu)
        have hbA : ((w3.alloc (.cells #[.int .i64 y1, .int .i64 y2] 99)).setCell ⟨b, 1, none⟩ (.slice (some ⟨r, off + i * 2, none⟩) (N - i) 1)).heap[b]? = some (.cells #[.int .i64 n, (.slice (some ⟨r, off + i * 2, none⟩) (N - i) 1)] 95 (0, 0)) := by rw [heap_setCell_eq hSb.set]; rfl
        have hrB := hrA.upd ((Upd.refl (fun k => k = b) (w3.alloc (.cells #[.int .i64 y1, .int .i64 y2] 99))).setCell (p := ⟨b, 1, none⟩) (fun _ => rfl) (.slice (some ⟨r, off + i * 2, none⟩) (N - i) 1)) (fun x e f => by cases e; exact hbr f.symm)
        have hSF := SpAt.store hbA hrB
        have hRF := uA.owns hR0 (fun k hk e => by simp [Value.ownBlock] at hk; subst hk; exact HNE.out.1 e)
        have hKF := uA.heap hK0 HNE.out.2.2.1
        have hUF := hU0.trans uA (fun _ _ e => Or.inl e)
        refine ⟨by simp, .inl ⟨_, _, rfl, run_takeDeferred hKF, ?_⟩⟩
        refine ⟨_, results_tmp2 rfl _ _ _, ?_⟩
        rw [← HLAST.out, HT2.out, if_neg (by omega), ← HPE.out]
        have hkp := HPL.out
        refine take_close (B0 := w1.heap.size) hUF hSF (fun x e => .inl e) ?_ (by omega) hKF hDs
        rw [hkp]
        exact hRF
      · gi_wp2_with (fail)
        refine ⟨trivial, (callsIn_wide.2 HF.out).mono ?_⟩
        rintro e w3 ⟨rfl, u5⟩
        obtain ⟨d1, d2, d3⟩ := CC.out _ u5
        have u6 : Upd (fun _ => False) W (w3.alloc (.cells #[.int .i64 y1, .int .i64 y2] 99)) := u5.alloc _
        obtain ⟨d4, d5, d6⟩ := CC.out _ u6
        have hb6 := u6.heap HSW.out.set (fun f => f)
        have fb6 := free_heap hb6 1
        have hr6 := u6.heap HCUR.out.1 (fun f => f)
        have fr6 := fun j => free_heap hr6 j
        have hx6 := heap_alloc_new w3 (.cells #[.int .i64 y1, .int .i64 y2] 99)
        have xa6 := cell_heap hx6 0 _ rfl
        have xb6 := cell_heap hx6 1 _ rfl
        have n1 : b ≠ w3.heap.size := by have := u5.size; omega
        have n2 : r ≠ w3.heap.size := by have := u5.size; omega
        have n3 : ¬ (r = b) := fun e => hbr e.symm
        have HU6 := Lib.hid u6
        have HB6 := Lib.hid hb6
        have HR6 := Lib.hid hr6
        have d8 := u6.cell HCC.out (fun f => f)
        have n4 : ¬ (b = w1.heap.size) := by have := lt_of_heap HS1.out.set; omega
        have n5 : ¬ (r = w1.heap.size) := by have := HS1.out.row.lt r rfl; omega
        have n6 : ¬ (w1.heap.size = b) := fun e => n4 e.symm
        have n7 : ¬ (w1.heap.size = r) := fun e => n5 e.symm
        clear hb6 hr6 hx6 u6
        gi_wp2
        have hSb : SpAt (w3.alloc (.cells #[.int .i64 y1, .int .i64 y2] 99)) b (some r) n (.slice (some ⟨r, off, none⟩) l.length cap) l := HSW.out.upd HU6.out (fun f => f) (fun _ _ f => f)
        have hU0 : Upd (fun k => k = b ∨ some r = some k) w (w3.alloc (.cells #[.int .i64 y1, .int .i64 y2] 99)) := (((HU1.out.trans HU2.out (fun _ _ f => f)).trans (Upd.none_of_below HB.out) (fun _ _ f => f)).trans HU6.out (fun _ _ f => f)).mono (fun _ _ f => f.elim)
        have hR0 := HU6.out.owns HROW.out (fun _ _ f => f)
        have hK0 := HU6.out.heap HK.out (fun f => f)
        have hDs : w.heap.size ≤ D := by have := hD; simp at this; omega
        have uA := ((Upd.refl (fun k => k = b) (w3.alloc (.cells #[.int .i64 y1, .int .i64 y2] 99))).setCell (p := ⟨b, 1, none⟩) (fun _ => rfl) (.slice (some ⟨r, off + i * 2, none⟩) (N - i) (cap - i))).setCell (p := ⟨b, 1, none⟩) (fun _ => rfl) (.slice (some ⟨r, off + i * 2 + 2, none⟩) (N - i - 1) (cap - i - 1))
        have hrA : RowAt (w3.alloc (.cells #[.int .i64 y1, .int .i64 y2] 99)) (.slice (some ⟨r, off + i * 2 + 2, none⟩) (N - i - 1) (cap - i - 1)) (some r) (l.drop (i + 1)) := by
          have := hSb.row.dropped (i + 1) (by have := HN.out; omega)
          have hn0 : (l.drop (i + 1)).length = N - i - 1 := by rw [List.length_drop, ← HN.out]; omega
          rw [hn0, show off + (i + 1) * 2 = off + i * 2 + 2 by omega, show cap - (i + 1) = cap - i - 1 by omega] at this
          exact this
        have hbA : ((w3.alloc (.cells #[.int .i64 y1, .int .i64 y2] 99)).setCell ⟨b, 1, none⟩ (.slice (some ⟨r, off + i * 2, none⟩) (N - i) (cap - i))).heap[b]? = some (.cells #[.int .i64 n, (.slice (some ⟨r, off + i * 2, none⟩) (N - i) (cap - i))] 95 (0, 0)) := by rw [heap_setCell_eq hSb.set]; rfl
        have hrB := hrA.upd ((Upd.refl (fun k => k = b) (w3.alloc (.cells #[.int .i64 y1, .int .i64 y2] 99))).setCell (p := ⟨b, 1, none⟩) (fun _ => rfl) (.slice (some ⟨r, off + i * 2, none⟩) (N - i) (cap - i))) (fun x e f => by cases e; exact hbr f.symm)
        have hSF := SpAt.store hbA hrB
        have hRF := uA.owns hR0 (fun k hk e => by simp [Value.ownBlock] at hk; subst hk; exact HNE.out.1 e)
        have hKF := uA.heap hK0 HNE.out.2.2.1
        have hUF := hU0.trans uA (fun _ _ e => Or.inl e)
        refine ⟨by simp, .inl ⟨_, _, rfl, run_takeDeferred hKF, ?_⟩⟩
        refine ⟨_, results_tmp2 rfl _ _ _, ?_⟩
        rw [← HLAST.out, HT2.out, if_neg (by omega), ← HPE.out]
        have hkp := HPL.out
        refine take_close (B0 := w1.heap.size) hUF hSF (fun x e => .inl e) ?_ (by omega) hKF hDs
        rw [hkp]
        exact hRF

theorem sp_Take {w : World} {b : Nat} {row : Option Nat} {n : Int} {v : Value} {l : List Ex} (h : SpAt w b row n v l) (hok : SpOk n l) (k : Int) :
    Calls Try.prog 34 #[.pointer (some ⟨b, 0, none⟩), .int .i64 k] w (TakeP w b row n (takeA l k)) := by
  unfold takeA
  by_cases h1 : k < 1
  · rw [if_pos h1]; exact take_low h hok k h1
  · rw [if_neg h1]
    by_cases h2 : cntE l < k
    · rw [if_pos h2]; exact take_high h hok k (by omega) h2
    · rw [if_neg h2]
      by_cases h3 : k = cntE l
      · rw [if_pos h3, h3]; exact take_all h hok (by omega)
      · rw [if_neg h3]
        obtain ⟨m, rfl⟩ := Int.eq_ofNat_of_zero_le (show 0 ≤ k by omega)
        rw [Int.toNat_natCast]
        exact callsIn_wide.1 (take_part h hok m (by omega) (by omega))

end Go.Proofs.Ytieohjibccjliaa
