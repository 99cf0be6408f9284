/- An allocator: slices.Clone of numbers; Chain, Alloc. -/
import Derived.Test.YtieohjibccjliaaAl2
import Derived.Test.YtieohjibccjliaaReg
import Derived.Maps.AppendAt
set_option linter.unusedVariables false
set_option linter.unusedSimpArgs false
namespace Go.Proofs.Ytieohjibccjliaa
open Go.RowKit Go.Shelf Go.Maps
set_option maxRecDepth 100000

theorem step_update {P : Program} {ops : Array Oper} {o : Oper} {a : Act} {w w' : World} {K : Act → World → Prop} {Q : Exit → Act → World → Prop} {E : Prop} (hd : o.dst = none) (hw : Region.wanted o (yielded ops a.tmps) = true) (t : TypeId) (m x y : Operand) (ho : o.op = .mapUpdate t m x y)
    (vm vx vy : Value) (h1 : a.eval m = vm) (h2 : a.eval x = vx) (h3 : a.eval y = vy) (hr : (Instr.mapUpdate t vm vx vy).run P w = .ok () w') (h : K (a.put none undef) w') :
    if Region.wanted o (yielded ops a.tmps) = true then Oper.wp P o a w K Q else E := by
  rw [if_pos hw]
  unfold Oper.wp execOp
  simp only [ho, h1, h2, h3, Sem.run_bind, Sem.run_pure, Result.andThen_ok, hr]
  rw [← hd] at h
  exact h
theorem ints_cells {w : World} {ad : Option Addr} {cap : Nat} {row : Option Nat} {xs : List Int} (h : IntsAt w (.slice ad xs.length cap) row xs) (a : Addr) (ha : ad = some a) : ∀ j u, (xs.map (Value.int .i64))[j]? = some u → w.cell? (a.add j) = some u := by
  intro j u hj
  obtain ⟨ad', cap', e1, h1, h2, h3⟩ := h
  have hl := (List.getElem?_eq_some_iff.1 hj).1
  rw [List.length_map] at hl
  obtain ⟨g, off, e2, e3, e4⟩ := h3 j _ (List.getElem?_eq_getElem hl)
  simp only [Value.slice.injEq] at e1
  rw [e1.1, e3] at ha
  cases ha
  have hu : u = .int .i64 xs[j] := by
    rw [List.getElem?_map, List.getElem?_eq_getElem hl] at hj
    exact (Option.some.inj hj).symm
  have hadd : (⟨g, off, none⟩ : Addr).add j = ⟨g, off + j, none⟩ := by unfold Addr.add; split <;> simp_all
  rw [hadd, hu]
  exact e4
theorem clonei_enters : Enters Try.prog 35 := enters_of Try.func35 rfl rfl
theorem clonei_none (w : World) : Calls Try.prog 35 #[.slice none 0 0] w fun e w' => e = .returned (.slice none 0 0) ∧ w = w' := by
  have hq := fun w : World => eql_slice_nil (P := Try.prog) w none 0 0 Try.underlying26
  simp only [Option.isNone_none] at hq
  go_enter Try.func35, Try.ntmps35
  go_wp2
  go_ret
  exact ⟨rfl, rfl⟩
def ClonedI (w : World) (xs : List Int) (e : Ending) (w' : World) : Prop := ∃ v', e = .returned v' ∧ w'.ownsRow w.heap.size 3 1 v' xs.length (xs.map (Value.int .i64)) ∧ Upd (fun _ => False) w w'
theorem clonei_some {w : World} {a : Addr} {cap : Nat} {row : Option Nat} {xs : List Int} (h : IntsAt w (.slice (some a) xs.length cap) row xs) (hl : xs.length ≤ 100000) :
    Calls Try.prog 35 #[.slice (some a) xs.length cap] w (ClonedI w xs) := by
  have hq := fun w : World => eql_slice_nil (P := Try.prog) w (some a) xs.length cap Try.underlying26
  simp only [Option.isNone_some] at hq
  obtain ⟨i0, hi, hq0, hq1, hq2⟩ := info_parts Try.infoI
  have u1 : Upd (fun _ => False) w (w.alloc (.cells #[] 3)) := (Upd.refl _ w).alloc _
  have hb1 := ints_cells (h.upd u1 (fun _ _ f => f)) a rfl
  have hown : (w.alloc (.cells #[] 3)).ownsRow w.heap.size 3 1 (.slice (some ⟨w.heap.size, 0, none⟩) 0 0) 0 [] :=
    ⟨rfl, Or.inr ⟨w.heap.size, 0, #[], rfl, Nat.le_refl _, heap_alloc_new _ _, Nat.le_refl _, Nat.zero_le _, rfl, rfl⟩⟩
  have happ := fun ty => run_append_own_at (P := Try.prog) (w.alloc (.cells #[] 3)) w.heap.size 26 ty 3 i0 (.int .i64 0) 1 8 Try.underlying26 hi hq0 hq1 hq2 (by kernel_rfl) (by omega)
    (.slice (some ⟨w.heap.size, 0, none⟩) 0 0) 0 [] hown a xs.length cap (xs.map (Value.int .i64)) (by simp)
    hb1 (fun u hu => by obtain ⟨x, _, rfl⟩ := List.mem_map.1 hu; rfl) (by unfold maxLen; omega) (by omega) u1.size
  have HA := Lib.hid happ
  clear happ hown hb1 h
  unfold ClonedI
  go_enter Try.func35, Try.ntmps35
  go_wp2_with (at_builtin; obtain ⟨v', w', hrun, hown', hgr, _, hblk⟩ := HA.out _; refine wpList_append_by rfl (.tmp 5) (.tmp 6) 26 rfl _ _ v' rfl rfl hrun ?_)
  go_ret
  rw [Nat.zero_add, List.nil_append] at hown'
  refine ⟨v', rfl, hown', u1.grown hgr (fun k hk hlt => ?_)⟩
  simp only [Value.ownBlock, Option.some.injEq] at hk
  omega
theorem clonei {w : World} {v : Value} {row : Option Nat} {xs : List Int} (h : IntsAt w v row xs) (hnil : ∀ n c, v = .slice none n c → n = 0 ∧ c = 0) (hl : xs.length ≤ 100000) : Calls Try.prog 35 #[v] w (ClonedI w xs) := by
  obtain ⟨ad, cap, rfl, h1, h2, h3⟩ := id h
  cases ad with
  | none =>
    obtain ⟨h4, rfl⟩ := hnil _ _ rfl
    obtain rfl : xs = [] := List.eq_nil_of_length_eq_zero h4
    exact (clonei_none w).mono fun e w' ⟨h1, h2⟩ => ⟨_, h1, by rw [← h2]; exact World.ownsRow_nil _ _ _ _, h2 ▸ Upd.refl _ _⟩
  | some a => exact clonei_some h hl
theorem IntRow.clone {w : World} {v : Value} {r : Nat} {xs : List Int} (h : IntRow w v r xs) (hl : xs.length ≤ 100000) : Calls Try.prog 35 #[v] w (ClonedI w xs) := by
  refine clonei h.ints (fun n c e => ?_) hl
  obtain ⟨off, cap, cur, h1, _⟩ := h
  rw [h1] at e; cases e

/-! ### Chain -/
theorem at_Chain {lo : Nat} {w : World} {b : Nat} {s : AlS} {h : AlB} (H : AlAt lo w b s h) (ok : AlOk s) (p : Int) (hp : inI p) :
    Calls Try.prog 14 #[.pointer (some ⟨b, 0, none⟩), .int .i64 p] w (ClonedI w (chainA s p)) := by
  have HF := Lib.hid (al_find H ok p hp)
  unfold chainA
  rw [H.get p]
  cases hg : getP h.xs p with
  | none =>
    rw [hg] at HF
    simp only [ptrOf, Option.isSome_none, Bool.false_eq_true, if_false] at HF
    simp only [Option.map_none]
    clear H
    unfold ClonedI
    go_enter Try.func14, Try.ntmps14
    go_wp2_with (go_at_call 36; refine HF.out.mono ?_; rintro e w' ⟨rfl, rfl⟩)
    go_ret
    exact ⟨_, rfl, World.ownsRow_nil _ _ _ _, Upd.refl _ _⟩
  | some y =>
    rw [hg] at HF
    simp only [ptrOf, Option.isSome_some, if_true] at HF
    simp only [Option.map_some]
    obtain ⟨k, r, l, q, sr⟩ := y
    have hgs : getP s.ch p = some (l, q, sr) := by rw [H.get p, hg]; rfl
    have hq := (ok.ch _ (getP_mem hgs)).2.2.2.2
    obtain ⟨v, hc, hrow⟩ := H.chain hg
    have c1 := cell_heap hc 0 _ rfl
    dsimp only at *
    have HC := Lib.hid (hrow.clone (by omega))
    obtain ⟨off, cap, cur, rfl, _⟩ := hrow
    clear H hc hq hgs
    go_enter Try.func14, Try.ntmps14
    go_wp2_with (go_at_call 36; refine HF.out.mono ?_; rintro e w' ⟨rfl, rfl⟩)
    refine HC.out.mono ?_
    rintro e w1 ⟨v', rfl, k1, k2⟩
    go_wp2
    go_ret
    exact ⟨_, rfl, k1, k2⟩

/-! ### Alloc -/
theorem takenA_len {n : Int} {l : List Ex} (hok : SpOk n l) (k : Int) (hc : (takeA l k).2.1 = 0) : (((takeA l k).1.length : Nat) : Int) = k ∧ 1 ≤ k ∧ k ≤ cntE l := by
  revert hc
  have hfl := flat_len hok
  unfold takeA
  by_cases h1 : k < 1
  · rw [if_pos h1]; intro h; cases h
  rw [if_neg h1]
  by_cases h2 : cntE l < k
  · rw [if_pos h2]; intro h; cases h
  rw [if_neg h2]
  by_cases h3 : k = cntE l
  · rw [if_pos h3]; intro _; dsimp only; omega
  · rw [if_neg h3]; intro _; dsimp only; rw [List.length_take]; omega
theorem has_range {n : Int} {l : List Ex} (h : SpOk n l) {y : Int} (hy : hasB l y = true) : 0 ≤ y ∧ y < n := by
  obtain ⟨x, hx, h1, h2⟩ := (hasB_iff l y).1 hy
  have := h.2.1 x hx
  omega
def allocA (s : AlS) (k : Int) : List Int × Int × AlS :=
  if (takeA s.free k).2.1 = 0 then ((takeA s.free k).1, 0, { s with free := (takeA s.free k).2.2, ch := putP s.ch ((takeA s.free k).1.headD 0) ((takeA s.free k).1, 1, false) }) else ([], (takeA s.free k).2.1, s)
theorem AlAt.spset {lo : Nat} {w w' : World} {b : Nat} {s : AlS} {h : AlB} (H : AlAt lo w b s h) {l' : List Ex} (hlo : lo ≤ w.heap.size) (hp : SpP w h.bs h.row s.n l' w') : ∃ row' v', AlAt lo w' b { s with free := l' } { h with row := row', v := v' } ∧ Upd (fun k => k = h.bs ∨ h.row = some k) w w' ∧ (∀ r, row' = some r → h.row = some r ∨ w.heap.size ≤ r) := by
  obtain ⟨v', row', h1, h2, h3⟩ := hp
  have hne : ∀ (i : Nat) (cs : Array Value) (t : TypeId) (fr : Nat × Nat), t ≠ 95 → t ≠ 99 → w.heap[i]? = some (.cells cs t fr) → ¬ (i = h.bs ∨ h.row = some i) := fun i cs t fr ht ht2 hi e => by
    rcases e with rfl | e
    · rw [H.set.set] at hi; simp only [Option.some.injEq, Obj.cells.injEq] at hi; exact ht hi.2.1.symm
    · exact H.set.row.ne hi ht2 e
  have hnm : ∀ {R : Value → Option (DataW Unit × List MemPlace)} {m : Nat} {D : DataW Unit}, w.ownsMap (H := Unit) Try.prog 3 R m 5000 D → ¬ (m = h.bs ∨ h.row = some m) := fun ho e => by
    rcases e with rfl | e
    · exact ownsMap_ne ho H.set.set rfl
    · rcases H.set.row with ⟨_, e2, _⟩ | ⟨r, off, cap, cur, e2, _, e3, _⟩
      · rw [e2] at e; cases e
      · rw [e2] at e; cases e; exact ownsMap_ne ho e3 rfl
  refine ⟨row', v', ⟨h3.heap H.obj (hne _ _ _ _ (by decide) (by decide) H.obj), h1, ownsMap_upd H.chains h3 (hnm H.chains), ownsMap_upd H.wait h3 (hnm H.wait), H.ch, fun x hx => ?_, H.inj, H.maps, ?_⟩, h3, h2⟩
  · have hx0 := H.each x hx
    refine hx0.upd h3 ?_ ?_
    · obtain ⟨v1, h1, _⟩ := hx0; exact hne _ _ _ _ (by decide) (by decide) h1
    · obtain ⟨v1, _, off, cap, cur, _, hrow, _⟩ := hx0; exact hne _ _ _ _ (by decide) (by decide) hrow
  · obtain ⟨l0, l1, l2, l3, l4, l5⟩ := H.low
    refine ⟨l0, l1, fun r e => ?_, l3, l4, l5⟩
    rcases h2 r e with e | e
    · exact l2 r e
    · omega
theorem AlAt.newchain {lo : Nat} {w w' : World} {b : Nat} {s : AlS} {h : AlB} (H : AlAt lo w b s h) (ok : AlOk s) {p : Int} {k r : Nat} {c : Ch} (hp : 0 ≤ p ∧ p < s.n) (hu : Upd (fun i => i = h.bc) w w') (hlo : lo ≤ w.heap.size) (hk : w.heap.size ≤ k) (hr : w.heap.size ≤ r) (hc : ChAt w' (k, r, c)) {n : Nat}
    (ho : w'.ownsMap (H := Unit) Try.prog 3 ptrRn h.bc n (mD (putP (mapV blkI h.xs) p (k : Int)))) : AlAt lo w' b { s with ch := putP s.ch p c } { h with xs := putP h.xs p (k, r, c) } := by
  have hks := H.ks ok
  have hne : ∀ (i : Nat) (cs : Array Value) (t : TypeId) (fr : Nat × Nat), w.heap[i]? = some (.cells cs t fr) → i ≠ h.bc := fun i cs t fr hi e => ownsMap_ne H.chains hi e
  refine ⟨hu.heap H.obj (hne _ _ _ _ H.obj), H.set.upd hu (hne _ _ _ _ H.set.set) (fun x hx e => ?_), ?_, ownsMap_upd H.wait hu (fun e => H.maps e.symm), ?_, fun x hx => ?_, fun x hx y hy e => ?_, H.maps, ?_⟩
  · rcases H.set.row with ⟨_, e2, _⟩ | ⟨r, off, cap, cur, e2, _, e3, _⟩
    · rw [e2] at hx; cases hx
    · rw [e2] at hx; cases hx; exact hne _ _ _ _ e3 e
  · dsimp only
    rw [putP_map]
    refine ownsMap_tighten ho ?_
    rw [mD_size]
    have h1 : (putP (mapV blkI h.xs) p (blkI (k, r, c))).length ≤ (mapV blkI h.xs).length + 1 := putP_len _ _ _
    have h2 := ok.lens.1
    rw [H.ch, mapV_len] at h2
    rw [mapV_len] at h1
    omega
  · dsimp only; rw [putP_map, ← H.ch]
  · rcases mem_put hks hx with rfl | ⟨h1, h2⟩
    · exact hc
    · have hx0 := H.each x h1
      refine hx0.upd hu ?_ ?_
      · obtain ⟨v1, h3, _⟩ := hx0; exact hne _ _ _ _ h3
      · obtain ⟨v1, _, off, cap, cur, _, hrow, _⟩ := hx0; exact hne _ _ _ _ hrow
  · have hlt : ∀ z ∈ h.xs, z.2.1 < w.heap.size := fun z hz => by obtain ⟨v1, h3, _⟩ := H.each z hz; exact lt_of_heap h3
    rcases mem_put hks hx with rfl | ⟨h1, h2⟩ <;> rcases mem_put hks hy with rfl | ⟨h3, h4⟩
    · rfl
    · have := hlt y h3; dsimp only at e; omega
    · have := hlt x h1; dsimp only at e; omega
    · exact H.inj x h1 y h3 e
  · obtain ⟨l0, l1, l2, l3, l4, l5⟩ := H.low
    refine ⟨l0, l1, l2, l3, l4, fun x hx => ?_⟩
    rcases mem_put hks hx with rfl | ⟨h1, h2⟩
    · dsimp only; omega
    · exact l5 x h1
theorem AlOk.newchain {s : AlS} (ok : AlOk s) {p : Int} {c : Ch} (h1 : 0 ≤ p ∧ p < s.n) (h2 : c.1.head? = some p) (h3 : 1 ≤ c.2.1 ∧ c.2.1 ≤ 65535) (h4 : ∀ y ∈ c.1, 0 ≤ y ∧ y < s.n) (h5 : c.1.length ≤ 4096) : AlOk { s with ch := putP s.ch p c } := by
  refine ⟨ok.free, ok.ksc.put p c, ok.ksw, fun x hx => ?_, ok.wait⟩
  rcases mem_put ok.ksc hx with rfl | ⟨k1, k2⟩
  · exact ⟨h1, h2, h3, h4, h5⟩
  · exact ok.ch x k1
theorem lt_of_map {R : Value → Option (DataW Unit × List MemPlace)} {w : World} {bm n : Nat} {D : DataW Unit} (h : w.ownsMap (H := Unit) Try.prog 3 R bm n D) : bm < w.heap.size := World.ownsMap.lt h
def AllocP (lo : Nat) (w : World) (b : Nat) (h : AlB) (r : List Int × Int × AlS) (e : Ending) (w' : World) : Prop :=
  ∃ v, e = .returned (.tuple #[v, .int .i64 r.2.1]) ∧ w'.ownsRow w.heap.size 3 1 v r.1.length (r.1.map (Value.int .i64)) ∧ (∃ h', AlAt lo w' b r.2.2 h') ∧ AlOk r.2.2 ∧ Upd (AlF h) w w'
theorem takeA_no {l : List Ex} {k : Int} (h : k < 1) : takeA l k = ([], 2, l) := by unfold takeA; rw [if_pos h]
theorem alloc_no {lo : Nat} {w : World} {b : Nat} {s : AlS} {h : AlB} (H : AlAt lo w b s h) (ok : AlOk s) (hlo : lo ≤ w.heap.size) (k : Int) (he : (takeA s.free k).2.1 ≠ 0) :
    Calls Try.prog 9 #[.pointer (some ⟨b, 0, none⟩), .int .i64 k] w (AllocP lo w b h ([], (takeA s.free k).2.1, s)) := by
  have HI := Lib.hid (al_is H)
  have HH := Lib.hid H
  have HO := Lib.hid ok
  by_cases hk : k < 1
  · rw [takeA_no hk]
    clear H ok he
    unfold AllocP
    go_enter Try.func9, Try.ntmps9
    go_wp2_with (go_at_call 33; refine HI.out.mono ?_; rintro e w' ⟨rfl, rfl⟩)
    go_ret2
    exact ⟨_, rfl, World.ownsRow_nil _ _ _ _, ⟨h, HH.out⟩, HO.out, Upd.refl _ _⟩
  · have HT := Lib.hid (sp_Take H.set ok.free k)
    have c0 := cell_heap H.obj 0 _ rfl
    obtain ⟨s1, s2, s3⟩ := takeA_spec ok.free k
    obtain ⟨e1, e2⟩ := s2 he
    generalize takeA s.free k = r at *
    obtain ⟨t, c, f'⟩ := r
    dsimp only at e1 e2 he ⊢
    subst e1 e2
    have hne : (c != 0) = true := by simpa using he
    clear H ok s1 s2 s3 he
    unfold AllocP
    go_enter Try.func9, Try.ntmps9
    go_wp2_with (go_at_call 33; refine HI.out.mono ?_; rintro e w' ⟨rfl, rfl⟩)
    refine HT.out.mono ?_
    rintro e w1 ⟨v, rfl, k1, k2⟩
    go_wp2
    go_ret2
    obtain ⟨row', v', a1, a2, a3⟩ := HH.out.spset hlo k2
    exact ⟨_, rfl, World.ownsRow_nil _ _ _ _, ⟨_, a1⟩, HO.out, a2.mono (fun i _ e => e.elim .inl (fun e => .inr (.inl e)))⟩
theorem alloc_yes {lo : Nat} {w : World} {b : Nat} {s : AlS} {h : AlB} (H : AlAt lo w b s h) (ok : AlOk s) (hlo : lo ≤ w.heap.size) (k : Int) (he : (takeA s.free k).2.1 = 0) :
    Calls Try.prog 9 #[.pointer (some ⟨b, 0, none⟩), .int .i64 k] w (AllocP lo w b h (allocA s k)) := by
  have HI := Lib.hid (al_is H)
  have HH := Lib.hid H
  have HO := Lib.hid ok
  have HT := Lib.hid (sp_Take H.set ok.free k)
  have c0 := cell_heap H.obj 0 _ rfl
  have c1 := cell_heap H.obj 1 _ rfl
  obtain ⟨s1, s2, s3⟩ := takeA_spec ok.free k
  obtain ⟨l1, l2, l3⟩ := takenA_len ok.free k he
  obtain ⟨t1, t2, t3, t4⟩ := s3 he
  have hcn := ok.free.cnt
  have hn := ok.free.1
  unfold allocA
  rw [if_pos he]
  generalize takeA s.free k = r at *
  obtain ⟨t, c, f'⟩ := r
  dsimp only at he l1 l2 l3 t1 t2 t3 t4 s1 ⊢
  subst he
  cases t with
  | nil => simp at l1; omega
  | cons x tl =>
    have hx := has_range ok.free (t2 x (List.mem_cons_self ..))
    have HOK' : AlOk { s with free := f', ch := putP s.ch x (x :: tl, 1, false) } := (AlOk.newchain (s := { s with free := f' }) ⟨s1, ok.ksc, ok.ksw, ok.ch, ok.wait⟩ hx rfl ⟨by dsimp only; omega, by dsimp only; omega⟩ (fun y hy => has_range ok.free (t2 y hy)) (by have := l1; dsimp only; omega))
    have HOK := Lib.hid HOK'
    have HOK0 := Lib.hid (show AlOk { s with free := f' } from ⟨s1, ok.ksc, ok.ksw, ok.ch, ok.wait⟩)
    have hlen : (x :: tl).length ≤ 4096 := by have := l1; omega
    have hXI : inI x := by unfold inI; omega
    have hXN := Lib.hid hx
    have hk1 : ¬ k < 1 := by omega
    have hk2 : decide (k < 1) = false := decide_eq_false hk1
    have HLEN := Lib.hid hlen
    obtain ⟨N, hN⟩ : ∃ N, N = (x :: tl).length := ⟨_, rfl⟩
    have HN := Lib.hid hN
    have hN0 : 0 < N := by rw [hN]; simp
    have HXI := Lib.hid hXI
    clear H ok s1 s2 s3 l1 l2 l3 t1 t2 t3 t4 hcn hn hx HOK' hlen hXI hN
    unfold AllocP
    go_enter Try.func9, Try.ntmps9
    go_wp2_with (go_at_call 33; refine HI.out.mono ?_; rintro e w' ⟨rfl, rfl⟩)
    refine HT.out.mono ?_
    rintro e w1 ⟨v, rfl, k1, k2⟩
    obtain ⟨row', v', a1, a2, a3⟩ := HH.out.spset hlo k2
    obtain ⟨r, hr, hrl, hrb⟩ := IntRow.of_owns k1 (by simp)
    have D1 := cell_heap a1.obj 1 _ rfl
    have HNE := Lib.hid (show b ≠ h.bc from ownsMap_ne a1.chains a1.obj)
    have HCL := Lib.hid (fun (w' : World) (hu : Upd (fun i => i = h.bc) w1 w') => (IntRow.upd hr hu (by obtain ⟨_, _, _, _, hrr, _⟩ := hr; exact ownsMap_ne a1.chains hrr)).clone (by have := HLEN.out; dsimp only; omega))
    obtain ⟨off, cap, cur, rfl, hrr, hr2, hr3, hr4⟩ := id hr
    have DX := Lib.hid (show w1.cell? ⟨r, off, none⟩ = some (.int .i64 x) ∧ r ≠ h.bc from ⟨cell_heap hrr _ _ (by have := hr4 0 x rfl; simpa using this), ownsMap_ne a1.chains hrr⟩)
    have HUP := Lib.hid (fun (w' : World) (hu : Upd (fun _ => False) w1 w') (kk : Nat) => by
      obtain ⟨w4, q1, q2, q3⟩ := World.ownsMap.update (ownsMap_upd a1.chains hu (fun f => f)) KI Try.underlying63 (by decide) (key_of x HXI.out) (show ptrRn (.pointer (some ⟨kk, 0, none⟩)) = some (.lit (.int .i64 (kk : Int)), []) from rfl)
      rw [mD_put ((HH.out.ks HO.out).mapd blkI) x (kk : Int) (q2.canon KI)] at q2
      exact (show ∃ w4, (Instr.mapUpdate 63 (.map (some h.bc)) (.int .i64 x) (.pointer (some ⟨kk, 0, none⟩))).run Try.prog w' = .ok () w4 ∧ w4.ownsMap (H := Unit) Try.prog 3 ptrRn h.bc 5001 (mD (putP (mapV blkI h.xs) x (kk : Int))) ∧ w'.grownBy w4 (some h.bc) from ⟨w4, q1, q2, q3⟩))
    have hN2 : (x :: tl).length = N := HN.out.symm
    rw [hN2]
    have A1 := Lib.hid a1
    have A2 := Lib.hid a2
    have HRR := Lib.hid (And.intro k1 (And.intro hrr hrl))
    clear a1 a2 hrr hr2 hr3 hr4 hr k1 k2 a3 hN2
    go_wp2
    refine wp_region_held_drew (S := fun w' => Upd (fun i => i = h.bc) w1 w') (by kernel_rfl) (Upd.refl _ _).drew (fun hS => ?_)
    refine take_first (i := 0) (some 27) (v := ?_) rfl rfl (by kernel_rfl) (by kernel_rfl) (by kernel_rfl) (fun _ _ _ h => h) (Or.inl ⟨by rfl, ?_⟩) hS ?_
    rotate_left
    · intro w' hSw; go_simp; try with_reducible rfl
    try simp only [Act.put, List.setIfInBounds_toArray, List.set_cons_zero, List.set_cons_succ]
    refine take_first (i := 1) (some 28) (v := ?_) rfl rfl (by kernel_rfl) (by kernel_rfl) (by kernel_rfl) (fun _ _ _ h => h) (Or.inl ⟨by rfl, ?_⟩) hS ?_
    rotate_left
    · intro w' hSw; go_simp; try with_reducible rfl
    try simp only [Act.put, List.setIfInBounds_toArray, List.set_cons_zero, List.set_cons_succ]
    refine take_first (i := 2) (some 29) (v := ?_) rfl rfl (by kernel_rfl) (by kernel_rfl) (by kernel_rfl) (fun _ _ _ h => h) (Or.inl ⟨by rfl, ?_⟩) hS ?_
    rotate_left
    · intro w' hSw; go_simp; try with_reducible rfl
    try simp only [Act.put, List.setIfInBounds_toArray, List.set_cons_zero, List.set_cons_succ]
    refine take_first (i := 3) (some 30) (v := ?_) rfl rfl (by kernel_rfl) (by kernel_rfl) (by kernel_rfl) (fun _ _ _ h => h) (Or.inl ⟨by rfl, ?_⟩) hS ?_
    rotate_left
    · intro w' hSw; have d1 := hSw.cell D1 HNE.out; have dx := hSw.cell DX.out.1 DX.out.2; go_simp; try with_reducible rfl
    try simp only [Act.put, List.setIfInBounds_toArray, List.set_cons_zero, List.set_cons_succ]
    refine take_first (i := 4) (some 31) (v := ?_) rfl rfl (by kernel_rfl) (by kernel_rfl) (by kernel_rfl) (fun _ _ _ h => h) (Or.inl ⟨by rfl, ?_⟩) hS ?_
    rotate_left
    · intro w' hSw; go_simp; try with_reducible rfl
    try simp only [Act.put, List.setIfInBounds_toArray, List.set_cons_zero, List.set_cons_succ]
    refine take_first (i := 5) (some 32) (v := ?_) rfl rfl (by kernel_rfl) (by kernel_rfl) (by kernel_rfl) (fun _ _ _ h => h) (Or.inl ⟨by rfl, ?_⟩) hS ?_
    rotate_left
    · intro w' hSw; go_simp; try with_reducible rfl
    try simp only [Act.put, List.setIfInBounds_toArray, List.set_cons_zero, List.set_cons_succ]
    refine take_first (i := 6) (some 33) (v := ?_) rfl rfl (by kernel_rfl) (by kernel_rfl) (by kernel_rfl) (fun _ _ _ h => h) (Or.inl ⟨by rfl, ?_⟩) hS ?_
    rotate_left
    · intro w' hSw; have d1 := hSw.cell D1 HNE.out; have dx := hSw.cell DX.out.1 DX.out.2; go_simp; try with_reducible rfl
    try simp only [Act.put, List.setIfInBounds_toArray, List.set_cons_zero, List.set_cons_succ]
    refine take_first (i := 7) (some 34) (v := ?_) rfl rfl (by kernel_rfl) (by kernel_rfl) (by kernel_rfl) (fun _ _ _ h => h) (Or.inl ⟨by rfl, ?_⟩) hS ?_
    rotate_left
    · intro w' hSw; go_simp; try with_reducible rfl
    try simp only [Act.put, List.setIfInBounds_toArray, List.set_cons_zero, List.set_cons_succ]
    refine wpAnyH_ready (rs := [8]) (by kernel_rfl) (by simp) ?_
    refine AllReadyH.cons rfl (fun K hK => ?_) AllReadyH.nil
    refine step_fn (some 35) rfl (by rfl) 35 clonei_enters #[.tmp 34] #[26] rfl #[.slice (some ⟨r, off, none⟩) N cap] rfl (fun v w2 => w2.ownsRow w1.heap.size 3 1 v (x :: tl).length ((x :: tl).map (Value.int .i64)) ∧ Upd (fun _ => False) w1 w2) (by
      have HQ := HCL.out _ hS
      rw [← HN.out] at HQ
      refine HQ.mono ?_
      rintro e w2 ⟨v', rfl, k1, k2⟩
      exact ⟨_, rfl, k1, k2.of_drew⟩) ?_
    rintro vc w2 ⟨k1, u2⟩
    refine hK.out _ _ (u2.mono (fun _ _ f => f.elim)) (fun _ => ?_)
    clear hS; have hS : Upd (fun i => i = h.bc) w1 w2 := u2.mono (fun _ _ f => f.elim); obtain ⟨rc, hrc, hrcl, hrcb⟩ := IntRow.of_owns k1 (by simp); obtain ⟨ad2, cap2, rfl⟩ := own_form k1
    clear hK K
    try simp only [Act.put, List.setIfInBounds_toArray, List.set_cons_zero, List.set_cons_succ]
    refine take_first (i := 9) (some 36) (v := ?_) rfl rfl (by kernel_rfl) (by kernel_rfl) (by kernel_rfl) (fun _ _ _ h => h) (Or.inl ⟨by rfl, ?_⟩) hS ?_
    rotate_left
    · intro w' hSw; go_simp; try with_reducible rfl
    try simp only [Act.put, List.setIfInBounds_toArray, List.set_cons_zero, List.set_cons_succ]
    refine wpAnyH_ready (rs := [10]) (by kernel_rfl) (by simp) ?_
    refine AllReadyH.cons rfl (fun K hK => ?_) AllReadyH.nil
    go_simp
    refine hK.out _ _ ((u2.alloc _).mono (fun _ _ f => f.elim)) (fun _ => ?_)
    clear hS; have u3 := u2.alloc (.cells #[.slice ad2 (x :: tl).length cap2, .int .i64 1, .bool false] 71); have hS : Upd (fun i => i = h.bc) w1 _ := u3.mono (fun _ _ f => f.elim)
    clear hK K
    try simp only [Act.put, List.setIfInBounds_toArray, List.set_cons_zero, List.set_cons_succ]
    refine wpAnyH_ready (rs := [11]) (by kernel_rfl) (by simp) ?_
    refine AllReadyH.cons rfl (fun K hK => ?_) AllReadyH.nil
    obtain ⟨w4, hr4, ho4, hg4⟩ := HUP.out _ u3 w2.heap.size
    refine step_update rfl (by rfl) 63 (.tmp 30) (.tmp 33) (.tmp 37) rfl (.map (some h.bc)) (.int .i64 x) (.pointer (some ⟨w2.heap.size, 0, none⟩)) rfl rfl rfl hr4 ?_
    have u4 := hS.grown hg4 (fun i e _ => by cases e; rfl)
    refine hK.out _ _ u4 (fun _ => ?_)
    clear hS; have hS := u4
    clear hK K
    try simp only [Act.put, List.setIfInBounds_toArray, List.set_cons_zero, List.set_cons_succ]
    refine wpAnyH_done (by kernel_rfl) ?_ _
    go_wp2
    go_ret2
    have hb4 : w4.heap[w2.heap.size]? = some (.cells #[.slice ad2 (x :: tl).length cap2, .int .i64 1, .bool false] 71 (0, 0)) := grown_heap hg4 (heap_alloc_new w2 _) (by have := (lt_of_map A1.out.chains); have := u2.size; dsimp only at *; simp; omega)
    have hrc4 : IntRow w4 (.slice ad2 (x :: tl).length cap2) rc (x :: tl) := by
      have h3 := hrc.upd ((Upd.refl (fun _ => False) w2).alloc (.cells #[.slice ad2 (x :: tl).length cap2, .int .i64 1, .bool false] 71)) (fun f => f)
      obtain ⟨o1, o2, o3, o4, o5, o6⟩ := h3
      exact ⟨o1, o2, o3, o4, grown_heap hg4 o5 (by have := (lt_of_map A1.out.chains); dsimp only at *; simp; omega), o6⟩
    refine ⟨.slice (some ⟨r, off, none⟩) N cap, rfl, ?_, ⟨_, A1.out.newchain HOK0.out hXN.out hS (by have := A2.out.size; omega) u2.size hrcl ⟨_, hb4, hrc4⟩ ho4⟩, HOK.out, ?_⟩
    · have h5 := HRR.out.1
      rw [← HN.out] at h5
      rw [show tl.length + 1 = N from HN.out.symm]
      exact hS.owns h5 (fun i e f => by simp [Value.ownBlock] at e; exact DX.out.2 (e.trans f))
    · refine (A2.out.mono (fun i _ e => ?_)).trans hS (fun i _ e => .inr (.inr (.inl e)))
      exact e.elim .inl (fun e => .inr (.inl e))
theorem at_Alloc {lo : Nat} {w : World} {b : Nat} {s : AlS} {h : AlB} (H : AlAt lo w b s h) (ok : AlOk s) (hlo : lo ≤ w.heap.size) (k : Int) :
    Calls Try.prog 9 #[.pointer (some ⟨b, 0, none⟩), .int .i64 k] w (AllocP lo w b h (allocA s k)) := by
  by_cases he : (takeA s.free k).2.1 = 0
  · exact alloc_yes H ok hlo k he
  · have := alloc_no H ok hlo k he
    unfold allocA
    rw [if_neg he]
    exact this

end Go.Proofs.Ytieohjibccjliaa
