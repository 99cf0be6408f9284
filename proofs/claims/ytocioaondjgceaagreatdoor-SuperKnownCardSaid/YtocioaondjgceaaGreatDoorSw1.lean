/- super.Choose over a fuse that holds. -/
import Derived.Test.YtocioaondjgceaaGreatDoorSw0
import Derived.Test.YtocioaondjgceaaGreatDoorDev7
set_option linter.unusedVariables false
set_option linter.unusedSimpArgs false
namespace Go.Proofs.YtocioaondjgceaaGreatDoor
open Go.RowKit Go.Maps

noncomputable def pickE (t : List UInt8) (i : Nat) (n : Int) : Sp.Sup := if (Sp.take t).2 = 0 ∧ (Sp.take t).1.gen % 2 = i ∧ (Sp.take t).1.sectors = n then (Sp.take t).1 else Sp.zero
noncomputable def chooseE (t0 t1 : List UInt8) (n : Int) : Sp.Sup × Int := if (pickE t1 1 n).gen < (pickE t0 0 n).gen then (pickE t0 0 n, 0) else if 0 < (pickE t1 1 n).gen then (pickE t1 1 n, 0) else (Sp.zero, 5)
def bothV (x y : Sp.Sup) : List Value := [.int .u64 x.gen, .int .u64 x.calls, .int .i64 x.root, .int .i64 x.table, .int .i64 x.sectors, .int .u64 y.gen, .int .u64 y.calls, .int .i64 y.root, .int .i64 y.table, .int .i64 y.sectors]
def sup5 (x : Sp.Sup) : List Value := [.int .u64 x.gen, .int .u64 x.calls, .int .i64 x.root, .int .i64 x.table, .int .i64 x.sectors]
theorem info_sup : (Tryz.prog.info? 25).map (·.size) = some 5 := by kernel_rfl
theorem take_gen (t : List UInt8) : (Sp.take t).1.gen < 18446744073709551616 := by
  rcases Sp.take_cases t with ⟨f, _, e⟩ | ⟨y, e, hg, _⟩
  · rw [e]; show (0 : Nat) < 18446744073709551616; decide
  · rw [e]; exact hg

/-- what is loaded of both -/
theorem load_both {w : World} {g : Nat} {x y : Sp.Sup} {t : TypeId} {fr : Nat × Nat} (h : w.heap[g]? = some (.cells (bothV x y).toArray t fr)) :
    (loadVar 25 ⟨g, 0, none⟩).run Tryz.prog w = .ok (supV x) w ∧ (loadVar 25 ⟨g, 5, none⟩).run Tryz.prog w = .ok (supV y) w := by
  constructor
  · exact run_load_sub (P := Tryz.prog) w g 0 t 25 (bothV x y).toArray fr _ (sup5 x) h Tryz.underlying25 rfl info_sup (fun j v hj => by
      have hl : j < 5 := (List.getElem?_eq_some_iff.1 hj).1
      rw [Nat.zero_add, List.getElem?_toArray, ← hj]
      match j, hl with
      | 0, _ => rfl
      | 1, _ => rfl
      | 2, _ => rfl
      | 3, _ => rfl
      | 4, _ => rfl)
  · exact run_load_sub (P := Tryz.prog) w g 5 t 25 (bothV x y).toArray fr _ (sup5 y) h Tryz.underlying25 rfl info_sup (fun j v hj => by
      have hl : j < 5 := (List.getElem?_eq_some_iff.1 hj).1
      rw [List.getElem?_toArray, ← hj]
      match j, hl with
      | 0, _ => rfl
      | 1, _ => rfl
      | 2, _ => rfl
      | 3, _ => rfl
      | 4, _ => rfl)
theorem store_both {w : World} {g : Nat} {x y z : Sp.Sup} {t : TypeId} (h : w.heap[g]? = some (.cells (bothV x y).toArray t (0, 0))) :
    (∃ w', (storeVar 25 ⟨g, 0, none⟩ (supV z)).run Tryz.prog w = .ok () w' ∧ w'.heap[g]? = some (.cells (bothV z y).toArray t (0, 0)) ∧ Upd (fun i => i = g) w w') ∧
    (∃ w', (storeVar 25 ⟨g, 5, none⟩ (supV z)).run Tryz.prog w = .ok () w' ∧ w'.heap[g]? = some (.cells (bothV x z).toArray t (0, 0)) ∧ Upd (fun i => i = g) w w') := by
  have h1 : ∀ v ∈ sup5 z, v.oneCell' = true := by intro v hv; simp [sup5] at hv; rcases hv with rfl | rfl | rfl | rfl | rfl <;> rfl
  constructor
  · exact ⟨_, run_store_sub (P := Tryz.prog) w g 0 t 25 (bothV x y).toArray (sup5 z) h info_sup (by simp [sup5, bothV]) h1, by rw [setRow_at h]; rfl, (Upd.refl (fun i => i = g) w).setRow (fun _ => rfl) _⟩
  · exact ⟨_, run_store_sub (P := Tryz.prog) w g 5 t 25 (bothV x y).toArray (sup5 z) h info_sup (by simp [sup5, bothV]) h1, by rw [setRow_at h]; rfl, (Upd.refl (fun i => i = g) w).setRow (fun _ => rfl) _⟩

theorem load_one {w : World} {g : Nat} {x : Sp.Sup} {t : TypeId} {fr : Nat × Nat} (h : w.heap[g]? = some (.cells (sup5 x).toArray t fr)) : (loadVar 25 ⟨g, 0, none⟩).run Tryz.prog w = .ok (supV x) w :=
  run_load_sub (P := Tryz.prog) w g 0 t 25 (sup5 x).toArray fr _ (sup5 x) h Tryz.underlying25 rfl info_sup (fun j v hj => by rw [Nat.zero_add, List.getElem?_toArray, ← hj])
theorem quiet_l {P : Program} {f : FuncId} {args : Array Value} {w : World} {n : Nat} {v : Value} (h : Calls P f args (w.drewN n) fun e w' => e = .returned v ∧ w.drewN n = w') : Calls P f args (w.drewN n) fun e w' => e = .returned v ∧ ∃ m, w' = w.drewN m :=
  h.mono fun _ _ ⟨he, hm⟩ => ⟨he, n, hm.symm⟩
def NewS (wr w : World) (g : Nat) (x : Sp.Sup) : Prop := wr.heap.size ≤ g ∧ w.heap[g]? = some (.cells (sup5 x).toArray 25 (0, 0))
theorem alloc_sup (w : World) : (Instr.alloc 25 true (.tuple #[])).run Tryz.prog w = .ok (.pointer (some ⟨w.heap.size, 0, none⟩)) (w.alloc (.cells (sup5 Sp.zero).toArray 25)) := by
  have hz : (zeroValue 25).run Tryz.prog w = .ok (supV Sp.zero) w := by kernel_rfl
  simp only [Instr.alloc, Sem.run_bind, hz, Result.andThen_ok]
  rfl
theorem store_one {w : World} {g : Nat} {x z : Sp.Sup} {t : TypeId} (h : w.heap[g]? = some (.cells (sup5 x).toArray t (0, 0))) :
    ∃ w', (storeVar 25 ⟨g, 0, none⟩ (supV z)).run Tryz.prog w = .ok () w' ∧ w'.heap[g]? = some (.cells (sup5 z).toArray t (0, 0)) ∧ Upd (fun i => i = g) w w' := by
  have h1 : ∀ v ∈ sup5 z, v.oneCell' = true := by intro v hv; simp [sup5] at hv; rcases hv with rfl | rfl | rfl | rfl | rfl <;> rfl
  exact ⟨_, run_store_sub (P := Tryz.prog) w g 0 t 25 (sup5 x).toArray (sup5 z) h info_sup (by simp [sup5]) h1, by rw [setRow_at h]; rfl, (Upd.refl (fun i => i = g) w).setRow (fun _ => rfl) _⟩
theorem step_alloc_sup {ops : Array Oper} {o : Oper} {a : Act} {wr w : World} {K : Act → World → Prop} {Q : Exit → Act → World → Prop} {E : Prop} (d : Option Tmp) (hd : o.dst = d) (hgd : o.guard = none) (ho : o.op = .alloc 25) (hu : Upd (fun _ => False) wr w)
    (h : ∀ g W, Upd (fun _ => False) wr W → NewS wr W g Sp.zero → (∀ j l, NewS wr w j l → j ≠ g ∧ NewS wr W j l) → K (a.put d (.pointer (some ⟨g, 0, none⟩))) W) :
    if Region.wanted o (yielded ops a.tmps) = true then Oper.wp Tryz.prog o a w K Q else E := by
  have hw : Region.wanted o (yielded ops a.tmps) = true := by simp [Region.wanted, hgd]
  rw [if_pos hw]
  subst hd
  unfold Oper.wp execOp
  simp only [ho, Sem.run_bind, Sem.run_pure, Result.andThen_ok, alloc_sup w]
  refine h w.heap.size _ (hu.alloc _) ⟨hu.size, heap_alloc_new _ _⟩ (fun j l hj => ⟨fun e => ?_, hj.1, heap_alloc_lt hj.2 _⟩)
  have := lt_of_heap hj.2
  omega
theorem step_store_sup {ops : Array Oper} {o : Oper} {a : Act} {wr w : World} {K : Act → World → Prop} {Q : Exit → Act → World → Prop} {E : Prop} (hd : o.dst = none) (hgd : o.guard = none) (x y : Operand) (ho : o.op = .store 25 x y) (hu : Upd (fun _ => False) wr w)
    (g : Nat) (l0 l : Sp.Sup) (hg : NewS wr w g l0) (hx : a.eval x = .pointer (some ⟨g, 0, none⟩)) (hy : a.eval y = supV l)
    (h : ∀ W, Upd (fun _ => False) wr W → NewS wr W g l → (∀ j l, j ≠ g → NewS wr w j l → NewS wr W j l) → K a W) :
    if Region.wanted o (yielded ops a.tmps) = true then Oper.wp Tryz.prog o a w K Q else E := by
  obtain ⟨w', hr, hg', hu'⟩ := store_one (z := l) hg.2
  refine step_store_by hgd 25 x y ho ⟨g, 0, none⟩ hx (supV l) hy hr ?_
  rw [hd]
  exact h _ (hu.trans hu' (fun i hi e => by have := hg.1; omega)) ⟨hg.1, hg'⟩ (fun j l2 hne hj => ⟨hj.1, hu'.heap hj.2 hne⟩)
theorem results_sup {fn : Func} {p q : Tmp} (h : fn.results = #[.cell p 25, .tmp q]) (tmps : Array Value) (w : World) (g : Nat) (z : Sp.Sup) (hp : tmps.getD p undef = .pointer (some ⟨g, 0, none⟩)) (hg : (loadVar 25 ⟨g, 0, none⟩).run Tryz.prog w = .ok (supV z) w) :
    (results fn tmps).run Tryz.prog w = .ok (.tuple #[supV z, tmps.getD q undef]) w := by
  have hp' : tmps[p]?.getD undef = .pointer (some ⟨g, 0, none⟩) := by simpa using hp
  simp [results, h, hp', asAddr, hg]
def ChooseP (w : World) (r : Sp.Sup × Int) (e : Ending) (w' : World) : Prop := e = .returned (.tuple #[supV r.1, .int .i64 r.2]) ∧ Upd (fun _ => False) w w'
set_option maxHeartbeats 8000000 in
set_option maxRecDepth 100000 in
theorem super_Choose {w : World} {bf b bs bm cap : Nat} {cad : Option Addr} {cc : Nat} {f : Fz} {d : List Dv.Cel} (h : FD w bf b bs bm cap cad cc f d) (hh : f.holding = true) (t0 t1 : List UInt8) (e0 : readE d 0 = (t0, 0)) (e1 : readE d 1 = (t1, 0)) (l0 : t0.length ≤ 1000000) (l1 : t1.length ≤ 1000000) :
    Calls Tryz.prog 13 #[.pointer (some ⟨bf, 0, none⟩)] w (ChooseP w (chooseE t0 t1 (d.length : Int))) := by
  obtain ⟨n, hn⟩ : ∃ n, n = d.length := ⟨_, rfl⟩
  have HR0 := Lib.hid (fun (W : World) (hu : Upd (fun _ => False) w W) => by have := fuse_Read (h.upd0 hu) 0; unfold Fz.readE at this; rw [if_pos hh, e0] at this; exact this)
  have HR1 := Lib.hid (fun (W : World) (hu : Upd (fun _ => False) w W) => by have := fuse_Read (h.upd0 hu) 1; unfold Fz.readE at this; rw [if_pos hh, e1] at this; exact this)
  have HT0 := Lib.hid (fun W => sup_Take t0 W l0)
  have HT1 := Lib.hid (fun W => sup_Take t1 W l1)
  have HDv := Lib.hid (fun (W : World) (hu : Upd (fun _ => False) w W) => fuse_Device (h.upd0 hu))
  have HSe := Lib.hid (fun (W : World) (hu : Upd (fun _ => False) w W) => dev_Sectors (h.upd0 hu).dev)
  rw [← hn] at HSe ⊢
  have G0 := take_gen t0
  have G1 := take_gen t1
  unfold chooseE pickE
  generalize Sp.take t0 = T0 at HT0 G0 ⊢
  generalize Sp.take t1 = T1 at HT1 G1 ⊢
  obtain ⟨x0, c0⟩ := T0
  obtain ⟨x1, c1⟩ := T1
  dsimp only at *
  change Hid (∀ W, Calls _ _ _ W (fun e w' => e = .returned (.tuple #[.agg #[.int .u64 (x0.gen : Nat), .int .u64 (x0.calls : Nat), .int .i64 x0.root, .int .i64 x0.table, .int .i64 x0.sectors], .int .i64 c0]) ∧ Upd (fun _ => False) W w')) at HT0
  change Hid (∀ W, Calls _ _ _ W (fun e w' => e = .returned (.tuple #[.agg #[.int .u64 (x1.gen : Nat), .int .u64 (x1.calls : Nat), .int .i64 x1.root, .int .i64 x1.table, .int .i64 x1.sectors], .int .i64 c1]) ∧ Upd (fun _ => False) W w')) at HT1
  have HS0 := Lib.hid (fun W => sup_Slot x0.gen W G0)
  have HS1 := Lib.hid (fun W => sup_Slot x1.gen W G1)
  obtain ⟨A, hA⟩ : ∃ A, A = if c0 = 0 ∧ x0.gen % 2 = 0 ∧ x0.sectors = (n : Int) then x0 else Sp.zero := ⟨_, rfl⟩
  obtain ⟨Bq, hBq⟩ : ∃ Bq, Bq = if c1 = 0 ∧ x1.gen % 2 = 1 ∧ x1.sectors = (n : Int) then x1 else Sp.zero := ⟨_, rfl⟩
  rw [← hA, ← hBq]
  obtain ⟨R, hR⟩ : ∃ R, R = if Bq.gen < A.gen then (A, (0 : Int)) else if 0 < Bq.gen then (Bq, 0) else (Sp.zero, 5) := ⟨_, rfl⟩
  rw [← hR]
  have HRes := Lib.hid hR
  clear hR
  have HA := Lib.hid hA
  have HBq := Lib.hid hBq
  clear hA hBq h e0 e1 hn
  obtain ⟨q0, hq0⟩ : ∃ q0, q0 = x0.gen % 2 := ⟨_, rfl⟩
  obtain ⟨q1, hq1⟩ : ∃ q1, q1 = x1.gen % 2 := ⟨_, rfl⟩
  rw [← hq0] at HS0 HA
  rw [← hq1] at HS1 HBq
  clear hq0 hq1
  obtain ⟨Q0, hQ0⟩ : ∃ Q0 : Int, Q0 = (q0 : Int) := ⟨_, rfl⟩
  obtain ⟨Q1, hQ1⟩ : ∃ Q1 : Int, Q1 = (q1 : Int) := ⟨_, rfl⟩
  rw [← hQ0] at HS0
  rw [← hQ1] at HS1
  have HQ0 := Lib.hid hQ0
  have HQ1 := Lib.hid hQ1
  clear hQ0 hQ1
  obtain ⟨N, hN⟩ : ∃ N : Int, N = (n : Int) := ⟨_, rfl⟩
  rw [← hN] at HSe HA HBq
  clear hN
  have u1 : Upd (fun _ => False) w ((w.alloc (.cells (sup5 Sp.zero).toArray 25)).alloc (.cells (bothV Sp.zero Sp.zero).toArray 71)) := ((Upd.refl _ w).alloc _).alloc _
  have HU1 := Lib.hid u1
  have HB1 := Lib.hid (heap_alloc_new2 w (.cells (sup5 Sp.zero).toArray 25) (.cells (bothV Sp.zero Sp.zero).toArray 71))
  clear u1
  go_enter Tryz.func13, Tryz.ntmps13
  go_wp2
  go_loopw [11] (fun i wr => ∃ k : Nat, k ≤ 2 ∧ i = .int .i64 k ∧ wr.heap[w.heap.size + 1]? = some (.cells (bothV (if 0 < k then A else Sp.zero) (if 1 < k then Bq else Sp.zero)).toArray 71 (0, 0)) ∧ Upd (fun i => i = w.heap.size + 1) (w.alloc (.cells (sup5 Sp.zero).toArray 25)) wr) (fun i _ => 2 - (intOf i).toNat)
  case atStart => exact ⟨0, by omega, rfl, HB1.out, (Upd.refl _ _).alloc _⟩
  case round =>
    obtain ⟨k, hk, rfl, hb, hu⟩ := hrel
    have HB := Lib.hid hb
    have HUr := Lib.hid hu
    have HW0 : Hid (Upd (fun _ => False) w wr) := Lib.hid (((Upd.refl (fun _ => False) w).alloc (.cells (sup5 Sp.zero).toArray 25)).trans hu (fun i hi e => by omega))
    clear hb hu
    rcases Nat.lt_or_ge k 1 with hk1 | hk1
    · obtain rfl : k = 0 := by omega
      have hHX := HA.out
      go_wp2_with (fail)
      refine (HR0.out _ HW0.out).mono ?_
      rintro e w2 ⟨rfl, u2⟩
      go_wp2_with (fail)
      refine (HT0.out _).mono ?_
      rintro e w3 ⟨rfl, u3⟩
      have HW3 := Lib.hid ((HW0.out.trans u2 (fun _ _ f => f)).trans u3 (fun _ _ f => f))
      have HB3 := Lib.hid (u3.heap (u2.heap HB.out (fun f => f)) (fun f => f))
      have HU3 := Lib.hid ((HUr.out.trans u2 (fun _ _ f => f.elim)).trans u3 (fun _ _ f => f.elim))
      clear u2 u3
      have u4 : Upd (fun _ => False) (w3.alloc (.cells (sup5 x0).toArray 25)) (w3.alloc (.cells (sup5 x0).toArray 25)).drew := (Upd.refl _ _).drew
      have HNew := Lib.hid (heap_alloc_new w3 (.cells (sup5 x0).toArray 25))
      have hb4 := cell_heap (heap_drew (heap_alloc_new w3 (.cells (sup5 x0).toArray 25))) 0 (.int .u64 x0.gen) rfl
      have hb5 := cell_heap (heap_drew (heap_alloc_new w3 (.cells (sup5 x0).toArray 25))) 4 (.int .i64 x0.sectors) rfl
      by_cases hc : c0 = 0
      · by_cases hg : q0 = 0
        · by_cases hs : x0.sectors = N
          · rw [if_pos ⟨hc, hg, hs⟩] at hHX
            have t1 : (c0 == 0) = true := by simpa using hc
            have t2 : (Q0 == 0) = true := by have := HQ0.out; simp; omega
            have t3 : (x0.sectors == N) = true := by simpa using hs
            have HHX := Lib.hid hHX
            clear hHX
            try clear hs
            try clear hg
            try clear hc
            go_wp2
            go_region_held3 (fun w' => w'.cell? ⟨w3.heap.size, 0, none⟩ = some (.int .u64 x0.gen) ∧ w'.cell? ⟨w3.heap.size, 4, none⟩ = some (.int .i64 x0.sectors) ∧ Upd (fun _ => False) (w3.alloc (.cells (sup5 x0).toArray 25)) w')
              (first
                | exact ⟨hb4, hb5, u4⟩
                | (have h := ‹_ ∧ _ ∧ Upd _ _ _›; exact h))
              (first
                | (go_at_call 29; refine (HS0.out _).mono ?_; rintro e wz ⟨rfl, rfl⟩)
                | (go_at_call 31; have h := ‹_ ∧ _ ∧ Upd _ _ _›; refine (HDv.out _ ((HW3.out.alloc _).trans h.2.2 (fun _ _ f => f))).mono ?_; rintro e wz ⟨rfl, rfl⟩)
                | (go_at_call 32; have h := ‹_ ∧ _ ∧ Upd _ _ _›; refine (HSe.out _ ((HW3.out.alloc _).trans h.2.2 (fun _ _ f => f))).mono ?_; rintro e wz ⟨rfl, rfl⟩))
            have hS := ‹_ ∧ _ ∧ Upd _ _ _›
            have hold := load_one (hS.2.2.heap HNew.out (fun f => f))
            obtain ⟨w5, hst, hb5, hu5⟩ := (store_both (z := x0) (show _ = some (Obj.cells (bothV Sp.zero Sp.zero).toArray 71 (0, 0)) from hS.2.2.heap (heap_alloc_lt HB3.out _) (fun f => f))).1
            have HLD := Lib.hid hold
            have HST := Lib.hid hst
            have HRel := Lib.hid (((HU3.out.alloc _).trans hS.2.2 (fun _ _ f => f.elim)).trans hu5 (fun _ _ e => e))
            clear hold hst hu5
            go_wp2_with (first
              | (refine wpList_load_by rfl 25 (.tmp 8) rfl ⟨w3.heap.size, 0, none⟩ rfl _ HLD.out ?_)
              | (refine wpList_store_by rfl 25 (.tmp 48) (.tmp 47) rfl ⟨w.heap.size + 1, 0, none⟩ rfl _ rfl HST.out ?_))
            go_roundw
            case rel => exact ⟨1, by omega, rfl, by rw [HHX.out]; exact hb5, HRel.out⟩
            case measure => simp [intOf]
          · rw [if_neg (fun h => hs h.2.2)] at hHX
            have t1 : (c0 == 0) = true := by simpa using hc
            have t2 : (Q0 == 0) = true := by have := HQ0.out; simp; omega
            have t3 : (x0.sectors == N) = false := by simpa using hs
            have HHX := Lib.hid hHX
            clear hHX
            try clear hs
            try clear hg
            try clear hc
            go_wp2
            go_region_held3 (fun w' => w'.cell? ⟨w3.heap.size, 0, none⟩ = some (.int .u64 x0.gen) ∧ w'.cell? ⟨w3.heap.size, 4, none⟩ = some (.int .i64 x0.sectors) ∧ Upd (fun _ => False) (w3.alloc (.cells (sup5 x0).toArray 25)) w')
              (first
                | exact ⟨hb4, hb5, u4⟩
                | (have h := ‹_ ∧ _ ∧ Upd _ _ _›; exact h))
              (first
                | (go_at_call 29; refine (HS0.out _).mono ?_; rintro e wz ⟨rfl, rfl⟩)
                | (go_at_call 31; have h := ‹_ ∧ _ ∧ Upd _ _ _›; refine (HDv.out _ ((HW3.out.alloc _).trans h.2.2 (fun _ _ f => f))).mono ?_; rintro e wz ⟨rfl, rfl⟩)
                | (go_at_call 32; have h := ‹_ ∧ _ ∧ Upd _ _ _›; refine (HSe.out _ ((HW3.out.alloc _).trans h.2.2 (fun _ _ f => f))).mono ?_; rintro e wz ⟨rfl, rfl⟩))
            have hS := ‹_ ∧ _ ∧ Upd _ _ _›
            go_wp2
            go_roundw
            case rel => exact ⟨1, by omega, rfl, by rw [HHX.out]; exact hS.2.2.heap (heap_alloc_lt HB3.out _) (fun f => f), (HU3.out.alloc _).trans hS.2.2 (fun _ _ f => f.elim)⟩
            case measure => simp [intOf]
        · rw [if_neg (fun h => hg h.2.1)] at hHX
          have t1 : (c0 == 0) = true := by simpa using hc
          have t2 : (Q0 == 0) = false := by have := HQ0.out; simp; omega
          have t2d : decide (Q0 = 0) = false := by have := HQ0.out; simp; omega
          have HHX := Lib.hid hHX
          clear hHX
          try clear hg
          try clear hc
          go_wp2
          go_quiet ((go_at_call 29; exact quiet_l (HS0.out _)))
          go_wp2
          go_roundw
          case rel => exact ⟨1, by omega, rfl, by rw [HHX.out]; exact heap_drewN (heap_alloc_lt HB3.out _) _, (HU3.out.alloc _).drewN _⟩
          case measure => simp [intOf]
      · rw [if_neg (fun h => hc h.1)] at hHX
        have t1 : (c0 == 0) = false := by simpa using hc
        have t1d : decide (c0 = 0) = false := by simpa using hc
        have HHX := Lib.hid hHX
        clear hHX
        try clear hg
        try clear hc
        go_wp2
        go_quiet (fail)
        go_wp2
        go_roundw
        case rel => exact ⟨1, by omega, rfl, by rw [HHX.out]; exact heap_drewN (heap_alloc_lt HB3.out _) _, (HU3.out.alloc _).drewN _⟩
        case measure => simp [intOf]
    rcases Nat.lt_or_ge k 2 with hk2 | hk2
    · obtain rfl : k = 1 := by omega
      have hHX := HBq.out
      go_wp2_with (fail)
      refine (HR1.out _ HW0.out).mono ?_
      rintro e w2 ⟨rfl, u2⟩
      go_wp2_with (fail)
      refine (HT1.out _).mono ?_
      rintro e w3 ⟨rfl, u3⟩
      have HW3 := Lib.hid ((HW0.out.trans u2 (fun _ _ f => f)).trans u3 (fun _ _ f => f))
      have HB3 := Lib.hid (u3.heap (u2.heap HB.out (fun f => f)) (fun f => f))
      have HU3 := Lib.hid ((HUr.out.trans u2 (fun _ _ f => f.elim)).trans u3 (fun _ _ f => f.elim))
      clear u2 u3
      have u4 : Upd (fun _ => False) (w3.alloc (.cells (sup5 x1).toArray 25)) (w3.alloc (.cells (sup5 x1).toArray 25)).drew := (Upd.refl _ _).drew
      have HNew := Lib.hid (heap_alloc_new w3 (.cells (sup5 x1).toArray 25))
      have hb4 := cell_heap (heap_drew (heap_alloc_new w3 (.cells (sup5 x1).toArray 25))) 0 (.int .u64 x1.gen) rfl
      have hb5 := cell_heap (heap_drew (heap_alloc_new w3 (.cells (sup5 x1).toArray 25))) 4 (.int .i64 x1.sectors) rfl
      by_cases hc : c1 = 0
      · by_cases hg : q1 = 1
        · by_cases hs : x1.sectors = N
          · rw [if_pos ⟨hc, hg, hs⟩] at hHX
            have t1 : (c1 == 0) = true := by simpa using hc
            have t2 : (Q1 == 1) = true := by have := HQ1.out; simp; omega
            have t3 : (x1.sectors == N) = true := by simpa using hs
            have HHX := Lib.hid hHX
            clear hHX
            try clear hs
            try clear hg
            try clear hc
            go_wp2
            go_region_held3 (fun w' => w'.cell? ⟨w3.heap.size, 0, none⟩ = some (.int .u64 x1.gen) ∧ w'.cell? ⟨w3.heap.size, 4, none⟩ = some (.int .i64 x1.sectors) ∧ Upd (fun _ => False) (w3.alloc (.cells (sup5 x1).toArray 25)) w')
              (first
                | exact ⟨hb4, hb5, u4⟩
                | (have h := ‹_ ∧ _ ∧ Upd _ _ _›; exact h))
              (first
                | (go_at_call 29; refine (HS1.out _).mono ?_; rintro e wz ⟨rfl, rfl⟩)
                | (go_at_call 31; have h := ‹_ ∧ _ ∧ Upd _ _ _›; refine (HDv.out _ ((HW3.out.alloc _).trans h.2.2 (fun _ _ f => f))).mono ?_; rintro e wz ⟨rfl, rfl⟩)
                | (go_at_call 32; have h := ‹_ ∧ _ ∧ Upd _ _ _›; refine (HSe.out _ ((HW3.out.alloc _).trans h.2.2 (fun _ _ f => f))).mono ?_; rintro e wz ⟨rfl, rfl⟩))
            have hS := ‹_ ∧ _ ∧ Upd _ _ _›
            have hold := load_one (hS.2.2.heap HNew.out (fun f => f))
            obtain ⟨w5, hst, hb5, hu5⟩ := (store_both (z := x1) (show _ = some (Obj.cells (bothV A Sp.zero).toArray 71 (0, 0)) from hS.2.2.heap (heap_alloc_lt HB3.out _) (fun f => f))).2
            have HLD := Lib.hid hold
            have HST := Lib.hid hst
            have HRel := Lib.hid (((HU3.out.alloc _).trans hS.2.2 (fun _ _ f => f.elim)).trans hu5 (fun _ _ e => e))
            clear hold hst hu5
            go_wp2_with (first
              | (refine wpList_load_by rfl 25 (.tmp 8) rfl ⟨w3.heap.size, 0, none⟩ rfl _ HLD.out ?_)
              | (refine wpList_store_by rfl 25 (.tmp 48) (.tmp 47) rfl ⟨w.heap.size + 1, 5, none⟩ rfl _ rfl HST.out ?_))
            go_roundw
            case rel => exact ⟨2, by omega, rfl, by rw [HHX.out]; exact hb5, HRel.out⟩
            case measure => simp [intOf]
          · rw [if_neg (fun h => hs h.2.2)] at hHX
            have t1 : (c1 == 0) = true := by simpa using hc
            have t2 : (Q1 == 1) = true := by have := HQ1.out; simp; omega
            have t3 : (x1.sectors == N) = false := by simpa using hs
            have HHX := Lib.hid hHX
            clear hHX
            try clear hs
            try clear hg
            try clear hc
            go_wp2
            go_region_held3 (fun w' => w'.cell? ⟨w3.heap.size, 0, none⟩ = some (.int .u64 x1.gen) ∧ w'.cell? ⟨w3.heap.size, 4, none⟩ = some (.int .i64 x1.sectors) ∧ Upd (fun _ => False) (w3.alloc (.cells (sup5 x1).toArray 25)) w')
              (first
                | exact ⟨hb4, hb5, u4⟩
                | (have h := ‹_ ∧ _ ∧ Upd _ _ _›; exact h))
              (first
                | (go_at_call 29; refine (HS1.out _).mono ?_; rintro e wz ⟨rfl, rfl⟩)
                | (go_at_call 31; have h := ‹_ ∧ _ ∧ Upd _ _ _›; refine (HDv.out _ ((HW3.out.alloc _).trans h.2.2 (fun _ _ f => f))).mono ?_; rintro e wz ⟨rfl, rfl⟩)
                | (go_at_call 32; have h := ‹_ ∧ _ ∧ Upd _ _ _›; refine (HSe.out _ ((HW3.out.alloc _).trans h.2.2 (fun _ _ f => f))).mono ?_; rintro e wz ⟨rfl, rfl⟩))
            have hS := ‹_ ∧ _ ∧ Upd _ _ _›
            go_wp2
            go_roundw
            case rel => exact ⟨2, by omega, rfl, by rw [HHX.out]; exact hS.2.2.heap (heap_alloc_lt HB3.out _) (fun f => f), (HU3.out.alloc _).trans hS.2.2 (fun _ _ f => f.elim)⟩
            case measure => simp [intOf]
        · rw [if_neg (fun h => hg h.2.1)] at hHX
          have t1 : (c1 == 0) = true := by simpa using hc
          have t2 : (Q1 == 1) = false := by have := HQ1.out; simp; omega
          have t2d : decide (Q1 = 1) = false := by have := HQ1.out; simp; omega
          have HHX := Lib.hid hHX
          clear hHX
          try clear hg
          try clear hc
          go_wp2
          go_quiet ((go_at_call 29; exact quiet_l (HS1.out _)))
          go_wp2
          go_roundw
          case rel => exact ⟨2, by omega, rfl, by rw [HHX.out]; exact heap_drewN (heap_alloc_lt HB3.out _) _, (HU3.out.alloc _).drewN _⟩
          case measure => simp [intOf]
      · rw [if_neg (fun h => hc h.1)] at hHX
        have t1 : (c1 == 0) = false := by simpa using hc
        have t1d : decide (c1 = 0) = false := by simpa using hc
        have HHX := Lib.hid hHX
        clear hHX
        try clear hg
        try clear hc
        go_wp2
        go_quiet (fail)
        go_wp2
        go_roundw
        case rel => exact ⟨2, by omega, rfl, by rw [HHX.out]; exact heap_drewN (heap_alloc_lt HB3.out _) _, (HU3.out.alloc _).drewN _⟩
        case measure => simp [intOf]
    obtain rfl : k = 2 := by omega
    have HBA : Hid (wr.heap[w.heap.size + 1]? = some (.cells (bothV A Bq).toArray 71 (0, 0))) := HB
    go_wp2
    refine wp_region_held_drew (S := fun w' => Upd (fun _ => False) wr w') (by kernel_rfl) (Upd.refl _ _).drew (fun hS => ?_)
    refine take_first (i := 0) (some 50) (v := ?_) rfl rfl (by kernel_rfl) (by kernel_rfl) (by kernel_rfl) (fun _ _ _ h => h) (Or.inl ⟨by rfl, ?_⟩) hS ?_
    rotate_left
    · intro w hSw; go_simp; try with_reducible rfl
    simp only [Act.put, List.setIfInBounds_toArray, List.set_cons_zero, List.set_cons_succ]
    refine take_first (i := 1) (some 51) rfl rfl (by kernel_rfl) (by kernel_rfl) (by kernel_rfl) (fun _ _ _ h => h) (yi_load rfl 25 (.tmp 50) rfl ⟨w.heap.size + 1, 0, none⟩ rfl (supV A) (fun w hw => (load_both (hw.heap HBA.out (fun f => f))).1)) hS ?_
    simp only [Act.put, List.setIfInBounds_toArray, List.set_cons_zero, List.set_cons_succ]
    refine take_first (i := 2) (some 52) (v := ?_) rfl rfl (by kernel_rfl) (by kernel_rfl) (by kernel_rfl) (fun _ _ _ h => h) (Or.inl ⟨by rfl, ?_⟩) hS ?_
    rotate_left
    · intro w hSw; go_simp; try with_reducible rfl
    simp only [Act.put, List.setIfInBounds_toArray, List.set_cons_zero, List.set_cons_succ]
    refine take_first (i := 3) (some 53) rfl rfl (by kernel_rfl) (by kernel_rfl) (by kernel_rfl) (fun _ _ _ h => h) (yi_load rfl 25 (.tmp 52) rfl ⟨w.heap.size + 1, 5, none⟩ rfl (supV Bq) (fun w hw => (load_both (hw.heap HBA.out (fun f => f))).2)) hS ?_
    simp only [Act.put, List.setIfInBounds_toArray, List.set_cons_zero, List.set_cons_succ]
    refine two_new (fun pa pb W => NewS wr W pa A ∧ NewS wr W pb Bq ∧ pa ≠ pb ∧ Upd (fun _ => False) wr W) (some 9) (some 10) ?_ (fun hc => ?_)
    rotate_left
    · refine wpAnyH_ready (rs := [4, 5]) (by kernel_rfl) (by simp) ?_
      refine AllReadyH.cons rfl (fun K hK => ?_) ?_
      · refine step_alloc_sup (some 9) rfl rfl rfl hS (fun pa W1 u1 n1 k1 => hK.out _ _ u1 (fun _ => ?_))
        clear hK K
        simp only [Act.put, List.setIfInBounds_toArray, List.set_cons_zero, List.set_cons_succ]
        refine wpAnyH_ready (rs := [5]) (by kernel_rfl) (by simp) ?_
        refine AllReadyH.cons rfl (fun K hK => ?_) AllReadyH.nil
        refine step_alloc_sup (some 10) rfl rfl rfl u1 (fun pb W2 u2 n2 k2 => hK.out _ _ u2 (fun _ => ?_))
        clear hK K
        obtain ⟨ne2, o2⟩ := k2 _ _ n1
        simp only [Act.put, List.setIfInBounds_toArray, List.set_cons_zero, List.set_cons_succ]
        refine wpAnyH_ready (rs := [6]) (by kernel_rfl) (by simp) ?_
        refine AllReadyH.cons rfl (fun K hK => ?_) AllReadyH.nil
        refine step_store_sup rfl rfl (.tmp 9) (.tmp 51) rfl u2 pa Sp.zero A o2 rfl rfl (fun W3 u3 n3 k3 => hK.out _ _ u3 (fun _ => ?_))
        clear hK K
        have o3 := k3 _ _ (Ne.symm ne2) n2
        refine wpAnyH_ready (rs := [7]) (by kernel_rfl) (by simp) ?_
        refine AllReadyH.cons rfl (fun K hK => ?_) AllReadyH.nil
        refine step_store_sup rfl rfl (.tmp 10) (.tmp 53) rfl u3 pb Sp.zero Bq o3 rfl rfl (fun W4 u4 n4 k4 => hK.out _ _ u4 (fun _ => ?_))
        clear hK K
        have o4 := k4 _ _ ne2 n3
        refine wpAnyH_done (by kernel_rfl) ?_ _
        exact hc pa pb _ ⟨o4, n4, ne2, u4⟩
      refine AllReadyH.cons rfl (fun K hK => ?_) AllReadyH.nil
      refine step_alloc_sup (some 10) rfl rfl rfl hS (fun pb W1 u1 n1 k1 => hK.out _ _ u1 (fun _ => ?_))
      clear hK K
      simp only [Act.put, List.setIfInBounds_toArray, List.set_cons_zero, List.set_cons_succ]
      refine wpAnyH_ready (rs := [4]) (by kernel_rfl) (by simp) ?_
      refine AllReadyH.cons rfl (fun K hK => ?_) AllReadyH.nil
      refine step_alloc_sup (some 9) rfl rfl rfl u1 (fun pa W2 u2 n2 k2 => hK.out _ _ u2 (fun _ => ?_))
      clear hK K
      obtain ⟨ne2, o2⟩ := k2 _ _ n1
      simp only [Act.put, List.setIfInBounds_toArray, List.set_cons_zero, List.set_cons_succ]
      refine wpAnyH_ready (rs := [6]) (by kernel_rfl) (by simp) ?_
      refine AllReadyH.cons rfl (fun K hK => ?_) AllReadyH.nil
      refine step_store_sup rfl rfl (.tmp 9) (.tmp 51) rfl u2 pa Sp.zero A n2 rfl rfl (fun W3 u3 n3 k3 => hK.out _ _ u3 (fun _ => ?_))
      clear hK K
      have o3 := k3 _ _ ne2 o2
      refine wpAnyH_ready (rs := [7]) (by kernel_rfl) (by simp) ?_
      refine AllReadyH.cons rfl (fun K hK => ?_) AllReadyH.nil
      refine step_store_sup rfl rfl (.tmp 10) (.tmp 53) rfl u3 pb Sp.zero Bq o3 rfl rfl (fun W4 u4 n4 k4 => hK.out _ _ u4 (fun _ => ?_))
      clear hK K
      have o4 := k4 _ _ (Ne.symm ne2) n3
      refine wpAnyH_done (by kernel_rfl) ?_ _
      exact hc pa pb _ ⟨o4, n4, Ne.symm ne2, u4⟩
    · rintro pa pb W ⟨na, nb, hne, uW⟩
      simp only [Act.put, List.setIfInBounds_toArray, List.set_cons_zero, List.set_cons_succ]
      have ca := cell_heap na.2 0 (.int .u64 A.gen) rfl
      have cb := cell_heap nb.2 0 (.int .u64 Bq.gen) rfl
      have hsz := HUr.out.size
      simp at hsz
      have hr0 : wr.heap[w.heap.size]? = some (.cells (sup5 Sp.zero).toArray 25 (0, 0)) := HUr.out.heap (heap_alloc_new w _) (fun e => by omega)
      have hrW := uW.heap hr0 (fun f => f)
      obtain ⟨wA, sA, gA, vA⟩ := store_one (z := A) hrW
      obtain ⟨wB, sB, gB, vB⟩ := store_one (z := Bq) hrW
      obtain ⟨wZ, sZ, gZ, vZ⟩ := store_one (z := Sp.zero) hrW
      have uW0 := HW0.out.trans uW (fun _ _ f => f)
      have SA := Lib.hid sA
      have SB := Lib.hid sB
      have SZ := Lib.hid sZ
      have LA := Lib.hid (load_one na.2)
      have LB := Lib.hid (load_one nb.2)
      have RA := Lib.hid (And.intro (load_one gA) (uW0.trans vA (fun i hi e => by omega)))
      have RB := Lib.hid (And.intro (load_one gB) (uW0.trans vB (fun i hi e => by omega)))
      have RZ := Lib.hid (And.intro (load_one gZ) (uW0.trans vZ (fun i hi e => by omega)))
      clear na nb hne uW hr0 hrW sA gA vA sB gB vB sZ gZ vZ uW0 hsz hS
      obtain ⟨ga, hga⟩ : ∃ ga, ga = A.gen := ⟨_, rfl⟩
      obtain ⟨gb, hgb⟩ : ∃ gb, gb = Bq.gen := ⟨_, rfl⟩
      rw [← hga] at ca HRes
      rw [← hgb] at cb HRes
      clear hga hgb
      by_cases h1 : gb < ga
      · have hR := HRes.out
        rw [if_pos h1] at hR
        have HR := Lib.hid hR
        clear hR
        have h1i : (gb : Int) < (ga : Int) := by omega
        go_wp2_with (first
          | (refine wpList_load_by rfl 25 (.tmp 9) rfl ⟨pa, 0, none⟩ rfl _ LA.out ?_)
          | (refine wpList_store_by rfl 25 (.tmp 2) (.tmp 60) rfl ⟨w.heap.size, 0, none⟩ rfl _ rfl SA.out ?_))
        refine bodyPost_ret (results_sup rfl _ _ w.heap.size A rfl RA.out.1) rfl ⟨by rw [HR.out]; rfl, RA.out.2⟩
      · have h1i : ¬ (gb : Int) < (ga : Int) := by omega
        by_cases h2 : 0 < gb
        · have hR := HRes.out
          rw [if_neg h1, if_pos h2] at hR
          have HR := Lib.hid hR
          clear hR
          have h2i : (0 : Int) < (gb : Int) := by omega
          go_wp2_with (first
            | (refine wpList_load_by rfl 25 (.tmp 10) rfl ⟨pb, 0, none⟩ rfl _ LB.out ?_)
            | (refine wpList_store_by rfl 25 (.tmp 2) (.tmp 65) rfl ⟨w.heap.size, 0, none⟩ rfl _ rfl SB.out ?_))
          refine bodyPost_ret (results_sup rfl _ _ w.heap.size Bq rfl RB.out.1) rfl ⟨by rw [HR.out]; rfl, RB.out.2⟩
        · have hR := HRes.out
          rw [if_neg h1, if_neg h2] at hR
          have HR := Lib.hid hR
          clear hR
          have h2i : ¬ (0 : Int) < (gb : Int) := by omega
          go_wp2_with (refine wpList_store_by rfl 25 (.tmp 2) (.tmp 66) rfl ⟨w.heap.size, 0, none⟩ rfl _ rfl SZ.out ?_)
          refine bodyPost_ret (results_sup rfl _ _ w.heap.size Sp.zero rfl RZ.out.1) rfl ⟨by rw [HR.out]; rfl, RZ.out.2⟩

end Go.Proofs.YtocioaondjgceaaGreatDoor
