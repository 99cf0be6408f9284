/- What SuperKnown meets beside: lines that are cut, or none; plain facts. -/
import Derived.Test.YtocioaondjgceaaGreatDoorSw3
set_option linter.unusedVariables false
set_option linter.unusedSimpArgs false
namespace Go.Proofs.YtocioaondjgceaaGreatDoor
open Go.RowKit Go.Maps

set_option maxRecDepth 100000 in
theorem choose_down {w : World} (p : Option Addr) (c : Int) (hc : (c != 0) = true) (hr : ∀ W, Upd (fun _ => False) w W → Calls Tryz.prog 30 #[.pointer p, .int .i64 0] W (DStrE ([], c) W)) :
    Calls Tryz.prog 13 #[.pointer p] w (ChooseP w (Sp.zero, c)) := by
  have HR := Lib.hid hr
  have hcd : (c == 0) = false := by simpa using hc
  have u1 : Upd (fun _ => False) w ((w.alloc (.cells (sup5 Sp.zero).toArray 25)).alloc (.cells (bothV Sp.zero Sp.zero).toArray 71)) := ((Upd.refl _ w).alloc _).alloc _
  have HU1 := Lib.hid u1
  have HZ := Lib.hid (heap_alloc_lt (heap_alloc_new w (.cells (sup5 Sp.zero).toArray 25)) (.cells (bothV Sp.zero Sp.zero).toArray 71))
  clear hr u1
  go_enter Tryz.func13, Tryz.ntmps13
  go_wp2
  refine wp_loop_rounds 1 ?_
  rw [rounds_succ]
  go_wp2_with (fail)
  refine (HR.out _ HU1.out).mono ?_
  rintro e w2 ⟨rfl, u2⟩
  obtain ⟨w3, hst, hg3, u3⟩ := store_one (z := Sp.zero) (u2.heap HZ.out (fun f => f))
  have hlt : w.heap.size < w2.heap.size := by have := u2.size; simp at this; omega
  have HST := Lib.hid hst
  have HL := Lib.hid (load_one hg3)
  have HU3 := Lib.hid ((HU1.out.trans u2 (fun _ _ f => f)).trans u3 (fun i hi e => by omega))
  clear hst hg3 u3 u2
  go_wp2_with (refine wpList_store_by rfl 25 (.tmp 2) (.tmp 22) rfl ⟨w.heap.size, 0, none⟩ rfl _ rfl HST.out ?_)
  refine bodyPost_ret (results_sup rfl _ _ w.heap.size Sp.zero rfl HL.out) rfl ⟨rfl, HU3.out⟩

theorem nofuse_act (fn : Fn) (a b : Array Value) (w : World) : Calls Tryz.prog 64 #[.pointer none, .func fn a b] w fun e w' => e = .returned (.bool false) ∧ w = w' := by
  have HD := Lib.hid (nofuse_Down w)
  go_enter Tryz.func64, Tryz.ntmps64
  go_wp2_with (fail)
  refine HD.out.mono ?_
  rintro e wz ⟨rfl, rfl⟩
  go_wp2
  go_ret
  exact ⟨rfl, rfl⟩
set_option maxRecDepth 100000 in
theorem nofuse_Write (k : Int) (s : ByteArray) (w : World) : Calls Tryz.prog 33 #[.pointer none, .int .i64 k, .string s] w fun e w' => e = .returned (.int .i64 1) ∧ Upd (fun _ => False) w w' := by
  have HA := Lib.hid (fun fn a b w => nofuse_act fn a b w)
  have HY := Lib.hid (fun w => nofuse_why w)
  have u1 : Upd (fun _ => False) w (((w.alloc (.cells #[.int .i64 k] 3)).alloc (.cells #[.string s] 9)).alloc (.cells #[.int .i64 1] 29)) := (((Upd.refl _ w).alloc _).alloc _).alloc _
  have hg : (((w.alloc (.cells #[.int .i64 k] 3)).alloc (.cells #[.string s] 9)).alloc (.cells #[.int .i64 1] 29)).heap[w.heap.size + 1 + 1]? = some (.cells #[.int .i64 1] 29 (0, 0)) := by
    have := heap_alloc_new ((w.alloc (.cells #[.int .i64 k] 3)).alloc (.cells #[.string s] 9)) (.cells #[.int .i64 1] 29)
    simpa using this
  have HU := Lib.hid u1
  have HG := Lib.hid hg
  clear u1 hg
  go_enter Tryz.func33, Tryz.ntmps33
  go_wp2_with (fail)
  refine (HA.out _ _ _ _).mono ?_
  rintro e wz ⟨rfl, rfl⟩
  go_wp2_with (fail)
  refine (HY.out _).mono ?_
  rintro e wz ⟨rfl, rfl⟩
  go_wp2
  refine bodyPost_ret (results_err rfl _ _ (w.heap.size + 1 + 1) 1 _ rfl HG.out) rfl ⟨rfl, HU.out⟩
set_option maxRecDepth 100000 in
theorem nosuper_Write (s : Sp.Sup) (hg : s.gen < 18446744073709551616) (hc : s.calls < 18446744073709551616) (h : Sp.may s = true) (w : World) : Calls Tryz.prog 14 #[.pointer none, supV s] w fun e w' => e = .returned (.int .i64 1) ∧ Upd (fun _ => False) w w' := by
  obtain ⟨u, hpu, hul, _⟩ := Sp.put_ok s hg hc h
  have hP := fun w => sup_Put s w hg hc
  simp only [hpu] at hP
  have HP := Lib.hid hP
  have HS := Lib.hid (fun w => sup_Slot s.gen w hg)
  have HW := Lib.hid (fun k s w => nofuse_Write k s w)
  have HU := Lib.hid ((Upd.refl (fun _ => False) w).alloc (.cells #[.int .u64 s.gen, .int .u64 s.calls, .int .i64 s.root, .int .i64 s.table, .int .i64 s.sectors] 25))
  have HB := Lib.hid (heap_alloc_new w (.cells #[.int .u64 s.gen, .int .u64 s.calls, .int .i64 s.root, .int .i64 s.table, .int .i64 s.sectors] 25))
  clear hP hpu h hul
  obtain ⟨gen, calls, root, table, sectors⟩ := s
  dsimp only at *
  unfold supV at HP ⊢
  dsimp only at *
  go_enter Tryz.func14, Tryz.ntmps14
  go_wp2_with (fail)
  refine (HP.out _).mono ?_
  rintro e w2 ⟨rfl, u2⟩
  have c0 := cell_heap (u2.heap HB.out (fun f => f)) 0 _ rfl
  have HU2 := Lib.hid (HU.out.trans u2 (fun _ _ f => f))
  clear u2
  go_wp2_with (fail)
  refine (HS.out _).mono ?_
  rintro e wz ⟨rfl, rfl⟩
  go_wp2_with (fail)
  refine (HW.out _ _ _).mono ?_
  rintro e w3 ⟨rfl, u3⟩
  go_wp2
  go_ret
  exact ⟨rfl, HU2.out.trans u3 (fun _ _ f => f)⟩

/-! Plain facts. -/
theorem given_mid : (((Sp.put given0).1.drop 12).take 16) = [0, 14, 0, 0, 0, 0, 0, 0, 0, 2, 0, 66, 0, 70, 2, 0] := by decide +kernel
theorem given_short : Sp.take ((Sp.put given0).1.take 127) = (Sp.zero, 4) := by
  have h : Sl.unstampR ((Sp.put given0).1.take 127) = (0, 0, [], 4) := by
    unfold Sl.unstampR
    rw [if_neg (by decide +kernel), if_neg (by decide +kernel), if_pos (Or.inl (by decide +kernel))]
  unfold Sp.take
  rw [h, if_pos (by simp)]
theorem pick_zero (i : Nat) (n : Int) : (pickE zeros i n) = Sp.zero := by
  unfold pickE
  rw [show zeros = List.replicate 128 0 from rfl, take128z, if_neg (by simp)]
theorem choose_none : chooseE zeros zeros 512 = (Sp.zero, 5) := by
  unfold chooseE
  rw [pick_zero, pick_zero]; rfl
theorem new_read (k : Nat) (hk : k < 512) : readE (newD 512) (k : Int) = (zeros, 0) := by
  unfold readE
  rw [new_len, if_neg (by omega)]
  show (Dv.shows (Dv.cell (newD 512) k), 0) = _
  rw [new_cell k hk]; rfl
def next0 : Sp.Sup := ⟨2, 2, 66, 70, 512⟩
/-- the two slots behind the writes -/
theorem one_read {u : List UInt8} (h : Sp.put given0 = (u, 0)) : readE ((newD 512).set 1 (zeros, some u)) 0 = (zeros, 0) ∧ readE ((newD 512).set 1 (zeros, some u)) 1 = (u, 0) ∧ chooseE zeros u 512 = (given0, 0) := by
  refine ⟨?_, ?_, ?_⟩
  · unfold readE
    rw [List.length_set, new_len, if_neg (by omega)]
    show (Dv.shows (Dv.cell _ 0), 0) = _
    rw [set_cell _ _ _ _ (by rw [new_len]; omega), if_neg (by omega), new_cell 0 (by omega)]; rfl
  · unfold readE
    rw [List.length_set, new_len, if_neg (by omega)]
    show (Dv.shows (Dv.cell _ 1), 0) = _
    rw [set_cell _ _ _ _ (by rw [new_len]; omega), if_pos rfl]; rfl
  · unfold chooseE
    rw [pick_zero, pick_main h (by decide) (by decide) rfl 1 rfl]; rfl
theorem two_read {u v : List UInt8} (h : Sp.put given0 = (u, 0)) (hv : Sp.put next0 = (v, 0)) : readE (((newD 512).set 1 (zeros, some u)).set 0 (zeros, some v)) 0 = (v, 0) ∧ readE (((newD 512).set 1 (zeros, some u)).set 0 (zeros, some v)) 1 = (u, 0) ∧ chooseE v u 512 = (next0, 0) := by
  refine ⟨?_, ?_, ?_⟩
  · unfold readE
    rw [List.length_set, List.length_set, new_len, if_neg (by omega)]
    show (Dv.shows (Dv.cell _ 0), 0) = _
    rw [set_cell _ _ _ _ (by rw [List.length_set, new_len]; omega), if_pos rfl]; rfl
  · unfold readE
    rw [List.length_set, List.length_set, new_len, if_neg (by omega)]
    show (Dv.shows (Dv.cell _ 1), 0) = _
    rw [set_cell _ _ _ _ (by rw [List.length_set, new_len]; omega), if_neg (by omega), set_cell _ _ _ _ (by rw [new_len]; omega), if_pos rfl]; rfl
  · unfold chooseE
    rw [pick_main h (by decide) (by decide) rfl 1 rfl, pick_main hv (by decide) (by decide) rfl 0 rfl]; rfl
theorem one_ok {u : List UInt8} (h : Sp.put given0 = (u, 0)) : Dv.Ok ((newD 512).set 1 (zeros, some u)) :=
  set_ok new_ok 1 _ zeros_len (fun y hy => by simp only [Option.some.injEq] at hy; rw [← hy]; exact (put_parts h).1)

end Go.Proofs.YtocioaondjgceaaGreatDoor
