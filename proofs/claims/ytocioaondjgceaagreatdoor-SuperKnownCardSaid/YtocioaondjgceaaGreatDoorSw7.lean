/- SuperKnown. -/
import Derived.Test.YtocioaondjgceaaGreatDoorSw6
set_option linter.unusedVariables false
set_option linter.unusedSimpArgs false
namespace Go.Proofs.YtocioaondjgceaaGreatDoor
open Go.RowKit Go.Maps

set_option maxHeartbeats 8000000 in
set_option maxRecDepth 100000 in
theorem walk_SuperKnown (w : World) : Calls Tryz.prog 3 #[] w (BoolR true w) := by
  obtain ⟨u, hpu, hul, _⟩ := Sp.put_ok given0 (by decide) (by decide) (by decide)
  obtain ⟨v, hpv, hvl, _⟩ := Sp.put_ok next0 (by decide) (by decide) (by decide)
  have hmid := given_mid
  have hshort := given_short
  rw [hpu] at hmid hshort
  dsimp only at hmid hshort
  have HWk := Lib.hid law_worksS
  have HGv := Lib.hid law_given
  change Hid (∀ w, Calls _ _ _ w (fun e w' => e = .returned (.agg #[.int .u64 (1 : Int), .int .u64 (2 : Int), .int .i64 66, .int .i64 70, .int .i64 512]) ∧ Upd (fun _ => False) w w')) at HGv
  have htx := fun w => law_text given0 w (by decide) (by decide)
  simp only [hpu] at htx
  have HTx := Lib.hid htx
  change Hid (∀ w, Calls _ _ #[.agg #[.int .u64 (1 : Int), .int .u64 (2 : Int), .int .i64 66, .int .i64 70, .int .i64 512]] w (StrR u w)) at HTx
  have HFa := Lib.hid (fun w => law_failsS (u.take 127) 4 w (by rw [List.length_take]; omega) hshort)
  have HRa := Lib.hid (fun w => law_refused ⟨0, 2, 66, 70, 512⟩ w (by decide) (by decide) (Sp.put_no _ (by decide)))
  have HRb := Lib.hid (fun w => law_refused ⟨1, 2, 65, 70, 512⟩ w (by decide) (by decide) (Sp.put_no _ (by decide)))
  have HRc := Lib.hid (fun w => law_refused ⟨1, 2, 66, 512, 512⟩ w (by decide) (by decide) (Sp.put_no _ (by decide)))
  have HRd := Lib.hid (fun w => law_refused ⟨1, 2, 66, 70, 511⟩ w (by decide) (by decide) (Sp.put_no _ (by decide)))
  change Hid (∀ w, Calls _ _ #[.agg #[.int .u64 (0 : Int), .int .u64 (2 : Int), .int .i64 66, .int .i64 70, .int .i64 512]] w _) at HRa
  change Hid (∀ w, Calls _ _ #[.agg #[.int .u64 (1 : Int), .int .u64 (2 : Int), .int .i64 65, .int .i64 70, .int .i64 512]] w _) at HRb
  change Hid (∀ w, Calls _ _ #[.agg #[.int .u64 (1 : Int), .int .u64 (2 : Int), .int .i64 66, .int .i64 512, .int .i64 512]] w _) at HRc
  change Hid (∀ w, Calls _ _ #[.agg #[.int .u64 (1 : Int), .int .u64 (2 : Int), .int .i64 66, .int .i64 70, .int .i64 511]] w _) at HRd
  have HPU := Lib.hid hpu
  have HPV := Lib.hid hpv
  have husz : u.toArray.size = 128 := by rw [List.size_toArray, hul]
  have hx1 : (⟨u.toArray⟩ : ByteArray).extract 12 28 = ⟨([0, 14, 0, 0, 0, 0, 0, 0, 0, 2, 0, 66, 0, 70, 2, 0] : List UInt8).toArray⟩ := by rw [ext_list]; exact congrArg (fun l : List UInt8 => (⟨l.toArray⟩ : ByteArray)) hmid
  have hx2 : (⟨u.toArray⟩ : ByteArray).extract 0 127 = ⟨(u.take 127).toArray⟩ := by rw [ext_list]; rfl
  have HUL := Lib.hid hul
  have HVL := Lib.hid hvl
  generalize u.take 127 = ut at HFa hx2
  clear hpu hpv hmid hshort htx hul hvl
  go_enter Tryz.func3, Tryz.ntmps3
  go_wp2_with (fail)
  refine (HGv.out _).mono ?_
  rintro e w1 ⟨rfl, u1⟩
  go_wp2_with (fail)
  refine (HTx.out _).mono ?_
  rintro e w2 ⟨rfl, u2⟩
  have v2 := u1.trans u2 (fun _ _ f => f)
  go_wp2_with (fail)
  refine (HGv.out _).mono ?_
  rintro e w3 ⟨rfl, u3⟩
  have v3 := v2.trans u3 (fun _ _ f => f)
  go_wp2_with (fail)
  refine (HGv.out _).mono ?_
  rintro e w4 ⟨rfl, u4⟩
  have v4 := v3.trans u4 (fun _ _ f => f)
  go_wp2_with (fail)
  refine (HGv.out _).mono ?_
  rintro e w5 ⟨rfl, u5⟩
  have v5 := v4.trans u5 (fun _ _ f => f)
  go_wp2_with (fail)
  refine (HGv.out _).mono ?_
  rintro e w6 ⟨rfl, u6⟩
  have v6 := v5.trans u6 (fun _ _ f => f)
  go_wp2_with (fail)
  refine (HGv.out _).mono ?_
  rintro e w7 ⟨rfl, u7⟩
  have v7 := v6.trans u7 (fun _ _ f => f)
  have HV7 := Lib.hid v7
  clear u1 u2 u3 u4 u5 u6 u7 v2 v3 v4 v5 v6 v7
  have ha := (heap_alloc_lt (heap_alloc_lt (heap_alloc_lt (heap_alloc_lt (heap_alloc_new w7 (.cells #[.int .u64 0, .int .u64 2, .int .i64 66, .int .i64 70, .int .i64 512] 25)) (.cells #[.int .u64 1, .int .u64 2, .int .i64 65, .int .i64 70, .int .i64 512] 25)) (.cells #[.int .u64 1, .int .u64 2, .int .i64 66, .int .i64 512, .int .i64 512] 25)) (.cells #[.int .u64 1, .int .u64 2, .int .i64 66, .int .i64 70, .int .i64 511] 25)) (.cells #[.int .u64 2, .int .u64 2, .int .i64 66, .int .i64 70, .int .i64 512] 25))
  have Ha := Lib.hid ha
  clear ha
  have hb := (heap_alloc_lt (heap_alloc_lt (heap_alloc_lt (heap_alloc_new (w7.alloc (.cells #[.int .u64 0, .int .u64 2, .int .i64 66, .int .i64 70, .int .i64 512] 25)) (.cells #[.int .u64 1, .int .u64 2, .int .i64 65, .int .i64 70, .int .i64 512] 25)) (.cells #[.int .u64 1, .int .u64 2, .int .i64 66, .int .i64 512, .int .i64 512] 25)) (.cells #[.int .u64 1, .int .u64 2, .int .i64 66, .int .i64 70, .int .i64 511] 25)) (.cells #[.int .u64 2, .int .u64 2, .int .i64 66, .int .i64 70, .int .i64 512] 25))
  rw [World.size_alloc] at hb
  have Hb := Lib.hid hb
  clear hb
  have hc := (heap_alloc_lt (heap_alloc_lt (heap_alloc_new ((w7.alloc (.cells #[.int .u64 0, .int .u64 2, .int .i64 66, .int .i64 70, .int .i64 512] 25)).alloc (.cells #[.int .u64 1, .int .u64 2, .int .i64 65, .int .i64 70, .int .i64 512] 25)) (.cells #[.int .u64 1, .int .u64 2, .int .i64 66, .int .i64 512, .int .i64 512] 25)) (.cells #[.int .u64 1, .int .u64 2, .int .i64 66, .int .i64 70, .int .i64 511] 25)) (.cells #[.int .u64 2, .int .u64 2, .int .i64 66, .int .i64 70, .int .i64 512] 25))
  rw [World.size_alloc, World.size_alloc] at hc
  have Hc := Lib.hid hc
  clear hc
  have hd := (heap_alloc_lt (heap_alloc_new (((w7.alloc (.cells #[.int .u64 0, .int .u64 2, .int .i64 66, .int .i64 70, .int .i64 512] 25)).alloc (.cells #[.int .u64 1, .int .u64 2, .int .i64 65, .int .i64 70, .int .i64 512] 25)).alloc (.cells #[.int .u64 1, .int .u64 2, .int .i64 66, .int .i64 512, .int .i64 512] 25)) (.cells #[.int .u64 1, .int .u64 2, .int .i64 66, .int .i64 70, .int .i64 511] 25)) (.cells #[.int .u64 2, .int .u64 2, .int .i64 66, .int .i64 70, .int .i64 512] 25))
  rw [World.size_alloc, World.size_alloc, World.size_alloc] at hd
  have Hd := Lib.hid hd
  clear hd
  have hx := (heap_alloc_new ((((w7.alloc (.cells #[.int .u64 0, .int .u64 2, .int .i64 66, .int .i64 70, .int .i64 512] 25)).alloc (.cells #[.int .u64 1, .int .u64 2, .int .i64 65, .int .i64 70, .int .i64 512] 25)).alloc (.cells #[.int .u64 1, .int .u64 2, .int .i64 66, .int .i64 512, .int .i64 512] 25)).alloc (.cells #[.int .u64 1, .int .u64 2, .int .i64 66, .int .i64 70, .int .i64 511] 25)) (.cells #[.int .u64 2, .int .u64 2, .int .i64 66, .int .i64 70, .int .i64 512] 25))
  rw [World.size_alloc, World.size_alloc, World.size_alloc, World.size_alloc] at hx
  have Hx := Lib.hid hx
  clear hx
  have V0 : Hid (Upd (fun _ => False) w (((((w7.alloc (.cells #[.int .u64 0, .int .u64 2, .int .i64 66, .int .i64 70, .int .i64 512] 25)).alloc (.cells #[.int .u64 1, .int .u64 2, .int .i64 65, .int .i64 70, .int .i64 512] 25)).alloc (.cells #[.int .u64 1, .int .u64 2, .int .i64 66, .int .i64 512, .int .i64 512] 25)).alloc (.cells #[.int .u64 1, .int .u64 2, .int .i64 66, .int .i64 70, .int .i64 511] 25)).alloc (.cells #[.int .u64 2, .int .u64 2, .int .i64 66, .int .i64 70, .int .i64 512] 25))) := Lib.hid (((((HV7.out.alloc _).alloc _).alloc _).alloc _).alloc _)
  go_wp2_with (fail)
  refine (HWk.out _).mono ?_
  rintro e w8 ⟨rfl, u8⟩
  have V8 := Lib.hid (((Upd.refl (fun _ => False) (((((w7.alloc (.cells #[.int .u64 0, .int .u64 2, .int .i64 66, .int .i64 70, .int .i64 512] 25)).alloc (.cells #[.int .u64 1, .int .u64 2, .int .i64 65, .int .i64 70, .int .i64 512] 25)).alloc (.cells #[.int .u64 1, .int .u64 2, .int .i64 66, .int .i64 512, .int .i64 512] 25)).alloc (.cells #[.int .u64 1, .int .u64 2, .int .i64 66, .int .i64 70, .int .i64 511] 25)).alloc (.cells #[.int .u64 2, .int .u64 2, .int .i64 66, .int .i64 70, .int .i64 512] 25)))).trans u8 (fun _ _ f => f))
  clear u8
  go_wp2_with (fail)
  refine (HFa.out _).mono ?_
  rintro e w9 ⟨rfl, u9⟩
  have V9 := Lib.hid ((V8.out).trans u9 (fun _ _ f => f))
  clear u9
  have fa0 := cell_heap ((V9.out).heap Ha.out (fun f => f)) 0 (.int .u64 0) rfl
  have fa1 := cell_heap ((V9.out).heap Ha.out (fun f => f)) 1 (.int .u64 2) rfl
  have fa2 := cell_heap ((V9.out).heap Ha.out (fun f => f)) 2 (.int .i64 66) rfl
  have fa3 := cell_heap ((V9.out).heap Ha.out (fun f => f)) 3 (.int .i64 70) rfl
  have fa4 := cell_heap ((V9.out).heap Ha.out (fun f => f)) 4 (.int .i64 512) rfl
  go_wp2_with (fail)
  refine (HRa.out _).mono ?_
  rintro e w10 ⟨rfl, u10⟩
  clear fa0 fa1 fa2 fa3 fa4
  have V10 := Lib.hid ((V9.out).trans u10 (fun _ _ f => f))
  clear u10
  have fb0 := cell_heap ((V10.out).heap Hb.out (fun f => f)) 0 (.int .u64 1) rfl
  have fb1 := cell_heap ((V10.out).heap Hb.out (fun f => f)) 1 (.int .u64 2) rfl
  have fb2 := cell_heap ((V10.out).heap Hb.out (fun f => f)) 2 (.int .i64 65) rfl
  have fb3 := cell_heap ((V10.out).heap Hb.out (fun f => f)) 3 (.int .i64 70) rfl
  have fb4 := cell_heap ((V10.out).heap Hb.out (fun f => f)) 4 (.int .i64 512) rfl
  go_wp2_with (fail)
  refine (HRb.out _).mono ?_
  rintro e w11 ⟨rfl, u11⟩
  clear fb0 fb1 fb2 fb3 fb4
  have V11 := Lib.hid ((V10.out).trans u11 (fun _ _ f => f))
  clear u11
  have fc0 := cell_heap ((V11.out).heap Hc.out (fun f => f)) 0 (.int .u64 1) rfl
  have fc1 := cell_heap ((V11.out).heap Hc.out (fun f => f)) 1 (.int .u64 2) rfl
  have fc2 := cell_heap ((V11.out).heap Hc.out (fun f => f)) 2 (.int .i64 66) rfl
  have fc3 := cell_heap ((V11.out).heap Hc.out (fun f => f)) 3 (.int .i64 512) rfl
  have fc4 := cell_heap ((V11.out).heap Hc.out (fun f => f)) 4 (.int .i64 512) rfl
  go_wp2_with (fail)
  refine (HRc.out _).mono ?_
  rintro e w12 ⟨rfl, u12⟩
  clear fc0 fc1 fc2 fc3 fc4
  have V12 := Lib.hid ((V11.out).trans u12 (fun _ _ f => f))
  clear u12
  have fd0 := cell_heap ((V12.out).heap Hd.out (fun f => f)) 0 (.int .u64 1) rfl
  have fd1 := cell_heap ((V12.out).heap Hd.out (fun f => f)) 1 (.int .u64 2) rfl
  have fd2 := cell_heap ((V12.out).heap Hd.out (fun f => f)) 2 (.int .i64 66) rfl
  have fd3 := cell_heap ((V12.out).heap Hd.out (fun f => f)) 3 (.int .i64 70) rfl
  have fd4 := cell_heap ((V12.out).heap Hd.out (fun f => f)) 4 (.int .i64 511) rfl
  go_wp2_with (fail)
  refine (HRd.out _).mono ?_
  rintro e w13 ⟨rfl, u13⟩
  clear fd0 fd1 fd2 fd3 fd4
  have V13 := Lib.hid ((V12.out).trans u13 (fun _ _ f => f))
  clear u13
  go_wp2_with (fail)
  refine (dev_New_ok 512 _ (by omega) (by omega)).mono ?_
  rintro e w14 ⟨rfl, hdv, u14⟩
  have HDv := Lib.hid hdv
  clear hdv
  have V14 := Lib.hid ((V13.out).trans u14 (fun _ _ f => f))
  clear u14
  have HFN := Lib.hid (fuse_New HDv.out (-1) (by omega) (by omega) (ad := none) (cp := 0) (ks := []) ⟨by simp, (fun j hj => by cases hj), fun _ => rfl⟩)
  go_wp2_with (fail)
  refine (HFN.out).mono ?_
  rintro e w15 ⟨bf, cad, cc, rfl, hbf, hfd, u15⟩
  have HFD0 : Hid (FD w15 bf (w13.heap.size + 2) w13.heap.size (w13.heap.size + 1) 512 cad cc ⟨-1, 0, true, []⟩ (newD 512)) := Lib.hid hfd
  clear hfd
  have V15 := Lib.hid ((V14.out).trans u15 (fun _ _ f => f))
  clear u15
  have HBB := Lib.hid (show w13.heap.size = w13.heap.size from rfl)
  obtain ⟨bs, hbs⟩ : ∃ bs, bs = w13.heap.size := ⟨_, rfl⟩
  have HBS := Lib.hid hbs
  clear HBB
  have hc1 := super_Choose HFD0.out rfl zeros zeros (new_read 0 (by omega)) (new_read 1 (by omega)) (by rw [zeros_len]; omega) (by rw [zeros_len]; omega)
  rw [new_len, show ((512 : Nat) : Int) = 512 from rfl, choose_none] at hc1
  change Calls _ _ _ _ (fun e w' => e = .returned (.tuple #[.agg #[.int .u64 0, .int .u64 0, .int .i64 0, .int .i64 0, .int .i64 0], .int .i64 5]) ∧ Upd (fun _ => False) _ w') at hc1
  have HC1 := Lib.hid hc1
  clear hc1 hbs
  go_wp2_with (fail)
  refine (HC1.out).mono ?_
  rintro e w16 ⟨rfl, u16⟩
  have HFD1 := Lib.hid (HFD0.out.upd0 u16)
  have V16 := Lib.hid ((V15.out).trans u16 (fun _ _ f => f))
  clear u16
  go_wp2_with (fail)
  refine (HGv.out _).mono ?_
  rintro e w17 ⟨rfl, u17⟩
  have HFD2 := Lib.hid ((HFD1.out.upd0 ((Upd.refl (fun _ => False) _).alloc (.cells #[.int .u64 0, .int .u64 0, .int .i64 0, .int .i64 0, .int .i64 0] 25))).upd0 u17)
  have V17 := Lib.hid (((V16.out).alloc (.cells #[.int .u64 0, .int .u64 0, .int .i64 0, .int .i64 0, .int .i64 0] 25)).trans u17 (fun _ _ f => f))
  clear u17
  have HN5 : Hid (((((((w7.alloc (.cells #[.int .u64 0, .int .u64 2, .int .i64 66, .int .i64 70, .int .i64 512] 25)).alloc (.cells #[.int .u64 1, .int .u64 2, .int .i64 65, .int .i64 70, .int .i64 512] 25)).alloc (.cells #[.int .u64 1, .int .u64 2, .int .i64 66, .int .i64 512, .int .i64 512] 25)).alloc (.cells #[.int .u64 1, .int .u64 2, .int .i64 66, .int .i64 70, .int .i64 511] 25)).alloc (.cells #[.int .u64 2, .int .u64 2, .int .i64 66, .int .i64 70, .int .i64 512] 25))).heap.size = w7.heap.size + 5) := Lib.hid (by simp)
  have hNb : (w7.heap.size + 5) ≤ w13.heap.size := by have := HN5.out; have := V13.out.size; omega
  have hNf : (w7.heap.size + 5) ≤ bf := by have := HN5.out; have := V14.out.size; omega
  clear hbf
  have hW1 := super_Write HFD2.out (by show 0 ≤ _; omega) given0 (by decide) (by decide)
  rw [supWrite_through 0 (newD 512) given0 HPU.out] at hW1
  change Calls _ _ #[_, .agg #[.int .u64 1, .int .u64 2, .int .i64 66, .int .i64 70, .int .i64 512]] _ (fun e w' => e = .returned (.int .i64 (writeE (newD 512) ((1 : Nat) : Int) u).2) ∧ FD w' bf _ _ _ _ cad cc ⟨-1, 1, true, []⟩ (writeE (newD 512) ((1 : Nat) : Int) u).1 ∧ _) at hW1
  rw [write_cells new_ok 1 (by rw [new_len]; omega) u HUL.out, new_cell 1 (by omega)] at hW1
  have HW1 := Lib.hid hW1
  clear hW1
  go_wp2_with (fail)
  refine (HW1.out).mono ?_
  rintro e w18 ⟨rfl, hfd, u18⟩
  have HFD3 := Lib.hid hfd
  clear hfd
  have V18 := Lib.hid ((((V17.out).mono (fun _ _ f => f.elim) : Upd (fun i => (w7.heap.size + 5) ≤ i) (((((w7.alloc (.cells #[.int .u64 0, .int .u64 2, .int .i64 66, .int .i64 70, .int .i64 512] 25)).alloc (.cells #[.int .u64 1, .int .u64 2, .int .i64 65, .int .i64 70, .int .i64 512] 25)).alloc (.cells #[.int .u64 1, .int .u64 2, .int .i64 66, .int .i64 512, .int .i64 512] 25)).alloc (.cells #[.int .u64 1, .int .u64 2, .int .i64 66, .int .i64 70, .int .i64 511] 25)).alloc (.cells #[.int .u64 2, .int .u64 2, .int .i64 66, .int .i64 70, .int .i64 512] 25)) w17)).trans u18 (fun i hi e => by rcases e with e | e | e <;> omega))
  clear u18
  obtain ⟨r0, r1, r2⟩ := one_read HPU.out
  have hc2 := super_Choose HFD3.out rfl zeros u r0 r1 (by rw [zeros_len]; omega) (by have := HUL.out; omega)
  rw [List.length_set, new_len, show ((512 : Nat) : Int) = 512 from rfl, r2] at hc2
  change Calls _ _ _ _ (fun e w' => e = .returned (.tuple #[.agg #[.int .u64 1, .int .u64 2, .int .i64 66, .int .i64 70, .int .i64 512], .int .i64 0]) ∧ Upd (fun _ => False) _ w') at hc2
  have HC2 := Lib.hid hc2
  clear hc2 r0 r1 r2
  go_wp2_with (fail)
  refine (HC2.out).mono ?_
  rintro e w19 ⟨rfl, u19⟩
  have HFD4 := Lib.hid (HFD3.out.upd0 u19)
  have V19 := Lib.hid ((V18.out).trans u19 (fun _ _ f => f.elim))
  clear u19
  have HWx : Hid (∀ W, FD W bf _ _ _ _ cad cc ⟨-1, 1, true, []⟩ ((newD 512).set 1 (zeros, some u)) → _) := Lib.hid (fun W (hW : FD W bf (w13.heap.size + 2) w13.heap.size (w13.heap.size + 1) 512 cad cc ⟨-1, 1, true, []⟩ ((newD 512).set 1 (zeros, some u))) => (by
    have := super_Write hW (by show 1 ≤ _; omega) next0 (by decide) (by decide)
    rw [supWrite_through 1 _ next0 HPV.out] at this
    change Calls _ _ #[_, .agg #[.int .u64 2, .int .u64 2, .int .i64 66, .int .i64 70, .int .i64 512]] _ (fun e w' => e = .returned (.int .i64 (writeE ((newD 512).set 1 (zeros, some u)) ((0 : Nat) : Int) v).2) ∧ FD w' bf _ _ _ _ cad cc ⟨-1, 2, true, []⟩ (writeE ((newD 512).set 1 (zeros, some u)) ((0 : Nat) : Int) v).1 ∧ _) at this
    rw [write_cells (one_ok HPU.out) 0 (by rw [List.length_set, new_len]; omega) v HVL.out, set_cell _ _ _ _ (by rw [new_len]; omega), if_neg (by omega), new_cell 0 (by omega)] at this
    exact this))
  have HWa : Hid (∀ W, FD W bf _ _ _ _ cad cc ⟨-1, 2, true, []⟩ (((newD 512).set 1 (zeros, some u)).set 0 (zeros, some v)) → _) := Lib.hid (fun W (hW : FD W bf (w13.heap.size + 2) w13.heap.size (w13.heap.size + 1) 512 cad cc ⟨-1, 2, true, []⟩ (((newD 512).set 1 (zeros, some u)).set 0 (zeros, some v))) => (by
    have := super_Write hW (by show 2 ≤ _; omega) ⟨0, 2, 66, 70, 512⟩ (by decide) (by decide)
    unfold supWriteE at this
    rw [Sp.put_no ⟨0, 2, 66, 70, 512⟩ (by decide), if_pos (by decide)] at this
    change Calls _ _ #[_, .agg #[.int .u64 0, .int .u64 2, .int .i64 66, .int .i64 70, .int .i64 512]] _ (fun e w' => e = .returned (.int .i64 4) ∧ FD w' bf _ _ _ _ cad cc ⟨-1, 2, true, []⟩ (((newD 512).set 1 (zeros, some u)).set 0 (zeros, some v)) ∧ _) at this
    exact this))
  have HNew := Lib.hid (heap_alloc_new w19 (.cells #[.int .u64 1, .int .u64 2, .int .i64 66, .int .i64 70, .int .i64 512] 25))
  have HFD5 := Lib.hid (HFD4.out.upd0 (((Upd.refl (fun _ => False) w19).alloc (.cells #[.int .u64 1, .int .u64 2, .int .i64 66, .int .i64 70, .int .i64 512] 25)).drew))
  have hub : Upd (FdF bf w13.heap.size (w13.heap.size + 1)) (w19.alloc (.cells #[.int .u64 1, .int .u64 2, .int .i64 66, .int .i64 70, .int .i64 512] 25)) (w19.alloc (.cells #[.int .u64 1, .int .u64 2, .int .i64 66, .int .i64 70, .int .i64 512] 25)).drew := (Upd.refl _ _).drew
  have hlq : w13.heap.size + 2 < w19.heap.size ∧ bf < w19.heap.size := ⟨HFD4.out.dev.ltb, HFD4.out.ltf⟩
  have HVB : Hid (Upd (fun i => (w7.heap.size + 5) ≤ i) (((((w7.alloc (.cells #[.int .u64 0, .int .u64 2, .int .i64 66, .int .i64 70, .int .i64 512] 25)).alloc (.cells #[.int .u64 1, .int .u64 2, .int .i64 65, .int .i64 70, .int .i64 512] 25)).alloc (.cells #[.int .u64 1, .int .u64 2, .int .i64 66, .int .i64 512, .int .i64 512] 25)).alloc (.cells #[.int .u64 1, .int .u64 2, .int .i64 66, .int .i64 70, .int .i64 511] 25)).alloc (.cells #[.int .u64 2, .int .u64 2, .int .i64 66, .int .i64 70, .int .i64 512] 25)) (w19.alloc (.cells #[.int .u64 1, .int .u64 2, .int .i64 66, .int .i64 70, .int .i64 512] 25))) := Lib.hid ((V19.out).alloc _)
  have q0 := cell_heap (heap_drew HNew.out) 0 (.int .u64 1) rfl
  have q1 := cell_heap (heap_drew HNew.out) 1 (.int .u64 2) rfl
  have q2 := cell_heap (heap_drew HNew.out) 2 (.int .i64 66) rfl
  have q3 := cell_heap (heap_drew HNew.out) 3 (.int .i64 70) rfl
  have q4 := cell_heap (heap_drew HNew.out) 4 (.int .i64 512) rfl
  have x0 := cell_heap (heap_drew (HVB.out.heap Hx.out (fun e => by omega))) 0 (.int .u64 2) rfl
  have x1 := cell_heap (heap_drew (HVB.out.heap Hx.out (fun e => by omega))) 1 (.int .u64 2) rfl
  have x2 := cell_heap (heap_drew (HVB.out.heap Hx.out (fun e => by omega))) 2 (.int .i64 66) rfl
  have x3 := cell_heap (heap_drew (HVB.out.heap Hx.out (fun e => by omega))) 3 (.int .i64 70) rfl
  have x4 := cell_heap (heap_drew (HVB.out.heap Hx.out (fun e => by omega))) 4 (.int .i64 512) rfl
  have a0 := cell_heap (heap_drew (HVB.out.heap Ha.out (fun e => by omega))) 0 (.int .u64 0) rfl
  have a1 := cell_heap (heap_drew (HVB.out.heap Ha.out (fun e => by omega))) 1 (.int .u64 2) rfl
  have a2 := cell_heap (heap_drew (HVB.out.heap Ha.out (fun e => by omega))) 2 (.int .i64 66) rfl
  have a3 := cell_heap (heap_drew (HVB.out.heap Ha.out (fun e => by omega))) 3 (.int .i64 70) rfl
  have a4 := cell_heap (heap_drew (HVB.out.heap Ha.out (fun e => by omega))) 4 (.int .i64 512) rfl
  go_wp2
  go_region_held3 (fun w' => w'.cell? ⟨w19.heap.size, 0, none⟩ = some (.int .u64 1) ∧ w'.cell? ⟨w19.heap.size, 1, none⟩ = some (.int .u64 2) ∧ w'.cell? ⟨w19.heap.size, 2, none⟩ = some (.int .i64 66) ∧ w'.cell? ⟨w19.heap.size, 3, none⟩ = some (.int .i64 70) ∧ w'.cell? ⟨w19.heap.size, 4, none⟩ = some (.int .i64 512) ∧ w'.cell? ⟨w7.heap.size + 1 + 1 + 1 + 1, 0, none⟩ = some (.int .u64 2) ∧ w'.cell? ⟨w7.heap.size + 1 + 1 + 1 + 1, 1, none⟩ = some (.int .u64 2) ∧ w'.cell? ⟨w7.heap.size + 1 + 1 + 1 + 1, 2, none⟩ = some (.int .i64 66) ∧ w'.cell? ⟨w7.heap.size + 1 + 1 + 1 + 1, 3, none⟩ = some (.int .i64 70) ∧ w'.cell? ⟨w7.heap.size + 1 + 1 + 1 + 1, 4, none⟩ = some (.int .i64 512) ∧ w'.cell? ⟨w7.heap.size, 0, none⟩ = some (.int .u64 0) ∧ w'.cell? ⟨w7.heap.size, 1, none⟩ = some (.int .u64 2) ∧ w'.cell? ⟨w7.heap.size, 2, none⟩ = some (.int .i64 66) ∧ w'.cell? ⟨w7.heap.size, 3, none⟩ = some (.int .i64 70) ∧ w'.cell? ⟨w7.heap.size, 4, none⟩ = some (.int .i64 512) ∧ Upd (FdF bf w13.heap.size (w13.heap.size + 1)) (w19.alloc (.cells #[.int .u64 1, .int .u64 2, .int .i64 66, .int .i64 70, .int .i64 512] 25)) w')
    (first
      | exact ⟨q0, q1, q2, q3, q4, x0, x1, x2, x3, x4, a0, a1, a2, a3, a4, hub⟩
      | (have h := ‹_ ∧ _ ∧ _ ∧ _ ∧ _ ∧ _ ∧ _ ∧ _ ∧ _ ∧ _ ∧ _ ∧ _ ∧ _ ∧ _ ∧ _ ∧ Upd _ _ _›; exact ⟨ug.cell h.1 (fun f => f), ug.cell h.2.1 (fun f => f), ug.cell h.2.2.1 (fun f => f), ug.cell h.2.2.2.1 (fun f => f), ug.cell h.2.2.2.2.1 (fun f => f), ug.cell h.2.2.2.2.2.1 (fun f => f), ug.cell h.2.2.2.2.2.2.1 (fun f => f), ug.cell h.2.2.2.2.2.2.2.1 (fun f => f), ug.cell h.2.2.2.2.2.2.2.2.1 (fun f => f), ug.cell h.2.2.2.2.2.2.2.2.2.1 (fun f => f), ug.cell h.2.2.2.2.2.2.2.2.2.2.1 (fun f => f), ug.cell h.2.2.2.2.2.2.2.2.2.2.2.1 (fun f => f), ug.cell h.2.2.2.2.2.2.2.2.2.2.2.2.1 (fun f => f), ug.cell h.2.2.2.2.2.2.2.2.2.2.2.2.2.1 (fun f => f), ug.cell h.2.2.2.2.2.2.2.2.2.2.2.2.2.2.1 (fun f => f), h.2.2.2.2.2.2.2.2.2.2.2.2.2.2.2.trans ug (fun _ _ f => f.elim)⟩)
      | (have h := ‹_ ∧ _ ∧ _ ∧ _ ∧ _ ∧ _ ∧ _ ∧ _ ∧ _ ∧ _ ∧ _ ∧ _ ∧ _ ∧ _ ∧ _ ∧ Upd _ _ _›; exact ⟨ux.cell h.1 (fun e => by rcases e with e | e | e <;> (simp only at e; omega)), ux.cell h.2.1 (fun e => by rcases e with e | e | e <;> (simp only at e; omega)), ux.cell h.2.2.1 (fun e => by rcases e with e | e | e <;> (simp only at e; omega)), ux.cell h.2.2.2.1 (fun e => by rcases e with e | e | e <;> (simp only at e; omega)), ux.cell h.2.2.2.2.1 (fun e => by rcases e with e | e | e <;> (simp only at e; omega)), ux.cell h.2.2.2.2.2.1 (fun e => by rcases e with e | e | e <;> (simp only at e; omega)), ux.cell h.2.2.2.2.2.2.1 (fun e => by rcases e with e | e | e <;> (simp only at e; omega)), ux.cell h.2.2.2.2.2.2.2.1 (fun e => by rcases e with e | e | e <;> (simp only at e; omega)), ux.cell h.2.2.2.2.2.2.2.2.1 (fun e => by rcases e with e | e | e <;> (simp only at e; omega)), ux.cell h.2.2.2.2.2.2.2.2.2.1 (fun e => by rcases e with e | e | e <;> (simp only at e; omega)), ux.cell h.2.2.2.2.2.2.2.2.2.2.1 (fun e => by rcases e with e | e | e <;> (simp only at e; omega)), ux.cell h.2.2.2.2.2.2.2.2.2.2.2.1 (fun e => by rcases e with e | e | e <;> (simp only at e; omega)), ux.cell h.2.2.2.2.2.2.2.2.2.2.2.2.1 (fun e => by rcases e with e | e | e <;> (simp only at e; omega)), ux.cell h.2.2.2.2.2.2.2.2.2.2.2.2.2.1 (fun e => by rcases e with e | e | e <;> (simp only at e; omega)), ux.cell h.2.2.2.2.2.2.2.2.2.2.2.2.2.2.1 (fun e => by rcases e with e | e | e <;> (simp only at e; omega)), h.2.2.2.2.2.2.2.2.2.2.2.2.2.2.2.trans ux (fun _ _ e => e)⟩)
      | (have h := ‹_ ∧ _ ∧ _ ∧ _ ∧ _ ∧ _ ∧ _ ∧ _ ∧ _ ∧ _ ∧ _ ∧ _ ∧ _ ∧ _ ∧ _ ∧ Upd _ _ _›; exact ⟨ua.cell h.1 (fun e => by rcases e with e | e | e <;> (simp only at e; omega)), ua.cell h.2.1 (fun e => by rcases e with e | e | e <;> (simp only at e; omega)), ua.cell h.2.2.1 (fun e => by rcases e with e | e | e <;> (simp only at e; omega)), ua.cell h.2.2.2.1 (fun e => by rcases e with e | e | e <;> (simp only at e; omega)), ua.cell h.2.2.2.2.1 (fun e => by rcases e with e | e | e <;> (simp only at e; omega)), ua.cell h.2.2.2.2.2.1 (fun e => by rcases e with e | e | e <;> (simp only at e; omega)), ua.cell h.2.2.2.2.2.2.1 (fun e => by rcases e with e | e | e <;> (simp only at e; omega)), ua.cell h.2.2.2.2.2.2.2.1 (fun e => by rcases e with e | e | e <;> (simp only at e; omega)), ua.cell h.2.2.2.2.2.2.2.2.1 (fun e => by rcases e with e | e | e <;> (simp only at e; omega)), ua.cell h.2.2.2.2.2.2.2.2.2.1 (fun e => by rcases e with e | e | e <;> (simp only at e; omega)), ua.cell h.2.2.2.2.2.2.2.2.2.2.1 (fun e => by rcases e with e | e | e <;> (simp only at e; omega)), ua.cell h.2.2.2.2.2.2.2.2.2.2.2.1 (fun e => by rcases e with e | e | e <;> (simp only at e; omega)), ua.cell h.2.2.2.2.2.2.2.2.2.2.2.2.1 (fun e => by rcases e with e | e | e <;> (simp only at e; omega)), ua.cell h.2.2.2.2.2.2.2.2.2.2.2.2.2.1 (fun e => by rcases e with e | e | e <;> (simp only at e; omega)), ua.cell h.2.2.2.2.2.2.2.2.2.2.2.2.2.2.1 (fun e => by rcases e with e | e | e <;> (simp only at e; omega)), h.2.2.2.2.2.2.2.2.2.2.2.2.2.2.2.trans ua (fun _ _ e => e)⟩))
    (first
      | (go_at_call 7; refine (HGv.out _).mono ?_; rintro e wg ⟨rfl, ug⟩)
      | (go_at_call 14; (with_reducible refine (HWx.out _ (HFD5.out.upd0 ug)).mono ?_); rintro e wx ⟨rfl, hfx, ux⟩)
      | (go_at_call 14; (with_reducible refine (HWa.out _ hfx).mono ?_); rintro e wa ⟨rfl, hfa, ua⟩))
  have hS := ‹_ ∧ _ ∧ _ ∧ _ ∧ _ ∧ _ ∧ _ ∧ _ ∧ _ ∧ _ ∧ _ ∧ _ ∧ _ ∧ _ ∧ _ ∧ Upd _ _ _›
  have VA := Lib.hid (HVB.out.trans hS.2.2.2.2.2.2.2.2.2.2.2.2.2.2.2 (fun i hi e => by rcases e with e | e | e <;> omega))
  have HFA := Lib.hid hfa
  clear hS ua ux ug hfx hfa hub HWx HWa q0 q1 q2 q3 q4 x0 x1 x2 x3 x4 a0 a1 a2 a3 a4
  obtain ⟨r0, r1, r2⟩ := two_read HPU.out HPV.out
  have hc3 := super_Choose HFA.out rfl v u r0 r1 (by have := HVL.out; omega) (by have := HUL.out; omega)
  rw [List.length_set, List.length_set, new_len, show ((512 : Nat) : Int) = 512 from rfl, r2] at hc3
  change Calls _ _ _ _ (fun e w' => e = .returned (.tuple #[.agg #[.int .u64 2, .int .u64 2, .int .i64 66, .int .i64 70, .int .i64 512], .int .i64 0]) ∧ Upd (fun _ => False) _ w') at hc3
  have HC3 := Lib.hid hc3
  clear hc3 r0 r1 r2
  go_wp2_with (fail)
  refine HC3.out.mono ?_
  rintro e wc ⟨rfl, uc⟩
  have HFC := Lib.hid ((HFA.out.upd0 uc).upd0 ((Upd.refl (fun _ => False) wc).alloc (.cells #[.int .u64 2, .int .u64 2, .int .i64 66, .int .i64 70, .int .i64 512] 25)))
  have VC := Lib.hid ((VA.out.trans uc (fun _ _ f => f.elim)).alloc (.cells #[.int .u64 2, .int .u64 2, .int .i64 66, .int .i64 70, .int .i64 512] 25))
  have HQ := Lib.hid (heap_alloc_new wc (.cells #[.int .u64 2, .int .u64 2, .int .i64 66, .int .i64 70, .int .i64 512] 25))
  have hlc : w13.heap.size + 2 < wc.heap.size ∧ bf < wc.heap.size := ⟨(HFA.out.upd0 uc).dev.ltb, (HFA.out.upd0 uc).ltf⟩
  clear uc
  have HBl := Lib.hid (fuse_Blow HFC.out)
  go_wp2_with (fail)
  refine HBl.out.mono ?_
  rintro e wb ⟨rfl, hfb, ub⟩
  change FD wb bf _ _ _ _ cad cc ⟨-1, 2, false, []⟩ (Dv.settleF (crashC []) 0 (((newD 512).set 1 (zeros, some u)).set 0 (zeros, some v))) at hfb
  have HFB := Lib.hid hfb
  have VB := Lib.hid (VC.out.trans ub (fun i hi e => by rcases e with e | e | e <;> omega))
  have HQB := Lib.hid (ub.heap HQ.out (fun e => by rcases e with e | e | e <;> omega))
  clear hfb ub
  have HC4 := Lib.hid (choose_down (w := wb) (some ⟨bf, 0, none⟩) 8 (by decide) (fun W hu => by have := fuse_Read (HFB.out.upd0 hu) 0; unfold Fz.readE at this; rw [if_neg (by decide)] at this; exact this))
  change Hid (Calls _ _ _ _ (fun e w' => e = .returned (.tuple #[.agg #[.int .u64 0, .int .u64 0, .int .i64 0, .int .i64 0, .int .i64 0], .int .i64 8]) ∧ Upd (fun _ => False) _ w')) at HC4
  go_wp2_with (fail)
  refine HC4.out.mono ?_
  rintro e wd ⟨rfl, ud⟩
  have ud2 := ud.alloc (.cells #[.int .u64 0, .int .u64 0, .int .i64 0, .int .i64 0, .int .i64 0] 25)
  have HFDd := Lib.hid (HFB.out.upd0 ud2)
  have VD := Lib.hid (VB.out.trans ud2 (fun _ _ f => f.elim))
  have HQD := Lib.hid (ud2.heap HQB.out (fun f => f))
  clear ud ud2
  have HC5 := Lib.hid (choose_down (w := (wd.alloc (.cells #[.int .u64 0, .int .u64 0, .int .i64 0, .int .i64 0, .int .i64 0] 25))) none 1 (by decide) (fun W hu => nofuse_Read 0 W))
  change Hid (Calls _ _ _ _ (fun e w' => e = .returned (.tuple #[.agg #[.int .u64 0, .int .u64 0, .int .i64 0, .int .i64 0, .int .i64 0], .int .i64 1]) ∧ Upd (fun _ => False) _ w')) at HC5
  go_wp2_with (fail)
  refine HC5.out.mono ?_
  rintro e we ⟨rfl, ue⟩
  have ue2 := ue.alloc (.cells #[.int .u64 0, .int .u64 0, .int .i64 0, .int .i64 0, .int .i64 0] 25)
  have HFE := Lib.hid (HFDd.out.upd0 ue2)
  have VE := Lib.hid (VD.out.trans ue2 (fun _ _ f => f.elim))
  have HQE := Lib.hid (ue2.heap HQD.out (fun f => f))
  clear ue ue2
  have x0 := cell_heap (VE.out.heap Hx.out (fun e => by omega)) 0 (.int .u64 2) rfl
  have x1 := cell_heap (VE.out.heap Hx.out (fun e => by omega)) 1 (.int .u64 2) rfl
  have x2 := cell_heap (VE.out.heap Hx.out (fun e => by omega)) 2 (.int .i64 66) rfl
  have x3 := cell_heap (VE.out.heap Hx.out (fun e => by omega)) 3 (.int .i64 70) rfl
  have x4 := cell_heap (VE.out.heap Hx.out (fun e => by omega)) 4 (.int .i64 512) rfl
  have q0 := cell_heap HQE.out 0 (.int .u64 2) rfl
  have q1 := cell_heap HQE.out 1 (.int .u64 2) rfl
  have q2 := cell_heap HQE.out 2 (.int .i64 66) rfl
  have q3 := cell_heap HQE.out 3 (.int .i64 70) rfl
  have q4 := cell_heap HQE.out 4 (.int .i64 512) rfl
  have hw6 := super_Write HFE.out (by show 2 ≤ _; omega) next0 (by decide) (by decide)
  unfold supWriteE at hw6
  rw [HPV.out, if_neg (by simp)] at hw6
  change Calls _ _ #[_, .agg #[.int .u64 2, .int .u64 2, .int .i64 66, .int .i64 70, .int .i64 512]] _ (fun e w' => e = .returned (.int .i64 8) ∧ _ ∧ Upd _ _ _) at hw6
  have HW6 := Lib.hid hw6
  clear hw6
  go_wp2_with (fail)
  refine HW6.out.mono ?_
  rintro e wf ⟨rfl, _, uf⟩
  have VF := Lib.hid (VE.out.trans uf (fun i hi e => by rcases e with e | e | e <;> omega))
  clear uf x0 q0 x1 q1 x2 q2 x3 q3 x4 q4
  have x0 := cell_heap (VF.out.heap Hx.out (fun e => by omega)) 0 (.int .u64 2) rfl
  have x1 := cell_heap (VF.out.heap Hx.out (fun e => by omega)) 1 (.int .u64 2) rfl
  have x2 := cell_heap (VF.out.heap Hx.out (fun e => by omega)) 2 (.int .i64 66) rfl
  have x3 := cell_heap (VF.out.heap Hx.out (fun e => by omega)) 3 (.int .i64 70) rfl
  have x4 := cell_heap (VF.out.heap Hx.out (fun e => by omega)) 4 (.int .i64 512) rfl
  have HW7 := Lib.hid (nosuper_Write next0 (by decide) (by decide) (by decide) wf)
  change Hid (Calls _ _ #[_, .agg #[.int .u64 2, .int .u64 2, .int .i64 66, .int .i64 70, .int .i64 512]] _ _) at HW7
  go_wp2_with (fail)
  refine HW7.out.mono ?_
  rintro e wg2 ⟨rfl, ug2⟩
  have VG := Lib.hid (VF.out.trans ug2 (fun _ _ f => f.elim))
  clear ug2 x0 x1 x2 x3 x4
  go_wp2_with (fail)
  refine (HWk.out _).mono ?_
  rintro e wh ⟨rfl, uh⟩
  go_wp2
  go_ret
  exact ⟨rfl, ((V0.out.trans VG.out (fun i hi e => by have := HV7.out.size; omega)).trans uh (fun _ _ f => f))⟩

end Go.Proofs.YtocioaondjgceaaGreatDoor
