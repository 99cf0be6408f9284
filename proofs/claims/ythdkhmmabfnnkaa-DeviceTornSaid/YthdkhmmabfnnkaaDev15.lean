/- Chapter 10: DeviceKnown. -/
import Derived.Test.YthdkhmmabfnnkaaDev14
set_option linter.unusedVariables false
set_option linter.unusedSimpArgs false
namespace Go.Proofs.Ythdkhmmabfnnkaa
open Go.RowKit Go.Maps

def known129 : List UInt8 := List.replicate 129 120
theorem write_at {d d' : List Dv.Cel} {k : Int} {s : List UInt8} {r : Int} (hw : writeE d k s = (d', r)) (hl : s.length ≤ 1000) {w : World} {b bs bm cap : Nat} (h : DevAt w b bs bm cap d) :
    Calls Try.prog 16 #[.pointer (some ⟨b, 0, none⟩), .int .i64 k, .string ⟨s.toArray⟩] w fun e w' => e = .returned (.int .i64 r) ∧ DevAt w' b bs bm cap d' ∧ Upd (fun i => i = bm) w w' := by
  have := dev_Write h k s (by omega)
  rw [hw] at this
  exact this
theorem rep_129 (w : World) : Calls Try.prog 25 #[.string ⟨#[120]⟩, .int .i64 129] w (StrR known129 w) := rep_x 129 w (by omega)
theorem rep_128 (w : World) : Calls Try.prog 25 #[.string ⟨#[120]⟩, .int .i64 128] w (StrR knownX w) := rep_x 128 w (by omega)

set_option maxHeartbeats 4000000 in
set_option maxRecDepth 100000 in
theorem walk_DeviceKnown (w : World) : Calls Try.prog 6 #[] w fun e w' => e = .returned (.bool true) ∧ Upd (fun _ => False) w w' := by
  have HS := Lib.hid (law_some w)
  have HWk := Lib.hid law_works
  have HA := Lib.hid (fun w => law_full [97, 98] w (by decide))
  have HE := Lib.hid (fun w => law_full [] w (by decide))
  have HC := Lib.hid (fun w => law_full [99] w (by decide))
  have hl1 : ∀ (w : World) (g : Nat) (x : Int) (h : x = -1 ∨ x = 128 ∨ x = 129 ∨ x = 2), w.cell? ⟨g, 0, none⟩ = some (.int .i64 x) → Calls Try.prog 24 #[.slice (some ⟨g, 0, none⟩) 1 1] w (StrR (Dv.full [97, 98]) w) := fun w g x hx h => by
    have := left_one w g x h
    rcases hx with rfl | rfl | rfl | rfl
    · rwa [left_m1] at this
    · rwa [left_128] at this
    · rwa [left_129] at this
    · rwa [left_2] at this
  have hl2 : ∀ (w : World) (g : Nat), w.cell? ⟨g, 0, none⟩ = some (.int .i64 130) → Calls Try.prog 24 #[.slice (some ⟨g, 0, none⟩) 1 1] w (StrR (Dv.full []) w) := fun w g h => by rw [← left_130]; exact left_one w g 130 h
  have hl3 : ∀ (w : World) (g : Nat), w.cell? ⟨g, 0, none⟩ = some (.int .i64 0) → w.cell? ⟨g, 1, none⟩ = some (.int .i64 5) → Calls Try.prog 24 #[.slice (some ⟨g, 0, none⟩) 2 2] w (StrR (Dv.full []) w) := fun w g h h2 => by rw [← left_05]; exact left_two w g 0 5 h h2
  have HL1 := Lib.hid hl1
  have HL2 := Lib.hid hl2
  have HL3 := Lib.hid hl3
  clear hl1 hl2 hl3
  obtain ⟨fab, hab⟩ : ∃ x, x = Dv.full [97, 98] := ⟨_, rfl⟩
  obtain ⟨fe, hfe⟩ : ∃ x, x = Dv.full [] := ⟨_, rfl⟩
  obtain ⟨fc, hfc⟩ : ∃ x, x = Dv.full [99] := ⟨_, rfl⟩
  rw [← hfc] at HC
  have HFC := Lib.hid hfc
  rw [← hab] at HA HL1
  rw [← hfe] at HE HL2 HL3
  clear hab hfe hfc
  obtain ⟨kx, hkx⟩ : ∃ x, x = knownX := ⟨_, rfl⟩
  obtain ⟨ky, hky⟩ : ∃ x, x = known129 := ⟨_, rfl⟩
  have w1e : writeE someD 0 ky = (someD, 3) := by rw [hky]; exact kw_129
  have w2e : writeE someD 0 kx = (known1, 0) := by rw [hkx]; exact Prod.ext rfl kw_128
  have w3e : writeE known1 511 [] = (known2, 0) := Prod.ext rfl kw_511
  have lx : kx.length ≤ 1000 := by rw [hkx]; decide
  have ly : ky.length ≤ 1000 := by rw [hky]; decide
  have HR9 := Lib.hid rep_129
  have HR8 := Lib.hid rep_128
  rw [← hkx] at HR8
  rw [← hky] at HR9
  have W1E := Lib.hid w1e
  have W2E := Lib.hid w2e
  have W3E := Lib.hid w3e
  clear hkx hky w1e w2e w3e
  go_enter Try.func6, Try.ntmps6
  go_wp2_with (fail)
  refine (HS.out).mono ?_
  rintro e w1 ⟨b, bs, bm, cap, rfl, hb, hbs, hbm, hd1, u1⟩
  have hu1 := u1
  go_wp2_with (fail)
  refine (HWk.out _).mono ?_
  rintro e w2 ⟨rfl, u2⟩
  have hu2 : Upd (fun _ => False) w w2 := (hu1).trans u2 (fun _ _ f => f)
  have hd2 := hd1.upd u2 (fun f => f) (fun f => f) (fun f => f)
  go_wp2_with (fail)
  refine (HL1.out _ _ _ (by simp) (cell_of_row _ _ 0 _ _ _ (heap_alloc_new w2 _))).mono ?_
  rintro e w3 ⟨rfl, u3⟩
  have hu3 : Upd (fun _ => False) w w3 := ((hu2).alloc _).trans u3 (fun _ _ f => f)
  have hd3 := (hd2.upd ((Upd.refl (fun _ => False) w2).alloc _) (fun f => f) (fun f => f) (fun f => f)).upd u3 (fun f => f) (fun f => f) (fun f => f)
  go_wp2_with (fail)
  refine (HA.out _).mono ?_
  rintro e w4 ⟨rfl, u4⟩
  have hu4 : Upd (fun _ => False) w w4 := (hu3).trans u4 (fun _ _ f => f)
  have hd4 := hd3.upd u4 (fun f => f) (fun f => f) (fun f => f)
  go_wp2_with (fail)
  refine (HL1.out _ _ _ (by simp) (cell_of_row _ _ 0 _ _ _ (heap_alloc_new w4 _))).mono ?_
  rintro e w5 ⟨rfl, u5⟩
  have hu5 : Upd (fun _ => False) w w5 := ((hu4).alloc _).trans u5 (fun _ _ f => f)
  have hd5 := (hd4.upd ((Upd.refl (fun _ => False) w4).alloc _) (fun f => f) (fun f => f) (fun f => f)).upd u5 (fun f => f) (fun f => f) (fun f => f)
  go_wp2_with (fail)
  refine (HA.out _).mono ?_
  rintro e w6 ⟨rfl, u6⟩
  have hu6 : Upd (fun _ => False) w w6 := (hu5).trans u6 (fun _ _ f => f)
  have hd6 := hd5.upd u6 (fun f => f) (fun f => f) (fun f => f)
  go_wp2_with (fail)
  refine (HL1.out _ _ _ (by simp) (cell_of_row _ _ 0 _ _ _ (heap_alloc_new w6 _))).mono ?_
  rintro e w7 ⟨rfl, u7⟩
  have hu7 : Upd (fun _ => False) w w7 := ((hu6).alloc _).trans u7 (fun _ _ f => f)
  have hd7 := (hd6.upd ((Upd.refl (fun _ => False) w6).alloc _) (fun f => f) (fun f => f) (fun f => f)).upd u7 (fun f => f) (fun f => f) (fun f => f)
  go_wp2_with (fail)
  refine (HA.out _).mono ?_
  rintro e w8 ⟨rfl, u8⟩
  have hu8 : Upd (fun _ => False) w w8 := (hu7).trans u8 (fun _ _ f => f)
  have hd8 := hd7.upd u8 (fun f => f) (fun f => f) (fun f => f)
  go_wp2_with (fail)
  refine (HL2.out _ _ (cell_of_row _ _ 0 _ _ _ (heap_alloc_new w8 _))).mono ?_
  rintro e w9 ⟨rfl, u9⟩
  have hu9 : Upd (fun _ => False) w w9 := ((hu8).alloc _).trans u9 (fun _ _ f => f)
  have hd9 := (hd8.upd ((Upd.refl (fun _ => False) w8).alloc _) (fun f => f) (fun f => f) (fun f => f)).upd u9 (fun f => f) (fun f => f) (fun f => f)
  go_wp2_with (fail)
  refine (HE.out _).mono ?_
  rintro e w10 ⟨rfl, u10⟩
  have hu10 : Upd (fun _ => False) w w10 := (hu9).trans u10 (fun _ _ f => f)
  have hd10 := hd9.upd u10 (fun f => f) (fun f => f) (fun f => f)
  go_wp2_with (fail)
  refine (HL3.out _ _ (cell_of_row _ _ 0 _ _ _ (heap_alloc_new w10 _)) (cell_of_row _ _ 1 _ _ _ (heap_alloc_new w10 _))).mono ?_
  rintro e w11 ⟨rfl, u11⟩
  have hu11 : Upd (fun _ => False) w w11 := ((hu10).alloc _).trans u11 (fun _ _ f => f)
  have hd11 := (hd10.upd ((Upd.refl (fun _ => False) w10).alloc _) (fun f => f) (fun f => f) (fun f => f)).upd u11 (fun f => f) (fun f => f) (fun f => f)
  go_wp2_with (fail)
  refine (HE.out _).mono ?_
  rintro e w12 ⟨rfl, u12⟩
  have hu12 : Upd (fun _ => False) w w12 := (hu11).trans u12 (fun _ _ f => f)
  have hd12 := hd11.upd u12 (fun f => f) (fun f => f) (fun f => f)
  go_wp2_with (fail)
  refine (HL1.out _ _ _ (by simp) (cell_of_row _ _ 0 _ _ _ (heap_alloc_new w12 _))).mono ?_
  rintro e w13 ⟨rfl, u13⟩
  have hu13 : Upd (fun _ => False) w w13 := ((hu12).alloc _).trans u13 (fun _ _ f => f)
  have hd13 := (hd12.upd ((Upd.refl (fun _ => False) w12).alloc _) (fun f => f) (fun f => f) (fun f => f)).upd u13 (fun f => f) (fun f => f) (fun f => f)
  go_wp2_with (fail)
  refine (HA.out _).mono ?_
  rintro e w14 ⟨rfl, u14⟩
  have hu14 : Upd (fun _ => False) w w14 := (hu13).trans u14 (fun _ _ f => f)
  have hd14 := hd13.upd u14 (fun f => f) (fun f => f) (fun f => f)
  go_wp2_with (fail)
  refine (write_at kw_512 (by decide) hd14).mono ?_
  rintro e w15 ⟨rfl, hd15, u15⟩
  have hu15 : Upd (fun _ => False) w w15 := (hu14).trans u15 (fun i hi f => by omega)
  go_wp2_with (fail)
  refine (write_at kw_m1 (by decide) hd15).mono ?_
  rintro e w16 ⟨rfl, hd16, u16⟩
  have hu16 : Upd (fun _ => False) w w16 := (hu15).trans u16 (fun i hi f => by omega)
  go_wp2_with (fail)
  refine (HR9.out _).mono ?_
  rintro e w17 ⟨rfl, u17⟩
  have hu17 : Upd (fun _ => False) w w17 := (hu16).trans u17 (fun _ _ f => f)
  have hd17 := hd16.upd u17 (fun f => f) (fun f => f) (fun f => f)
  go_wp2_with (fail)
  refine (write_at W1E.out ly hd17).mono ?_
  rintro e w18 ⟨rfl, hd18, u18⟩
  have hu18 : Upd (fun _ => False) w w18 := (hu17).trans u18 (fun i hi f => by omega)
  go_wp2_with (fail)
  refine (HR8.out _).mono ?_
  rintro e w19 ⟨rfl, u19⟩
  have hu19 : Upd (fun _ => False) w w19 := (hu18).trans u19 (fun _ _ f => f)
  have hd19 := hd18.upd u19 (fun f => f) (fun f => f) (fun f => f)
  go_wp2_with (fail)
  refine (write_at W2E.out lx hd19).mono ?_
  rintro e w20 ⟨rfl, hd20, u20⟩
  have hu20 : Upd (fun _ => False) w w20 := (hu19).trans u20 (fun i hi f => by omega)
  go_wp2_with (fail)
  refine (write_at W3E.out (by decide) hd20).mono ?_
  rintro e w21 ⟨rfl, hd21, u21⟩
  have hu21 : Upd (fun _ => False) w w21 := (hu20).trans u21 (fun i hi f => by omega)
  have hwt := dev_Waiting hd21
  rw [kw_wait] at hwt
  go_wp2_with (fail)
  refine hwt.mono ?_
  rintro e wz ⟨rfl, rfl⟩
  clear hwt
  have w4e : writeE known2 3 [99] = (known3, 0) := Prod.ext rfl (by decide +kernel)
  have W4E := Lib.hid w4e
  clear w4e
  go_wp2_with (fail)
  refine (write_at W4E.out (by decide) hd21).mono ?_
  rintro e w22 ⟨rfl, hd22, u22⟩
  have hu22 : Upd (fun _ => False) w w22 := (hu21).trans u22 (fun i hi f => by omega)
  go_wp2_with (fail)
  refine (dev_Barrier hd22).mono ?_
  rintro e w23 ⟨rfl, hd23, u23⟩
  have hd23b : DevAt w23 b bs bm cap known4 := hd23
  have hu23 : Upd (fun _ => False) w w23 := (hu22).trans u23 (fun i hi f => by omega)
  have hrd := dev_Read hd23b 512
  rw [kr_512] at hrd
  go_wp2_with (fail)
  refine (hrd).mono ?_
  rintro e w24 ⟨rfl, u24⟩
  have hu24 : Upd (fun _ => False) w w24 := (hu23).trans u24 (fun _ _ f => f)
  have hd24 := hd23b.upd u24 (fun f => f) (fun f => f) (fun f => f)
  clear hrd
  have hz0 : NoDev (w24.alloc (.cells #[.slice none 0 0, .map none] 58)) (some ⟨w24.heap.size, 0, none⟩) := Or.inr ⟨_, _, rfl, heap_alloc_new _ _⟩
  have hdz := hd24.upd ((Upd.refl (fun _ => False) w24).alloc (.cells #[.slice none 0 0, .map none] 58)) (fun f => f) (fun f => f) (fun f => f)
  have huz : Upd (fun _ => False) w (w24.alloc (.cells #[.slice none 0 0, .map none] 58)) := (hu24).alloc _
  go_wp2_with (fail)
  refine (nodev_Barrier (Or.inl rfl)).mono ?_
  rintro e wy ⟨rfl, rfl⟩
  go_wp2_with (fail)
  refine (nodev_Crash (Or.inl rfl) _ _ _).mono ?_
  rintro e w25 ⟨rfl, u25⟩
  have hu25 : Upd (fun _ => False) w w25 := (huz).trans u25 (fun _ _ f => f)
  have hd25 := hdz.upd u25 (fun f => f) (fun f => f) (fun f => f)
  have hz25 := hz0.upd u25 (fun _ _ f => f)
  go_wp2_with (fail)
  refine (nodev_Barrier hz25).mono ?_
  rintro e wy ⟨rfl, rfl⟩
  have hy25 := hz25.upd ((Upd.refl (fun _ => False) w25).alloc (.cells #[.int .i64 1] 3)) (fun _ _ f => f)
  go_wp2_with (fail)
  refine (nodev_Crash hy25 _ _ _).mono ?_
  rintro e w26 ⟨rfl, u26⟩
  have hu26 : Upd (fun _ => False) w w26 := ((hu25).alloc _).trans u26 (fun _ _ f => f)
  have hd26 := (hd25.upd ((Upd.refl (fun _ => False) w25).alloc _) (fun f => f) (fun f => f) (fun f => f)).upd u26 (fun f => f) (fun f => f) (fun f => f)
  have hz26 := hy25.upd u26 (fun _ _ f => f)
  go_wp2_with (fail)
  refine (nodev_Read hz26 0).mono ?_
  rintro e w27 ⟨rfl, u27⟩
  have hu27 : Upd (fun _ => False) w w27 := (hu26).trans u27 (fun _ _ f => f)
  have hd27 := hd26.upd u27 (fun f => f) (fun f => f) (fun f => f)
  have hz27 := hz26.upd u27 (fun _ _ f => f)
  have hsu := dev_Sure hd27 3
  rw [ks_3, ← HFC.out] at hsu
  go_wp2_with (fail)
  refine (hsu).mono ?_
  rintro e w28 ⟨rfl, u28⟩
  have hu28 : Upd (fun _ => False) w w28 := (hu27).trans u28 (fun _ _ f => f)
  have hd28 := hd27.upd u28 (fun f => f) (fun f => f) (fun f => f)
  clear hsu
  have hz28 := hz27.upd u28 (fun _ _ f => f)
  go_wp2_with (fail)
  refine (HC.out _).mono ?_
  rintro e w29 ⟨rfl, u29⟩
  have hu29 : Upd (fun _ => False) w w29 := (hu28).trans u29 (fun _ _ f => f)
  have hd29 := hd28.upd u29 (fun f => f) (fun f => f) (fun f => f)
  have hz29 := hz28.upd u29 (fun _ _ f => f)
  have hwt := dev_Waiting hd29
  rw [kw_wait4] at hwt
  go_wp2_with (fail)
  refine hwt.mono ?_
  rintro e wz ⟨rfl, rfl⟩
  clear hwt
  have hsu := dev_Sure hd29 512
  rw [ks_512] at hsu
  go_wp2_with (fail)
  refine (hsu).mono ?_
  rintro e w30 ⟨rfl, u30⟩
  have hu30 : Upd (fun _ => False) w w30 := (hu29).trans u30 (fun _ _ f => f)
  have hd30 := hd29.upd u30 (fun f => f) (fun f => f) (fun f => f)
  clear hsu
  have hz30 := hz29.upd u30 (fun _ _ f => f)
  have hse := dev_Sectors hd30
  rw [kl_4] at hse
  go_wp2_with (fail)
  refine hse.mono ?_
  rintro e wz ⟨rfl, rfl⟩
  clear hse
  go_wp2_with (fail)
  refine (dev_New_no 511 _ (by omega)).mono ?_
  rintro e wz ⟨rfl, rfl⟩
  go_wp2_with (fail)
  refine (dev_New_no 4097 _ (by omega)).mono ?_
  rintro e wz ⟨rfl, rfl⟩
  go_wp2_with (fail)
  refine (dev_New_ok 4096 _ (by omega) (by omega)).mono ?_
  rintro e w31 ⟨rfl, hdn, u31⟩
  clear hdn
  have hu31 : Upd (fun _ => False) w w31 := (hu30).trans u31 (fun _ _ f => f)
  have hd31 := hd30.upd u31 (fun f => f) (fun f => f) (fun f => f)
  have hz31 := hz30.upd u31 (fun _ _ f => f)
  go_wp2_with (fail)
  refine (nodev_Write (Or.inl rfl) 0 _).mono ?_
  rintro e wz ⟨rfl, rfl⟩
  go_wp2_with (fail)
  refine (nodev_Sectors (Or.inl rfl)).mono ?_
  rintro e wz ⟨rfl, rfl⟩
  go_wp2_with (fail)
  refine (nodev_Waiting hz31).mono ?_
  rintro e wz ⟨rfl, rfl⟩
  go_wp2_with (fail)
  refine (nodev_Copy (Or.inl rfl)).mono ?_
  rintro e wz ⟨rfl, rfl⟩
  go_wp2_with (fail)
  refine (nodev_Copy hz31).mono ?_
  rintro e wz ⟨rfl, rfl⟩
  go_wp2_with (fail)
  refine (nodev_Sure (Or.inl rfl) 0).mono ?_
  rintro e w32 ⟨rfl, u32⟩
  have hu32 : Upd (fun _ => False) w w32 := (hu31).trans u32 (fun _ _ f => f)
  have hd32 := hd31.upd u32 (fun f => f) (fun f => f) (fun f => f)
  have hz32 := hz31.upd u32 (fun _ _ f => f)
  go_wp2_with (fail)
  refine (HWk.out _).mono ?_
  rintro e w33 ⟨rfl, u33⟩
  have hu33 : Upd (fun _ => False) w w33 := (hu32).trans u33 (fun _ _ f => f)
  have hd33 := hd32.upd u33 (fun f => f) (fun f => f) (fun f => f)
  go_wp2
  go_ret
  exact ⟨rfl, hu33⟩

end Go.Proofs.Ythdkhmmabfnnkaa
