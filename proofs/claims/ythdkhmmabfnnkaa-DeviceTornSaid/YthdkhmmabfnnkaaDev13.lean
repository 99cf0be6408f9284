/- Chapter 10: works. -/
import Derived.Test.YthdkhmmabfnnkaaDev12
set_option linter.unusedVariables false
set_option linter.unusedSimpArgs false
namespace Go.Proofs.Ythdkhmmabfnnkaa
open Go.RowKit Go.Maps

theorem some_read : readE someD 3 = (Dv.full [97, 98], 0) := by decide +kernel
theorem some_sure : sureS someD 3 = Dv.full [] := by decide +kernel
theorem some_waits : waitsN someD = 1 := by decide +kernel
theorem left_1 : leftL [1] = Dv.full [97] := by decide +kernel
theorem left_0 : leftL [] = Dv.full [] := by decide +kernel
theorem left_m1 : leftL [-1] = Dv.full [97, 98] := by decide +kernel
theorem left_128 : leftL [128] = Dv.full [97, 98] := by decide +kernel
theorem left_129 : leftL [129] = Dv.full [97, 98] := by decide +kernel
theorem left_130 : leftL [130] = Dv.full [] := by decide +kernel
theorem left_05 : leftL [0, 5] = Dv.full [] := by decide +kernel
theorem left_2 : leftL [2] = Dv.full [97, 98] := by decide +kernel

theorem left_nil (w : World) : Calls Try.prog 24 #[.slice none 0 0] w (StrR (Dv.full []) w) := by
  rw [← left_0]
  exact law_left (ks := []) (by decide) (fun j hj => by cases hj) (fun g e => by cases e)
theorem left_one (w : World) (g : Nat) (x : Int) (hg : w.cell? ⟨g, 0, none⟩ = some (.int .i64 x)) : Calls Try.prog 24 #[.slice (some ⟨g, 0, none⟩) 1 1] w (StrR (leftL [x]) w) :=
  law_left (ks := [x]) (by simp) (fun j hj => by
    obtain rfl : j = 0 := by simp at hj; exact hj
    exact ⟨_, rfl, hg⟩) (fun g' e => by cases e; exact World.block_lt_of_cell? _ _ hg)

set_option maxHeartbeats 1000000 in
theorem law_works (w : World) : Calls Try.prog 9 #[] w fun e w' => e = .returned (.bool true) ∧ Upd (fun _ => False) w w' := by
  have HS := Lib.hid (law_some w)
  have HA := Lib.hid (fun w => law_full [97, 98] w (by decide))
  have HE := Lib.hid (fun w => law_full [] w (by decide))
  have HB := Lib.hid (fun w => law_full [97] w (by decide))
  have HL0 := Lib.hid left_nil
  have hl1 : ∀ (w : World) (g : Nat), w.cell? ⟨g, 0, none⟩ = some (.int .i64 1) → Calls Try.prog 24 #[.slice (some ⟨g, 0, none⟩) 1 1] w (StrR (Dv.full [97]) w) := fun w g h => by rw [← left_1]; exact left_one w g 1 h
  have HL1 := Lib.hid hl1
  clear hl1
  have HRd : ∀ (w : World) (b bs bm cap : Nat), DevAt w b bs bm cap someD → Calls Try.prog 13 #[.pointer (some ⟨b, 0, none⟩), .int .i64 3] w (StrE (Dv.full [97, 98], 0) w) := fun w b bs bm cap h => by rw [← some_read]; exact dev_Read h 3
  have HSu : ∀ (w : World) (b bs bm cap : Nat), DevAt w b bs bm cap someD → Calls Try.prog 14 #[.pointer (some ⟨b, 0, none⟩), .int .i64 3] w (StrR (Dv.full []) w) := fun w b bs bm cap h => by rw [← some_sure]; exact dev_Sure h 3
  have HWt : ∀ (w : World) (b bs bm cap : Nat), DevAt w b bs bm cap someD → Calls Try.prog 15 #[.pointer (some ⟨b, 0, none⟩)] w (fun e w' => e = .returned (.int .i64 1) ∧ w = w') := fun w b bs bm cap h => by
    have := dev_Waiting h
    rw [some_waits] at this
    exact this
  obtain ⟨fab, hab⟩ : ∃ x, x = Dv.full [97, 98] := ⟨_, rfl⟩
  obtain ⟨fe, hfe⟩ : ∃ x, x = Dv.full [] := ⟨_, rfl⟩
  obtain ⟨fa, hfa⟩ : ∃ x, x = Dv.full [97] := ⟨_, rfl⟩
  rw [← hab] at HA
  rw [← hfe] at HE HL0
  rw [← hfa] at HB HL1
  have HRd2 := Lib.hid HRd
  have HSu2 := Lib.hid HSu
  have HWt2 := Lib.hid HWt
  clear HRd HSu HWt
  rw [← hab] at HRd2
  rw [← hfe] at HSu2
  clear hab hfe hfa
  go_enter Try.func9, Try.ntmps9
  go_wp2_with (fail)
  refine HS.out.mono ?_
  rintro e w1 ⟨b, bs, bm, cap, rfl, hb, hbs, hbm, hd, u1⟩
  go_wp2_with (fail)
  refine (HRd2.out _ _ _ _ _ hd).mono ?_
  rintro e w2 ⟨rfl, u2⟩
  have hd2 := hd.upd u2 (fun f => f) (fun f => f) (fun f => f)
  go_wp2_with (fail)
  refine (HA.out _).mono ?_
  rintro e w3 ⟨rfl, u3⟩
  have hd3 := hd2.upd u3 (fun f => f) (fun f => f) (fun f => f)
  go_wp2_with (fail)
  refine (HSu2.out _ _ _ _ _ hd3).mono ?_
  rintro e w4 ⟨rfl, u4⟩
  have hd4 := hd3.upd u4 (fun f => f) (fun f => f) (fun f => f)
  go_wp2_with (fail)
  refine (HE.out _).mono ?_
  rintro e w5 ⟨rfl, u5⟩
  have hd5 := hd4.upd u5 (fun f => f) (fun f => f) (fun f => f)
  go_wp2_with (fail)
  refine (HWt2.out _ _ _ _ _ hd5).mono ?_
  rintro e w6 ⟨rfl, rfl⟩
  go_wp2_with (fail)
  refine (HL1.out _ _ (cell_of_row _ _ 0 _ _ _ (heap_alloc_new w5 _))).mono ?_
  rintro e w7 ⟨rfl, u7⟩
  go_wp2_with (fail)
  refine (HB.out _).mono ?_
  rintro e w8 ⟨rfl, u8⟩
  go_wp2_with (fail)
  refine (HL0.out _).mono ?_
  rintro e w9 ⟨rfl, u9⟩
  go_wp2_with (fail)
  refine (HE.out _).mono ?_
  rintro e w10 ⟨rfl, u10⟩
  go_wp2
  go_ret
  refine ⟨rfl, ?_⟩
  exact ((((((((u1.trans u2 (fun _ _ f => f)).trans u3 (fun _ _ f => f)).trans u4 (fun _ _ f => f)).trans u5 (fun _ _ f => f)).alloc _).trans u7 (fun _ _ f => f)).trans u8 (fun _ _ f => f)).trans u9 (fun _ _ f => f)).trans u10 (fun _ _ f => f)

end Go.Proofs.Ythdkhmmabfnnkaa
