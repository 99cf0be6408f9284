/- Chapter 10: DeviceApart. -/
import Derived.Test.YthdkhmmabfnnkaaDevL5
set_option linter.unusedVariables false
set_option linter.unusedSimpArgs false
namespace Go.Proofs.Ythdkhmmabfnnkaa
open Go.RowKit Go.Maps

set_option maxHeartbeats 4000000 in
set_option maxRecDepth 100000 in
theorem walk_DeviceApart (w : World) (v : Option Addr) (cp : Nat) (l : List DAct) (at_ : Nat) (s : List UInt8) (h : ActsAt w w.heap.size v l) (hat : at_ < 65536) (hsl : s.length ≤ 9223372036854775807) :
    Calls Try.prog 4 #[.slice v l.length cp, .int .u16 (at_ : Int), .string ⟨s.toArray⟩] w fun e w' => e = .returned (.bool true) ∧ Upd (fun i => w.heap.size ≤ i) w w' := by
  obtain ⟨B, hB⟩ : ∃ B, B = w.heap.size := ⟨_, rfl⟩
  rw [← hB] at h ⊢
  have HB := Lib.hid hB
  have HA := Lib.hid h
  have HF := Lib.hid (fun (W : World) (hu : Upd (fun _ => False) w W) => law_few (h.upd hu (fun _ _ f => f)) cp)
  obtain ⟨m, hm⟩ : ∃ m, m = l.length := ⟨_, rfl⟩
  have hm63 := h.len
  rw [← hm] at HF hm63 ⊢
  have HM := Lib.hid hm
  have HWk := Lib.hid law_works
  have HN := Lib.hid (dev_New_ok 512 w (by omega) (by omega))
  obtain ⟨sl, hsl2⟩ : ∃ sl, sl = s.length := ⟨_, rfl⟩
  have hsz : s.toArray.size = sl := by rw [hsl2]; simp
  rw [← hsl2] at hsl
  have HSL := Lib.hid hsl2
  obtain ⟨k0, hk0⟩ : ∃ k0, k0 = at_ % 512 := ⟨_, rfl⟩
  have hk5 : k0 < 512 := by omega
  have y1 : (at_ : Int) % 512 = (k0 : Int) := by omega
  have y2 : Int.tmod (at_ : Int) 512 = (k0 : Int) := by rw [Int.tmod_eq_emod_of_nonneg (by omega)]; exact y1
  clear h hB hm hsl2 hk0
  go_enter Try.func4, Try.ntmps4
  go_wp2_with (fail)
  refine HN.out.mono ?_
  rintro e w1 ⟨rfl, hd0, hu0⟩
  have HD0 : Hid (DevO w1 B (some ⟨w.heap.size + 2, 0, none⟩) (some (newD 512))) := Lib.hid ⟨_, _, _, _, rfl, by have := HB.out; omega, by have := HB.out; omega, by have := HB.out; omega, hd0⟩
  have HU0 := Lib.hid hu0
  clear hd0 hu0
  go_wp2_with (fail)
  refine (HF.out _ HU0.out).mono ?_
  rintro e w3 ⟨fw, rfl, hfw, rfl⟩
  cases fw
  · go_wp2_with (fail)
    refine (HWk.out _).mono ?_
    rintro e w4 ⟨rfl, u4⟩
    go_wp2
    go_ret
    exact ⟨rfl, upd_le (HU0.out.trans u4 (fun _ _ f => f))⟩
  have hfw := hfw rfl
  have hm60 : m ≤ 60 := by have := HM.out; omega
  clear hfw
  by_cases hbig : 128 < sl
  · go_wp2_with (fail)
    refine (HWk.out _).mono ?_
    rintro e w4 ⟨rfl, u4⟩
    go_wp2
    go_ret
    exact ⟨rfl, upd_le (HU0.out.trans u4 (fun _ _ f => f))⟩
  go_wp2
  go_loopw [7, 8] (fun x i wr => ∃ (k : Nat) (p : Option Addr) (d : List Dv.Cel), k ≤ m ∧ x = .pointer p ∧ i = .int .i64 k ∧ DevO wr B p (some d) ∧ d.length = 512 ∧ Upd (fun i => B ≤ i) w wr) (fun _ i _ => m - (intOf i).toNat)
  case atStart => exact ⟨0, _, _, Nat.zero_le _, rfl, rfl, HD0.out, by simp [newD], upd_le HU0.out⟩
  case round =>
    obtain ⟨k, p, d, hk, rfl, rfl, hd, hdl, hu⟩ := hrel
    have HA1 := Lib.hid (HA.out.upd hu (fun i hi f => by omega))
    have HDL := Lib.hid hdl
    clear hdl
    by_cases hlt : k < m
    · have hkl : k < l.length := by have := HM.out; omega
      obtain ⟨pa, rfl, hact, _, _, _, _, _, hload⟩ := HA1.out.cells k hkl
      have hD1 := law_do_any hd _ hact
      change Calls _ _ _ _ (fun e w' => ∃ p', e = .returned (.tuple #[.pointer p', .int .i64 (doD d (nth l k)).2]) ∧ DevO w' B p' (some (doD d (nth l k)).1) ∧ Upd (fun i => B ≤ i ∧ IsD _ i) _ w') at hD1
      have HD1 := Lib.hid hD1
      have HLD := Lib.hid hload
      have HU := Lib.hid hu
      clear hd hu hact hload hD1
      go_wp2_with (refine wpList_load_by rfl 31 (.tmp 43) rfl (pa.add (k * 5)) rfl _ HLD.out ?_)
      refine HD1.out.mono ?_
      rintro e w4 ⟨p2, rfl, hd2, u4⟩
      have hu2 : Upd (fun i => B ≤ i) w w4 := HU.out.trans u4 (fun i _ f => f.1)
      have HD2 := Lib.hid hd2
      have HU2 := Lib.hid hu2
      clear hd2 hu2 u4
      go_wp2
      go_roundw
      case rel => exact ⟨k + 1, p2, _, by omega, rfl, by go_num, HD2.out, by rw [do_len]; exact HDL.out, HU2.out⟩
      case measure => simp [intOf]; omega
    · obtain rfl : k = m := by omega
      obtain ⟨b, bs, bm, cap, rfl, g1, g2, g3, hd4⟩ := hd

      have hs8 : s.length ≤ 128 := by have := HSL.out; omega
      have HCp := Lib.hid (dev_Copy hd4)
      have HU4 := Lib.hid hu
      have HD4 := Lib.hid hd4
      have HOK := Lib.hid hd4.ok
      have HS8 := Lib.hid hs8
      clear hd4 hu hs8
      go_wp2_with (fail)
      refine HCp.out.mono ?_
      rintro e w5 ⟨b5, bs5, bm5, cap5, rfl, k1, k2, k3, hd5, u5⟩
      have hlb := HD4.out.ltb
      have hlbs := HD4.out.lts
      have hlbm := HD4.out.ltm
      have hd6 := HD4.out.upd u5 (fun f => f) (fun f => f) (fun f => f)
      have hu5 := HU4.out.trans u5 (fun _ _ f => f.elim)
      have hW := dev_Write hd5 (k0 : Int) s (by have := HS8.out; omega)
      have hA0 := fun i hi => apart_read (d := d) k0 (by have := HDL.out; omega) s HS8.out i hi
      rw [(hA0 k0 (by have := HDL.out; omega)).1] at hW
      have HW := Lib.hid hW
      have HA0 := Lib.hid hA0
      have HD5 := Lib.hid hd6
      have HU5 := Lib.hid hu5
      have hsz5 := u5.size
      clear hW hd5 hd6 hu5 u5 HCp HD4 hA0
      go_wp2_with (fail)
      refine HW.out.mono ?_
      rintro e w6 ⟨rfl, hc6, u6⟩
      have HC6 := Lib.hid hc6
      have HD6 := Lib.hid (HD5.out.upd u6 (fun f => by omega) (fun f => by omega) (fun f => by omega))
      have HU6 := Lib.hid (HU5.out.trans u6 (fun i hi f => by have := HB.out; have := HU4.out.size; omega))
      clear hc6 u6 HW
      have HFu := Lib.hid (fun W => law_full s W (by have := HS8.out; omega))
      go_wp2
      go_loopw [11] (fun i wr => ∃ (j : Nat), j ≤ 512 ∧ i = .int .i64 j ∧ Upd (fun _ => False) w6 wr) (fun i _ => 512 - (intOf i).toNat)
      case atStart => exact ⟨0, Nat.zero_le _, rfl, Upd.refl _ _⟩
      case round =>
        obtain ⟨j, hj, rfl, hu⟩ := hrel
        have HU7 := Lib.hid hu
        clear hu
        by_cases hjk : j < 512
        · obtain ⟨_, e1, e2⟩ := HA0.out j (by have := HDL.out; omega)
          have HR1 := Lib.hid (fun (W : World) (hu : Upd (fun _ => False) w6 W) => dev_Read (HD6.out.upd hu (fun f => f) (fun f => f) (fun f => f)) j)
          have HR2 := Lib.hid (fun (W : World) (hu : Upd (fun _ => False) w6 W) => dev_Read (HC6.out.upd hu (fun f => f) (fun f => f) (fun f => f)) j)
          have HS1 := Lib.hid (fun (W : World) (hu : Upd (fun _ => False) w6 W) => dev_Sure (HD6.out.upd hu (fun f => f) (fun f => f) (fun f => f)) j)
          have HS2 := Lib.hid (fun (W : World) (hu : Upd (fun _ => False) w6 W) => dev_Sure (HC6.out.upd hu (fun f => f) (fun f => f) (fun f => f)) j)
          rw [e1] at HR2
          rw [e2] at HS2
          generalize readE d j = rr at HR1 HR2
          generalize sureS d j = ss at HS1 HS2
          clear e1 e2
          obtain ⟨t, tc⟩ := rr
          by_cases hjk0 : j = k0
          · subst hjk0
            simp only [if_true] at HR2
            generalize Dv.full s = fs at HR2 HFu
            go_wp2_with (fail)
            refine (HR1.out _ HU7.out).mono ?_
            rintro e w7 ⟨rfl, u7⟩
            have v7 := HU7.out.trans u7 (fun _ _ f => f)
            go_wp2_with (fail)
            refine (HR2.out _ v7).mono ?_
            rintro e w8 ⟨rfl, u8⟩
            have v8 := v7.trans u8 (fun _ _ f => f)
            go_wp2_with (fail)
            refine (HFu.out _).mono ?_
            rintro e w8b ⟨rfl, u8b⟩
            have v8 := v8.trans u8b (fun _ _ f => f)
            go_wp2_with (fail)
            refine (HS2.out _ v8).mono ?_
            rintro e w9 ⟨rfl, u9⟩
            have v9 := v8.trans u9 (fun _ _ f => f)
            go_wp2_with (fail)
            refine (HS1.out _ v9).mono ?_
            rintro e w10 ⟨rfl, u10⟩
            have v10 := v9.trans u10 (fun _ _ f => f)
            have HV10 := Lib.hid v10
            clear v7 v8 v9 v10 u7 u8 u9 u10
            go_wp2
            go_roundw
            case rel => exact ⟨j + 1, by omega, by go_num, HV10.out⟩
            case measure => simp [intOf]; omega
          · simp only [if_neg hjk0] at HR2
            have hne1 : ((j : Int) == (k0 : Int)) = false := by simp; omega
            have hne2 : ((j : Int) != (k0 : Int)) = true := by simp; omega
            go_wp2_with (fail)
            refine (HR1.out _ HU7.out).mono ?_
            rintro e w7 ⟨rfl, u7⟩
            have v7 := HU7.out.trans u7 (fun _ _ f => f)
            go_wp2_with (fail)
            refine (HR2.out _ v7).mono ?_
            rintro e w8 ⟨rfl, u8⟩
            have v8 := v7.trans u8 (fun _ _ f => f)
            go_wp2_with (fail)
            refine (HS2.out _ v8).mono ?_
            rintro e w9 ⟨rfl, u9⟩
            have v9 := v8.trans u9 (fun _ _ f => f)
            go_wp2_with (fail)
            refine (HS1.out _ v9).mono ?_
            rintro e w10 ⟨rfl, u10⟩
            have v10 := v9.trans u10 (fun _ _ f => f)
            have HV10 := Lib.hid v10
            clear v7 v8 v9 v10 u7 u8 u9 u10
            go_wp2
            go_roundw
            case rel => exact ⟨j + 1, by omega, by go_num, HV10.out⟩
            case measure => simp [intOf]; omega
        · obtain rfl : j = 512 := by omega
          have hd7 := HD6.out.upd HU7.out (fun f => f) (fun f => f) (fun f => f)
          have hc7 := HC6.out.upd HU7.out (fun f => f) (fun f => f) (fun f => f)
          have hR := dev_Read hd7 (k0 : Int)
          have HBa := Lib.hid (fun (W : World) (hu : Upd (fun _ => False) w6 W) => dev_Barrier (HC6.out.upd hu (fun f => f) (fun f => f) (fun f => f)))
          have HRr := Lib.hid (fun (W : World) (hu : DevAt W b bs bm cap d) => dev_Read hu (k0 : Int))
          have hss := apart_sure HOK.out k0 (by have := HDL.out; omega) s HS8.out
          have HSs := Lib.hid (fun (W : World) (hu : DevAt W b5 bs5 bm5 cap5 (Dv.settleF (fun _ => 128) 0 (writeE d k0 s).1)) => dev_Sure hu (k0 : Int))
          rw [hss] at HSs
          generalize readE d k0 = rr at hR HRr
          obtain ⟨t, tc⟩ := rr
          generalize Dv.full s = fs at HSs HFu
          have HR := Lib.hid hR
          clear hd7 hc7 hR hss
          go_wp2_with (fail)
          refine HR.out.mono ?_
          rintro e w7 ⟨rfl, u7⟩
          have v7 := HU7.out.trans u7 (fun _ _ f => f)
          have HV7 := Lib.hid v7
          clear v7 u7
          go_wp2_with (fail)
          refine (HBa.out _ HV7.out).mono ?_
          rintro e w8 ⟨rfl, hc8, u8⟩
          have hd8 := (HD6.out.upd HV7.out (fun f => f) (fun f => f) (fun f => f)).upd u8 (fun f => by omega) (fun f => by omega) (fun f => by omega)
          have hu8 : Upd (fun i => B ≤ i) w w8 := (HU6.out.trans HV7.out (fun _ _ f => f.elim)).trans u8 (fun i hi f => by have := HB.out; have := HU4.out.size; omega)
          have HC8 := Lib.hid hc8
          have HD8 := Lib.hid hd8
          have HU8 := Lib.hid hu8
          clear hc8 hd8 hu8 u8
          go_wp2_with (fail)
          refine (HRr.out _ HD8.out).mono ?_
          rintro e w9 ⟨rfl, u9⟩
          have HC9 := Lib.hid (HC8.out.upd u9 (fun f => f) (fun f => f) (fun f => f))
          have HU9 := Lib.hid (HU8.out.trans u9 (fun _ _ f => f.elim))
          clear u9
          go_wp2_with (fail)
          refine (HSs.out _ HC9.out).mono ?_
          rintro e w10 ⟨rfl, u10⟩
          have HU10 := Lib.hid (HU9.out.trans u10 (fun _ _ f => f.elim))
          clear u10
          go_wp2_with (fail)
          refine (HFu.out _).mono ?_
          rintro e w11 ⟨rfl, u11⟩
          have HU11 := Lib.hid (HU10.out.trans u11 (fun _ _ f => f.elim))
          clear u11
          go_wp2_with (fail)
          refine (HWk.out _).mono ?_
          rintro e w12 ⟨rfl, u12⟩
          go_wp2
          go_ret
          exact ⟨rfl, HU11.out.trans u12 (fun _ _ f => f.elim)⟩

end Go.Proofs.Ythdkhmmabfnnkaa
