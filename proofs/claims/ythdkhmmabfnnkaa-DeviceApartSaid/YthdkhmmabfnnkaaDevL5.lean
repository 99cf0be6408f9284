/- Chapter 10: DeviceTorn, DeviceApart. -/
import Derived.Test.YthdkhmmabfnnkaaDevL4
set_option linter.unusedVariables false
set_option linter.unusedSimpArgs false
namespace Go.Proofs.Ythdkhmmabfnnkaa
open Go.RowKit Go.Maps

theorem byte_getD' (l : List UInt8) (i : Nat) : ∀ h, (((⟨l.toArray⟩ : ByteArray)[i]'h).toNat : Int) = (((l.getD i 0).toNat : Nat) : Int) := fun h => by
  have hl : i < l.length := by simpa [size_list] using h
  rw [List.getD, List.getElem?_eq_getElem hl]; rfl

set_option maxHeartbeats 4000000 in
set_option maxRecDepth 100000 in
theorem walk_DeviceTorn (w : World) (v : Option Addr) (cp : Nat) (l : List DAct) (ad1 : Option Addr) (cp1 : Nat) (ks1 : List Int) (ad2 : Option Addr) (cp2 : Nat) (ks2 : List Int) (h : ActsAt w w.heap.size v l) (hn1 : NumsAt w w.heap.size ad1 ks1) (hn2 : NumsAt w w.heap.size ad2 ks2) :
    Calls Try.prog 3 #[.slice v l.length cp, .slice ad1 ks1.length cp1, .slice ad2 ks2.length cp2] w fun e w' => e = .returned (.bool true) ∧ Upd (fun i => w.heap.size ≤ i) w w' := by
  obtain ⟨B, hB⟩ : ∃ B, B = w.heap.size := ⟨_, rfl⟩
  rw [← hB] at h hn1 hn2 ⊢
  have HB := Lib.hid hB
  have HA := Lib.hid h
  have HF := Lib.hid (fun (W : World) (hu : Upd (fun _ => False) w W) => law_few (h.upd hu (fun _ _ f => f)) cp)
  obtain ⟨m, hm⟩ : ∃ m, m = l.length := ⟨_, rfl⟩
  have hm63 := h.len
  rw [← hm] at HF hm63 ⊢
  have HM := Lib.hid hm
  have HWk := Lib.hid law_works
  have HN := Lib.hid (dev_New_ok 512 w (by omega) (by omega))
  obtain ⟨m1, hm1⟩ : ∃ m1, m1 = ks1.length := ⟨_, rfl⟩
  obtain ⟨m2, hm2⟩ : ∃ m2, m2 = ks2.length := ⟨_, rfl⟩
  have HN1 := Lib.hid hn1
  have HN2 := Lib.hid hn2
  have HM1 := Lib.hid hm1
  have HM2 := Lib.hid hm2
  rw [← hm1, ← hm2]
  clear h hB hm hm1 hm2 hn1 hn2
  go_enter Try.func3, Try.ntmps3
  go_wp2_with (fail)
  refine HN.out.mono ?_
  rintro e w1 ⟨rfl, hd0, hu0⟩
  have HD0 : Hid (DevO w1 B (some ⟨w.heap.size + 2, 0, none⟩) (some (newD 512))) := Lib.hid ⟨_, _, _, _, rfl, by have := HB.out; omega, by have := HB.out; omega, by have := HB.out; omega, hd0⟩
  have HU0 := Lib.hid hu0
  clear hd0 hu0
  go_wp2_with (fail)
  refine (HF.out _ HU0.out).mono ?_
  rintro e w3 ⟨fw, rfl, hfw, rfl⟩
  cases fw
  · go_wp2_with (fail)
    refine (HWk.out _).mono ?_
    rintro e w4 ⟨rfl, u4⟩
    go_wp2
    go_ret
    exact ⟨rfl, upd_le (HU0.out.trans u4 (fun _ _ f => f))⟩
  have hfw := hfw rfl
  have hm60 : m ≤ 60 := by have := HM.out; omega
  clear hfw
  go_wp2
  go_loopw [7, 8] (fun x i wr => ∃ (k : Nat) (p : Option Addr) (d : List Dv.Cel), k ≤ m ∧ x = .pointer p ∧ i = .int .i64 k ∧ DevO wr B p (some d) ∧ d.length = 512 ∧ Upd (fun i => B ≤ i) w wr) (fun _ i _ => m - (intOf i).toNat)
  case atStart => exact ⟨0, _, _, Nat.zero_le _, rfl, rfl, HD0.out, by simp [newD], upd_le HU0.out⟩
  case round =>
    obtain ⟨k, p, d, hk, rfl, rfl, hd, hdl, hu⟩ := hrel
    have HA1 := Lib.hid (HA.out.upd hu (fun i hi f => by omega))
    have HDL := Lib.hid hdl
    clear hdl
    by_cases hlt : k < m
    · have hkl : k < l.length := by have := HM.out; omega
      obtain ⟨pa, rfl, hact, _, _, _, _, _, hload⟩ := HA1.out.cells k hkl
      have hD1 := law_do_any hd _ hact
      change Calls _ _ _ _ (fun e w' => ∃ p', e = .returned (.tuple #[.pointer p', .int .i64 (doD d (nth l k)).2]) ∧ DevO w' B p' (some (doD d (nth l k)).1) ∧ Upd (fun i => B ≤ i ∧ IsD _ i) _ w') at hD1
      have HD1 := Lib.hid hD1
      have HLD := Lib.hid hload
      have HU := Lib.hid hu
      clear hd hu hact hload hD1
      go_wp2_with (refine wpList_load_by rfl 31 (.tmp 41) rfl (pa.add (k * 5)) rfl _ HLD.out ?_)
      refine HD1.out.mono ?_
      rintro e w4 ⟨p2, rfl, hd2, u4⟩
      have hu2 : Upd (fun i => B ≤ i) w w4 := HU.out.trans u4 (fun i _ f => f.1)
      have HD2 := Lib.hid hd2
      have HU2 := Lib.hid hu2
      clear hd2 hu2 u4
      go_wp2
      go_roundw
      case rel => exact ⟨k + 1, p2, _, by omega, rfl, by go_num, HD2.out, by rw [do_len]; exact HDL.out, HU2.out⟩
      case measure => simp [intOf]; omega
    · obtain rfl : k = m := by omega
      obtain ⟨b, bs, bm, cap, rfl, g1, g2, g3, hd4⟩ := hd

      have HCp := Lib.hid (dev_Copy hd4)
      have HU4 := Lib.hid hu
      have HD4 := Lib.hid hd4
      have hok := hd4.ok
      have HOK := Lib.hid hok
      clear hd4 hu hok
      go_wp2_with (fail)
      refine HCp.out.mono ?_
      rintro e w5 ⟨b5, bs5, bm5, cap5, rfl, k1, k2, k3, hd5, u5⟩
      have hlb := HD4.out.ltb
      have hlbs := HD4.out.lts
      have hlbm := HD4.out.ltm
      have hd6 := HD4.out.upd u5 (fun f => f) (fun f => f) (fun f => f)
      have hu5 := HU4.out.trans u5 (fun _ _ f => f.elim)
      have hnu := HN1.out.upd hu5 (fun i hi f => by omega)
      have hcr := dev_Crash (cp := cp1) hd6 hnu.len hnu.row (fun p e hne => by have := hnu.lt p e hne; omega)
      rw [← HM1.out] at hcr
      have HCr := Lib.hid hcr
      have HD5 := Lib.hid hd5
      have HU5 := Lib.hid hu5
      have hsz5 := u5.size
      clear hcr hd5 hd6 hu5 hnu u5 HCp HD4
      go_wp2_with (fail)
      refine HCr.out.mono ?_
      rintro e w6 ⟨rfl, hd6, u6⟩
      have hd5 := HD5.out.upd u6 (fun f => by omega) (fun f => by omega) (fun f => by omega)
      have hu6 := HU5.out.trans u6 (fun i hi f => by omega)
      have HD5 := Lib.hid hd5
      have HD6 := Lib.hid hd6
      have HU6 := Lib.hid hu6
      clear hd5 hd6 hu6 u6 HCr
      go_wp2
      go_loopw [10] (fun i wr => ∃ (j : Nat), j ≤ 512 ∧ i = .int .i64 j ∧ Upd (fun _ => False) w6 wr) (fun i _ => 512 - (intOf i).toNat)
      case atStart => exact ⟨0, Nat.zero_le _, rfl, Upd.refl _ _⟩
      case round =>
        obtain ⟨j, hj, rfl, hu⟩ := hrel
        by_cases hjk : j < 512
        · obtain ⟨s, t, old, q, e1, e2, e3, e4, ls, lt, lo, hq, hteq⟩ := torn (crashC ks1) HOK.out j (by have := HDL.out; omega)
          have HR1 := Lib.hid (fun (W : World) (hu : Upd (fun _ => False) w6 W) => dev_Read (HD5.out.upd hu (fun f => f) (fun f => f) (fun f => f)) j)
          have HR2 := Lib.hid (fun (W : World) (hu : Upd (fun _ => False) w6 W) => dev_Read (HD6.out.upd hu (fun f => f) (fun f => f) (fun f => f)) j)
          have HS1 := Lib.hid (fun (W : World) (hu : Upd (fun _ => False) w6 W) => dev_Sure (HD5.out.upd hu (fun f => f) (fun f => f) (fun f => f)) j)
          have HS2 := Lib.hid (fun (W : World) (hu : Upd (fun _ => False) w6 W) => dev_Sure (HD6.out.upd hu (fun f => f) (fun f => f) (fun f => f)) j)
          rw [e1] at HR1
          rw [e2] at HR2
          rw [e3] at HS1
          rw [e4] at HS2
          have zs : s.toArray.size = 128 := by rw [List.size_toArray, ls]
          have zt : t.toArray.size = 128 := by rw [List.size_toArray, lt]
          have zo : old.toArray.size = 128 := by rw [List.size_toArray, lo]
          have HTL := Lib.hid (fun n hn hx => torn_tail (n := n) ls lo hq hteq hn hx)
          have HLS := Lib.hid ls
          have HLT := Lib.hid lt
          have HLO := Lib.hid lo
          clear e1 e2 e3 e4 hteq hq ls lt lo
          go_wp2_with (fail)
          refine (HR1.out _ hu).mono ?_
          rintro e w7 ⟨rfl, u7⟩
          have v7 := hu.trans u7 (fun _ _ f => f)
          go_wp2_with (fail)
          refine (HR2.out _ v7).mono ?_
          rintro e w8 ⟨rfl, u8⟩
          have v8 := v7.trans u8 (fun _ _ f => f)
          go_wp2_with (fail)
          refine (HS1.out _ v8).mono ?_
          rintro e w9 ⟨rfl, u9⟩
          have v9 := v8.trans u9 (fun _ _ f => f)
          have HV9 := Lib.hid v9
          clear hu u7 v7 u8 v8 u9 v9
          go_wp2
          go_loopw [16] (fun i wr => ∃ (n : Nat), n ≤ 128 ∧ i = .int .i64 n ∧ Upd (fun _ => False) w6 wr) (fun i _ => 128 - (intOf i).toNat)
          case atStart => exact ⟨0, Nat.zero_le _, rfl, HV9.out⟩
          case round =>
            obtain ⟨n, hn, rfl, hu⟩ := hrel
            have HU7 := Lib.hid hu
            clear hu
            have bs := byte_getD' s n
            have bt := byte_getD' t n
            have HX := Lib.hid (fun (h : s.getD n 0 = t.getD n 0) => h)
            obtain ⟨X, hX⟩ : ∃ X, X = (s.getD n 0).toNat := ⟨_, rfl⟩
            obtain ⟨Y, hY⟩ : ∃ Y, Y = (t.getD n 0).toNat := ⟨_, rfl⟩
            rw [← hX] at bs
            rw [← hY] at bt
            have HXX := Lib.hid hX
            have HYY := Lib.hid hY
            clear hX hY HX
            have hi2 : (n : Int) ≤ 128 := by omega
            have hi0 : (0 : Int) ≤ (n : Int) := by omega
            by_cases hlt2 : n < 128
            · have hi1 : (n : Int) < 128 := by omega
              by_cases heq : X = Y
              · subst heq
                go_wp2
                go_quiet (fail)
                go_wp2
                go_roundw
                case rel => exact ⟨n + 1, by omega, by go_num, by first | exact HU7.out.drewN _ | exact HU7.out.drew | exact HU7.out⟩
                case measure => simp [intOf]; omega
              · have hne : ((X : Int) == (Y : Int)) = false := by simp; omega
                have htl := HTL.out n hn (fun _ e => heq (by rw [HXX.out, HYY.out, e]))
                clear heq
                have hex1 : (⟨t.toArray⟩ : ByteArray).extract n 128 = ⟨(t.drop n).toArray⟩ := by rw [ext_list, List.take_of_length_le (by rw [List.length_drop]; have := HLT.out; omega)]
                have hex2 : (⟨old.toArray⟩ : ByteArray).extract n 128 = ⟨(t.drop n).toArray⟩ := by rw [ext_list, List.take_of_length_le (by rw [List.length_drop]; have := HLO.out; omega), htl]
                generalize t.drop n = Z at hex1 hex2
                clear htl
                go_wp2
                go_quiet (fail)
                go_wp2
                go_region_held3 (fun w' => Upd (fun _ => False) w6 w')
                  (first
                    | exact (HU7.out.drewN _).drew
                    | (have h := ‹Upd (fun _ => False) w6 _›; exact h)
                    | (have h := ‹Upd (fun _ => False) w6 _›; exact h.trans u10 (fun _ _ f => f)))
                  (first
                    | (go_at_call 14; have h := ‹Upd (fun _ => False) w6 _›; refine (HS2.out _ h).mono ?_; rintro e w10 ⟨rfl, u10⟩))
                have hS := ‹Upd (fun _ => False) w6 _›
                go_wp2
                go_roundw
                case rel => exact ⟨j + 1, by omega, by go_num, hS⟩
                case measure => simp [intOf]; omega

            · have hi1 : ¬ (n : Int) < 128 := by omega
              have hi3 : decide ((n : Int) < 128) = false := by simp; omega
              have htl := HTL.out n hn (fun h => absurd h hlt2)
              have hex1 : (⟨t.toArray⟩ : ByteArray).extract n 128 = ⟨(t.drop n).toArray⟩ := by rw [ext_list, List.take_of_length_le (by rw [List.length_drop]; have := HLT.out; omega)]
              have hex2 : (⟨old.toArray⟩ : ByteArray).extract n 128 = ⟨(t.drop n).toArray⟩ := by rw [ext_list, List.take_of_length_le (by rw [List.length_drop]; have := HLO.out; omega), htl]
              generalize t.drop n = Z at hex1 hex2
              clear htl
              go_wp2
              go_quiet (fail)
              go_wp2
              go_region_held3 (fun w' => Upd (fun _ => False) w6 w')
                (first
                  | exact (HU7.out.drewN _).drew
                  | (have h := ‹Upd (fun _ => False) w6 _›; exact h)
                  | (have h := ‹Upd (fun _ => False) w6 _›; exact h.trans u10 (fun _ _ f => f)))
                (first
                  | (go_at_call 14; have h := ‹Upd (fun _ => False) w6 _›; refine (HS2.out _ h).mono ?_; rintro e w10 ⟨rfl, u10⟩))
              have hS := ‹Upd (fun _ => False) w6 _›
              go_wp2
              go_roundw
              case rel => exact ⟨j + 1, by omega, by go_num, hS⟩
              case measure => simp [intOf]; omega

        · have HU7 := Lib.hid hu
          clear hu
          obtain rfl : j = 512 := by omega
          have hd7 := HD6.out.upd HU7.out (fun f => f) (fun f => f) (fun f => f)
          have hu7 := HU6.out.trans HU7.out (fun _ _ f => f.elim)
          have HCp2 := Lib.hid (dev_Copy hd7)
          have HD7 := Lib.hid hd7
          have HU8 := Lib.hid hu7
          clear hd7 hu7
          go_wp2_with (fail)
          refine HCp2.out.mono ?_
          rintro e w8 ⟨b8, bs8, bm8, cap8, rfl, q1, q2, q3, hd8, u8⟩
          have rb := HD7.out.ltb
          have rbs := HD7.out.lts
          have rbm := HD7.out.ltm
          have hu8 := HU8.out.trans u8 (fun _ _ f => f.elim)
          have hnu2 := HN2.out.upd hu8 (fun i hi f => by omega)
          have hBw := HU8.out.size
          have hcr := dev_Crash (cp := cp2) hd8 hnu2.len hnu2.row (fun p e hne => by have := hnu2.lt p e hne; have := HB.out; omega)
          rw [← HM2.out, settle_twice] at hcr
          have HCr := Lib.hid hcr
          have HD8 := Lib.hid (HD7.out.upd u8 (fun f => f) (fun f => f) (fun f => f))
          have HU9 := Lib.hid hu8
          clear hcr hd8 hu8 hnu2 u8 HCp2
          go_wp2_with (fail)
          refine HCr.out.mono ?_
          rintro e w9 ⟨rfl, hd9, u9⟩
          have HD9 := Lib.hid hd9
          have HD10 := Lib.hid (HD8.out.upd u9 (fun f => by omega) (fun f => by omega) (fun f => by omega))
          have HU10 := Lib.hid (HU9.out.trans u9 (fun i hi f => by have := HB.out; omega))
          clear hd9 u9 HCr
          go_wp2
          go_loopw [18] (fun i wr => ∃ (j : Nat), j ≤ 512 ∧ i = .int .i64 j ∧ Upd (fun _ => False) w9 wr) (fun i _ => 512 - (intOf i).toNat)
          case atStart => exact ⟨0, Nat.zero_le _, rfl, Upd.refl _ _⟩
          case round =>
            obtain ⟨j, hj, rfl, hu⟩ := hrel
            have HU11 := Lib.hid hu
            by_cases hjk : j < 512
            · have HR1 := Lib.hid (fun (W : World) (hu : Upd (fun _ => False) w9 W) => dev_Read (HD10.out.upd hu (fun f => f) (fun f => f) (fun f => f)) j)
              have HR2 := Lib.hid (fun (W : World) (hu : Upd (fun _ => False) w9 W) => dev_Read (HD9.out.upd hu (fun f => f) (fun f => f) (fun f => f)) j)
              generalize readE (Dv.settleF (crashC ks1) 0 d) j = rr at HR1 HR2
              obtain ⟨t, tc⟩ := rr
              clear hu
              go_wp2_with (fail)
              refine (HR1.out _ HU11.out).mono ?_
              rintro e w11 ⟨rfl, u11⟩
              have v11 := HU11.out.trans u11 (fun _ _ f => f)
              go_wp2_with (fail)
              refine (HR2.out _ v11).mono ?_
              rintro e w12 ⟨rfl, u12⟩
              have v12 := v11.trans u12 (fun _ _ f => f)
              clear v11 u11 u12
              go_wp2
              go_roundw
              case rel => exact ⟨j + 1, by omega, by go_num, v12⟩
              case measure => simp [intOf]; omega
            · obtain rfl : j = 512 := by omega
              have hw := dev_Waiting (HD10.out.upd HU11.out (fun f => f) (fun f => f) (fun f => f))
              rw [settle_waits] at hw
              have HW := Lib.hid hw
              clear hu hw
              go_wp2_with (fail)
              refine HW.out.mono ?_
              rintro e wz ⟨rfl, rfl⟩
              go_wp2_with (fail)
              refine (HWk.out _).mono ?_
              rintro e w13 ⟨rfl, u13⟩
              go_wp2
              go_ret
              exact ⟨rfl, (HU10.out.trans HU11.out (fun _ _ f => f.elim)).trans u13 (fun _ _ f => f.elim)⟩

end Go.Proofs.Ythdkhmmabfnnkaa
