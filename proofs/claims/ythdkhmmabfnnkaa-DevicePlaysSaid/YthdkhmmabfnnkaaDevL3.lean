/- Chapter 10: DevicePlays. -/
import Derived.Test.YthdkhmmabfnnkaaDevL2
set_option linter.unusedVariables false
set_option linter.unusedSimpArgs false
namespace Go.Proofs.Ythdkhmmabfnnkaa
open Go.RowKit Go.Maps

theorem upd_le {w w' : World} {B : Nat} (h : Upd (fun _ => False) w w') : Upd (fun i => B ≤ i) w w' := h.mono (fun _ _ f => f.elim)
theorem sectors_any {w : World} {B : Nat} {p : Option Addr} {d : List Dv.Cel} (h : DevO w B p (some d)) : Calls Try.prog 22 #[.pointer p] w fun e w' => e = .returned (.int .i64 d.length) ∧ w = w' := by
  obtain ⟨b, bs, bm, cap, rfl, h1, h2, h3, h4⟩ := h
  exact dev_Sectors h4

set_option maxHeartbeats 4000000 in
set_option maxRecDepth 100000 in
theorem walk_DevicePlays (w : World) (n : Int) (v : Option Addr) (cp : Nat) (l : List DAct) (h : ActsAt w w.heap.size v l) :
    Calls Try.prog 5 #[.int .i64 n, .slice v l.length cp] w fun e w' => e = .returned (.bool true) ∧ Upd (fun i => w.heap.size ≤ i) w w' := by
  obtain ⟨B, hB⟩ : ∃ B, B = w.heap.size := ⟨_, rfl⟩
  rw [← hB] at h ⊢
  have HB := Lib.hid hB
  have HA := Lib.hid h
  have HF := Lib.hid (fun (W : World) (hu : Upd (fun _ => False) w W) => law_few (h.upd hu (fun _ _ f => f)) cp)
  obtain ⟨m, hm⟩ : ∃ m, m = l.length := ⟨_, rfl⟩
  have hm63 := h.len
  rw [← hm] at HF hm63 ⊢
  have HM := Lib.hid hm
  have HWk := Lib.hid law_works
  clear h hB hm
  by_cases hn : n < 512 ∨ 4096 < n
  · have HN := Lib.hid (dev_new_any n w)
    have HN2 := Lib.hid (fun W => ref_new_any n W)
    rw [if_pos hn] at HN
    simp only [if_pos hn] at HN2
    clear hn
    go_enter Try.func5, Try.ntmps5
    go_wp2_with (fail)
    refine HN.out.mono ?_
    rintro e w1 ⟨p0, rfl, hd1, u1⟩
    have e1 : p0 = none := hd1
    subst e1
    go_wp2_with (fail)
    refine (HN2.out _).mono ?_
    rintro e w2 ⟨q0, rfl, hr1, u2⟩
    have e1 : q0 = none := hr1
    subst e1
    have hd0 : DevO w2 B none none := rfl
    have hr0 : RefO w2 B none none := rfl
    have hrel0 : RelO none none := trivial
    have hu0 := u1.trans u2 (fun _ _ f => f)
    clear hd1 hr1 u1 u2

    go_wp2_with (fail)
    refine (HF.out _ hu0).mono ?_
    rintro e w3 ⟨fw, rfl, hfw, rfl⟩
    cases fw
    · go_wp2_with (fail)
      refine (HWk.out _).mono ?_
      rintro e w4 ⟨rfl, u4⟩
      go_wp2
      go_ret
      exact ⟨rfl, upd_le (hu0.trans u4 (fun _ _ f => f))⟩
    have hfw := hfw rfl
    have HFW := Lib.hid hfw
    have hm60 : m ≤ 60 := by have := HM.out; omega
    clear hfw
    have HD0 := Lib.hid hd0
    have HR0 := Lib.hid hr0
    have HL0 := Lib.hid hrel0
    have HU0 := Lib.hid hu0
    clear hd0 hr0 hrel0 hu0
    go_wp2
    go_loopw [5, 6, 7] (fun x y i wr => ∃ (k : Nat) (p q : Option Addr) (o : Option (List Dv.Cel)) (o' : Option (List Rv.Sec)), k ≤ m ∧ x = .pointer p ∧ y = .pointer q ∧ i = .int .i64 k ∧ DevO wr B p o ∧ RefO wr B q o' ∧ RelO o o' ∧ Upd (fun i => B ≤ i) w wr) (fun _ _ i _ => m - (intOf i).toNat)
    case atStart => exact ⟨0, _, _, _, _, Nat.zero_le _, rfl, rfl, rfl, HD0.out, HR0.out, HL0.out, upd_le HU0.out⟩
    case round =>
      obtain ⟨k, p, q, o, o', hk, rfl, rfl, rfl, hd, hr, hrel, hu⟩ := hrel
      have HL := Lib.hid hrel
      have HA1 := Lib.hid (HA.out.upd hu (fun i hi f => by omega))
      clear hrel
      by_cases hlt : k < m
      · have hkl : k < l.length := by have := HM.out; omega
        obtain ⟨pa, rfl, hact, _, _, _, _, _, hload⟩ := HA1.out.cells k hkl
        have HD1 := Lib.hid (law_do_any hd _ hact)
        have HLD := Lib.hid hload
        have HR := Lib.hid hr
        have HU := Lib.hid hu
        clear hd hr hu hact hload
        go_wp2_with (refine wpList_load_by rfl 31 (.tmp 35) rfl (pa.add (k * 5)) rfl _ HLD.out ?_)
        refine HD1.out.mono ?_
        rintro e w4 ⟨p2, rfl, hd2, u4⟩
        have hr2 := HR.out.keep u4
        have hu2 : Upd (fun i => B ≤ i) w w4 := HU.out.trans u4 (fun i _ f => f.1)
        have HA2 := Lib.hid (HA.out.upd hu2 (fun i hi f => by omega))
        obtain ⟨pb, hpb, hact2, _, _, _, _, _, hload2⟩ := HA2.out.cells k hkl
        obtain rfl : pa = pb := Option.some.inj hpb
        obtain ⟨hrel2, hcode⟩ := rel_doO HL.out hr2.ok (nth l k)
        have HTh := Lib.hid (law_their_any hr2 _ hact2)
        rw [← hcode] at HTh
        generalize (doO o (nth l k)).2 = code at HTh ⊢
        have HLD2 := Lib.hid hload2
        have HD2 := Lib.hid hd2
        have HL2 := Lib.hid hrel2
        have HU2 := Lib.hid hu2
        clear hd2 hr2 hu2 hact2 hload2 hrel2 hcode u4 hpb
        go_wp2_with (refine wpList_load_by rfl 31 (.tmp 44) rfl (pa.add (k * 5)) rfl _ HLD2.out ?_)
        refine HTh.out.mono ?_
        rintro e w5 ⟨q2, rfl, hr3, u5⟩
        have hd3 := HD2.out.keep u5
        have hu3 : Upd (fun i => B ≤ i) w w5 := HU2.out.trans u5 (fun i _ f => f.1)
        have HA3 := Lib.hid (HA.out.upd hu3 (fun i hi f => by omega))
        obtain ⟨pb, hpb, _, _, cat, cask, _, _, _⟩ := HA3.out.cells k hkl
        obtain rfl : pa = pb := Option.some.inj hpb
        have HK := Lib.hid (fun (W : World) (hu : Upd (fun _ => False) w5 W) (z : Int) => law_alike (hd3.upd hu) (hr3.upd hu) HL2.out z)
        have HD3 := Lib.hid hd3
        have HR3 := Lib.hid hr3
        have HU3 := Lib.hid hu3
        generalize (nth l k).at_ = zat at cat
        generalize (nth l k).ask = zask at cask
        clear hd3 hr3 hu3 u5 hpb
        go_wp2_with (fail)
        refine (HK.out _ (Upd.refl _ _) _).mono ?_
        rintro e w6 ⟨rfl, u6⟩
        have cat2 := u6.cell cat (fun f => f)
        go_wp2_with (fail)
        refine (HK.out _ u6 _).mono ?_
        rintro e w7 ⟨rfl, u7⟩
        have u67 := u6.trans u7 (fun _ _ f => f)
        have HU7 := Lib.hid u67
        clear u67 u6 u7
        go_wp2
        go_roundw
        case rel => exact ⟨k + 1, p2, q2, _, _, by omega, rfl, rfl, by go_num, HD3.out.upd HU7.out, HR3.out.upd HU7.out, HL2.out, HU3.out.trans HU7.out (fun _ _ f => f.elim)⟩
        case measure => simp [intOf]; omega
      · obtain rfl : k = m := by omega
        cases o with
        | none =>
          cases o' with
          | some r => exact HL.out.elim
          | none =>
            have e1 : p = none := hd
            have e2 : q = none := hr
            subst e1
            subst e2
            have HU := Lib.hid hu
            clear hd hr hu
            go_wp2_with (fail)
            refine (nodev_Sectors (Or.inl rfl)).mono ?_
            rintro e wz ⟨rfl, rfl⟩
            go_wp2_with (fail)
            refine (HWk.out _).mono ?_
            rintro e w4 ⟨rfl, u4⟩
            go_wp2
            go_ret
            exact ⟨rfl, HU.out.trans u4 (fun _ _ f => f.elim)⟩
        | some d =>
          cases o' with
          | none => exact HL.out.elim
          | some r =>
            obtain ⟨b', g', cap', rfl, g1, g2, hr4⟩ := hr
            have HD4 := Lib.hid hd
            have HR4 := Lib.hid hr4
            have HRO : Hid (RefO _ B (some ⟨b', 0, none⟩) (some r)) := Lib.hid ⟨b', g', cap', rfl, g1, g2, hr4⟩
            have HU4 := Lib.hid hu
            clear hd hr4 hu
            go_wp2
            rename World => wS
            go_loopw [10] (fun i wr => ∃ (j : Nat), j ≤ k ∧ i = .int .i64 j ∧ Upd (fun _ => False) wS wr) (fun i _ => k - (intOf i).toNat)
            case atStart => exact ⟨0, Nat.zero_le _, rfl, Upd.refl _ _⟩
            case round =>
              obtain ⟨j, hj, rfl, hu⟩ := hrel
              by_cases hjk : j < k
              · have HU := Lib.hid hu
                clear hu
                go_wp2
                go_loopw [11] (fun i wr => ∃ (t : Nat), t ≤ k ∧ i = .int .i64 t ∧ Upd (fun _ => False) wS wr) (fun i _ => k - (intOf i).toNat)
                case atStart => exact ⟨0, Nat.zero_le _, rfl, HU.out⟩
                case round =>
                  obtain ⟨t, ht, rfl, hu⟩ := hrel
                  by_cases htk : t < k
                  · have HA5 := HA.out.upd (HU4.out.trans hu (fun _ _ f => f.elim)) (fun i hi f => by omega)
                    obtain ⟨pa, rfl, _, _, cat, _⟩ := HA5.cells t (by have := HM.out; omega)
                    have HK := Lib.hid (law_alike (HD4.out.upd hu) (HRO.out.upd hu) HL.out (nth l t).at_)
                    generalize (nth l t).at_ = zat at cat HK
                    have HU5 := Lib.hid hu
                    clear hu HA5
                    go_wp2_with (fail)
                    refine HK.out.mono ?_
                    rintro e w6 ⟨rfl, u6⟩
                    go_wp2
                    go_roundw
                    case rel => exact ⟨t + 1, by omega, by go_num, HU5.out.trans u6 (fun _ _ f => f)⟩
                    case measure => simp [intOf]; omega
                  · obtain rfl : t = k := by omega
                    have HU5 := Lib.hid hu
                    clear hu
                    go_wp2
                    go_roundw
                    case rel => exact ⟨j + 1, by omega, by go_num, HU5.out⟩
                    case measure => simp [intOf]; omega
              · obtain rfl : j = k := by omega
                have hln : d.length = r.length := by have : d = r.map toC := HL.out; rw [this, List.length_map]
                have HSec := Lib.hid (fun (W : World) (hu : Upd (fun _ => False) wS W) => sectors_any (HD4.out.upd hu))
                have hrl := HR4.out.ok.2.1
                have hd0 := cell_heap (HR4.out.upd hu (fun f => f) (fun f => f)).dev 0 (.slice (some ⟨g', 0, none⟩) r.length cap') rfl
                rw [hln] at HSec
                clear hln
                generalize r.length = rl at HSec hd0 hrl
                have hu1 := hu.drew
                have HU5 := Lib.hid hu
                clear hu
                go_wp2
                go_region_held3 (fun w' => w'.cell? ⟨b', 0, none⟩ = some (.slice (some ⟨g', 0, none⟩) rl cap') ∧ Upd (fun _ => False) wS w')
                  (first
                    | exact ⟨hd0, hu1⟩
                    | (have h := ‹_ ∧ Upd _ _ _›; exact h)
                    | (have h := ‹_ ∧ Upd _ _ _›; exact ⟨u6.cell h.1 (fun f => f), h.2.trans u6 (fun _ _ f => f)⟩))
                  (first
                    | (go_at_call 22; have h := ‹_ ∧ Upd _ _ _›; refine (HSec.out _ h.2).mono ?_; rintro e wq ⟨rfl, rfl⟩)
                    | (go_at_call 9; refine (HWk.out _).mono ?_; rintro e w6 ⟨rfl, u6⟩))
                have hS := ‹_ ∧ Upd _ _ _›
                go_wp2
                go_ret
                exact ⟨rfl, HU4.out.trans hS.2 (fun _ _ f => f.elim)⟩
  · have HN := Lib.hid (dev_new_any n w)
    have HN2 := Lib.hid (fun W => ref_new_any n W)
    rw [if_neg hn] at HN
    simp only [if_neg hn] at HN2
    clear hn
    go_enter Try.func5, Try.ntmps5
    go_wp2_with (fail)
    refine HN.out.mono ?_
    rintro e w1 ⟨p0, rfl, hd1, u1⟩
    go_wp2_with (fail)
    refine (HN2.out _).mono ?_
    rintro e w2 ⟨q0, rfl, hr1, u2⟩
    have hd0 : DevO w2 B p0 (some (newD n.toNat)) := (hd1.upd u2).mono (by have := HB.out; omega)
    have hr0 : RefO w2 B q0 (some (Rv.newR n.toNat)) := hr1.mono (by have := HB.out; have := u1.size; omega)
    have hrel0 : RelO (some (newD n.toNat)) (some (Rv.newR n.toNat)) := rel_new _
    have hu0 := u1.trans u2 (fun _ _ f => f)
    obtain ⟨zb, _, _, _, rfl, _⟩ := hd1
    obtain ⟨yb, _, _, rfl, _⟩ := hr1
    clear u1 u2

    go_wp2_with (fail)
    refine (HF.out _ hu0).mono ?_
    rintro e w3 ⟨fw, rfl, hfw, rfl⟩
    cases fw
    · go_wp2_with (fail)
      refine (HWk.out _).mono ?_
      rintro e w4 ⟨rfl, u4⟩
      go_wp2
      go_ret
      exact ⟨rfl, upd_le (hu0.trans u4 (fun _ _ f => f))⟩
    have hfw := hfw rfl
    have HFW := Lib.hid hfw
    have hm60 : m ≤ 60 := by have := HM.out; omega
    clear hfw
    have HD0 := Lib.hid hd0
    have HR0 := Lib.hid hr0
    have HL0 := Lib.hid hrel0
    have HU0 := Lib.hid hu0
    clear hd0 hr0 hrel0 hu0
    go_wp2
    go_loopw [5, 6, 7] (fun x y i wr => ∃ (k : Nat) (p q : Option Addr) (o : Option (List Dv.Cel)) (o' : Option (List Rv.Sec)), k ≤ m ∧ x = .pointer p ∧ y = .pointer q ∧ i = .int .i64 k ∧ DevO wr B p o ∧ RefO wr B q o' ∧ RelO o o' ∧ Upd (fun i => B ≤ i) w wr) (fun _ _ i _ => m - (intOf i).toNat)
    case atStart => exact ⟨0, _, _, _, _, Nat.zero_le _, rfl, rfl, rfl, HD0.out, HR0.out, HL0.out, upd_le HU0.out⟩
    case round =>
      obtain ⟨k, p, q, o, o', hk, rfl, rfl, rfl, hd, hr, hrel, hu⟩ := hrel
      have HL := Lib.hid hrel
      have HA1 := Lib.hid (HA.out.upd hu (fun i hi f => by omega))
      clear hrel
      by_cases hlt : k < m
      · have hkl : k < l.length := by have := HM.out; omega
        obtain ⟨pa, rfl, hact, _, _, _, _, _, hload⟩ := HA1.out.cells k hkl
        have HD1 := Lib.hid (law_do_any hd _ hact)
        have HLD := Lib.hid hload
        have HR := Lib.hid hr
        have HU := Lib.hid hu
        clear hd hr hu hact hload
        go_wp2_with (refine wpList_load_by rfl 31 (.tmp 35) rfl (pa.add (k * 5)) rfl _ HLD.out ?_)
        refine HD1.out.mono ?_
        rintro e w4 ⟨p2, rfl, hd2, u4⟩
        have hr2 := HR.out.keep u4
        have hu2 : Upd (fun i => B ≤ i) w w4 := HU.out.trans u4 (fun i _ f => f.1)
        have HA2 := Lib.hid (HA.out.upd hu2 (fun i hi f => by omega))
        obtain ⟨pb, hpb, hact2, _, _, _, _, _, hload2⟩ := HA2.out.cells k hkl
        obtain rfl : pa = pb := Option.some.inj hpb
        obtain ⟨hrel2, hcode⟩ := rel_doO HL.out hr2.ok (nth l k)
        have HTh := Lib.hid (law_their_any hr2 _ hact2)
        rw [← hcode] at HTh
        generalize (doO o (nth l k)).2 = code at HTh ⊢
        have HLD2 := Lib.hid hload2
        have HD2 := Lib.hid hd2
        have HL2 := Lib.hid hrel2
        have HU2 := Lib.hid hu2
        clear hd2 hr2 hu2 hact2 hload2 hrel2 hcode u4 hpb
        go_wp2_with (refine wpList_load_by rfl 31 (.tmp 44) rfl (pa.add (k * 5)) rfl _ HLD2.out ?_)
        refine HTh.out.mono ?_
        rintro e w5 ⟨q2, rfl, hr3, u5⟩
        have hd3 := HD2.out.keep u5
        have hu3 : Upd (fun i => B ≤ i) w w5 := HU2.out.trans u5 (fun i _ f => f.1)
        have HA3 := Lib.hid (HA.out.upd hu3 (fun i hi f => by omega))
        obtain ⟨pb, hpb, _, _, cat, cask, _, _, _⟩ := HA3.out.cells k hkl
        obtain rfl : pa = pb := Option.some.inj hpb
        have HK := Lib.hid (fun (W : World) (hu : Upd (fun _ => False) w5 W) (z : Int) => law_alike (hd3.upd hu) (hr3.upd hu) HL2.out z)
        have HD3 := Lib.hid hd3
        have HR3 := Lib.hid hr3
        have HU3 := Lib.hid hu3
        generalize (nth l k).at_ = zat at cat
        generalize (nth l k).ask = zask at cask
        clear hd3 hr3 hu3 u5 hpb
        go_wp2_with (fail)
        refine (HK.out _ (Upd.refl _ _) _).mono ?_
        rintro e w6 ⟨rfl, u6⟩
        have cat2 := u6.cell cat (fun f => f)
        go_wp2_with (fail)
        refine (HK.out _ u6 _).mono ?_
        rintro e w7 ⟨rfl, u7⟩
        have u67 := u6.trans u7 (fun _ _ f => f)
        have HU7 := Lib.hid u67
        clear u67 u6 u7
        go_wp2
        go_roundw
        case rel => exact ⟨k + 1, p2, q2, _, _, by omega, rfl, rfl, by go_num, HD3.out.upd HU7.out, HR3.out.upd HU7.out, HL2.out, HU3.out.trans HU7.out (fun _ _ f => f.elim)⟩
        case measure => simp [intOf]; omega
      · obtain rfl : k = m := by omega
        cases o with
        | none =>
          cases o' with
          | some r => exact HL.out.elim
          | none =>
            have e1 : p = none := hd
            have e2 : q = none := hr
            subst e1
            subst e2
            have HU := Lib.hid hu
            clear hd hr hu
            go_wp2_with (fail)
            refine (nodev_Sectors (Or.inl rfl)).mono ?_
            rintro e wz ⟨rfl, rfl⟩
            go_wp2_with (fail)
            refine (HWk.out _).mono ?_
            rintro e w4 ⟨rfl, u4⟩
            go_wp2
            go_ret
            exact ⟨rfl, HU.out.trans u4 (fun _ _ f => f.elim)⟩
        | some d =>
          cases o' with
          | none => exact HL.out.elim
          | some r =>
            obtain ⟨b', g', cap', rfl, g1, g2, hr4⟩ := hr
            have HD4 := Lib.hid hd
            have HR4 := Lib.hid hr4
            have HRO : Hid (RefO _ B (some ⟨b', 0, none⟩) (some r)) := Lib.hid ⟨b', g', cap', rfl, g1, g2, hr4⟩
            have HU4 := Lib.hid hu
            clear hd hr4 hu
            go_wp2
            rename World => wS
            go_loopw [10] (fun i wr => ∃ (j : Nat), j ≤ k ∧ i = .int .i64 j ∧ Upd (fun _ => False) wS wr) (fun i _ => k - (intOf i).toNat)
            case atStart => exact ⟨0, Nat.zero_le _, rfl, Upd.refl _ _⟩
            case round =>
              obtain ⟨j, hj, rfl, hu⟩ := hrel
              by_cases hjk : j < k
              · have HU := Lib.hid hu
                clear hu
                go_wp2
                go_loopw [11] (fun i wr => ∃ (t : Nat), t ≤ k ∧ i = .int .i64 t ∧ Upd (fun _ => False) wS wr) (fun i _ => k - (intOf i).toNat)
                case atStart => exact ⟨0, Nat.zero_le _, rfl, HU.out⟩
                case round =>
                  obtain ⟨t, ht, rfl, hu⟩ := hrel
                  by_cases htk : t < k
                  · have HA5 := HA.out.upd (HU4.out.trans hu (fun _ _ f => f.elim)) (fun i hi f => by omega)
                    obtain ⟨pa, rfl, _, _, cat, _⟩ := HA5.cells t (by have := HM.out; omega)
                    have HK := Lib.hid (law_alike (HD4.out.upd hu) (HRO.out.upd hu) HL.out (nth l t).at_)
                    generalize (nth l t).at_ = zat at cat HK
                    have HU5 := Lib.hid hu
                    clear hu HA5
                    go_wp2_with (fail)
                    refine HK.out.mono ?_
                    rintro e w6 ⟨rfl, u6⟩
                    go_wp2
                    go_roundw
                    case rel => exact ⟨t + 1, by omega, by go_num, HU5.out.trans u6 (fun _ _ f => f)⟩
                    case measure => simp [intOf]; omega
                  · obtain rfl : t = k := by omega
                    have HU5 := Lib.hid hu
                    clear hu
                    go_wp2
                    go_roundw
                    case rel => exact ⟨j + 1, by omega, by go_num, HU5.out⟩
                    case measure => simp [intOf]; omega
              · obtain rfl : j = k := by omega
                have hln : d.length = r.length := by have : d = r.map toC := HL.out; rw [this, List.length_map]
                have HSec := Lib.hid (fun (W : World) (hu : Upd (fun _ => False) wS W) => sectors_any (HD4.out.upd hu))
                have hrl := HR4.out.ok.2.1
                have hd0 := cell_heap (HR4.out.upd hu (fun f => f) (fun f => f)).dev 0 (.slice (some ⟨g', 0, none⟩) r.length cap') rfl
                rw [hln] at HSec
                clear hln
                generalize r.length = rl at HSec hd0 hrl
                have hu1 := hu.drew
                have HU5 := Lib.hid hu
                clear hu
                go_wp2
                go_region_held3 (fun w' => w'.cell? ⟨b', 0, none⟩ = some (.slice (some ⟨g', 0, none⟩) rl cap') ∧ Upd (fun _ => False) wS w')
                  (first
                    | exact ⟨hd0, hu1⟩
                    | (have h := ‹_ ∧ Upd _ _ _›; exact h)
                    | (have h := ‹_ ∧ Upd _ _ _›; exact ⟨u6.cell h.1 (fun f => f), h.2.trans u6 (fun _ _ f => f)⟩))
                  (first
                    | (go_at_call 22; have h := ‹_ ∧ Upd _ _ _›; refine (HSec.out _ h.2).mono ?_; rintro e wq ⟨rfl, rfl⟩)
                    | (go_at_call 9; refine (HWk.out _).mono ?_; rintro e w6 ⟨rfl, u6⟩))
                have hS := ‹_ ∧ Upd _ _ _›
                go_wp2
                go_ret
                exact ⟨rfl, HU4.out.trans hS.2 (fun _ _ f => f.elim)⟩

end Go.Proofs.Ythdkhmmabfnnkaa
