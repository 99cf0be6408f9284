/- Stamped texts: the reference's Unstamp. -/
import Derived.Test.YtocioaondjgceaaGreatDoorSeal7
import Derived.Test.YtocioaondjgceaaGreatDoorSeal5
set_option linter.unusedVariables false
set_option linter.unusedSimpArgs false
namespace Go.Proofs.YtocioaondjgceaaGreatDoor
open Go.RowKit

namespace Sl
open Classical in
noncomputable def unstampR (s : List UInt8) : Nat × Nat × List UInt8 × Int :=
  if s.length < 26 then (0, 0, [], 10) else if 65536 < s.length then (0, 0, [], 4)
  else if s.take 8 ≠ s.drop (s.length - 8) ∨ (s.drop 8).take 4 ≠ (s.drop (s.length - 12)).take 4 ∨ s.length - 26 < ofBe ((s.drop 12).take 2) ∨ ¬ (∀ j, 14 + ofBe ((s.drop 12).take 2) ≤ j → j < s.length - 12 → s.getD j 0 = 0) then (0, 0, [], 4)
  else (ofBe (s.take 8), ofBe ((s.drop 8).take 4), (s.drop 14).take (ofBe ((s.drop 12).take 2)), 0)
end Sl

set_option maxHeartbeats 1600000 in
set_option maxRecDepth 100000 in
theorem ref_Unstamp (s : List UInt8) (w : World) (hs : s.length ≤ 1000000) :
    Calls Tryz.prog 96 #[.string ⟨s.toArray⟩] w (UnR (Sl.unstampR s) w) := by
  by_cases hlo : s.length < 26
  · rw [show Sl.unstampR s = (0, 0, [], 10) by unfold Sl.unstampR; rw [if_pos hlo]]
    go_enter Tryz.func96, Tryz.ntmps96
    go_wp2
    refine bodyPost_ret (v := .tuple #[.int .u64 0, .int .u32 0, .string ⟨#[]⟩, .int .i64 10]) (by simp [results, Tryz.results96, go_sem]) rfl ⟨rfl, Upd.refl _ _⟩
  by_cases hhi : 65536 < s.length
  · rw [show Sl.unstampR s = (0, 0, [], 4) by unfold Sl.unstampR; rw [if_neg hlo, if_pos hhi]]
    go_enter Tryz.func96, Tryz.ntmps96
    go_wp2
    refine bodyPost_ret (v := .tuple #[.int .u64 0, .int .u32 0, .string ⟨#[]⟩, .int .i64 4]) (by simp [results, Tryz.results96, go_sem]) rfl ⟨rfl, Upd.refl _ _⟩
  obtain ⟨res, hres⟩ : ∃ res, res = Sl.unstampR s := ⟨_, rfl⟩
  rw [← hres]
  unfold Sl.unstampR at hres
  rw [if_neg hlo, if_neg hhi] at hres
  obtain ⟨n8, h8⟩ : ∃ c, c = s.length - 8 := ⟨_, rfl⟩
  obtain ⟨n12, h12⟩ : ∃ c, c = s.length - 12 := ⟨_, rfl⟩
  obtain ⟨n26, h26⟩ : ∃ c, c = s.length - 26 := ⟨_, rfl⟩
  obtain ⟨X, hX⟩ : ∃ X, X = s.take 8 := ⟨_, rfl⟩
  obtain ⟨X2, hX2⟩ : ∃ X, X = s.drop n8 := ⟨_, rfl⟩
  obtain ⟨Y, hY⟩ : ∃ X, X = (s.drop 8).take 4 := ⟨_, rfl⟩
  obtain ⟨Y2, hY2⟩ : ∃ X, X = (s.drop n12).take 4 := ⟨_, rfl⟩
  obtain ⟨K, hK⟩ : ∃ X, X = (s.drop 12).take 2 := ⟨_, rfl⟩
  have hXl : X.length = 8 := by rw [hX, List.length_take]; omega
  have hYl : Y.length = 4 := by rw [hY, List.length_take, List.length_drop]; omega
  have hKl : K.length = 2 := by rw [hK, List.length_take, List.length_drop]; omega
  obtain ⟨k, hk⟩ : ∃ k, k = ofBe K := ⟨_, rfl⟩
  have hkl : k < 65536 := by have := ofBe_lt K; rw [hKl] at this; rw [hk]; omega
  obtain ⟨g, hg⟩ : ∃ g, g = ofBe X := ⟨_, rfl⟩
  have hgl : g < 18446744073709551616 := by have := ofBe_lt X; rw [hXl] at this; rw [hg]; omega
  obtain ⟨ix, hix⟩ : ∃ g, g = ofBe Y := ⟨_, rfl⟩
  have hixl : ix < 4294967296 := by have := ofBe_lt Y; rw [hYl] at this; rw [hix]; omega
  obtain ⟨T, hT⟩ : ∃ X, X = (s.drop 14).take k := ⟨_, rfl⟩
  obtain ⟨k14, h14⟩ : ∃ c, c = 14 + k := ⟨_, rfl⟩
  rw [← h8, ← h12, ← h26, ← hX, ← hX2, ← hY, ← hY2, ← hK, ← hk, ← hg, ← hix, ← hT, ← h14] at hres
  have x1 : (⟨s.toArray⟩ : ByteArray).extract 0 8 = ⟨X.toArray⟩ := by have := ext_list s 0 8; rw [hX]; simpa using this
  have x2 : (⟨s.toArray⟩ : ByteArray).extract n8 s.length = ⟨X2.toArray⟩ := by rw [ext_list, hX2, List.take_of_length_le (by rw [List.length_drop]; omega)]
  have x3 : (⟨s.toArray⟩ : ByteArray).extract 8 12 = ⟨Y.toArray⟩ := by rw [ext_list, hY]
  have x4 : (⟨s.toArray⟩ : ByteArray).extract n12 n8 = ⟨Y2.toArray⟩ := by rw [ext_list, hY2, show n8 - n12 = 4 by omega]
  have x5 : (⟨s.toArray⟩ : ByteArray).extract 12 14 = ⟨K.toArray⟩ := by rw [ext_list, hK]
  have x6 : (⟨s.toArray⟩ : ByteArray).extract 14 k14 = ⟨T.toArray⟩ := by rw [ext_list, hT, show k14 - 14 = k by omega]
  have e1 : (s.length : Int) - 8 = (n8 : Int) := by omega
  have e2 : (s.length : Int) - 12 = (n12 : Int) := by omega
  have e3 : (s.length : Int) - 26 = (n26 : Int) := by omega
  have e4 : IntKind.i64.wrap (14 + (k : Int)) = (k14 : Int) := by rw [show 14 + (k : Int) = (k14 : Int) by omega]; exact IntWalk.i64_in _ (by omega)
  have e5 : (14 : Int) + (k : Int) = (k14 : Int) := by omega
  have e6 : IntKind.i64.wrap (k : Int) = (k : Int) := IntWalk.i64_in _ (by omega)
  have w1 : IntKind.i64.wrap (n8 : Int) = (n8 : Int) := IntWalk.i64_in _ (by omega)
  have w2 : IntKind.i64.wrap (n12 : Int) = (n12 : Int) := IntWalk.i64_in _ (by omega)
  have w3 : IntKind.i64.wrap (n26 : Int) = (n26 : Int) := IntWalk.i64_in _ (by omega)
  have w4 : IntKind.i64.wrap (k14 : Int) = (k14 : Int) := IntWalk.i64_in _ (by omega)
  have w5 : IntKind.u32.wrap (ix : Int) = (ix : Int) := IntWalk.u32_in _ (by omega)
  have i1 : (n8 : Int) ≤ (s.length : Int) := by omega
  have i2 : (n12 : Int) ≤ (n8 : Int) := by omega
  have i3 : (0 : Int) ≤ (n8 : Int) := by omega
  have i4 : (0 : Int) ≤ (n12 : Int) := by omega
  have j1 : n8 ≤ s.length := by omega
  have j2 : n12 ≤ n8 := by omega
  have j3 : n12 + 12 = s.length := by omega
  have j4 : n26 + 26 = s.length := by omega
  have l1 : ¬ s.length < 26 := hlo
  have t1 := fun w => ref_Told K w (by omega)
  rw [← hk] at t1
  have t2 : ∀ (L : List UInt8) (v : Nat) (w : World), (L = X ∧ v = g) ∨ (L = Y ∧ v = ix) → Calls Tryz.prog 97 #[.string ⟨L.toArray⟩] w fun e w' => e = .returned (.int .u64 (v : Nat)) ∧ w = w' := by
    rintro L v w (⟨rfl, rfl⟩ | ⟨rfl, rfl⟩)
    · rw [hg]; exact ref_Told _ w (by omega)
    · rw [hix]; exact ref_Told _ w (by omega)
  have T1 := Lib.hid t1
  have T2 := Lib.hid t2
  clear t1 t2 hX hX2 hY hY2 hK hk hg hix hT h8 h12 h26
  by_cases hx : X = X2
  · subst hx
    by_cases hy : Y = Y2
    · subst hy
      by_cases hkn : n26 < k
      · rw [if_pos (by right; right; left; exact hkn)] at hres
        subst hres
        have hkn2 : (n26 : Int) < (k : Int) := by omega
        go_enter Tryz.func96, Tryz.ntmps96
        go_wp2_with (fail)
        refine (T1.out _).mono ?_
        rintro e w1 ⟨rfl, rfl⟩
        go_wp2
        go_quiet (fail)
        go_wp2
        refine bodyPost_ret (v := .tuple #[.int .u64 0, .int .u32 0, .string ⟨#[]⟩, .int .i64 4]) (by simp [results, Tryz.results96, go_sem]) rfl ⟨rfl, by first | exact (Upd.refl _ _).drewN _ | exact ((Upd.refl _ _).drewN _).drewN _⟩
      · have hkn2 : ¬ (n26 : Int) < (k : Int) := by omega
        have j5 : k14 ≤ n12 := by omega
        have HR := Lib.hid hres
        have E4 := Lib.hid e4
        have E5 := Lib.hid e5
        have q4 := Lib.hid w4
        clear hres e4 e5 w4
        go_enter Tryz.func96, Tryz.ntmps96
        go_wp2_with (fail)
        refine (T1.out _).mono ?_
        rintro e w1 ⟨rfl, rfl⟩
        go_wp2
        go_quiet (fail)
        go_wp2
        go_loop [8] (fun i => ∃ m : Nat, k14 ≤ m ∧ m ≤ n12 ∧ i = .int .i64 m ∧ Hid (∀ j, k14 ≤ j → j < m → s.getD j 0 = 0)) (fun i => n12 - (intOf i).toNat)
        case atStart => exact ⟨k14, Nat.le_refl _, j5, by rw [← E5.out], fun j h1 h2 => by omega⟩
        case round =>
          obtain ⟨m, hm1, hm2, rfl, HZ⟩ := hrel
          by_cases hlt : m < n12
          · have hml : m < s.length := by omega
            by_cases hz : s[m]'hml = 0
            · have ht : ∀ h, ((((⟨s.toArray⟩ : ByteArray)[m]'h).toNat : Int) != 0) = false := fun h => by
                have : (⟨s.toArray⟩ : ByteArray)[m]'h = s[m] := rfl
                rw [this, hz]; rfl
              have HX := Lib.hid hz
              clear hz
              go_wp2
              go_round
              case rel => exact ⟨m + 1, by omega, by omega, by go_num, fun j h1 h2 => by
                by_cases hj : j < m
                · exact HZ.out j h1 hj
                · obtain rfl : j = m := by omega
                  rw [List.getD, List.getElem?_eq_getElem hml]; exact HX.out⟩
              case measure => simp [intOf]; omega
            · have ht : ∀ h, ((((⟨s.toArray⟩ : ByteArray)[m]'h).toNat : Int) != 0) = true := fun h => by
                have : (⟨s.toArray⟩ : ByteArray)[m]'h = s[m] := rfl
                rw [this, bne_iff_ne]; intro hh; exact hz (UInt8.toNat_inj.1 (by rw [show (0 : UInt8).toNat = 0 from rfl]; omega))
              have hr : res = (0, 0, [], 4) := by
                rw [HR.out]; refine if_pos (Or.inr (Or.inr (Or.inr fun hall => hz ?_)))
                have := hall m hm1 hlt
                rw [List.getD, List.getElem?_eq_getElem hml] at this
                exact this
              subst hr
              clear hz
              go_wp2
              refine bodyPost_ret (v := .tuple #[.int .u64 0, .int .u32 0, .string ⟨#[]⟩, .int .i64 4]) (by simp [results, Tryz.results96, go_sem]) rfl ⟨rfl, by exact (Upd.refl _ _).drewN _⟩
          · obtain rfl : m = n12 := by omega
            have hr : res = (g, ix, T, 0) := by
              rw [HR.out]; refine if_neg ?_
              rintro (h | h | h | h)
              · exact h rfl
              · exact h rfl
              · omega
              · exact h HZ.out
            subst hr
            have e4 := E4.out
            have e5 := E5.out
            have w4 := q4.out
            have p1 : (14 : Int) ≤ (k14 : Int) := by omega
            have p2 : (k14 : Int) ≤ (s.length : Int) := by omega
            have p3 : 14 ≤ k14 := by omega
            have p4 : k14 ≤ s.length := by omega
            have p5 : (0 : Int) ≤ (k14 : Int) := by omega
            have hu0 : Upd (fun _ => False) w (w.drewN nq) := (Upd.refl _ _).drewN _
            replace hu0 := hu0.drew
            go_wp2
            clear HR HZ
            rename_i hww qq k1 kk k2
            clear hww k1 qq
            clear h14
            have y1 : (8 : Int) ≤ (s.length : Int) := by omega
            have y2 : (12 : Int) ≤ (s.length : Int) := by omega
            have y3 : 8 ≤ s.length := by omega
            have y4 : 12 ≤ s.length := by omega
            go_region_held3 (fun w' => Upd (fun _ => False) w w')
              (first
                | exact hu0
                | (have h := ‹Upd (fun _ => False) w _›; exact h))
              (first
                | (go_at_call 97; refine (T2.out _ _ _ (by first | exact Or.inl ⟨rfl, rfl⟩ | exact Or.inr ⟨rfl, rfl⟩)).mono ?_; rintro e wz ⟨rfl, rfl⟩))
            have hS := ‹Upd (fun _ => False) w _›
            go_wp2
            refine bodyPost_ret (v := .tuple #[.int .u64 (g : Nat), .int .u32 (ix : Nat), .string ⟨T.toArray⟩, .int .i64 0]) (by simp [results, Tryz.results96, go_sem]) rfl ⟨rfl, hS⟩
    · rw [if_pos (by right; left; exact hy)] at hres
      subst hres
      have hy2 : (Y == Y2) = false := by simpa using hy
      go_enter Tryz.func96, Tryz.ntmps96
      go_wp2_with (fail)
      refine (T1.out _).mono ?_
      rintro e w1 ⟨rfl, rfl⟩
      go_wp2
      go_quiet (fail)
      go_wp2
      refine bodyPost_ret (v := .tuple #[.int .u64 0, .int .u32 0, .string ⟨#[]⟩, .int .i64 4]) (by simp [results, Tryz.results96, go_sem]) rfl ⟨rfl, by first | exact (Upd.refl _ _).drewN _ | exact ((Upd.refl _ _).drewN _).drewN _⟩
  · rw [if_pos (by left; exact hx)] at hres
    subst hres
    have hx3 : (X == X2) = false := by simpa using hx
    go_enter Tryz.func96, Tryz.ntmps96
    go_wp2_with (fail)
    refine (T1.out _).mono ?_
    rintro e w1 ⟨rfl, rfl⟩
    go_wp2
    go_quiet (fail)
    go_wp2
    refine bodyPost_ret (v := .tuple #[.int .u64 0, .int .u32 0, .string ⟨#[]⟩, .int .i64 4]) (by simp [results, Tryz.results96, go_sem]) rfl ⟨rfl, by first | exact (Upd.refl _ _).drewN _ | exact ((Upd.refl _ _).drewN _).drewN _⟩

end Go.Proofs.YtocioaondjgceaaGreatDoor
