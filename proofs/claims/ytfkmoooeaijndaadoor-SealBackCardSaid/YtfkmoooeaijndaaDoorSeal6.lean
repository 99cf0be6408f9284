/- Sealed texts: the reference's Seal, Open. -/
import Derived.Test.YtfkmoooeaijndaaDoorSeal3
set_option linter.unusedVariables false
set_option linter.unusedSimpArgs false
namespace Go.Proofs.YtfkmoooeaijndaaDoor
open Go.RowKit

set_option maxHeartbeats 400000 in
set_option maxRecDepth 100000 in
theorem ref_Seal (s : List UInt8) (w : World) (hs : s.length ≤ 1000000) :
    Calls Tryd.prog 12 #[.string ⟨s.toArray⟩] w (StrE (Sl.close s) w) := by
  by_cases h1 : 65535 < s.length
  · rw [show Sl.close s = ([], 3) by unfold Sl.close; rw [if_pos h1]]
    go_enter Tryd.func12, Tryd.ntmps12
    go_wp2
    go_ret2
    exact ⟨rfl, Upd.refl _ _⟩
  · rw [show Sl.close s = (be 2 s.length ++ s ++ be 4 (Crc.sum (be 2 s.length ++ s)), 0) by unfold Sl.close; rw [if_neg h1]]
    obtain ⟨L, hL⟩ : ∃ L, L = be 2 s.length := ⟨_, rfl⟩
    have hLl : L.length = 2 := by rw [hL, be_len]
    rw [← hL]
    have hN := fun w => ref_Number s.length 2 s.length 2 w rfl rfl (by omega) (by decide)
    rw [← hL] at hN
    have hcat := append_list L s
    obtain ⟨B, hB⟩ : ∃ B, B = L ++ s := ⟨_, rfl⟩
    have hBl : B.length = 2 + s.length := by rw [hB]; simp [hLl]
    rw [← hB] at hcat ⊢
    have hM := fun w => ref_Number (Crc.sum B) 4 (Crc.sum B) 4 w rfl rfl (by have := Crc.sum_lt B; omega) (by decide)
    obtain ⟨S, hS⟩ : ∃ S, S = be 4 (Crc.sum B) := ⟨_, rfl⟩
    have hSl : S.length = 4 := by rw [hS, be_len]
    rw [← hS] at hM ⊢
    have hcat2 := append_list B S
    have hcs := Crc.sum_lt B
    have e2 : IntKind.u64.wrap (Crc.sum B : Int) = (Crc.sum B : Int) := IntWalk.u64_in _ (by omega)
    have e1 : IntKind.u64.wrap (s.length : Int) = (s.length : Int) := IntWalk.u64_in _ (by omega)
    have HN := Lib.hid hN
    have HM := Lib.hid hM
    clear hN hM hL hB hS
    go_enter Tryd.func12, Tryd.ntmps12
    go_wp2_with (fail)
    refine (HN.out _).mono ?_
    rintro e w1 ⟨rfl, u1⟩
    go_wp2_with (fail)
    refine (ref_Sum B _ (by omega)).mono ?_
    rintro e w2 ⟨rfl, rfl⟩
    go_wp2_with (fail)
    refine (HM.out _).mono ?_
    rintro e w2 ⟨rfl, u2⟩
    go_wp2
    go_ret2
    exact ⟨rfl, u1.trans u2 (fun _ _ f => f)⟩

set_option maxHeartbeats 400000 in
set_option maxRecDepth 100000 in
theorem ref_Open (s : List UInt8) (w : World) (hs : s.length ≤ 1000000) :
    Calls Tryd.prog 14 #[.string ⟨s.toArray⟩] w (Str2E (Sl.openS s) w) := by
  by_cases h6 : s.length < 6
  · rw [show Sl.openS s = ([], [], 10) by unfold Sl.openS; rw [if_pos h6]]
    go_enter Tryd.func14, Tryd.ntmps14
    go_wp2
    refine bodyPost_ret (v := .tuple #[.string ⟨#[]⟩, .string ⟨#[]⟩, .int .i64 10]) (by simp [results, Tryd.results14, go_sem]) rfl ⟨rfl, Upd.refl _ _⟩
  · obtain ⟨L, hL⟩ : ∃ L, L = s.take 2 := ⟨_, rfl⟩
    have hLl : L.length = 2 := by rw [hL, List.length_take]; omega
    obtain ⟨n, hn⟩ : ∃ n, n = ofBe (s.take 2) := ⟨_, rfl⟩
    have hnl : n < 65536 := by have := ofBe_lt (s.take 2); rw [← hL, hLl] at this; rw [hn, ← hL]; omega
    have hT1 := fun w => ref_Told L w (by omega)
    rw [hL, ← hn, ← hL] at hT1
    have hx1 : (⟨s.toArray⟩ : ByteArray).extract 0 2 = ⟨L.toArray⟩ := by have := ext_list s 0 2; rw [hL]; simpa using this
    have e1 : IntKind.i64.wrap (n : Int) = (n : Int) := IntWalk.i64_in _ (by omega)
    have HT1 := Lib.hid hT1
    by_cases h7 : s.length < 6 + n
    · rw [show Sl.openS s = ([], [], 10) by unfold Sl.openS; rw [if_neg h6, if_pos (by omega)]]
      clear hT1 hL hn
      have h7' : (s.length : Int) - 6 < (n : Int) := by omega
      go_enter Tryd.func14, Tryd.ntmps14
      go_wp2_with (fail)
      refine (HT1.out _).mono ?_
      rintro e w1 ⟨rfl, rfl⟩
      go_wp2
      refine bodyPost_ret (v := .tuple #[.string ⟨#[]⟩, .string ⟨#[]⟩, .int .i64 10]) (by simp [results, Tryd.results14, go_sem]) rfl ⟨rfl, Upd.refl _ _⟩
    · have h7' : ¬ (s.length : Int) - 6 < (n : Int) := by omega
      obtain ⟨P, hP⟩ : ∃ P, P = s.take (2 + n) := ⟨_, rfl⟩
      obtain ⟨Q, hQ⟩ : ∃ Q, Q = (s.drop (2 + n)).take 4 := ⟨_, rfl⟩
      have hPl : P.length ≤ 1000000 := by rw [hP, List.length_take]; omega
      have hQl : Q.length ≤ 8 := by rw [hQ, List.length_take]; omega
      obtain ⟨t, ht⟩ : ∃ t, t = (s.drop 2).take n := ⟨_, rfl⟩
      obtain ⟨R, hR⟩ : ∃ R, R = s.drop (6 + n) := ⟨_, rfl⟩
      obtain ⟨c2, hc2⟩ : ∃ c, c = 2 + n := ⟨_, rfl⟩
      obtain ⟨c6, hc6⟩ : ∃ c, c = 6 + n := ⟨_, rfl⟩
      have hx2 : (⟨s.toArray⟩ : ByteArray).extract 0 c2 = ⟨P.toArray⟩ := by have := ext_list s 0 c2; rw [hP, ← hc2]; simpa using this
      have hx3 : (⟨s.toArray⟩ : ByteArray).extract c2 c6 = ⟨Q.toArray⟩ := by
        rw [ext_list, hQ, ← hc2, show c6 - c2 = 4 by omega]
      have hx4 : (⟨s.toArray⟩ : ByteArray).extract 2 c2 = ⟨t.toArray⟩ := by rw [ext_list, ht, show c2 - 2 = n by omega]
      have hx5 : (⟨s.toArray⟩ : ByteArray).extract c6 s.length = ⟨R.toArray⟩ := by rw [ext_list, hR, ← hc6, List.take_of_length_le (by rw [List.length_drop]; omega)]
      have e3 : IntKind.i64.wrap (2 + (n : Int)) = (c2 : Int) := by rw [show 2 + (n : Int) = (c2 : Int) by omega]; exact IntWalk.i64_in _ (by omega)
      have e4 : IntKind.i64.wrap (6 + (n : Int)) = (c6 : Int) := by rw [show 6 + (n : Int) = (c6 : Int) by omega]; exact IntWalk.i64_in _ (by omega)
      have e3' : 2 + (n : Int) = (c2 : Int) := by omega
      have e4' : 6 + (n : Int) = (c6 : Int) := by omega
      have e5 : IntKind.i64.wrap (c2 : Int) = (c2 : Int) := IntWalk.i64_in _ (by omega)
      have e6 : IntKind.i64.wrap (c6 : Int) = (c6 : Int) := IntWalk.i64_in _ (by omega)
      have b0 : (0 : Int) ≤ (c2 : Int) := by omega
      have b1 : (c2 : Int) ≤ (s.length : Int) := by omega
      have b2 : (c6 : Int) ≤ (s.length : Int) := by omega
      have b3 : (c2 : Int) ≤ (c6 : Int) := by omega
      have b4 : (2 : Int) ≤ (c2 : Int) := by omega
      have b5 : (0 : Int) ≤ (c6 : Int) := by omega
      have n1 : c2 ≤ s.length := by omega
      have n2 : c6 ≤ s.length := by omega
      have n3 : c2 ≤ c6 := by omega
      have n4 : 2 ≤ c2 := by omega
      have hcs := Crc.sum_lt P
      have e2 : IntKind.u64.wrap (Crc.sum P : Int) = (Crc.sum P : Int) := IntWalk.u64_in _ (by omega)
      have hT2 := fun w => ref_Told Q w hQl
      obtain ⟨x, hx⟩ : ∃ x, x = ofBe Q := ⟨_, rfl⟩
      rw [← hx] at hT2
      have HT2 := Lib.hid hT2
      by_cases hc : Crc.sum P = x
      · rw [show Sl.openS s = (t, R, 0) by unfold Sl.openS; rw [if_neg h6, if_neg (by omega), ← hn, ← hP, ← hQ, ← hx, if_neg (by simpa using hc), ht, hR]]
        have hcc : ((Crc.sum P : Int) != (x : Int)) = false := by rw [hc]; simp
        have HC := Lib.hid hc
        clear hT1 hT2 hL hn hP hQ hR ht hc hx hc2 hc6
        go_enter Tryd.func14, Tryd.ntmps14
        go_wp2_with (fail)
        refine (HT1.out _).mono ?_
        rintro e w1 ⟨rfl, rfl⟩
        have hu0 : Upd (fun _ => False) w w.drew := (Upd.refl _ _).drew
        go_wp2
        go_region_held3 (fun w' => Upd (fun _ => False) w w')
          (first
            | exact hu0
            | (have h := ‹Upd (fun _ => False) w _›; exact h))
          (first
            | (go_at_call 32; refine (ref_Sum P _ (by omega)).mono ?_; rintro e wz ⟨rfl, rfl⟩)
            | (go_at_call 38; refine (HT2.out _).mono ?_; rintro e wz ⟨rfl, rfl⟩))
        have hS := ‹Upd (fun _ => False) w _›
        go_wp2
        go_quiet (fail)
        go_wp2
        refine bodyPost_ret (v := .tuple #[.string ⟨t.toArray⟩, .string ⟨R.toArray⟩, .int .i64 0]) (by simp [results, Tryd.results14, go_sem]) rfl ⟨rfl, by first | exact hS | exact hS.drewN _⟩
      · rw [show Sl.openS s = ([], [], 9) by unfold Sl.openS; rw [if_neg h6, if_neg (by omega), ← hn, ← hP, ← hQ, ← hx, if_pos (by simpa using hc)]]
        have hcc : ((Crc.sum P : Int) != (x : Int)) = true := bne_iff_ne.2 (by omega)
        have HC := Lib.hid hc
        clear hT1 hT2 hL hn hP hQ hR ht hc hx hc2 hc6
        go_enter Tryd.func14, Tryd.ntmps14
        go_wp2_with (fail)
        refine (HT1.out _).mono ?_
        rintro e w1 ⟨rfl, rfl⟩
        have hu0 : Upd (fun _ => False) w w.drew := (Upd.refl _ _).drew
        go_wp2
        go_region_held3 (fun w' => Upd (fun _ => False) w w')
          (first
            | exact hu0
            | (have h := ‹Upd (fun _ => False) w _›; exact h))
          (first
            | (go_at_call 32; refine (ref_Sum P _ (by omega)).mono ?_; rintro e wz ⟨rfl, rfl⟩)
            | (go_at_call 38; refine (HT2.out _).mono ?_; rintro e wz ⟨rfl, rfl⟩))
        have hS := ‹Upd (fun _ => False) w _›
        go_wp2
        refine bodyPost_ret (v := .tuple #[.string ⟨#[]⟩, .string ⟨#[]⟩, .int .i64 9]) (by simp [results, Tryd.results14, go_sem]) rfl ⟨rfl, hS⟩

end Go.Proofs.YtfkmoooeaijndaaDoor
