/- Stamped texts: the reference's Pad, Stamp. -/
import Derived.Test.YtocioaondjgceaaGreatDoorSeal4
import Derived.Test.YtocioaondjgceaaGreatDoorSeal6
set_option linter.unusedVariables false
set_option linter.unusedSimpArgs false
namespace Go.Proofs.YtocioaondjgceaaGreatDoor
open Go.RowKit

theorem made_bytes (q : Nat) : (madeCells #[Value.int .u8 0] q).toList = bytesV (List.replicate q 0) := by
  apply List.ext_getElem
  · simp [bytesV, size_madeCells]
  · intro i h1 h2
    simp [madeCells, bytesV, Nat.mod_one]

set_option maxHeartbeats 1600000 in
set_option maxRecDepth 100000 in
theorem ref_Stamp (gi ii : Int) (g i : Nat) (s : List UInt8) (n : Int) (w : World) (hgi : gi = g) (hii : ii = i) (hg : g < 18446744073709551616) (hi4 : i < 4294967296) (hs : s.length ≤ 1000000) :
    Calls Tryz.prog 72 #[.int .u64 gi, .int .u32 ii, .string ⟨s.toArray⟩, .int .i64 n] w (StrE (Sl.stamp g i s n) w) := by
  subst hgi hii
  by_cases h1 : n < 26
  · rw [show Sl.stamp g i s n = ([], 2) by unfold Sl.stamp; rw [if_pos (Or.inl h1)]]
    go_enter Tryz.func72, Tryz.ntmps72
    go_wp2
    go_ret2
    exact ⟨rfl, Upd.refl _ _⟩
  · by_cases h2 : 65536 < n
    · rw [show Sl.stamp g i s n = ([], 2) by unfold Sl.stamp; rw [if_pos (Or.inr h2)]]
      go_enter Tryz.func72, Tryz.ntmps72
      go_wp2
      go_ret2
      exact ⟨rfl, Upd.refl _ _⟩
    · by_cases h3 : 65535 < s.length
      · rw [show Sl.stamp g i s n = ([], 3) by unfold Sl.stamp; rw [if_neg (by omega), if_pos (Or.inl h3)]]
        go_enter Tryz.func72, Tryz.ntmps72
        go_wp2
        go_ret2
        exact ⟨rfl, Upd.refl _ _⟩
      · by_cases h4 : n - 26 < s.length
        · rw [show Sl.stamp g i s n = ([], 3) by unfold Sl.stamp; rw [if_neg (by omega), if_pos (Or.inr h4)]]
          go_enter Tryz.func72, Tryz.ntmps72
          go_wp2
          go_ret2
          exact ⟨rfl, Upd.refl _ _⟩
        · rw [show Sl.stamp g i s n = (be 8 g ++ be 4 i ++ be 2 s.length ++ s ++ List.replicate (n - 26 - s.length).toNat 0 ++ (be 4 i ++ be 8 g), 0) by unfold Sl.stamp; rw [if_neg (by omega), if_neg (by omega)]]
          obtain ⟨q, hq⟩ := Int.eq_ofNat_of_zero_le (show 0 ≤ n - 26 - s.length by omega)
          rw [show (n - 26 - s.length).toNat = q by omega]
          obtain ⟨Z, hZ⟩ : ∃ Z, Z = List.replicate q (0 : UInt8) := ⟨_, rfl⟩
          have hZl : Z.length = q := by rw [hZ]; simp
          have hmk : (madeCells #[Value.int .u8 0] q).toList = bytesV Z := by rw [hZ]; exact made_bytes q
          obtain ⟨i0, hi, hz0, hz1, hz2⟩ := info_parts Tryz.infoU8
          have b2 : i0.bytes * q ≤ 281474976710656 := by rw [hz2]; omega
          have b3 : q ≤ maxLen := by unfold maxLen; omega
          rw [← hZ]
          have HMK := Lib.hid hmk
          obtain ⟨A, hA⟩ : ∃ A, A = be 8 g := ⟨_, rfl⟩
          obtain ⟨B, hB⟩ : ∃ B, B = be 4 i := ⟨_, rfl⟩
          obtain ⟨C, hC⟩ : ∃ C, C = be 2 s.length := ⟨_, rfl⟩
          have hAl : A.length = 8 := by rw [hA, be_len]
          have hBl : B.length = 4 := by rw [hB, be_len]
          have hCl : C.length = 2 := by rw [hC, be_len]
          rw [← hA, ← hB, ← hC]
          have hN := fun (x y : Int) (r : List UInt8) (w : World) (h : (x = g ∧ y = 8 ∧ r = A) ∨ (x = i ∧ y = 4 ∧ r = B) ∨ (x = s.length ∧ y = 2 ∧ r = C)) =>
            (show Calls Tryz.prog 71 #[.int .u64 x, .int .i64 y] w (StrR r w) by
              rcases h with ⟨rfl, rfl, rfl⟩ | ⟨rfl, rfl, rfl⟩ | ⟨rfl, rfl, rfl⟩
              · rw [hA]; exact ref_Number _ 8 g 8 w rfl rfl hg (by decide)
              · rw [hB]; exact ref_Number _ 4 i 4 w rfl rfl (by omega) (by decide)
              · rw [hC]; exact ref_Number _ 2 s.length 2 w rfl rfl (by omega) (by decide))
          have HN := Lib.hid hN
          have e1 : IntKind.i64.wrap (n - 26 - (s.length : Int)) = (q : Int) := by rw [hq]; exact IntWalk.i64_in _ (by omega)
          have e2 : IntKind.u64.wrap (i : Int) = (i : Int) := IntWalk.u64_in _ (by omega)
          have e3 : IntKind.u64.wrap (s.length : Int) = (s.length : Int) := IntWalk.u64_in _ (by omega)
          have a1 := append_list A B
          have a2 := append_list (A ++ B) C
          have a3 := append_list (A ++ (B ++ C)) s
          have a4 := append_list (A ++ (B ++ (C ++ s))) Z
          have a5 := append_list (A ++ (B ++ (C ++ (s ++ Z)))) B
          have a6 := append_list (A ++ (B ++ (C ++ (s ++ (Z ++ B))))) A
          clear hA hB hC hN hZ hmk
          go_enter Tryz.func72, Tryz.ntmps72
          go_wp2_with (at_make; refine wpList_make_full _ rfl _ _ 82 rfl 0 5 i0 (.int .u8 0) 1 Tryz.underlying82 hi hz0 hz1 .i64 .i64 (q : Int) (q : Int) q rfl rfl rfl rfl b2 b3 (Nat.zero_le _) ?_)
          intro w1 hown hgrow
          rw [HMK.out] at hown
          have u1 := (Upd.refl (fun _ => False) w).grown hgrow (fun k h _ => by simp at h)
          have hconv := run_conv_row (P := Tryz.prog) w1 82 5 9 Tryz.underlying82 Tryz.underlying5 Tryz.underlying9 _ Z q hZl.symm hown
          clear hown hgrow
          go_wp2_with (fail)
          refine (HN.out _ _ _ _ (Or.inl ⟨rfl, rfl, rfl⟩)).mono ?_
          rintro e v0 ⟨rfl, uv0⟩
          go_wp2_with (fail)
          refine (HN.out _ _ _ _ (Or.inr (Or.inl ⟨rfl, rfl, rfl⟩))).mono ?_
          rintro e v1 ⟨rfl, uv1⟩
          go_wp2_with (fail)
          refine (HN.out _ _ _ _ (Or.inr (Or.inr ⟨rfl, rfl, rfl⟩))).mono ?_
          rintro e v2 ⟨rfl, uv2⟩
          go_wp2_with (fail)
          refine (HN.out _ _ _ _ (Or.inr (Or.inl ⟨rfl, rfl, rfl⟩))).mono ?_
          rintro e v3 ⟨rfl, uv3⟩
          go_wp2_with (fail)
          refine (HN.out _ _ _ _ (Or.inl ⟨rfl, rfl, rfl⟩)).mono ?_
          rintro e v4 ⟨rfl, uv4⟩
          go_wp2
          go_ret2
          exact ⟨by simp, u1.trans (uv0.trans (uv1.trans (uv2.trans (uv3.trans uv4 (fun _ _ f => f)) (fun _ _ f => f)) (fun _ _ f => f)) (fun _ _ f => f)) (fun _ _ f => f)⟩

end Go.Proofs.YtocioaondjgceaaGreatDoor
