/- Sealed and stamped texts: Stamp, Unstamp. -/
import Derived.Test.YtocioaondjgceaaGreatDoorSeal3
set_option linter.unusedVariables false
set_option linter.unusedSimpArgs false
namespace Go.Proofs.YtocioaondjgceaaGreatDoor
open Go.RowKit

set_option maxHeartbeats 1600000 in
set_option maxRecDepth 100000 in
theorem sl_Stamp (gi ii : Int) (g i : Nat) (s : List UInt8) (n : Int) (w : World) (hgi : gi = g) (hii : ii = i) (hg : g < 18446744073709551616) (hi : i < 4294967296) (hs : s.length ≤ 1000000) :
    Calls Tryz.prog 49 #[.int .u64 gi, .int .u32 ii, .string ⟨s.toArray⟩, .int .i64 n] w (StrE (Sl.stamp g i s n) w) := by
  subst hgi hii
  by_cases h1 : n < 26
  · rw [show Sl.stamp g i s n = ([], 2) by unfold Sl.stamp; rw [if_pos (Or.inl h1)]]
    go_enter Tryz.func49, Tryz.ntmps49
    go_wp2
    go_ret2
    exact ⟨rfl, Upd.refl _ _⟩
  · by_cases h2 : 65536 < n
    · rw [show Sl.stamp g i s n = ([], 2) by unfold Sl.stamp; rw [if_pos (Or.inr h2)]]
      go_enter Tryz.func49, Tryz.ntmps49
      go_wp2
      go_ret2
      exact ⟨rfl, Upd.refl _ _⟩
    · by_cases h3 : 65535 < s.length
      · rw [show Sl.stamp g i s n = ([], 3) by unfold Sl.stamp; rw [if_neg (by omega), if_pos (Or.inl h3)]]
        go_enter Tryz.func49, Tryz.ntmps49
        go_wp2
        go_ret2
        exact ⟨rfl, Upd.refl _ _⟩
      · by_cases h4 : n - 26 < s.length
        · rw [show Sl.stamp g i s n = ([], 3) by unfold Sl.stamp; rw [if_neg (by omega), if_pos (Or.inr h4)]]
          go_enter Tryz.func49, Tryz.ntmps49
          go_wp2
          go_ret2
          exact ⟨rfl, Upd.refl _ _⟩
        · rw [show Sl.stamp g i s n = (be 8 g ++ be 4 i ++ be 2 s.length ++ s ++ List.replicate (n - 26 - s.length).toNat 0 ++ (be 4 i ++ be 8 g), 0) by unfold Sl.stamp; rw [if_neg (by omega), if_neg (by omega)]]
          obtain ⟨q, hq⟩ := Int.eq_ofNat_of_zero_le (show 0 ≤ n - 26 - s.length by omega)
          rw [show (n - 26 - s.length).toNat = q by omega]
          obtain ⟨k1, k2⟩ := Wk.two w
          have hu2 := ((Upd.refl (fun _ => False) w).alloc (.cells #[.slice none 0 0, .int .i64 0] 90)).alloc (.cells #[.slice none 0 0, .int .i64 0] 90)
          obtain ⟨A, hA⟩ : ∃ A, A = be 8 g ++ be 4 i ++ be 2 s.length ++ s := ⟨_, rfl⟩
          obtain ⟨B, hB⟩ : ∃ B, B = be 4 i ++ be 8 g := ⟨_, rfl⟩
          have hAl : A.length = 14 + s.length := by rw [hA]; simp [be]; omega
          have hBl : B.length = 12 := by rw [hB]; simp [be]
          rw [← hA, ← hB]
          have hN := fun w => noughts_1 q q w rfl (by omega)
          obtain ⟨Z, hZ⟩ : ∃ Z, Z = List.replicate q (0 : UInt8) := ⟨_, rfl⟩
          have hZl : Z.length = q := by rw [hZ]; simp
          rw [← hZ] at hN ⊢
          have hcat := append_list A Z
          have hcat2 := append_list (A ++ Z) B
          have e1 : IntKind.i64.wrap (n - (A.length : Int)) = n - (A.length : Int) := IntWalk.i64_in _ (by omega)
          have e2 : IntKind.i64.wrap (n - (A.length : Int) - (B.length : Int)) = n - (A.length : Int) - (B.length : Int) := IntWalk.i64_in _ (by omega)
          have e3 : n - (14 + (s.length : Int)) - 12 = (q : Int) := by omega
          have l1 : ¬ 9223372036854775807 < A.length + Z.length := by omega
          have l2 : ¬ 9223372036854775807 < A.length + Z.length + B.length := by omega
          have HU2 := Lib.hid hu2
          have K1 := Lib.hid k1
          have HA := Lib.hid hA
          have HB := Lib.hid hB
          have HN := Lib.hid hN
          have E3 := Lib.hid e3
          have hu8 := Wk_U64 k1 g g rfl (by unfold Two64; omega) (by simp)
          rw [List.nil_append] at hu8
          have U8 := Lib.hid hu8
          clear hu2 k1 k2 hA hB hN hq hu8 e3 hZ
          go_enter Tryz.func49, Tryz.ntmps49
          go_wp2_with (fail)
          refine U8.out.mono ?_
          rintro e w1 ⟨rfl, k3⟩
          go_wp2_with (fail)
          refine (Wk_U32 k3 _ i rfl (by unfold Two32; omega) (by simp [be])).mono ?_
          rintro e w2 ⟨rfl, k4⟩
          go_wp2_with (fail)
          refine (Wk_Text k4 s (by simp [be]) (by omega)).mono ?_
          rintro e w3 ⟨rfl, k5⟩
          rw [← HA.out] at k5
          have k6 := Wk.lies (k5.heap (heap_alloc_new2 w _ _) (by omega))
          have hz := k5.upd.size
          have hz2 : w.heap.size + 2 ≤ w3.heap.size := by simp at hz; omega
          go_wp2_with (fail)
          refine (Wk_U32 k6 _ i rfl (by unfold Two32; omega) (by simp)).mono ?_
          rintro e w4 ⟨rfl, k7⟩
          go_wp2_with (fail)
          refine (Wk_U64 k7 _ g rfl (by unfold Two64; omega) (by simp [be])).mono ?_
          rintro e w5 ⟨rfl, k8⟩
          rw [List.nil_append, ← HB.out] at k8
          obtain ⟨r, kr, _⟩ := k5.keep k8.upd (by omega) (fun g hg => by simp at hg; omega)
          go_wp2_with (fail)
          refine (Writer_Bytes _ r A _ (by omega) kr).mono ?_
          rintro e w6 ⟨rfl, rfl⟩
          go_wp2_with (fail)
          refine (Wk_Bytes k8 (by omega)).mono ?_
          rintro e w6 ⟨rfl, rfl⟩
          have hu0 : Upd (fun _ => False) w w5 := (HU2.out.trans k5.upd (fun i hi h => by omega)).trans k8.upd (fun i hi h => by omega)
          clear k3 k4 k5 k6 k7 k8 kr hz hz2 U8 K1 HU2
          go_wp2_with (fail)
          refine (noughts_0 _).mono ?_
          rintro e wz ⟨rfl, rfl⟩
          go_wp2_with (fail)
          rw [E3.out]
          refine (HN.out _).mono ?_
          rintro e wz ⟨rfl, uz⟩
          have hS := hu0.trans uz (fun _ _ f => f)
          go_wp2
          go_ret2
          exact ⟨by simp, hS⟩

namespace Sl
/-- What is told of the parts of any bytes. -/
def parts (gen idx : Nat) (text R : List UInt8) (e : Int) (i2 g2 : Nat) : Nat × Nat × List UInt8 × Int :=
  if i2 ≠ idx ∨ g2 ≠ gen ∨ e ≠ 0 ∨ Lib.trimB R 0 ≠ [] then (0, 0, [], 4) else (gen, idx, text, 0)
def unstampC (s : List UInt8) : Nat × Nat × List UInt8 × Int :=
  if s.length < 26 then (0, 0, [], 10) else if 65536 < s.length then (0, 0, [], 4) else
  parts (rU64 (s.take (s.length - 12)) 0).1 (rU32 ((s.take (s.length - 12)).drop 8) 0).1 (rText ((s.take (s.length - 12)).drop 12) 0).1 (rText ((s.take (s.length - 12)).drop 12) 0).2.1 (rText ((s.take (s.length - 12)).drop 12) 0).2.2
    (rU32 (s.drop (s.length - 12)) 0).1 (rU64 ((s.drop (s.length - 12)).drop 4) 0).1
end Sl
/-- A number of 64 bits, one of 32, a string, an error. -/
def UnR (res : Nat × Nat × List UInt8 × Int) (w : World) (e : Ending) (w' : World) : Prop := e = .returned (.tuple #[.int .u64 (res.1 : Nat), .int .u32 (res.2.1 : Nat), .string ⟨res.2.2.1.toArray⟩, .int .i64 res.2.2.2]) ∧ Upd (fun _ => False) w w'

end Go.Proofs.YtocioaondjgceaaGreatDoor
