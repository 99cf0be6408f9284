/- works, for the printer: it is true. -/
import Derived.Test.YtlhjhkmmgkfmpaaPx0
import Derived.Test.YtlhjhkmmgkfmpaaPx7
import Derived.Test.YtlhjhkmmgkfmpaaPx13
import Derived.Test.YtlhjhkmmgkfmpaaPxTake
set_option linter.unusedVariables false
set_option linter.unusedSimpArgs false
namespace Go.Proofs.Ytlhjhkmmgkfmpaa.Px
open Go.RowKit Go.Shelf Go.Proofs.YtlhjhkmmgkfmpaaW.PrintWords Go.Proofs.YtlhjhkmmgkfmpaaW.PrintLast

def n11 : List UInt8 := [0, 0, 0, 0, 0, 0, 0, 0, 0, 0, 0]
def n7 : List UInt8 := [0, 0, 0, 0, 0, 0, 0]
def gtext : List UInt8 := n7 ++ [5, 1, 0, 1, 115, 0, 70] ++ n7 ++ [2] ++ n7 ++ [3, 0, 1, 0, 70, 0, 2]
theorem nought11 : rillbedlaw24_noughts.f 11 = some ⟨n11.toArray⟩ := by decide +kernel
theorem nought7 : rillbedlaw24_noughts.f 7 = some ⟨n7.toArray⟩ := by decide +kernel
theorem puts0 : rillbedlaw24_puts.f 10 0 [] [] ⟨n11.toArray⟩ = some true := by decide +kernel
theorem puts1 : rillbedlaw24_puts.f 10 5 [⟨⟨#[115]⟩, 70, 2, 3⟩] [⟨70, 2⟩] ⟨gtext.toArray⟩ = some true := by decide +kernel
theorem fails0 : rillbedlaw24_fails.f 10 ⟨#[]⟩ 10 = some true := by decide +kernel
theorem name0 : table_Name.f ⟨#[115]⟩ = some true := by decide +kernel

theorem C_none {α : Type} (d : Kd α) (w : World) : Kd.C d w none 0 [] := by
  obtain ⟨A, c, h1, h2, h3⟩ := Kd.R_reads (Kd.R_nil d 0 w 0 (fun _ => True))
  injection h1 with h1
  subst h1
  exact h3
theorem below_upd {w w' : World} (h : Below w.heap.size w w') : Upd (fun _ => False) w w' := Upd.none_of_below h

set_option maxHeartbeats 8000000 in
set_option maxRecDepth 100000 in
theorem works_walk (w : World) : Calls Try.prog 7 #[] w (fun e w' => e = .returned (.bool true) ∧ Upd (fun _ => False) w w') := by
  have hv26 : ∀ w, (zeroValue 26).run Try.prog w = .ok (.agg #[.int .u64 0, .slice none 0 0, .slice none 0 0]) w := fun w => by kernel_rfl
  have h11 := fun w => rillbedlaw24_noughts.calls 11 _ w nought11
  have h7 := fun w => rillbedlaw24_noughts.calls 7 _ w nought7
  have hp0 := fun w => rillbedlaw24_puts.calls 10 0 none 0 [] none 0 [] ⟨n11.toArray⟩ true w (C_none k53 w) (Nat.le_refl _) (C_none k65 w) (Nat.le_refl _) puts0
  have hg := fun w => rillbedlaw24_given.calls 5 [⟨⟨#[115]⟩, 70, 2, 3⟩] [⟨70, 2⟩] w rfl
  have hp1 := fun A1 c1 A2 c2 w h1 k1 h2 k2 => rillbedlaw24_puts.calls 10 5 A1 c1 [⟨⟨#[115]⟩, 70, 2, 3⟩] A2 c2 [⟨70, 2⟩] ⟨gtext.toArray⟩ true w h1 k1 h2 k2 puts1
  have hf := fun w => rillbedlaw24_fails.calls 10 ⟨#[]⟩ 10 true w fails0
  have hn := fun w => table_Name.calls ⟨#[115]⟩ true w name0
  obtain ⟨Z, hZ⟩ : ∃ Z : ByteArray, Z = ⟨n11.toArray⟩ := ⟨_, rfl⟩
  obtain ⟨X, hX⟩ : ∃ X : ByteArray, X = ⟨n7.toArray⟩ := ⟨_, rfl⟩
  obtain ⟨Y1, e1⟩ : ∃ Y, X ++ (⟨#[5, 1, 0, 1, 115, 0, 70]⟩ : ByteArray) = Y := ⟨_, rfl⟩
  obtain ⟨Y2, e2⟩ : ∃ Y, Y1 ++ X = Y := ⟨_, rfl⟩
  obtain ⟨Y3, e3⟩ : ∃ Y, Y2 ++ (⟨#[2]⟩ : ByteArray) = Y := ⟨_, rfl⟩
  obtain ⟨Y4, e4⟩ : ∃ Y, Y3 ++ X = Y := ⟨_, rfl⟩
  obtain ⟨Y5, e5⟩ : ∃ Y, Y4 ++ (⟨#[3, 0, 1, 0, 70, 0, 2]⟩ : ByteArray) = Y := ⟨_, rfl⟩
  have hY : Y5 = ⟨gtext.toArray⟩ := by subst hX; subst e1; subst e2; subst e3; subst e4; subst e5; decide +kernel
  have s0 : X.size = 7 := by rw [hX]; rfl
  have s1 : Y1.size = 14 := by rw [← e1, ByteArray.size_append, s0]; rfl
  have s2 : Y2.size = 21 := by rw [← e2, ByteArray.size_append, s0, s1]
  have s3 : Y3.size = 22 := by rw [← e3, ByteArray.size_append, s2]; rfl
  have s4 : Y4.size = 29 := by rw [← e4, ByteArray.size_append, s3, s0]
  have z1 : ¬ 9223372036854775807 < X.size + 7 := by omega
  have z2 : ¬ 9223372036854775807 < Y1.size + X.size := by omega
  have z3 : ¬ 9223372036854775807 < Y2.size + 1 := by omega
  have z4 : ¬ 9223372036854775807 < Y3.size + X.size := by omega
  have z5 : ¬ 9223372036854775807 < Y4.size + 7 := by omega
  rw [← hZ] at h11 hp0
  rw [← hX] at h7
  rw [← hY] at hp1
  have H11 := Lib.hid h11
  have H7 := Lib.hid h7
  have HP0 := Lib.hid hp0
  have HG := Lib.hid hg
  have HP1 := Lib.hid hp1
  have HF := Lib.hid hf
  have HN := Lib.hid hn
  clear h11 h7 hp0 hg hp1 hf hn hZ hX hY s0 s1 s2 s3 s4
  go_enter Try.func7, Try.ntmps7
  go_wp2_with (fail)
  refine (H11.out _).mono ?_
  rintro e w1 ⟨rfl, b1⟩
  go_wp2_with (fail)
  refine (HP0.out _).mono ?_
  rintro e w2 ⟨rfl, b2⟩
  go_wp2_with (fail)
  refine (HG.out _).mono ?_
  rintro e w3 ⟨v1, v2, rfl, k1, k2, b3⟩
  obtain ⟨A1, c1, rfl, l1, g1⟩ := Kd.R_reads k1
  obtain ⟨A2, c2, rfl, l2, g2⟩ := Kd.R_reads k2
  have G1 := Lib.hid g1
  have G2 := Lib.hid g2
  have U3 := Lib.hid (((below_upd b1).trans (below_upd b2) (fun _ _ f => f)).trans (below_upd b3) (fun _ _ f => f))
  clear k1 k2 b1 b2 b3 g1 g2
  go_wp2_with (fail)
  refine (H7.out _).mono ?_
  rintro e w4 ⟨rfl, b4⟩
  go_wp2_with (fail)
  refine (H7.out _).mono ?_
  rintro e w5 ⟨rfl, b5⟩
  go_wp2_with (fail)
  refine (H7.out _).mono ?_
  rintro e w6 ⟨rfl, b6⟩
  have U6 := Lib.hid (((below_upd b4).trans (below_upd b5) (fun _ _ f => f)).trans (below_upd b6) (fun _ _ f => f))
  clear b4 b5 b6
  have g1 := Kd.C_below G1.out (U6.out.below (Nat.le_refl _) (fun _ f => f.elim))
  have g2 := Kd.C_below G2.out (U6.out.below (Nat.le_refl _) (fun _ f => f.elim))
  go_wp2_with (fail)
  refine (HP1.out A1 c1 A2 c2 _ g1 l1 g2 l2).mono ?_
  rintro e w7 ⟨rfl, b7⟩
  clear g1 g2
  go_wp2_with (fail)
  refine (HF.out _).mono ?_
  rintro e w8 ⟨rfl, b8⟩
  go_wp2_with (fail)
  refine (HN.out _).mono ?_
  rintro e w9 ⟨rfl, b9⟩
  go_wp2
  go_ret
  exact ⟨rfl, (((U3.out.trans U6.out (fun _ _ f => f)).trans (below_upd b7) (fun _ _ f => f)).trans (below_upd b8) (fun _ _ f => f)).trans (below_upd b9) (fun _ _ f => f)⟩

def rillbedlaw24_works.f : Option Bool := some true
theorem rillbedlaw24_works.calls (r : Bool) (w : World) (h : rillbedlaw24_works.f = some r) :
    Calls Try.prog 7 #[] w fun e w' => e = .returned (.bool r) ∧ Below w.heap.size w w' := by
  obtain rfl := Option.some.inj h
  exact (works_walk w).mono fun e w' ⟨he, hu⟩ => ⟨he, hu.below (Nat.le_refl _) (fun _ f => f.elim)⟩

end Go.Proofs.Ytlhjhkmmgkfmpaa.Px
