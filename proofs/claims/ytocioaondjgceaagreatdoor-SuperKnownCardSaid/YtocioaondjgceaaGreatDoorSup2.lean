/- Superblocks: Put and Take, of the code and of the reference. -/
import Derived.Test.YtocioaondjgceaaGreatDoorSup1
import Derived.Test.YtocioaondjgceaaGreatDoorSealP
import Derived.Outline
set_option linter.unusedVariables false
set_option linter.unusedSimpArgs false
namespace Go.Proofs.YtocioaondjgceaaGreatDoor
open Go.RowKit

set_option maxHeartbeats 1600000 in
set_option maxRecDepth 100000 in
theorem sup_Put (s : Sp.Sup) (w : World) (hg : s.gen < 18446744073709551616) (hc : s.calls < 18446744073709551616) :
    Calls Tryz.prog 26 #[supV s] w (StrE (Sp.put s) w) := by
  have hmf : ∀ (fn : Fn) (first cap : Array Value) (w : World), (Instr.makeFunc fn first cap).run Tryz.prog w = .ok (.func fn first cap) w := fun _ _ _ _ => rfl
  have hM := fun w => sup_may s w hg
  have hb := heap_alloc_new w (.cells (supC s) 25)
  have hu := (Upd.refl (fun _ => False) w).alloc (.cells (supC s) 25)
  unfold Sp.put
  cases hm : Sp.may s with
  | false =>
    rw [if_pos rfl]
    rw [hm] at hM
    obtain ⟨g, c, r, t, n⟩ := s
    unfold supV supC at *
    dsimp only at hg hc hb hu hM ⊢
    have HM := Lib.hid hM
    clear hM hm
    go_enter Tryz.func26, Tryz.ntmps26
    go_wp2_with (go_at_call 45; refine (HM.out _).mono ?_; rintro e w1 ⟨rfl, u1⟩)
    go_ret2
    exact ⟨rfl, hu.trans u1 (fun _ _ f => f)⟩
  | true =>
    rw [if_neg (by simp)]
    rw [hm] at hM
    have hx := (Sp.may_iff s).1 hm
    have hT := Sp.txt_len s
    have hS := fun w => sl_Stamp s.gen 0 s.gen 0 (Sp.txt s) 128 w rfl rfl hg (by decide) (by omega)
    unfold Sp.txt at hS hT ⊢
    obtain ⟨g, c, r, t, n⟩ := s
    unfold supV supC at *
    dsimp only at hg hc hb hu hM hx hS hT ⊢
    obtain ⟨x0, x1, x2, x3, x4, x5, x6⟩ := hx
    obtain ⟨r, rfl⟩ := Int.eq_ofNat_of_zero_le (show 0 ≤ r by omega)
    obtain ⟨t, rfl⟩ := Int.eq_ofNat_of_zero_le (show 0 ≤ t by omega)
    obtain ⟨n, rfl⟩ := Int.eq_ofNat_of_zero_le (show 0 ≤ n by omega)
    simp only [Int.toNat_natCast] at hS hT ⊢
    generalize Sl.stamp g 0 (be 8 c ++ be 2 r ++ be 2 t ++ be 2 n) 128 = res at hS ⊢
    obtain ⟨r1, r2⟩ := res
    have e1 : IntKind.u16.wrap (r : Int) = (r : Int) := IntWalk.u16_in _ (by omega)
    have e2 : IntKind.u16.wrap (t : Int) = (t : Int) := IntWalk.u16_in _ (by omega)
    have e3 : IntKind.u16.wrap (n : Int) = (n : Int) := IntWalk.u16_in _ (by omega)
    have HM := Lib.hid hM
    have HS := Lib.hid hS
    have HT := Lib.hid hT
    clear hM hm hS hT
    go_enter Tryz.func26, Tryz.ntmps26
    go_wp2_with (fail)
    refine (HM.out _).mono ?_
    rintro e w1 ⟨rfl, u1⟩
    have hb1 := heap_alloc_lt (u1.heap hb (fun f => f)) (.cells #[.slice none 0 0, .int .i64 0] 90)
    have k0 := Wk.new w1
    have l1 := lt_of_heap (u1.heap hb (fun f => f))
    have nb : w.heap.size ≠ w1.heap.size := by omega
    have g1 := cell_heap hb1 1 (.int .u64 c) rfl
    go_wp2_with (fail)
    refine (Wk_U64 k0 _ c rfl hc (by simp)).mono ?_
    rintro e w2 ⟨rfl, k1⟩
    have g2 := cell_heap (k1.heap hb1 nb) 2 (.int .i64 r) rfl
    go_wp2_with (fail)
    refine (Wk_U16 k1 _ r rfl (by show r < 65536; omega) (by simp [be_len])).mono ?_
    rintro e w3 ⟨rfl, k2⟩
    have g3 := cell_heap (k2.heap hb1 nb) 3 (.int .i64 t) rfl
    go_wp2_with (fail)
    refine (Wk_U16 k2 _ t rfl (by show t < 65536; omega) (by simp [be_len])).mono ?_
    rintro e w4 ⟨rfl, k3⟩
    have g4 := cell_heap (k3.heap hb1 nb) 4 (.int .i64 n) rfl
    go_wp2_with (fail)
    refine (Wk_U16 k3 _ n rfl (by show n < 65536; omega) (by simp [be_len])).mono ?_
    rintro e w5 ⟨rfl, k4⟩
    have g5 := cell_heap (k4.heap hb1 nb) 0 (.int .u64 g) rfl
    have u5 := k4.upd
    go_wp2_with (fail)
    refine (Wk_Bytes k4 (by simp [be_len])).mono ?_
    rintro e w6 ⟨rfl, rfl⟩
    go_wp2_with (fail)
    refine (HS.out _).mono ?_
    rintro e w7 ⟨rfl, u7⟩
    go_wp2
    go_ret2
    exact ⟨rfl, (((hu.trans u1 (fun _ _ f => f)).alloc _).trans u5 (fun i hi f => by omega)).trans u7 (fun _ _ f => f)⟩

set_option maxHeartbeats 1600000 in
set_option maxRecDepth 100000 in
theorem ref_PutS (s : Sp.Sup) (w : World) (hg : s.gen < 18446744073709551616) (hc : s.calls < 18446744073709551616) :
    Calls Tryz.prog 41 #[supV s] w (StrE (Sp.put s) w) := by
  have hM := fun w => ref_May s w hg
  have hb := heap_alloc_new w (.cells (supC s) 57)
  have hu := (Upd.refl (fun _ => False) w).alloc (.cells (supC s) 57)
  unfold Sp.put
  cases hm : Sp.may s with
  | false =>
    rw [if_pos rfl]
    rw [hm] at hM
    obtain ⟨g, c, r, t, n⟩ := s
    unfold supV supC at *
    dsimp only at hg hc hb hu hM ⊢
    have HM := Lib.hid hM
    clear hM hm
    go_enter Tryz.func41, Tryz.ntmps41
    go_wp2_with (go_at_call 70; refine (HM.out _).mono ?_; rintro e w1 ⟨rfl, u1⟩)
    go_ret2
    exact ⟨rfl, hu.trans u1 (fun _ _ f => f)⟩
  | true =>
    rw [if_neg (by simp)]
    rw [hm] at hM
    have hx := (Sp.may_iff s).1 hm
    have hT := Sp.txt_len s
    have hS := fun w => ref_Stamp s.gen 0 s.gen 0 (Sp.txt s) 128 w rfl rfl hg (by decide) (by omega)
    unfold Sp.txt at hS hT ⊢
    obtain ⟨g, c, r, t, n⟩ := s
    unfold supV supC at *
    dsimp only at hg hc hb hu hM hx hS hT ⊢
    obtain ⟨x0, x1, x2, x3, x4, x5, x6⟩ := hx
    obtain ⟨r, rfl⟩ := Int.eq_ofNat_of_zero_le (show 0 ≤ r by omega)
    obtain ⟨t, rfl⟩ := Int.eq_ofNat_of_zero_le (show 0 ≤ t by omega)
    obtain ⟨n, rfl⟩ := Int.eq_ofNat_of_zero_le (show 0 ≤ n by omega)
    simp only [Int.toNat_natCast] at hS hT ⊢
    have a1 := append_list (be 8 c) (be 2 r)
    have a2 := append_list (be 8 c ++ be 2 r) (be 2 t)
    have a3 := append_list (be 8 c ++ be 2 r ++ be 2 t) (be 2 n)
    have b1 := be_len 8 c
    have b2 := be_len 2 r
    have b3 := be_len 2 t
    have b4 := be_len 2 n
    have h1 := fun w => ref_Number c 8 c 8 w rfl rfl hc (by decide)
    have h2 := fun w => ref_Number r 2 r 2 w rfl rfl (by omega) (by decide)
    have h3 := fun w => ref_Number t 2 t 2 w rfl rfl (by omega) (by decide)
    have h4 := fun w => ref_Number n 2 n 2 w rfl rfl (by omega) (by decide)
    generalize be 8 c = C at *
    generalize be 2 r = R at *
    generalize be 2 t = T at *
    generalize be 2 n = M at *
    obtain ⟨L1, hL1⟩ : ∃ L, L = C ++ R := ⟨_, rfl⟩
    rw [← hL1] at a1 a2 a3 hS ⊢
    obtain ⟨L2, hL2⟩ : ∃ L, L = L1 ++ T := ⟨_, rfl⟩
    rw [← hL2] at a2 a3 hS ⊢
    obtain ⟨L3, hL3⟩ : ∃ L, L = L2 ++ M := ⟨_, rfl⟩
    rw [← hL3] at a3 hS ⊢
    have d1 : L1.length = 10 := by rw [hL1]; simp [b1, b2]
    have d2 : L2.length = 12 := by rw [hL2]; simp [b3, d1]
    have z1 : ¬ 9223372036854775807 < C.length + R.length := by omega
    have z2 : ¬ 9223372036854775807 < L1.length + T.length := by omega
    have z3 : ¬ 9223372036854775807 < L2.length + M.length := by omega
    generalize Sl.stamp g 0 L3 128 = res at hS ⊢
    obtain ⟨r1, r2⟩ := res
    have e1 : IntKind.u64.wrap (r : Int) = (r : Int) := IntWalk.u64_in _ (by omega)
    have e2 : IntKind.u64.wrap (t : Int) = (t : Int) := IntWalk.u64_in _ (by omega)
    have e3 : IntKind.u64.wrap (n : Int) = (n : Int) := IntWalk.u64_in _ (by omega)
    have HM := Lib.hid hM
    have HS := Lib.hid hS
    have hN : ∀ (ni wi : Int) (L : List UInt8) (w : World), (ni = (c : Int) ∧ wi = 8 ∧ L = C) ∨ (ni = (r : Int) ∧ wi = 2 ∧ L = R) ∨ (ni = (t : Int) ∧ wi = 2 ∧ L = T) ∨ (ni = (n : Int) ∧ wi = 2 ∧ L = M) → Calls Tryz.prog 71 #[.int .u64 ni, .int .i64 wi] w (StrR L w) := by
      rintro ni wi L w (⟨rfl, rfl, rfl⟩ | ⟨rfl, rfl, rfl⟩ | ⟨rfl, rfl, rfl⟩ | ⟨rfl, rfl, rfl⟩)
      · exact h1 w
      · exact h2 w
      · exact h3 w
      · exact h4 w
    have HN := Lib.hid hN
    clear hN hM hm hS hT hL1 hL2 hL3 h1 h2 h3 h4 b1 b2 b3 b4 d1 d2
    go_enter Tryz.func41, Tryz.ntmps41
    go_wp2_with (fail)
    refine (HM.out _).mono ?_
    rintro e w1 ⟨rfl, u1⟩
    have hb1 := u1.heap hb (fun f => f)
    have g1 := cell_heap hb1 1 (.int .u64 c) rfl
    have g2 := cell_heap hb1 2 (.int .i64 r) rfl
    have g3 := cell_heap hb1 3 (.int .i64 t) rfl
    have g4 := cell_heap hb1 4 (.int .i64 n) rfl
    have g5 := cell_heap hb1 0 (.int .u64 g) rfl
    have hd : Upd (fun _ => False) w w1 := hu.trans u1 (fun _ _ f => f)
    have hd2 := hd.drew
    go_wp2
    go_region_held3 (fun w' => w'.cell? ⟨w.heap.size, 1, none⟩ = some (.int .u64 c) ∧ w'.cell? ⟨w.heap.size, 2, none⟩ = some (.int .i64 r) ∧ w'.cell? ⟨w.heap.size, 3, none⟩ = some (.int .i64 t) ∧ w'.cell? ⟨w.heap.size, 4, none⟩ = some (.int .i64 n) ∧ w'.cell? ⟨w.heap.size, 0, none⟩ = some (.int .u64 g) ∧ Upd (fun _ => False) w w')
      (first
        | exact ⟨g1, g2, g3, g4, g5, hd2⟩
        | (have h := ‹_ ∧ _ ∧ _ ∧ _ ∧ _ ∧ Upd _ _ _›; exact ⟨uz.cell h.1 (fun f => f), uz.cell h.2.1 (fun f => f), uz.cell h.2.2.1 (fun f => f), uz.cell h.2.2.2.1 (fun f => f), uz.cell h.2.2.2.2.1 (fun f => f), h.2.2.2.2.2.trans uz (fun _ _ f => f)⟩))
      (first
        | (go_at_call 71; refine (HN.out _ _ _ _ (by first | exact Or.inl ⟨rfl, rfl, rfl⟩ | exact Or.inr (Or.inl ⟨rfl, rfl, rfl⟩) | exact Or.inr (Or.inr (Or.inl ⟨rfl, rfl, rfl⟩)) | exact Or.inr (Or.inr (Or.inr ⟨rfl, rfl, rfl⟩)))).mono ?_; rintro e wz ⟨rfl, uz⟩))
    have hS := ‹_ ∧ _ ∧ _ ∧ _ ∧ _ ∧ Upd _ _ _›
    clear g1 g2 g3 g4 g5
    obtain ⟨g1, g2, g3, g4, g5, uu⟩ := hS
    go_wp2_with (fail)
    refine (HS.out _).mono ?_
    rintro e w7 ⟨rfl, u7⟩
    go_wp2
    go_ret2
    exact ⟨rfl, uu.trans u7 (fun _ _ f => f)⟩

end Go.Proofs.YtocioaondjgceaaGreatDoor
