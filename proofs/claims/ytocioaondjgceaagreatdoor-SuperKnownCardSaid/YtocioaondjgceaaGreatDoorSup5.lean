/- Superblocks: what is read of a text; the statements' own helpers. -/
import Derived.Test.YtocioaondjgceaaGreatDoorSup4
set_option linter.unusedVariables false
set_option linter.unusedSimpArgs false
namespace Go.Proofs.YtocioaondjgceaaGreatDoor
open Go.RowKit

namespace Sp
theorem txt_parts (s : Sup) (hc : s.calls < 18446744073709551616) (h : may s = true) (g : Nat) : of g (txt s) = ⟨g, s.calls, s.root, s.table, s.sectors⟩ := by
  obtain ⟨x0, x1, x2, x3, x4, x5, x6⟩ := (may_iff s).1 h
  obtain ⟨gg, c, r, t, n⟩ := s
  dsimp only at x0 x1 x2 x3 x4 x5 x6 hc ⊢
  obtain ⟨r, rfl⟩ := Int.eq_ofNat_of_zero_le (show 0 ≤ r by omega)
  obtain ⟨t, rfl⟩ := Int.eq_ofNat_of_zero_le (show 0 ≤ t by omega)
  obtain ⟨n, rfl⟩ := Int.eq_ofNat_of_zero_le (show 0 ≤ n by omega)
  have e0 : txt ⟨gg, c, r, t, n⟩ = be 8 c ++ (be 2 r ++ (be 2 t ++ be 2 n)) := by simp [txt]
  have e8 : (txt ⟨gg, c, r, t, n⟩).drop 8 = be 2 r ++ (be 2 t ++ be 2 n) := by rw [e0]; exact List.drop_left' (be_len _ _)
  have e10 : (txt ⟨gg, c, r, t, n⟩).drop 10 = be 2 t ++ be 2 n := by rw [show 10 = 8 + 2 from rfl, ← List.drop_drop, e8]; exact List.drop_left' (be_len _ _)
  have e12 : (txt ⟨gg, c, r, t, n⟩).drop 12 = be 2 n := by rw [show 12 = 10 + 2 from rfl, ← List.drop_drop, e10]; exact List.drop_left' (be_len _ _)
  unfold of
  rw [e8, e10, e12, e0, List.take_left' (be_len _ _), List.take_left' (be_len _ _), List.take_left' (be_len _ _), List.take_of_length_le (Nat.le_of_eq (be_len _ _)), ofBe_be_of 8 _ (by simpa using hc), ofBe_be_of 2 _ (by show _ < 65536; omega), ofBe_be_of 2 _ (by show _ < 65536; omega), ofBe_be_of 2 _ (by show _ < 65536; omega)]
theorem put_ok (s : Sup) (hg : s.gen < 18446744073709551616) (hc : s.calls < 18446744073709551616) (h : may s = true) : ∃ u, put s = (u, 0) ∧ u.length = 128 ∧ take u = (s, 0) := by
  obtain ⟨u, k1, k2, k3, _⟩ := stamp_told s.gen 0 (txt s) 88 128 hg (by decide) (by rw [txt_len]) (by decide)
  refine ⟨u, ?_, k2, ?_⟩
  · unfold put; rw [h, if_neg (by simp)]; exact k1
  · unfold take
    rw [k3, if_neg (by simp)]
    unfold fin
    dsimp only
    rw [txt_parts s hc h, if_neg]
    rintro (a | a | a | a)
    · exact a k2
    · exact a rfl
    · exact a (txt_len s)
    · rw [h] at a; cases a
theorem put_no (s : Sup) (h : may s = false) : put s = ([], 4) := by unfold put; rw [if_pos h]
theorem take_cases (t : List UInt8) : (∃ f : Int, f ≠ 0 ∧ take t = (zero, f)) ∨ (∃ y : Sup, take t = (y, 0) ∧ y.gen < 18446744073709551616 ∧ y.calls < 18446744073709551616 ∧ put y = (t, 0)) := by
  unfold take
  rcases told_stamped t with ⟨e, he, h⟩ | ⟨g, i, x, h, hg, hi, hx, hst⟩
  · left; rw [h]; exact ⟨e, he, by rw [if_pos he]⟩
  · rw [h, if_neg (by simp)]
    dsimp only
    by_cases hb : t.length ≠ 128 ∨ i ≠ 0 ∨ x.length ≠ 14 ∨ may (of g x) = false
    · left; exact ⟨4, by decide, by unfold fin; rw [if_pos hb]⟩
    · right
      have a1 : t.length = 128 := Classical.not_not.1 fun q => hb (Or.inl q)
      have a2 : i = 0 := Classical.not_not.1 fun q => hb (Or.inr (Or.inl q))
      have a3 : x.length = 14 := Classical.not_not.1 fun q => hb (Or.inr (Or.inr (Or.inl q)))
      have a4 : may (of g x) = true := by
        cases hm : may (of g x) with
        | true => rfl
        | false => exact absurd (Or.inr (Or.inr (Or.inr hm))) hb
      have b8 : be 8 (ofBe (x.take 8)) = x.take 8 := by have := be_ofBe (x.take 8); rwa [List.length_take, show min 8 x.length = 8 by omega] at this
      have b2 : ∀ k, k ≤ 12 → be 2 (ofBe ((x.drop k).take 2)) = (x.drop k).take 2 := fun k hk => by have := be_ofBe ((x.drop k).take 2); rwa [List.length_take, List.length_drop, show min 2 (x.length - k) = 2 by omega] at this
      have ht : txt (of g x) = x := by
        unfold txt of
        simp only [Int.toNat_natCast]
        rw [b8, b2 8 (by omega), b2 10 (by omega), b2 12 (by omega), ← List.take_add, ← List.take_add, ← List.take_add]
        exact List.take_of_length_le (by omega)
      refine ⟨of g x, by unfold fin; rw [if_neg hb], hg, ?_, ?_⟩
      · have := ofBe_lt (x.take 8)
        rw [List.length_take, show min 8 x.length = 8 by omega] at this
        exact this
      · unfold put
        rw [a4, if_neg (by simp), ht, ← hst, a1, a2]; rfl
end Sp

theorem law_text (s : Sp.Sup) (w : World) (hg : s.gen < 18446744073709551616) (hc : s.calls < 18446744073709551616) :
    Calls Tryz.prog 6 #[supV s] w (StrR (Sp.put s).1 w) := by
  have h := fun w => sup_Put s w hg hc
  generalize Sp.put s = q at h ⊢
  obtain ⟨t, e⟩ := q
  have H := Lib.hid h
  clear h
  obtain ⟨g, c, r, t', n⟩ := s
  unfold supV at *
  dsimp only at hg hc H ⊢
  go_enter Tryz.func6, Tryz.ntmps6
  go_wp2_with (fail)
  refine (H.out _).mono ?_
  rintro e w1 ⟨rfl, u1⟩
  go_wp2
  go_ret
  exact ⟨rfl, by repeat (first | exact Upd.refl _ _ | refine Upd.alloc ?_ _ | refine Upd.drew ?_ | refine Upd.trans ?_ (by assumption) (fun _ _ f => f))⟩
theorem law_refused (s : Sp.Sup) (w : World) (hg : s.gen < 18446744073709551616) (hc : s.calls < 18446744073709551616) (h0 : Sp.put s = ([], 4)) :
    Calls Tryz.prog 10 #[supV s] w (BoolR true w) := by
  have h := fun w => sup_Put s w hg hc
  rw [h0] at h
  have H := Lib.hid h
  clear h h0
  obtain ⟨g, c, r, t', n⟩ := s
  unfold supV at *
  dsimp only at hg hc H ⊢
  go_enter Tryz.func10, Tryz.ntmps10
  go_wp2_with (fail)
  refine (H.out _).mono ?_
  rintro e w1 ⟨rfl, u1⟩
  go_wp2
  go_ret
  exact ⟨rfl, by repeat (first | exact Upd.refl _ _ | refine Upd.alloc ?_ _ | refine Upd.drew ?_ | refine Upd.trans ?_ (by assumption) (fun _ _ f => f))⟩
theorem law_given (w : World) : Calls Tryz.prog 7 #[] w fun e w' => e = .returned (supV ⟨1, 2, 66, 70, 512⟩) ∧ Upd (fun _ => False) w w' := by
  go_enter Tryz.func7, Tryz.ntmps7
  go_wp2
  refine bodyPost_ret (v := supV ⟨1, 2, 66, 70, 512⟩) (by simp [results, Tryz.results7, go_sem, supV]) rfl ⟨rfl, by repeat (first | exact Upd.refl _ _ | refine Upd.alloc ?_ _ | refine Upd.drew ?_ | refine Upd.trans ?_ (by assumption) (fun _ _ f => f))⟩
theorem law_failsS (t : List UInt8) (f : Int) (w : World) (hs : t.length ≤ 1000000) (h0 : Sp.take t = (Sp.zero, f)) :
    Calls Tryz.prog 9 #[.string ⟨t.toArray⟩, .int .i64 f] w (BoolR true w) := by
  have h := fun w => sup_Take t w hs
  rw [h0] at h
  unfold SupE supV Sp.zero at h
  dsimp only at h
  have H := Lib.hid h
  clear h h0
  go_enter Tryz.func9, Tryz.ntmps9
  go_wp2_with (fail)
  refine (H.out _).mono ?_
  rintro e w1 ⟨rfl, u1⟩
  go_wp2
  go_ret
  exact ⟨rfl, by repeat (first | exact Upd.refl _ _ | refine Upd.alloc ?_ _ | refine Upd.drew ?_ | refine Upd.trans ?_ (by assumption) (fun _ _ f => f))⟩
theorem rep0b (c : Nat) (w : World) (hc : c ≤ 1000000000) : Calls Tryz.prog 28 #[.string ⟨#[0]⟩, .int .i64 c] w (StrR (List.replicate c 0) w) := rep0 c w hc
theorem un128z : Sl.unstampR (List.replicate 128 0) = (0, 0, [], 0) := by
  unfold Sl.unstampR
  rw [if_neg (by decide +kernel), if_neg (by decide +kernel), if_neg]
  · decide +kernel
  · rintro (h | h | h | h)
    · exact h (by decide +kernel)
    · exact h (by decide +kernel)
    · exact absurd h (by decide +kernel)
    · refine h (fun j h1 h2 => ?_)
      rw [List.getD, List.getElem?_replicate]; split <;> rfl
theorem take128z : Sp.take (List.replicate 128 0) = (Sp.zero, 4) := by
  unfold Sp.take
  rw [un128z, if_neg (by simp)]
  unfold Sp.fin
  rw [if_pos (Or.inr (Or.inr (Or.inl (by decide))))]

set_option maxHeartbeats 800000 in
set_option maxRecDepth 100000 in
theorem law_worksS (w : World) : Calls Tryz.prog 8 #[] w (BoolR true w) := by
  obtain ⟨u, p1, p2, p3⟩ := Sp.put_ok ⟨1, 2, 66, 70, 512⟩ (by decide) (by decide) (by decide)
  have h1 := fun w => law_text ⟨1, 2, 66, 70, 512⟩ w (by decide) (by decide)
  rw [p1] at h1
  have h2 := fun w => sup_Take u w (by omega)
  rw [p3] at h2
  have h3 := fun w => rep0 128 w (by decide)
  have h4 := fun w => law_failsS (List.replicate 128 0) 4 w (by rw [List.length_replicate]; decide) take128z
  have h5 : ∀ (gi r : Int) (w : World), (gi = 7 ∧ r = 1) ∨ (gi = 8 ∧ r = 0) → Calls Tryz.prog 29 #[.int .u64 gi] w fun e w' => e = .returned (.int .i64 r) ∧ Upd (fun _ => False) w w' := by
    rintro gi r w (⟨rfl, rfl⟩ | ⟨rfl, rfl⟩)
    · exact (sup_Slot 7 w (by decide)).mono fun e w' h => ⟨h.1, h.2 ▸ Upd.refl _ _⟩
    · exact (sup_Slot 8 w (by decide)).mono fun e w' h => ⟨h.1, h.2 ▸ Upd.refl _ _⟩
  have h0 := fun w => law_given w
  obtain ⟨Z, hZ⟩ : ∃ Z, Z = List.replicate 128 (0 : UInt8) := ⟨_, rfl⟩
  rw [← hZ] at h3 h4
  unfold supV at h0 h1
  unfold SupE supV at h2
  dsimp only at h0 h1 h2
  have H0 := Lib.hid h0
  have H1 := Lib.hid h1
  have H2 := Lib.hid h2
  have H3 := Lib.hid h3
  have H4 := Lib.hid h4
  have H5 := Lib.hid h5
  clear h0 h1 h2 h3 h4 h5 hZ p1 p3
  go_enter Tryz.func8, Tryz.ntmps8
  go_wp2_with (fail)
  refine (H0.out _).mono ?_
  rintro e w1 ⟨rfl, u1⟩
  go_wp2_with (fail)
  refine (H1.out _).mono ?_
  rintro e w2 ⟨rfl, u2⟩
  go_wp2_with (fail)
  refine (H2.out _).mono ?_
  rintro e w3 ⟨rfl, u3⟩
  have b3 := heap_alloc_new w3 (.cells #[.int .u64 1, .int .u64 2, .int .i64 66, .int .i64 70, .int .i64 512] 25)
  have c0 := cell_heap b3 0 (.int .u64 1) rfl
  have c1 := cell_heap b3 1 (.int .u64 2) rfl
  have c2 := cell_heap b3 2 (.int .i64 66) rfl
  have c3 := cell_heap b3 3 (.int .i64 70) rfl
  have c4 := cell_heap b3 4 (.int .i64 512) rfl
  have hd2 : Upd (fun _ => False) w (w3.alloc (.cells #[.int .u64 1, .int .u64 2, .int .i64 66, .int .i64 70, .int .i64 512] 25)).drew := by repeat (first | exact Upd.refl _ _ | refine Upd.alloc ?_ _ | refine Upd.drew ?_ | refine Upd.trans ?_ (by assumption) (fun _ _ f => f))
  go_wp2
  go_region_held3 (fun w' => w'.cell? ⟨w3.heap.size, 0, none⟩ = some (.int .u64 1) ∧ w'.cell? ⟨w3.heap.size, 1, none⟩ = some (.int .u64 2) ∧ w'.cell? ⟨w3.heap.size, 2, none⟩ = some (.int .i64 66) ∧ w'.cell? ⟨w3.heap.size, 3, none⟩ = some (.int .i64 70) ∧ w'.cell? ⟨w3.heap.size, 4, none⟩ = some (.int .i64 512) ∧ Upd (fun _ => False) w w')
    (first
      | exact ⟨c0, c1, c2, c3, c4, hd2⟩
      | exact ‹_ ∧ _ ∧ _ ∧ _ ∧ _ ∧ Upd _ _ _›
      | (have h := ‹_ ∧ _ ∧ _ ∧ _ ∧ _ ∧ Upd _ _ _›; exact ⟨uz.cell h.1 (fun f => f), uz.cell h.2.1 (fun f => f), uz.cell h.2.2.1 (fun f => f), uz.cell h.2.2.2.1 (fun f => f), uz.cell h.2.2.2.2.1 (fun f => f), h.2.2.2.2.2.trans uz (fun _ _ f => f)⟩))
    (first
      | (go_at_call 7; refine (H0.out _).mono ?_; rintro e wz ⟨rfl, uz⟩)
      | (go_at_call 28; refine (H3.out _).mono ?_; rintro e wz ⟨rfl, uz⟩)
      | (go_at_call 9; refine (H4.out _).mono ?_; rintro e wz ⟨rfl, uz⟩)
      | (go_at_call 29; refine (H5.out _ _ _ (by first | exact Or.inl ⟨rfl, rfl⟩ | exact Or.inr ⟨rfl, rfl⟩)).mono ?_; rintro e wz ⟨rfl, uz⟩))
  have hS := ‹_ ∧ _ ∧ _ ∧ _ ∧ _ ∧ Upd _ _ _›
  have uu := hS.2.2.2.2.2
  go_wp2
  go_ret
  exact ⟨rfl, uu⟩

end Go.Proofs.YtocioaondjgceaaGreatDoor
