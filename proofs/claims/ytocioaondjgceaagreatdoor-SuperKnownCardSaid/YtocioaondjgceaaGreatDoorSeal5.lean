/- Stamped texts: Unstamp. -/
import Derived.Test.YtocioaondjgceaaGreatDoorSeal4
set_option linter.unusedVariables false
set_option linter.unusedSimpArgs false
namespace Go.Proofs.YtocioaondjgceaaGreatDoor
open Go.RowKit

/-- What the five reads find. -/
theorem unstamp_parts (s : List UInt8) (h1 : 26 ≤ s.length) (h2 : s.length ≤ 65536) :
    ∃ gen idx i2 g2 : Nat, ∃ text R : List UInt8, ∃ e : Int, ∃ H1 H2 T1 T2 : List UInt8, rU64 (s.take (s.length - 12)) 0 = (gen, H1, 0) ∧ rU32 H1 0 = (idx, H2, 0) ∧ rText H2 0 = (text, R, e) ∧ rU32 (s.drop (s.length - 12)) 0 = (i2, T1, 0) ∧ rU64 T1 0 = (g2, T2, 0) ∧
      H1.length ≤ 65536 ∧ H2.length ≤ 65536 ∧ T1.length ≤ 65536 ∧ R.length ≤ 65536 ∧ Sl.unstampC s = Sl.parts gen idx text R e i2 g2 := by
  have hH : (s.take (s.length - 12)).length = s.length - 12 := by rw [List.length_take]; omega
  have hT : (s.drop (s.length - 12)).length = 12 := by rw [List.length_drop]; omega
  have a1 := rU64_ok (s.take (s.length - 12)) (by omega)
  have a2 : rU32 ((s.take (s.length - 12)).drop 8) 0 = (ofBe (((s.take (s.length - 12)).drop 8).take 4), (s.take (s.length - 12)).drop 12, 0) := by
    have h := rU32_ok ((s.take (s.length - 12)).drop 8) (by rw [List.length_drop]; omega)
    rw [List.drop_drop] at h
    exact h
  have a4 := rU32_ok (s.drop (s.length - 12)) (by omega)
  have a5 := rU64_ok ((s.drop (s.length - 12)).drop 4) (by rw [List.length_drop]; omega)
  have hR : (rText ((s.take (s.length - 12)).drop 12) 0).2.1.length ≤ 65536 := by
    unfold rText
    refine Nat.le_trans (fx_len _ _ _) (Nat.le_trans (fx_len _ _ _) ?_)
    rw [List.length_drop]; omega
  refine ⟨_, _, _, _, _, _, _, _, _, _, _, a1, a2, (show rText ((s.take (s.length - 12)).drop 12) 0 = ((rText ((s.take (s.length - 12)).drop 12) 0).1, (rText ((s.take (s.length - 12)).drop 12) 0).2.1, (rText ((s.take (s.length - 12)).drop 12) 0).2.2) from rfl), a4, a5, by rw [List.length_drop]; omega, by rw [List.length_drop]; omega, by rw [List.length_drop]; omega, hR, ?_⟩
  unfold Sl.unstampC
  rw [if_neg (by omega), if_neg (by omega), a1, a2, a4, a5]

theorem trim_0 (R : List UInt8) (w : World) (hR : R.length ≤ 1000000) : Calls Tryz.prog 83 #[.string ⟨R.toArray⟩, .string ⟨#[0]⟩] w (StrR (Lib.trimB R 0) w) := by
  refine (Tryz.strings_Trim_one ⟨R.toArray⟩ 0 (by decide) w (by rw [size_list]; omega)).mono ?_
  rintro e w' ⟨rfl, hb⟩
  refine ⟨rfl, ?_⟩
  rcases hb with rfl | rfl
  · exact Upd.refl _ _
  · exact (Upd.refl _ _).drew

set_option maxHeartbeats 400000 in
set_option maxRecDepth 100000 in
theorem sl_Unstamp_short (s : List UInt8) (w : World) (h : s.length < 26) : Calls Tryz.prog 50 #[.string ⟨s.toArray⟩] w (UnR (Sl.unstampC s) w) := by
  rw [show Sl.unstampC s = (0, 0, [], 10) by unfold Sl.unstampC; rw [if_pos h]]
  go_enter Tryz.func50, Tryz.ntmps50
  go_wp2
  refine bodyPost_ret (v := .tuple #[.int .u64 0, .int .u32 0, .string ⟨#[]⟩, .int .i64 10]) (by simp [results, Tryz.results50, go_sem]) rfl ⟨rfl, Upd.refl _ _⟩
theorem sl_Unstamp_long (s : List UInt8) (w : World) (h : 65536 < s.length) (hs : s.length ≤ 1000000) : Calls Tryz.prog 50 #[.string ⟨s.toArray⟩] w (UnR (Sl.unstampC s) w) := by
  rw [show Sl.unstampC s = (0, 0, [], 4) by unfold Sl.unstampC; rw [if_neg (by omega), if_pos h]]
  have h2 : ¬ s.length < 26 := by omega
  go_enter Tryz.func50, Tryz.ntmps50
  go_wp2
  refine bodyPost_ret (v := .tuple #[.int .u64 0, .int .u32 0, .string ⟨#[]⟩, .int .i64 4]) (by simp [results, Tryz.results50, go_sem]) rfl ⟨rfl, Upd.refl _ _⟩

set_option maxHeartbeats 1600000 in
set_option maxRecDepth 100000 in
theorem sl_Unstamp (s : List UInt8) (w : World) (hs : s.length ≤ 1000000) : Calls Tryz.prog 50 #[.string ⟨s.toArray⟩] w (UnR (Sl.unstampC s) w) := by
  by_cases hlo : s.length < 26
  · exact sl_Unstamp_short s w hlo
  by_cases hhi : 65536 < s.length
  · exact sl_Unstamp_long s w hhi hs
  have hmf : ∀ (fn : Fn) (first cap : Array Value) (w : World), (Instr.makeFunc fn first cap).run Tryz.prog w = .ok (.func fn first cap) w := fun _ _ _ _ => rfl
  obtain ⟨gen, idx, i2, g2, text, R, e, H1, H2, T1, T2, a1, a2, a3, a4, a5, b1, b2, b3, b4, hres⟩ := unstamp_parts s (by omega) (by omega)
  rw [hres]
  obtain ⟨H, hH⟩ : ∃ H, H = s.take (s.length - 12) := ⟨_, rfl⟩
  obtain ⟨T, hT⟩ : ∃ T, T = s.drop (s.length - 12) := ⟨_, rfl⟩
  have hHl : H.length ≤ 65536 := by rw [hH, List.length_take]; omega
  have hTl : T.length ≤ 65536 := by rw [hT, List.length_drop]; omega
  obtain ⟨c, hc⟩ : ∃ c, c = s.length - 12 := ⟨_, rfl⟩
  have hx1 : (⟨s.toArray⟩ : ByteArray).extract 0 c = ⟨H.toArray⟩ := by have := ext_list s 0 c; rw [hH, ← hc]; simpa using this
  have hx2 : (⟨s.toArray⟩ : ByteArray).extract c s.length = ⟨T.toArray⟩ := by
    rw [ext_list, hT, ← hc, List.take_of_length_le (by rw [List.length_drop]; omega)]
  have hx3 : (s.length : Int) - 12 = (c : Int) := by omega
  have hx5 : (0 : Int) ≤ (c : Int) := by omega
  have hx6 : (c : Int) ≤ (s.length : Int) := by omega
  have hx7 : c ≤ s.length := by omega
  have hx4 : IntKind.i64.wrap ((s.length : Int) - 12) = (c : Int) := by rw [hx3]; exact IntWalk.i64_in _ (by omega)
  rw [← hH] at a1
  rw [← hT] at a4
  have c1 := fun w b => Reader_U64 b H 0 w (by omega)
  have c2 := fun w b => Reader_U32 b H1 0 w (by omega)
  have c3 := fun w b => Reader_Text b H2 0 w (by omega)
  have c4 := fun w b => Reader_U32 b T 0 w (by omega)
  have c5 := fun w b => Reader_U64 b T1 0 w (by omega)
  rw [a1] at c1
  rw [a2] at c2
  rw [a3] at c3
  rw [a4] at c4
  rw [a5] at c5
  dsimp only at c1 c2 c3 c4 c5
  have C1 := Lib.hid c1
  have C2 := Lib.hid c2
  have C3 := Lib.hid c3
  have C4 := Lib.hid c4
  have C5 := Lib.hid c5
  clear a1 a2 a3 a4 a5 c1 c2 c3 c4 c5 hH hT hres b1 b2 b3 hc

  by_cases hi : i2 = idx
  · subst hi
    by_cases hgg : g2 = gen
    · subst hgg
      by_cases he : e = 0
      · subst he
        by_cases htr : Lib.trimB R 0 = []
        · skip
          rw [show Sl.parts g2 i2 text R 0 i2 g2 = (g2, i2, text, 0) by unfold Sl.parts; rw [if_neg (by simp [htr])]]
          have hTr := fun w => trim_0 R w (by omega)
          rw [htr] at hTr
          have HTr := Lib.hid hTr
          clear hTr htr
          go_enter Tryz.func50, Tryz.ntmps50
          have hu0 : Upd (fun _ => False) w w.drew := (Upd.refl _ _).drew
          go_wp2
          go_region_held3 (fun w' => Upd (fun _ => False) w w')
            (first
              | exact hu0
              | (have h := ‹Upd (fun _ => False) w _›; exact h)
              | (have h := ‹Upd (fun _ => False) w _›; exact h.trans un (fun _ _ f => f)))
            (first
              | (go_at_call 51; refine (codec_New _ _).mono ?_; rintro e1 wn ⟨rfl, rn, un⟩))
          rename_i w1 r1 u1 hheld
          have r2 := rn
          have u2 := un
          have hz1 : w1.heap.size < wn.heap.size := lt_of_heap rn
          have hz0 : w.heap.size < w1.heap.size := lt_of_heap r1
          have hw0 : w.drew.heap.size = w.heap.size := rfl
          rw [hw0] at r1
          replace r1 := r1.upd u2 (fun f => f)
          go_wp2_with (fail)
          refine (C1.out _ _ r1).mono ?_
          rintro e1 w3 ⟨rfl, r3, u3⟩
          go_wp2_with (fail)
          refine (C2.out _ _ r3).mono ?_
          rintro e1 w4 ⟨rfl, r4, u4⟩
          go_wp2_with (fail)
          refine (C3.out _ _ r4).mono ?_
          rintro e1 w5 ⟨rfl, r5, u5⟩
          have uh := (u3.trans u4 (fun _ _ f => f)).trans u5 (fun _ _ f => f)
          have r6 := r2.upd uh (fun (f : w1.heap.size = w.heap.size) => by omega)
          go_wp2_with (fail)
          refine (C4.out _ _ r6).mono ?_
          rintro e1 w6 ⟨rfl, r7, u6⟩
          go_wp2_with (fail)
          refine (C5.out _ _ r7).mono ?_
          rintro e1 w7 ⟨rfl, r8, u7⟩
          have ut := u6.trans u7 (fun _ _ f => f)
          have r9 := r5.upd ut (fun (f : w.heap.size = w1.heap.size) => by omega)
          have uu : Upd (fun _ => False) w w7 := (hheld.trans uh (fun i hi h => by omega)).trans ut (fun i hi h => by omega)
          clear u1 u2 u3 u4 u5 u6 u7 un rn hheld r1 r2 r3 r4 r5 r6 r7 r8 uh ut C1 C2 C3 C4 C5
          go_wp2_with (fail)
          refine (Reader_Err _ _ _ _ r9).mono ?_
          rintro e1 w8 ⟨rfl, rfl⟩
          go_wp2_with (fail)
          refine (Reader_Rest _ _ _ _ r9).mono ?_
          rintro e1 w8 ⟨rfl, rfl⟩
          go_wp2_with (fail)
          refine (HTr.out _).mono ?_
          rintro e1 w8 ⟨rfl, u8⟩
          go_wp2
          refine bodyPost_ret (v := .tuple #[.int .u64 (g2 : Nat), .int .u32 (i2 : Nat), .string ⟨text.toArray⟩, .int .i64 0]) (by simp [results, Tryz.results50, go_sem]) rfl ⟨rfl, uu.trans u8 (fun _ _ f => f)⟩

        · skip
          rw [show Sl.parts g2 i2 text R 0 i2 g2 = (0, 0, [], 4) by unfold Sl.parts; rw [if_pos (by right; right; right; exact htr)]]
          have hTr := fun w => trim_0 R w (by omega)
          obtain ⟨Q, hQ⟩ : ∃ Q, Q = Lib.trimB R 0 := ⟨_, rfl⟩
          rw [← hQ] at hTr htr
          have hQe : Q.isEmpty = false := by simpa using htr
          have HTr := Lib.hid hTr
          clear hTr htr hQ
          go_enter Tryz.func50, Tryz.ntmps50
          have hu0 : Upd (fun _ => False) w w.drew := (Upd.refl _ _).drew
          go_wp2
          go_region_held3 (fun w' => Upd (fun _ => False) w w')
            (first
              | exact hu0
              | (have h := ‹Upd (fun _ => False) w _›; exact h)
              | (have h := ‹Upd (fun _ => False) w _›; exact h.trans un (fun _ _ f => f)))
            (first
              | (go_at_call 51; refine (codec_New _ _).mono ?_; rintro e1 wn ⟨rfl, rn, un⟩))
          rename_i w1 r1 u1 hheld
          have r2 := rn
          have u2 := un
          have hz1 : w1.heap.size < wn.heap.size := lt_of_heap rn
          have hz0 : w.heap.size < w1.heap.size := lt_of_heap r1
          have hw0 : w.drew.heap.size = w.heap.size := rfl
          rw [hw0] at r1
          replace r1 := r1.upd u2 (fun f => f)
          go_wp2_with (fail)
          refine (C1.out _ _ r1).mono ?_
          rintro e1 w3 ⟨rfl, r3, u3⟩
          go_wp2_with (fail)
          refine (C2.out _ _ r3).mono ?_
          rintro e1 w4 ⟨rfl, r4, u4⟩
          go_wp2_with (fail)
          refine (C3.out _ _ r4).mono ?_
          rintro e1 w5 ⟨rfl, r5, u5⟩
          have uh := (u3.trans u4 (fun _ _ f => f)).trans u5 (fun _ _ f => f)
          have r6 := r2.upd uh (fun (f : w1.heap.size = w.heap.size) => by omega)
          go_wp2_with (fail)
          refine (C4.out _ _ r6).mono ?_
          rintro e1 w6 ⟨rfl, r7, u6⟩
          go_wp2_with (fail)
          refine (C5.out _ _ r7).mono ?_
          rintro e1 w7 ⟨rfl, r8, u7⟩
          have ut := u6.trans u7 (fun _ _ f => f)
          have r9 := r5.upd ut (fun (f : w.heap.size = w1.heap.size) => by omega)
          have uu : Upd (fun _ => False) w w7 := (hheld.trans uh (fun i hi h => by omega)).trans ut (fun i hi h => by omega)
          clear u1 u2 u3 u4 u5 u6 u7 un rn hheld r1 r2 r3 r4 r5 r6 r7 r8 uh ut C1 C2 C3 C4 C5
          go_wp2_with (fail)
          refine (Reader_Err _ _ _ _ r9).mono ?_
          rintro e1 w8 ⟨rfl, rfl⟩
          go_wp2_with (fail)
          refine (Reader_Rest _ _ _ _ r9).mono ?_
          rintro e1 w8 ⟨rfl, rfl⟩
          go_wp2_with (fail)
          refine (HTr.out _).mono ?_
          rintro e1 w8 ⟨rfl, u8⟩
          go_wp2
          refine bodyPost_ret (v := .tuple #[.int .u64 0, .int .u32 0, .string ⟨#[]⟩, .int .i64 4]) (by simp [results, Tryz.results50, go_sem]) rfl ⟨rfl, uu.trans u8 (fun _ _ f => f)⟩

      · skip
        rw [show Sl.parts g2 i2 text R e i2 g2 = (0, 0, [], 4) by unfold Sl.parts; rw [if_pos (by right; right; left; exact he)]]
        have he2 : (e != 0) = true := bne_iff_ne.2 he
        go_enter Tryz.func50, Tryz.ntmps50
        have hu0 : Upd (fun _ => False) w w.drew := (Upd.refl _ _).drew
        go_wp2
        go_region_held3 (fun w' => Upd (fun _ => False) w w')
          (first
            | exact hu0
            | (have h := ‹Upd (fun _ => False) w _›; exact h)
            | (have h := ‹Upd (fun _ => False) w _›; exact h.trans un (fun _ _ f => f)))
          (first
            | (go_at_call 51; refine (codec_New _ _).mono ?_; rintro e1 wn ⟨rfl, rn, un⟩))
        rename_i w1 r1 u1 hheld
        have r2 := rn
        have u2 := un
        have hz1 : w1.heap.size < wn.heap.size := lt_of_heap rn
        have hz0 : w.heap.size < w1.heap.size := lt_of_heap r1
        have hw0 : w.drew.heap.size = w.heap.size := rfl
        rw [hw0] at r1
        replace r1 := r1.upd u2 (fun f => f)
        go_wp2_with (fail)
        refine (C1.out _ _ r1).mono ?_
        rintro e1 w3 ⟨rfl, r3, u3⟩
        go_wp2_with (fail)
        refine (C2.out _ _ r3).mono ?_
        rintro e1 w4 ⟨rfl, r4, u4⟩
        go_wp2_with (fail)
        refine (C3.out _ _ r4).mono ?_
        rintro e1 w5 ⟨rfl, r5, u5⟩
        have uh := (u3.trans u4 (fun _ _ f => f)).trans u5 (fun _ _ f => f)
        have r6 := r2.upd uh (fun (f : w1.heap.size = w.heap.size) => by omega)
        go_wp2_with (fail)
        refine (C4.out _ _ r6).mono ?_
        rintro e1 w6 ⟨rfl, r7, u6⟩
        go_wp2_with (fail)
        refine (C5.out _ _ r7).mono ?_
        rintro e1 w7 ⟨rfl, r8, u7⟩
        have ut := u6.trans u7 (fun _ _ f => f)
        have r9 := r5.upd ut (fun (f : w.heap.size = w1.heap.size) => by omega)
        have uu : Upd (fun _ => False) w w7 := (hheld.trans uh (fun i hi h => by omega)).trans ut (fun i hi h => by omega)
        clear u1 u2 u3 u4 u5 u6 u7 un rn hheld r1 r2 r3 r4 r5 r6 r7 r8 uh ut C1 C2 C3 C4 C5
        go_wp2_with (fail)
        refine (Reader_Err _ _ _ _ r9).mono ?_
        rintro e1 w8 ⟨rfl, rfl⟩
        go_wp2
        refine bodyPost_ret (v := .tuple #[.int .u64 0, .int .u32 0, .string ⟨#[]⟩, .int .i64 4]) (by simp [results, Tryz.results50, go_sem]) rfl ⟨rfl, uu⟩

    · skip
      rw [show Sl.parts gen i2 text R e i2 g2 = (0, 0, [], 4) by unfold Sl.parts; rw [if_pos (by right; left; exact hgg)]]
      have hg2 : ((g2 : Int) != (gen : Int)) = true := bne_iff_ne.2 (by omega)
      go_enter Tryz.func50, Tryz.ntmps50
      have hu0 : Upd (fun _ => False) w w.drew := (Upd.refl _ _).drew
      go_wp2
      go_region_held3 (fun w' => Upd (fun _ => False) w w')
        (first
          | exact hu0
          | (have h := ‹Upd (fun _ => False) w _›; exact h)
          | (have h := ‹Upd (fun _ => False) w _›; exact h.trans un (fun _ _ f => f)))
        (first
          | (go_at_call 51; refine (codec_New _ _).mono ?_; rintro e1 wn ⟨rfl, rn, un⟩))
      rename_i w1 r1 u1 hheld
      have r2 := rn
      have u2 := un
      have hz1 : w1.heap.size < wn.heap.size := lt_of_heap rn
      have hz0 : w.heap.size < w1.heap.size := lt_of_heap r1
      have hw0 : w.drew.heap.size = w.heap.size := rfl
      rw [hw0] at r1
      replace r1 := r1.upd u2 (fun f => f)
      go_wp2_with (fail)
      refine (C1.out _ _ r1).mono ?_
      rintro e1 w3 ⟨rfl, r3, u3⟩
      go_wp2_with (fail)
      refine (C2.out _ _ r3).mono ?_
      rintro e1 w4 ⟨rfl, r4, u4⟩
      go_wp2_with (fail)
      refine (C3.out _ _ r4).mono ?_
      rintro e1 w5 ⟨rfl, r5, u5⟩
      have uh := (u3.trans u4 (fun _ _ f => f)).trans u5 (fun _ _ f => f)
      have r6 := r2.upd uh (fun (f : w1.heap.size = w.heap.size) => by omega)
      go_wp2_with (fail)
      refine (C4.out _ _ r6).mono ?_
      rintro e1 w6 ⟨rfl, r7, u6⟩
      go_wp2_with (fail)
      refine (C5.out _ _ r7).mono ?_
      rintro e1 w7 ⟨rfl, r8, u7⟩
      have ut := u6.trans u7 (fun _ _ f => f)
      have r9 := r5.upd ut (fun (f : w.heap.size = w1.heap.size) => by omega)
      have uu : Upd (fun _ => False) w w7 := (hheld.trans uh (fun i hi h => by omega)).trans ut (fun i hi h => by omega)
      clear u1 u2 u3 u4 u5 u6 u7 un rn hheld r1 r2 r3 r4 r5 r6 r7 r8 uh ut C1 C2 C3 C4 C5
      go_wp2
      refine bodyPost_ret (v := .tuple #[.int .u64 0, .int .u32 0, .string ⟨#[]⟩, .int .i64 4]) (by simp [results, Tryz.results50, go_sem]) rfl ⟨rfl, uu⟩

  · skip
    rw [show Sl.parts gen idx text R e i2 g2 = (0, 0, [], 4) by unfold Sl.parts; rw [if_pos (by left; exact hi)]]
    have hi2 : ((i2 : Int) != (idx : Int)) = true := bne_iff_ne.2 (by omega)
    go_enter Tryz.func50, Tryz.ntmps50
    have hu0 : Upd (fun _ => False) w w.drew := (Upd.refl _ _).drew
    go_wp2
    go_region_held3 (fun w' => Upd (fun _ => False) w w')
      (first
        | exact hu0
        | (have h := ‹Upd (fun _ => False) w _›; exact h)
        | (have h := ‹Upd (fun _ => False) w _›; exact h.trans un (fun _ _ f => f)))
      (first
        | (go_at_call 51; refine (codec_New _ _).mono ?_; rintro e1 wn ⟨rfl, rn, un⟩))
    rename_i w1 r1 u1 hheld
    have r2 := rn
    have u2 := un
    have hz1 : w1.heap.size < wn.heap.size := lt_of_heap rn
    have hz0 : w.heap.size < w1.heap.size := lt_of_heap r1
    have hw0 : w.drew.heap.size = w.heap.size := rfl
    rw [hw0] at r1
    replace r1 := r1.upd u2 (fun f => f)
    go_wp2_with (fail)
    refine (C1.out _ _ r1).mono ?_
    rintro e1 w3 ⟨rfl, r3, u3⟩
    go_wp2_with (fail)
    refine (C2.out _ _ r3).mono ?_
    rintro e1 w4 ⟨rfl, r4, u4⟩
    go_wp2_with (fail)
    refine (C3.out _ _ r4).mono ?_
    rintro e1 w5 ⟨rfl, r5, u5⟩
    have uh := (u3.trans u4 (fun _ _ f => f)).trans u5 (fun _ _ f => f)
    have r6 := r2.upd uh (fun (f : w1.heap.size = w.heap.size) => by omega)
    go_wp2_with (fail)
    refine (C4.out _ _ r6).mono ?_
    rintro e1 w6 ⟨rfl, r7, u6⟩
    go_wp2_with (fail)
    refine (C5.out _ _ r7).mono ?_
    rintro e1 w7 ⟨rfl, r8, u7⟩
    have ut := u6.trans u7 (fun _ _ f => f)
    have r9 := r5.upd ut (fun (f : w.heap.size = w1.heap.size) => by omega)
    have uu : Upd (fun _ => False) w w7 := (hheld.trans uh (fun i hi h => by omega)).trans ut (fun i hi h => by omega)
    clear u1 u2 u3 u4 u5 u6 u7 un rn hheld r1 r2 r3 r4 r5 r6 r7 r8 uh ut C1 C2 C3 C4 C5
    go_wp2
    refine bodyPost_ret (v := .tuple #[.int .u64 0, .int .u32 0, .string ⟨#[]⟩, .int .i64 4]) (by simp [results, Tryz.results50, go_sem]) rfl ⟨rfl, uu⟩

end Go.Proofs.YtocioaondjgceaaGreatDoor
