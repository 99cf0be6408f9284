/- Sealed and stamped texts: Open, Stamp, Unstamp. -/
import Derived.Test.YtfkmoooeaijndaaDoorSeal2
set_option linter.unusedVariables false
set_option linter.unusedSimpArgs false
namespace Go.Proofs.YtfkmoooeaijndaaDoor
open Go.RowKit

theorem Rd.upd {F : Nat → Prop} {w w' : World} {b : Nat} {l : List UInt8} {e : Int} (h : Rd w b l e) (hu : Upd F w w') (hb : ¬ F b) : Rd w' b l e := hu.heap h hb

/-- What Open finds. -/
theorem open_cases (s : List UInt8) :
    (Sl.openS s = ([], [], 10) ∧ (rU32 (rText s 0).2.1 (rText s 0).2.2).2.2 ≠ 0) ∨
    (∃ t : List UInt8, rText s 0 = (t, s.drop (2 + t.length), 0) ∧ rU32 (s.drop (2 + t.length)) 0 = (ofBe ((s.drop (2 + t.length)).take 4), s.drop (6 + t.length), 0) ∧ 6 + t.length ≤ s.length ∧ t = (s.drop 2).take t.length ∧ t.length = ofBe (s.take 2) ∧
      Sl.openS s = if Crc.sum (s.take (2 + t.length)) ≠ ofBe ((s.drop (2 + t.length)).take 4) then ([], [], 9) else (t, s.drop (6 + t.length), 0)) := by
  by_cases h2 : s.length < 2
  · left
    rw [rText_short s h2]
    refine ⟨by unfold Sl.openS; rw [if_pos (by omega)], ?_⟩
    show (rU32 [] 10).2.2 ≠ 0
    rw [rU32_err _ _ (by decide)]; decide
  · by_cases h3 : s.length < 2 + ofBe (s.take 2)
    · left
      rw [rText_torn s (by omega) h3]
      refine ⟨?_, ?_⟩
      · unfold Sl.openS
        by_cases h6 : s.length < 6
        · rw [if_pos h6]
        · rw [if_neg h6, if_pos (by omega)]
      · show (rU32 [] 10).2.2 ≠ 0
        rw [rU32_err _ _ (by decide)]; decide
    · rw [rText_ok s (by omega)]
      by_cases h4 : s.length < 6 + ofBe (s.take 2)
      · left
        refine ⟨?_, ?_⟩
        · unfold Sl.openS
          by_cases h6 : s.length < 6
          · rw [if_pos h6]
          · rw [if_neg h6, if_pos (by omega)]
        · show (rU32 (s.drop (2 + ofBe (s.take 2))) 0).2.2 ≠ 0
          rw [rU32_short _ (by rw [List.length_drop]; omega)]; decide
      · right
        have hl : ((s.drop 2).take (ofBe (s.take 2))).length = ofBe (s.take 2) := by rw [List.length_take, List.length_drop]; omega
        refine ⟨(s.drop 2).take (ofBe (s.take 2)), ?_, ?_, ?_, ?_, hl, ?_⟩
        · rw [hl]
        · rw [hl, rU32_ok _ (by rw [List.length_drop]; omega), List.drop_drop, show 2 + ofBe (s.take 2) + 4 = 6 + ofBe (s.take 2) by omega]
        · rw [hl]; omega
        · rw [hl]
        · rw [hl]; unfold Sl.openS; rw [if_neg (by omega), if_neg h4]

set_option maxHeartbeats 400000 in
set_option maxRecDepth 100000 in
theorem sl_Open (s : List UInt8) (w : World) (hs : s.length ≤ 1000000) (hT : Fours w) (hg : 0 < w.heap.size) :
    Calls Tryd.prog 13 #[.string ⟨s.toArray⟩] w (Str2E (Sl.openS s) w) := by
  have hmf : ∀ (fn : Fn) (first cap : Array Value) (w : World), (Instr.makeFunc fn first cap).run Tryd.prog w = .ok (.func fn first cap) w := fun _ _ _ _ => rfl
  have hTx := fun w b => Reader_Text b s 0 w (by omega)
  have hlen : (rText s 0).2.1.length ≤ 140737488351232 := by
    unfold rText; exact Nat.le_trans (fx_len _ _ _) (Nat.le_trans (fx_len _ _ _) (by omega))
  have hU := fun w b => Reader_U32 b (rText s 0).2.1 (rText s 0).2.2 w hlen
  rcases open_cases s with ⟨h1, h2⟩ | ⟨t, h1, h2, h3, h4, h5, h6⟩
  · rw [h1]
    generalize rText s 0 = q at hTx hU hlen h2
    obtain ⟨t, l1, e1⟩ := q
    dsimp only at hTx hU hlen h2
    generalize rU32 l1 e1 = u at hU h2
    obtain ⟨x, l2, e2⟩ := u
    dsimp only at hU h2
    have he : (e2 != 0) = true := bne_iff_ne.2 h2
    have HX := Lib.hid hTx
    have HU := Lib.hid hU
    clear hTx hU hlen h1 h2 hT
    go_enter Tryd.func13, Tryd.ntmps13
    go_wp2_with (fail)
    refine (codec_New s _).mono ?_
    rintro e w1 ⟨rfl, r1, u1⟩
    go_wp2_with (fail)
    refine (HX.out _ _ r1).mono ?_
    rintro e w2 ⟨rfl, r2, u2⟩
    go_wp2_with (fail)
    refine (HU.out _ _ r2).mono ?_
    rintro e w3 ⟨rfl, r3, u3⟩
    go_wp2_with (fail)
    refine (Reader_Err _ _ _ _ r3).mono ?_
    rintro e w4 ⟨rfl, rfl⟩
    go_wp2
    refine bodyPost_ret (v := .tuple #[.string ⟨#[]⟩, .string ⟨#[]⟩, .int .i64 10]) (by simp [results, Tryd.results13, go_sem]) rfl ⟨rfl, ?_⟩
    exact (u1.trans u2 (fun i hi h => by omega)).trans u3 (fun i hi h => by omega)
  · rw [h6]
    rw [h1] at hTx hU hlen
    dsimp only at hTx hU hlen
    rw [h2] at hU
    dsimp only at hU
    obtain ⟨x, hx⟩ : ∃ x, x = ofBe ((s.drop (2 + t.length)).take 4) := ⟨_, rfl⟩
    obtain ⟨P, hP⟩ : ∃ P, P = s.take (2 + t.length) := ⟨_, rfl⟩
    obtain ⟨R, hR⟩ : ∃ R, R = s.drop (6 + t.length) := ⟨_, rfl⟩
    obtain ⟨R1, hR1⟩ : ∃ R1, R1 = s.drop (2 + t.length) := ⟨_, rfl⟩
    have hex : (⟨s.toArray⟩ : ByteArray).extract 0 (t.length + 2) = ⟨P.toArray⟩ := by have := ext_list s 0 (t.length + 2); rw [hP, Nat.add_comm 2]; simpa using this
    rw [← hx, ← hP, ← hR]
    rw [← hx, ← hR, ← hR1] at hU
    rw [← hR1] at hTx
    have hPl : P.length ≤ 1000000 := by rw [hP, List.length_take]; omega
    have HX := Lib.hid hTx
    have HU := Lib.hid hU
    have HT := Lib.hid hT
    have hts : t.length ≤ 1000000 := by omega
    have hts2 : t.length + 2 ≤ s.length := by omega
    clear hTx hU hlen h1 h2 hT h4 h5 h6 hx hP hR hR1
    by_cases hc : Crc.sum P = x
    · rw [if_neg (by simpa using hc)]
      have hc2 : ((Crc.sum P : Int) != (x : Int)) = false := by rw [hc]; simp
      have HC := Lib.hid hc
      clear hc
      go_enter Tryd.func13, Tryd.ntmps13
      go_wp2_with (fail)
      refine (codec_New s _).mono ?_
      rintro e w1 ⟨rfl, r1, u1⟩
      go_wp2_with (fail)
      refine (HX.out _ _ r1).mono ?_
      rintro e w2 ⟨rfl, r2, u2⟩
      go_wp2_with (fail)
      refine (HU.out _ _ r2).mono ?_
      rintro e w3 ⟨rfl, r3, u3⟩
      have uu := (u1.trans u2 (fun i hi h => by omega)).trans u3 (fun i hi h => by omega)
      have hT3 : Fours w3 := HT.out.upd uu (fun f => f)
      go_wp2_with (fail)
      refine (Reader_Err _ _ _ _ r3).mono ?_
      rintro e w4 ⟨rfl, rfl⟩
      go_wp2_with (fail)
      refine (crc_Sum P _ (by omega) hT3).mono ?_
      rintro e w4 ⟨rfl, rfl⟩
      go_wp2_with (fail)
      refine (Reader_Rest _ _ _ _ r3).mono ?_
      rintro e w4 ⟨rfl, rfl⟩
      go_wp2
      refine bodyPost_ret (v := .tuple #[.string ⟨t.toArray⟩, .string ⟨R.toArray⟩, .int .i64 0]) (by simp [results, Tryd.results13, go_sem]) rfl ⟨rfl, uu⟩
    · rw [if_pos (by simpa using hc)]
      have hc2 : ((Crc.sum P : Int) != (x : Int)) = true := bne_iff_ne.2 (by omega)
      have HC := Lib.hid hc
      clear hc
      go_enter Tryd.func13, Tryd.ntmps13
      go_wp2_with (fail)
      refine (codec_New s _).mono ?_
      rintro e w1 ⟨rfl, r1, u1⟩
      go_wp2_with (fail)
      refine (HX.out _ _ r1).mono ?_
      rintro e w2 ⟨rfl, r2, u2⟩
      go_wp2_with (fail)
      refine (HU.out _ _ r2).mono ?_
      rintro e w3 ⟨rfl, r3, u3⟩
      have uu := (u1.trans u2 (fun i hi h => by omega)).trans u3 (fun i hi h => by omega)
      have hT3 : Fours w3 := HT.out.upd uu (fun f => f)
      go_wp2_with (fail)
      refine (Reader_Err _ _ _ _ r3).mono ?_
      rintro e w4 ⟨rfl, rfl⟩
      go_wp2_with (fail)
      refine (crc_Sum P _ (by omega) hT3).mono ?_
      rintro e w4 ⟨rfl, rfl⟩
      go_wp2
      refine bodyPost_ret (v := .tuple #[.string ⟨#[]⟩, .string ⟨#[]⟩, .int .i64 9]) (by simp [results, Tryd.results13, go_sem]) rfl ⟨rfl, uu⟩

end Go.Proofs.YtfkmoooeaijndaaDoor
