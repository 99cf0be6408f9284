/- Sealed and stamped texts: Open, Stamp, Unstamp. -/
import Derived.Test.YtocioaondjgceaaGreatDoorSeal2
set_option linter.unusedVariables false
set_option linter.unusedSimpArgs false
namespace Go.Proofs.YtocioaondjgceaaGreatDoor
open Go.RowKit

theorem Rd.upd {F : Nat → Prop} {w w' : World} {b : Nat} {l : List UInt8} {e : Int} (h : Rd w b l e) (hu : Upd F w w') (hb : ¬ F b) : Rd w' b l e := hu.heap h hb

/-- What Open finds. -/
theorem open_cases (s : List UInt8) :
    (Sl.openS s = ([], [], 10) ∧ (rU32 (rText s 0).2.1 (rText s 0).2.2).2.2 ≠ 0) ∨
    (∃ t : List UInt8, rText s 0 = (t, s.drop (2 + t.length), 0) ∧ rU32 (s.drop (2 + t.length)) 0 = (ofBe ((s.drop (2 + t.length)).take 4), s.drop (6 + t.length), 0) ∧ 6 + t.length ≤ s.length ∧ t = (s.drop 2).take t.length ∧ t.length = ofBe (s.take 2) ∧
      Sl.openS s = if Crc.sum (s.take (2 + t.length)) ≠ ofBe ((s.drop (2 + t.length)).take 4) then ([], [], 9) else (t, s.drop (6 + t.length), 0)) := by
  by_cases h2 : s.length < 2
  · left
    rw [rText_short s h2]
    refine ⟨by unfold Sl.openS; rw [if_pos (by omega)], ?_⟩
    show (rU32 [] 10).2.2 ≠ 0
    rw [rU32_err _ _ (by decide)]; decide
  · by_cases h3 : s.length < 2 + ofBe (s.take 2)
    · left
      rw [rText_torn s (by omega) h3]
      refine ⟨?_, ?_⟩
      · unfold Sl.openS
        by_cases h6 : s.length < 6
        · rw [if_pos h6]
        · rw [if_neg h6, if_pos (by omega)]
      · show (rU32 [] 10).2.2 ≠ 0
        rw [rU32_err _ _ (by decide)]; decide
    · rw [rText_ok s (by omega)]
      by_cases h4 : s.length < 6 + ofBe (s.take 2)
      · left
        refine ⟨?_, ?_⟩
        · unfold Sl.openS
          by_cases h6 : s.length < 6
          · rw [if_pos h6]
          · rw [if_neg h6, if_pos (by omega)]
        · show (rU32 (s.drop (2 + ofBe (s.take 2))) 0).2.2 ≠ 0
          rw [rU32_short _ (by rw [List.length_drop]; omega)]; decide
      · right
        have hl : ((s.drop 2).take (ofBe (s.take 2))).length = ofBe (s.take 2) := by rw [List.length_take, List.length_drop]; omega
        refine ⟨(s.drop 2).take (ofBe (s.take 2)), ?_, ?_, ?_, ?_, hl, ?_⟩
        · rw [hl]
        · rw [hl, rU32_ok _ (by rw [List.length_drop]; omega), List.drop_drop, show 2 + ofBe (s.take 2) + 4 = 6 + ofBe (s.take 2) by omega]
        · rw [hl]; omega
        · rw [hl]
        · rw [hl]; unfold Sl.openS; rw [if_neg (by omega), if_neg h4]

end Go.Proofs.YtocioaondjgceaaGreatDoor
