/- Sums tell a burst of at most 32 turned bits; sealed texts that are spoilt. Plain lists. -/
import Derived.Test.YtfkmoooeaijndaaDoorSealP
set_option linter.unusedVariables false
set_option linter.unusedSimpArgs false
namespace Go.Proofs.YtfkmoooeaijndaaDoor
open Go.RowKit
namespace Crc
/-! bursts -/
theorem rounds_pow (k y : Nat) : rounds k (2 ^ k * y) = y := by
  induction k generalizing y with
  | zero => simp [rounds]
  | succ k ih =>
    rw [Nat.add_comm k 1, rounds_add, Nat.pow_add, Nat.pow_one, show 2 * 2 ^ k * y = 2 ^ k * (2 * y) by rw [Nat.mul_comm 2 (2 ^ k), Nat.mul_assoc], ih]
    show bit1 (2 * y) = y
    exact bit1_even y
def ofLe : List UInt8 → Nat
  | [] => 0
  | b :: l => b.toNat ^^^ 2 ^ 8 * ofLe l
theorem ofLe_cons (b : UInt8) (l : List UInt8) : ofLe (b :: l) = b.toNat ^^^ 2 ^ 8 * ofLe l := rfl
theorem run_le (l : List UInt8) : ∀ c, run c l = rounds (8 * l.length) (c ^^^ ofLe l) := by
  induction l with
  | nil => intro c; simp [run, ofLe, rounds]
  | cons b l ih =>
    intro c
    show run (step c b) l = _
    rw [ih, List.length_cons, show 8 * (l.length + 1) = 8 * l.length + 8 by omega, rounds_add]
    rw [ofLe_cons]
    unfold step
    rw [← Nat.xor_assoc, rounds_xor 8 (c ^^^ b.toNat), rounds_pow]
theorem xor_mid (c x y : Nat) : (c ^^^ x) ^^^ (c ^^^ y) = x ^^^ y := by
  rw [Nat.xor_comm c x, Nat.xor_assoc, ← Nat.xor_assoc c c y, Nat.xor_self, Nat.zero_xor]
theorem run_diff (c : Nat) (l m : List UInt8) (h : l.length = m.length) : run c l ^^^ run c m = rounds (8 * l.length) (ofLe l ^^^ ofLe m) := by
  rw [run_le, run_le, ← h, ← rounds_xor, xor_mid]
theorem bit1_ne {c : Nat} (h0 : 0 < c) (h : c < 4294967296) : 0 < bit1 c := by
  apply Nat.pos_of_ne_zero
  intro e
  unfold bit1 at e
  split at e
  · have e2 := congrArg (· ^^^ 2197175160) e
    simp only [Nat.xor_assoc, Nat.xor_self, Nat.xor_zero, Nat.zero_xor] at e2
    omega
  · omega
theorem rounds_ne (k : Nat) {c : Nat} (h0 : 0 < c) (h : c < 4294967296) : 0 < rounds k c ∧ rounds k c < 4294967296 := by
  induction k with
  | zero => exact ⟨h0, h⟩
  | succ k ih => exact ⟨bit1_ne ih.1 ih.2, bit1_lt ih.2⟩
theorem sum_burst (l m : List UInt8) (h : l.length = m.length) (p B : Nat) (hB : 0 < B) (hB2 : B < 4294967296) (hp : p ≤ 8 * l.length) (hd : ofLe l ^^^ ofLe m = 2 ^ p * B) : sum l ≠ sum m := by
  intro e
  unfold sum upd turn at e
  have a1 := run_lt (c := 4294967295 - 0) (by decide) l
  have a2 := run_lt (c := 4294967295 - 0) (by decide) m
  have e2 : run (4294967295 - 0) l = run (4294967295 - 0) m := by omega
  have e3 := run_diff (4294967295 - 0) l m h
  rw [e2, Nat.xor_self, hd, show 8 * l.length = (8 * l.length - p) + p by omega, rounds_add, rounds_pow] at e3
  have := (rounds_ne (8 * l.length - p) hB hB2).1
  omega
theorem ofLe_take (l : List UInt8) : ∀ k, k ≤ l.length → ofLe (l.take k) = ofLe l % 2 ^ (8 * k) := by
  induction l with
  | nil => intro k hk; simp at hk; subst hk; simp [ofLe]
  | cons b l ih =>
    intro k hk
    cases k with
    | zero => simp [ofLe, Nat.mod_one]
    | succ k =>
      rw [List.take_succ_cons, ofLe_cons, ofLe_cons]
      rw [ih k (by simp at hk; omega), Nat.xor_mod_two_pow]
      have h1 : b.toNat % 2 ^ (8 * (k + 1)) = b.toNat := Nat.mod_eq_of_lt (by have := b.toNat_lt; have : 2 ^ 8 ≤ 2 ^ (8 * (k + 1)) := Nat.pow_le_pow_right (by decide) (by omega); omega)
      rw [h1, show 8 * (k + 1) = 8 + 8 * k by omega, Nat.pow_add, Nat.mul_mod_mul_left]
theorem ofLe_drop (l : List UInt8) : ∀ k, ofLe (l.drop k) = ofLe l / 2 ^ (8 * k) := by
  induction l with
  | nil => intro k; simp [ofLe]
  | cons b l ih =>
    intro k
    cases k with
    | zero => simp
    | succ k =>
      rw [List.drop_succ_cons, ih, ofLe_cons]
      rw [show 8 * (k + 1) = 8 + 8 * k by omega, Nat.pow_add, ← Nat.div_div_eq_div_mul, Nat.xor_div_two_pow, Nat.mul_div_cancel_left _ (by decide), Nat.div_eq_of_lt (a := b.toNat) (by have := b.toNat_lt; omega), Nat.zero_xor]
theorem ofLe_inj : ∀ (l m : List UInt8), l.length = m.length → ofLe l = ofLe m → l = m := by
  intro l
  induction l with
  | nil => intro m h _; exact (List.eq_nil_of_length_eq_zero h.symm).symm
  | cons b l ih =>
    intro m h e
    match m, h with
    | c :: m, h =>
      rw [ofLe_cons, ofLe_cons] at e
      have e1 := congrArg (· % 2 ^ 8) e
      have e2 := congrArg (· / 2 ^ 8) e
      simp only [Nat.xor_mod_two_pow, Nat.xor_div_two_pow, Nat.mul_mod_right, Nat.xor_zero] at e1 e2
      have hb := b.toNat_lt
      have hc := c.toNat_lt
      rw [Nat.mod_eq_of_lt (by omega), Nat.mod_eq_of_lt (by omega)] at e1
      rw [Nat.mul_div_cancel_left _ (by decide), Nat.mul_div_cancel_left _ (by decide), Nat.div_eq_of_lt (by omega), Nat.div_eq_of_lt (by omega), Nat.zero_xor, Nat.zero_xor] at e2
      rw [ih m (by simpa using h) e2, UInt8.toNat_inj.1 e1]
theorem mul_xor (k a b : Nat) : 2 ^ k * (a ^^^ b) = 2 ^ k * a ^^^ 2 ^ k * b := by
  apply Nat.eq_of_testBit_eq
  intro i
  rw [Nat.testBit_xor, Nat.testBit_two_pow_mul, Nat.testBit_two_pow_mul, Nat.testBit_two_pow_mul, Nat.testBit_xor]
  by_cases h : k ≤ i <;> simp [h]
/-- one bit turned -/
theorem ofLe_flip (l : List UInt8) : ∀ (i j : Nat) (hi : i < l.length) (hj : j < 8), ofLe (l.set i (l[i] ^^^ UInt8.ofNat (2 ^ j))) = ofLe l ^^^ 2 ^ (8 * i + j) := by
  induction l with
  | nil => intro i j hi; simp at hi
  | cons b l ih =>
    intro i j hi hj
    cases i with
    | zero =>
      simp only [List.set_cons_zero, List.getElem_cons_zero, Nat.mul_zero, Nat.zero_add]
      rw [ofLe_cons, ofLe_cons]
      have : (b ^^^ UInt8.ofNat (2 ^ j)).toNat = b.toNat ^^^ 2 ^ j := by
        rw [UInt8.toNat_xor, UInt8.toNat_ofNat_of_lt']
        have : 2 ^ j ≤ 2 ^ 7 := Nat.pow_le_pow_right (by decide) (by omega)
        show 2 ^ j < 256
        omega
      rw [this, Nat.xor_assoc, Nat.xor_comm (2 ^ j), ← Nat.xor_assoc]
    | succ i =>
      simp only [List.set_cons_succ, List.getElem_cons_succ]
      rw [ofLe_cons, ofLe_cons, ih i j (by simpa using hi) hj]
      have h2 : (2 : Nat) ^ (8 * (i + 1) + j) = 2 ^ 8 * 2 ^ (8 * i + j) := by rw [show 8 * (i + 1) + j = 8 + (8 * i + j) by omega, Nat.pow_add 2 8]
      rw [h2, Nat.xor_assoc]
      congr 1
      exact mul_xor 8 _ _
theorem mod_snoc (B k : Nat) : B % 2 ^ (k + 1) = B % 2 ^ k ^^^ (if B / 2 ^ k % 2 = 1 then 2 ^ k else 0) := by
  apply Nat.eq_of_testBit_eq
  intro i
  rw [Nat.testBit_xor, Nat.testBit_mod_two_pow, Nat.testBit_mod_two_pow]
  have hk : (B / 2 ^ k % 2 = 1) ↔ B.testBit k = true := by rw [Nat.testBit_eq_decide_div_mod_eq]; simp
  by_cases h : B / 2 ^ k % 2 = 1
  · rw [if_pos h, Nat.testBit_two_pow]
    have := hk.1 h
    by_cases e : k = i
    · subst e; simp [this]
    · by_cases e2 : i < k
      · simp [e2, e]; omega
      · simp [e2, e]; omega
  · rw [if_neg h]
    have : B.testBit k = false := by simpa using fun f => h (hk.2 f)
    by_cases e : k = i
    · subst e; simp [this]
    · by_cases e2 : i < k
      · simp [e2]; omega
      · simp [e2]; omega
end Crc

theorem ofBe_be2 (n : Nat) (h : n < 65536) : ofBe (be 2 n) = n := ofBe_be_of 2 n (by simpa using h)
theorem close_eq (s : List UInt8) (h : s.length ≤ 65535) : Sl.close s = (be 2 s.length ++ s ++ be 4 (Crc.sum (be 2 s.length ++ s)), 0) := by
  unfold Sl.close; rw [if_neg (by omega)]

/-- The parts of a sealed text. -/
theorem close_parts (s t : List UInt8) (h : s.length ≤ 3000) (ht : t = (Sl.close s).1) :
    t.length = 6 + s.length ∧ t.take 2 = be 2 s.length ∧ (t.drop 2).take s.length = s ∧ t.take (2 + s.length) = be 2 s.length ++ s ∧ t.drop (2 + s.length) = be 4 (Crc.sum (be 2 s.length ++ s)) := by
  rw [close_eq s (by omega)] at ht
  dsimp only at ht
  have r0 : t = be 2 s.length ++ (s ++ be 4 (Crc.sum (be 2 s.length ++ s))) := by rw [ht]; simp
  have hl2 : (be 2 s.length).length = 2 := be_len _ _
  refine ⟨by rw [ht]; simp [be_len]; omega, ?_, ?_, ?_, ?_⟩
  · rw [r0]; exact List.take_left' hl2
  · rw [r0, List.drop_left' hl2]; exact List.take_left' rfl
  · rw [ht]; exact List.take_left' (by simp [be_len])
  · rw [ht]; exact List.drop_left' (by simp [be_len])

/-- What stands whole, with anything behind it. -/
theorem open_whole (s t more : List UInt8) (h : s.length ≤ 3000) (ht : t = (Sl.close s).1) : Sl.openS (t ++ more) = (s, more, 0) := by
  obtain ⟨p1, p2, p3, p4, p5⟩ := close_parts s t h ht
  have q2 : (t ++ more).take 2 = be 2 s.length := by rw [List.take_append_of_le_length (by omega), p2]
  have hk : ofBe ((t ++ more).take 2) = s.length := by rw [q2, ofBe_be2 _ (by omega)]
  unfold Sl.openS
  rw [hk, if_neg (by rw [List.length_append]; omega), if_neg (by rw [List.length_append]; omega), if_neg]
  · congr 1
    · rw [List.drop_append_of_le_length (by omega), List.take_append_of_le_length (by rw [List.length_drop]; omega), p3]
    · congr 1
      rw [show 6 + s.length = t.length by omega]; exact List.drop_left' rfl
  · rw [Classical.not_not, List.take_append_of_le_length (by omega), p4, List.drop_append_of_le_length (by omega), List.take_append_of_le_length (by rw [List.length_drop]; omega), p5]
    rw [List.take_of_length_le (by rw [be_len]; omega), ofBe_be_of 4 _ (by simpa using Crc.sum_lt _)]
theorem open_cut (s t : List UInt8) (c : Nat) (h : s.length ≤ 3000) (ht : t = (Sl.close s).1) (hc : c < t.length) : Sl.openS (t.take c) = ([], [], 10) := by
  obtain ⟨p1, p2, p3, p4, p5⟩ := close_parts s t h ht
  unfold Sl.openS
  have hl : (t.take c).length = c := by rw [List.length_take]; omega
  rw [hl]
  by_cases h6 : c < 6
  · rw [if_pos h6]
  · rw [if_neg h6, if_pos]
    rw [List.take_take, show min 2 c = 2 by omega, p2, ofBe_be2 _ (by omega)]
    omega
theorem mul_mod_zero (a at_ m : Nat) (h : m ≤ at_) : 2 ^ at_ * a % 2 ^ m = 0 := by
  rw [show at_ = m + (at_ - m) by omega, Nat.pow_add, Nat.mul_assoc]; exact Nat.mul_mod_right _ _
/-- Bits turned in the text alone. -/
theorem open_spoilt_text (s t b more : List UInt8) (at_ K M : Nat) (h : s.length ≤ 3000) (ht : t = (Sl.close s).1) (hl : b.length = t.length) (hb : Crc.ofLe b = Crc.ofLe t ^^^ 2 ^ at_ * M) (h1 : 16 ≤ at_) (h2 : at_ + K ≤ 16 + 8 * s.length) (hK : K ≤ 32) (hM : M < 2 ^ K) (h0 : 0 < M) :
    Sl.openS (b ++ more) = ([], [], 9) := by
  obtain ⟨p1, p2, p3, p4, p5⟩ := close_parts s t h ht
  have hX : 2 ^ at_ * M < 2 ^ (8 * (2 + s.length)) := by
    have a1 : 2 ^ at_ * M < 2 ^ at_ * 2 ^ K := Nat.mul_lt_mul_of_pos_left hM (Nat.two_pow_pos _)
    rw [← Nat.pow_add] at a1
    exact Nat.lt_of_lt_of_le a1 (Nat.pow_le_pow_right (by decide) (by omega))
  have e2 : b.take 2 = t.take 2 := by
    apply Crc.ofLe_inj _ _ (by rw [List.length_take, List.length_take, hl])
    rw [Crc.ofLe_take _ 2 (by omega), Crc.ofLe_take _ 2 (by omega), hb, Nat.xor_mod_two_pow, mul_mod_zero _ _ _ (by omega), Nat.xor_zero]
  have ed : b.drop (2 + s.length) = t.drop (2 + s.length) := by
    apply Crc.ofLe_inj _ _ (by rw [List.length_drop, List.length_drop, hl])
    rw [Crc.ofLe_drop, Crc.ofLe_drop, hb, Nat.xor_div_two_pow, Nat.div_eq_of_lt hX, Nat.xor_zero]
  have et : Crc.ofLe (b.take (2 + s.length)) ^^^ Crc.ofLe (t.take (2 + s.length)) = 2 ^ at_ * M := by
    rw [Crc.ofLe_take _ _ (by omega), Crc.ofLe_take _ _ (by omega), hb, Nat.xor_mod_two_pow, Nat.mod_eq_of_lt hX, Nat.xor_comm, ← Nat.xor_assoc, Nat.xor_self, Nat.zero_xor]
  have hne := Crc.sum_burst (b.take (2 + s.length)) (t.take (2 + s.length)) (by rw [List.length_take, List.length_take, hl]) at_ M h0 (Nat.lt_of_lt_of_le hM (by rw [show (4294967296 : Nat) = 2 ^ 32 from rfl]; exact Nat.pow_le_pow_right (by decide) hK)) (by rw [List.length_take]; omega) et
  unfold Sl.openS
  have hk : ofBe ((b ++ more).take 2) = s.length := by rw [List.take_append_of_le_length (by omega), e2, p2, ofBe_be2 _ (by omega)]
  rw [hk, if_neg (by rw [List.length_append]; omega), if_neg (by rw [List.length_append]; omega), if_pos]
  rw [List.take_append_of_le_length (by omega), List.drop_append_of_le_length (by omega), List.take_append_of_le_length (by rw [List.length_drop]; omega), ed, p5, List.take_of_length_le (l := be 4 _) (by rw [be_len]; omega), ofBe_be_of 4 _ (by simpa using Crc.sum_lt _), ← p4]
  exact hne
/-- Bits turned in the sum alone. -/
theorem open_spoilt_sum (s t b more : List UInt8) (at_ M : Nat) (h : s.length ≤ 3000) (ht : t = (Sl.close s).1) (hl : b.length = t.length) (hb : Crc.ofLe b = Crc.ofLe t ^^^ 2 ^ at_ * M) (h1 : 16 + 8 * s.length ≤ at_) (hne : b ≠ t) :
    Sl.openS (b ++ more) = ([], [], 9) := by
  obtain ⟨p1, p2, p3, p4, p5⟩ := close_parts s t h ht
  have et : b.take (2 + s.length) = t.take (2 + s.length) := by
    apply Crc.ofLe_inj _ _ (by rw [List.length_take, List.length_take, hl])
    rw [Crc.ofLe_take _ _ (by omega), Crc.ofLe_take _ _ (by omega), hb, Nat.xor_mod_two_pow, mul_mod_zero _ _ _ (by omega), Nat.xor_zero]
  have e2 : b.take 2 = t.take 2 := by
    have := congrArg (List.take 2) et
    rw [List.take_take, List.take_take, show min 2 (2 + s.length) = 2 by omega] at this
    exact this
  have ed : b.drop (2 + s.length) ≠ t.drop (2 + s.length) := fun e => hne (by rw [← List.take_append_drop (2 + s.length) b, ← List.take_append_drop (2 + s.length) t, et, e])
  unfold Sl.openS
  have hk : ofBe ((b ++ more).take 2) = s.length := by rw [List.take_append_of_le_length (by omega), e2, p2, ofBe_be2 _ (by omega)]
  rw [hk, if_neg (by rw [List.length_append]; omega), if_neg (by rw [List.length_append]; omega), if_pos]
  rw [List.take_append_of_le_length (by omega), List.drop_append_of_le_length (by omega), List.take_append_of_le_length (by rw [List.length_drop]; omega), et, p4, List.take_of_length_le (by rw [List.length_drop]; omega)]
  intro e
  apply ed
  rw [p5]
  apply ofBe_inj 4 _ _ (by rw [List.length_drop]; omega) (be_len _ _)
  rw [← e, ofBe_be_of 4 _ (by simpa using Crc.sum_lt _)]

end Go.Proofs.YtfkmoooeaijndaaDoor
