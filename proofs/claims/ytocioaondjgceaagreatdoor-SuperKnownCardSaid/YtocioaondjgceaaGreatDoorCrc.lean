/- Sums of 32 bits: what the table reckons is what the bits do. -/
import Derived.Test.YtocioaondjgceaaGreatDoorCodecK
import Derived.Laws.BitsAllLaws
set_option linter.unusedVariables false
set_option linter.unusedSimpArgs false
namespace Go.Proofs.YtocioaondjgceaaGreatDoor
open Go.RowKit

namespace Crc
def bit1 (c : Nat) : Nat := if c % 2 = 1 then c / 2 ^^^ 2197175160 else c / 2
def rounds : Nat → Nat → Nat
  | 0, c => c
  | k + 1, c => bit1 (rounds k c)
def turn (c : Nat) : Nat := 4294967295 - c
def step (c : Nat) (b : UInt8) : Nat := rounds 8 (c ^^^ b.toNat)
def run (c : Nat) (l : List UInt8) : Nat := l.foldl step c
def upd (c : Nat) (l : List UInt8) : Nat := turn (run (turn c) l)
def sum (l : List UInt8) : Nat := upd 0 l

theorem lt32_xor {a b : Nat} (ha : a < 4294967296) (hb : b < 4294967296) : a ^^^ b < 4294967296 := Nat.xor_lt_two_pow (n := 32) ha hb
theorem bit1_lt {c : Nat} (h : c < 4294967296) : bit1 c < 4294967296 := by
  unfold bit1; split
  · exact lt32_xor (by omega) (by decide)
  · omega
theorem rounds_lt {c : Nat} (h : c < 4294967296) (k : Nat) : rounds k c < 4294967296 := by
  induction k with
  | zero => exact h
  | succ k ih => exact bit1_lt ih
theorem u8_lt32 (b : UInt8) : b.toNat < 4294967296 := by have := b.toNat_lt; omega
theorem step_lt {c : Nat} (h : c < 4294967296) (b : UInt8) : step c b < 4294967296 := rounds_lt (lt32_xor h (u8_lt32 b)) 8
theorem run_lt {c : Nat} (h : c < 4294967296) (l : List UInt8) : run c l < 4294967296 := by
  induction l generalizing c with
  | nil => exact h
  | cons b l ih => exact ih (step_lt h b)
theorem turn_lt (c : Nat) : turn c < 4294967296 := by unfold turn; omega
theorem upd_lt (c : Nat) (l : List UInt8) : upd c l < 4294967296 := turn_lt _
theorem sum_lt (l : List UInt8) : sum l < 4294967296 := turn_lt _

theorem bit1_xor (a b : Nat) : bit1 (a ^^^ b) = bit1 a ^^^ bit1 b := by
  have h1 : (a ^^^ b) % 2 = (a + b) % 2 := by
    have h := Nat.xor_mod_two_pow (a := a) (b := b) (n := 1)
    rw [show (2 : Nat) ^ 1 = 2 from rfl] at h
    rw [h]
    rcases Nat.mod_two_eq_zero_or_one a with ha | ha <;> rcases Nat.mod_two_eq_zero_or_one b with hb | hb <;> rw [ha, hb] <;> simp <;> omega
  have h2 : (a ^^^ b) / 2 = a / 2 ^^^ b / 2 := by simpa using Nat.xor_div_two_pow (a := a) (b := b) (n := 1)
  unfold bit1
  rw [h1, h2]
  by_cases ha : a % 2 = 1
  · by_cases hb : b % 2 = 1
    · rw [if_neg (by omega), if_pos ha, if_pos hb]
      rw [Nat.xor_comm (b / 2), Nat.xor_assoc, ← Nat.xor_assoc 2197175160, Nat.xor_self, Nat.zero_xor]
    · rw [if_pos (by omega), if_pos ha, if_neg hb]
      rw [Nat.xor_assoc, Nat.xor_assoc, Nat.xor_comm (b / 2)]
  · by_cases hb : b % 2 = 1
    · rw [if_pos (by omega), if_neg ha, if_pos hb, Nat.xor_assoc]
    · rw [if_neg (by omega), if_neg ha, if_neg hb]
theorem rounds_xor (k a b : Nat) : rounds k (a ^^^ b) = rounds k a ^^^ rounds k b := by
  induction k with
  | zero => rfl
  | succ k ih => show bit1 (rounds k (a ^^^ b)) = _; rw [ih, bit1_xor]; rfl
theorem rounds_add (j k c : Nat) : rounds (j + k) c = rounds j (rounds k c) := by
  induction j with
  | zero => rw [Nat.zero_add]; rfl
  | succ j ih => rw [Nat.succ_add]; show bit1 (rounds (j + k) c) = bit1 _; rw [ih]
theorem split16 (c : Nat) : c = (16 * (c / 16)) ^^^ (c % 16) := by
  have h1 : ((16 * (c / 16)) ^^^ (c % 16)) / 16 = c / 16 := by
    have := Nat.xor_div_two_pow (a := 16 * (c / 16)) (b := c % 16) (n := 4)
    rw [show (2 : Nat) ^ 4 = 16 from rfl] at this
    rw [this, Nat.mul_div_cancel_left _ (by decide), Nat.div_eq_of_lt (Nat.mod_lt _ (by decide)), Nat.xor_zero]
  have h2 : ((16 * (c / 16)) ^^^ (c % 16)) % 16 = c % 16 := by
    have := Nat.xor_mod_two_pow (a := 16 * (c / 16)) (b := c % 16) (n := 4)
    rw [show (2 : Nat) ^ 4 = 16 from rfl] at this
    rw [this, Nat.mul_mod_right, Nat.zero_xor, Nat.mod_mod]
  omega
def fours : List Nat := [0x00000000, 0x105ec76f, 0x20bd8ede, 0x30e349b1, 0x417b1dbc, 0x5125dad3, 0x61c69362, 0x7198540d, 0x82f63b78, 0x92a8fc17, 0xa24bb5a6, 0xb21572c9, 0xc38d26c4, 0xd3d3e1ab, 0xe330a81a, 0xf36e6f75]
theorem fours_all : ∀ i, i < 16 → rounds 4 i = fours.getD i 0 := by decide
theorem fours_lt : ∀ i, i < 16 → fours.getD i 0 < 4294967296 := by decide
theorem bit1_even (m : Nat) : bit1 (2 * m) = m := by unfold bit1; rw [if_neg (by omega)]; omega
/-- Four bits at once, by the table. -/
def four (c : Nat) : Nat := c / 16 ^^^ fours.getD (c % 16) 0
theorem four_eq (c : Nat) : four c = rounds 4 c := by
  conv => rhs; rw [split16 c]
  rw [rounds_xor, fours_all _ (Nat.mod_lt _ (by decide))]
  have : rounds 4 (16 * (c / 16)) = c / 16 := by
    show bit1 (bit1 (bit1 (bit1 (16 * (c / 16))))) = _
    rw [show 16 * (c / 16) = 2 * (2 * (2 * (2 * (c / 16)))) by omega]
    simp only [bit1_even]
  rw [this]; rfl
theorem step_eq (c : Nat) (b : UInt8) : step c b = four (four (c ^^^ b.toNat)) := by
  rw [four_eq, four_eq, ← rounds_add]; rfl
theorem turn_eq (c : Nat) (h : c < 4294967296) : c ^^^ 4294967295 = turn c := by
  have h1 := BitVec.toNat_not (x := BitVec.ofNat 32 c)
  have h2 : (BitVec.ofNat 32 c ^^^ BitVec.allOnes 32).toNat = c ^^^ 4294967295 := by
    rw [BitVec.toNat_xor, BitVec.toNat_allOnes, BitVec.toNat_ofNat, Nat.mod_eq_of_lt h]
  rw [BitVec.xor_allOnes, h1, BitVec.toNat_ofNat, Nat.mod_eq_of_lt h] at h2
  rw [← h2]; unfold turn; omega
theorem run_snoc (c : Nat) (l : List UInt8) (b : UInt8) : run c (l ++ [b]) = step (run c l) b := by simp [run]
theorem run_append (c : Nat) (l m : List UInt8) : run c (l ++ m) = run (run c l) m := by simp [run]
end Crc

end Go.Proofs.YtocioaondjgceaaGreatDoor
