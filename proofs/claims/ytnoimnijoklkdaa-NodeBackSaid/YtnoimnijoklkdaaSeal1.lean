/- Texts that belong together: YtnoimnijoklkdaaCrc, YtnoimnijoklkdaaSeal1. -/
import Derived.Test.YtnoimnijoklkdaaCodecP
import Derived.Laws.BitsAllLaws
/- Sums of 32 bits: what the table reckons is what the bits do. -/
set_option linter.unusedVariables false
set_option linter.unusedSimpArgs false
namespace Go.Proofs.Ytnoimnijoklkdaa
open Go.RowKit

namespace Crc
def bit1 (c : Nat) : Nat := if c % 2 = 1 then c / 2 ^^^ 2197175160 else c / 2
def rounds : Nat → Nat → Nat
  | 0, c => c
  | k + 1, c => bit1 (rounds k c)
def turn (c : Nat) : Nat := 4294967295 - c
def step (c : Nat) (b : UInt8) : Nat := rounds 8 (c ^^^ b.toNat)
def run (c : Nat) (l : List UInt8) : Nat := l.foldl step c
def upd (c : Nat) (l : List UInt8) : Nat := turn (run (turn c) l)
def sum (l : List UInt8) : Nat := upd 0 l

theorem lt32_xor {a b : Nat} (ha : a < 4294967296) (hb : b < 4294967296) : a ^^^ b < 4294967296 := Nat.xor_lt_two_pow (n := 32) ha hb
theorem bit1_lt {c : Nat} (h : c < 4294967296) : bit1 c < 4294967296 := by
  unfold bit1; split
  · exact lt32_xor (by omega) (by decide)
  · omega
theorem rounds_lt {c : Nat} (h : c < 4294967296) (k : Nat) : rounds k c < 4294967296 := by
  induction k with
  | zero => exact h
  | succ k ih => exact bit1_lt ih
theorem u8_lt32 (b : UInt8) : b.toNat < 4294967296 := by have := b.toNat_lt; omega
theorem step_lt {c : Nat} (h : c < 4294967296) (b : UInt8) : step c b < 4294967296 := rounds_lt (lt32_xor h (u8_lt32 b)) 8
end Crc

end Go.Proofs.Ytnoimnijoklkdaa

/- Numbers as bytes: the reference's own. -/
set_option linter.unusedVariables false
set_option linter.unusedSimpArgs false
namespace Go.Proofs.Ytnoimnijoklkdaa
open Go.RowKit

theorem be_succ (i n : Nat) : be (i + 1) n = UInt8.ofNat (n / 2 ^ (8 * i)) :: be i n := by
  unfold be
  rw [List.range_succ_eq_map, List.map_cons, List.map_map]
  congr 1
  apply List.map_congr_left
  intro k hk
  have := List.mem_range.1 hk
  show UInt8.ofNat (n / 2 ^ (8 * (i + 1 - 1 - (k + 1)))) = _
  rw [show i + 1 - 1 - (k + 1) = i - 1 - k by omega]
theorem be_len (i n : Nat) : (be i n).length = i := by simp [be]

end Go.Proofs.Ytnoimnijoklkdaa
