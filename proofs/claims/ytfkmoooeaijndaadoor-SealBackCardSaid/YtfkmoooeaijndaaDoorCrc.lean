/- Sums of 32 bits: what the table reckons is what the bits do. -/
import Derived.Test.YtfkmoooeaijndaaDoorCodecK
import Derived.Laws.BitsAllLaws
set_option linter.unusedVariables false
set_option linter.unusedSimpArgs false
namespace Go.Proofs.YtfkmoooeaijndaaDoor
open Go.RowKit

namespace Crc
def bit1 (c : Nat) : Nat := if c % 2 = 1 then c / 2 ^^^ 2197175160 else c / 2
def rounds : Nat → Nat → Nat
  | 0, c => c
  | k + 1, c => bit1 (rounds k c)
def turn (c : Nat) : Nat := 4294967295 - c
def step (c : Nat) (b : UInt8) : Nat := rounds 8 (c ^^^ b.toNat)
def run (c : Nat) (l : List UInt8) : Nat := l.foldl step c
def upd (c : Nat) (l : List UInt8) : Nat := turn (run (turn c) l)
def sum (l : List UInt8) : Nat := upd 0 l

theorem lt32_xor {a b : Nat} (ha : a < 4294967296) (hb : b < 4294967296) : a ^^^ b < 4294967296 := Nat.xor_lt_two_pow (n := 32) ha hb
theorem bit1_lt {c : Nat} (h : c < 4294967296) : bit1 c < 4294967296 := by
  unfold bit1; split
  · exact lt32_xor (by omega) (by decide)
  · omega
theorem rounds_lt {c : Nat} (h : c < 4294967296) (k : Nat) : rounds k c < 4294967296 := by
  induction k with
  | zero => exact h
  | succ k ih => exact bit1_lt ih
theorem u8_lt32 (b : UInt8) : b.toNat < 4294967296 := by have := b.toNat_lt; omega
theorem step_lt {c : Nat} (h : c < 4294967296) (b : UInt8) : step c b < 4294967296 := rounds_lt (lt32_xor h (u8_lt32 b)) 8
theorem run_lt {c : Nat} (h : c < 4294967296) (l : List UInt8) : run c l < 4294967296 := by
  induction l generalizing c with
  | nil => exact h
  | cons b l ih => exact ih (step_lt h b)
theorem turn_lt (c : Nat) : turn c < 4294967296 := by unfold turn; omega
theorem upd_lt (c : Nat) (l : List UInt8) : upd c l < 4294967296 := turn_lt _
theorem sum_lt (l : List UInt8) : sum l < 4294967296 := turn_lt _

theorem bit1_xor (a b : Nat) : bit1 (a ^^^ b) = bit1 a ^^^ bit1 b := by
  have h1 : (a ^^^ b) % 2 = (a + b) % 2 := by
    have h := Nat.xor_mod_two_pow (a := a) (b := b) (n := 1)
    rw [show (2 : Nat) ^ 1 = 2 from rfl] at h
    rw [h]
    rcases Nat.mod_two_eq_zero_or_one a with ha | ha <;> rcases Nat.mod_two_eq_zero_or_one b with hb | hb <;> rw [ha, hb] <;> simp <;> omega
  have h2 : (a ^^^ b) / 2 = a / 2 ^^^ b / 2 := by simpa using Nat.xor_div_two_pow (a := a) (b := b) (n := 1)
  unfold bit1
  rw [h1, h2]
  by_cases ha : a % 2 = 1
  · by_cases hb : b % 2 = 1
    · rw [if_neg (by omega), if_pos ha, if_pos hb]
      rw [Nat.xor_comm (b / 2), Nat.xor_assoc, ← Nat.xor_assoc 2197175160, Nat.xor_self, Nat.zero_xor]
    · rw [if_pos (by omega), if_pos ha, if_neg hb]
      rw [Nat.xor_assoc, Nat.xor_assoc, Nat.xor_comm (b / 2)]
  · by_cases hb : b % 2 = 1
    · rw [if_pos (by omega), if_neg ha, if_pos hb, Nat.xor_assoc]
    · rw [if_neg (by omega), if_neg ha, if_neg hb]
theorem rounds_xor (k a b : Nat) : rounds k (a ^^^ b) = rounds k a ^^^ rounds k b := by
  induction k with
  | zero => rfl
  | succ k ih => show bit1 (rounds k (a ^^^ b)) = _; rw [ih, bit1_xor]; rfl
theorem rounds_add (j k c : Nat) : rounds (j + k) c = rounds j (rounds k c) := by
  induction j with
  | zero => rw [Nat.zero_add]; rfl
  | succ j ih => rw [Nat.succ_add]; show bit1 (rounds (j + k) c) = bit1 _; rw [ih]
theorem split16 (c : Nat) : c = (16 * (c / 16)) ^^^ (c % 16) := by
  have h1 : ((16 * (c / 16)) ^^^ (c % 16)) / 16 = c / 16 := by
    have := Nat.xor_div_two_pow (a := 16 * (c / 16)) (b := c % 16) (n := 4)
    rw [show (2 : Nat) ^ 4 = 16 from rfl] at this
    rw [this, Nat.mul_div_cancel_left _ (by decide), Nat.div_eq_of_lt (Nat.mod_lt _ (by decide)), Nat.xor_zero]
  have h2 : ((16 * (c / 16)) ^^^ (c % 16)) % 16 = c % 16 := by
    have := Nat.xor_mod_two_pow (a := 16 * (c / 16)) (b := c % 16) (n := 4)
    rw [show (2 : Nat) ^ 4 = 16 from rfl] at this
    rw [this, Nat.mul_mod_right, Nat.zero_xor, Nat.mod_mod]
  omega
def fours : List Nat := [0x00000000, 0x105ec76f, 0x20bd8ede, 0x30e349b1, 0x417b1dbc, 0x5125dad3, 0x61c69362, 0x7198540d, 0x82f63b78, 0x92a8fc17, 0xa24bb5a6, 0xb21572c9, 0xc38d26c4, 0xd3d3e1ab, 0xe330a81a, 0xf36e6f75]
theorem fours_all : ∀ i, i < 16 → rounds 4 i = fours.getD i 0 := by decide
theorem fours_lt : ∀ i, i < 16 → fours.getD i 0 < 4294967296 := by decide
theorem bit1_even (m : Nat) : bit1 (2 * m) = m := by unfold bit1; rw [if_neg (by omega)]; omega
/-- Four bits at once, by the table. -/
def four (c : Nat) : Nat := c / 16 ^^^ fours.getD (c % 16) 0
theorem four_eq (c : Nat) : four c = rounds 4 c := by
  conv => rhs; rw [split16 c]
  rw [rounds_xor, fours_all _ (Nat.mod_lt _ (by decide))]
  have : rounds 4 (16 * (c / 16)) = c / 16 := by
    show bit1 (bit1 (bit1 (bit1 (16 * (c / 16))))) = _
    rw [show 16 * (c / 16) = 2 * (2 * (2 * (2 * (c / 16)))) by omega]
    simp only [bit1_even]
  rw [this]; rfl
theorem step_eq (c : Nat) (b : UInt8) : step c b = four (four (c ^^^ b.toNat)) := by
  rw [four_eq, four_eq, ← rounds_add]; rfl
theorem turn_eq (c : Nat) (h : c < 4294967296) : c ^^^ 4294967295 = turn c := by
  have h1 := BitVec.toNat_not (x := BitVec.ofNat 32 c)
  have h2 : (BitVec.ofNat 32 c ^^^ BitVec.allOnes 32).toNat = c ^^^ 4294967295 := by
    rw [BitVec.toNat_xor, BitVec.toNat_allOnes, BitVec.toNat_ofNat, Nat.mod_eq_of_lt h]
  rw [BitVec.xor_allOnes, h1, BitVec.toNat_ofNat, Nat.mod_eq_of_lt h] at h2
  rw [← h2]; unfold turn; omega
theorem run_snoc (c : Nat) (l : List UInt8) (b : UInt8) : run c (l ++ [b]) = step (run c l) b := by simp [run]
theorem run_append (c : Nat) (l m : List UInt8) : run c (l ++ m) = run (run c l) m := by simp [run]
end Crc

/-- The table stands in memory. -/
def Fours (w : World) : Prop := ∀ i, i < 16 → w.cell? ⟨0, i, none⟩ = some (.int .u32 (Crc.fours.getD i 0 : Nat))
theorem Fours.upd {F : Nat → Prop} {w w' : World} (h : Fours w) (hu : Upd F w w') (hF : ¬ F 0) : Fours w' := fun i hi => hu.cell (h i hi) hF

set_option maxHeartbeats 400000 in
set_option maxRecDepth 100000 in
theorem crc_step (ci bi : Int) (c : Nat) (b : UInt8) (w : World) (hci : ci = c) (hbi : bi = (b.toNat : Int)) (hc : c < 4294967296) (hT : Fours w) :
    Calls Tryd.prog 73 #[.int .u32 ci, .int .u8 bi] w fun e w' => e = .returned (.int .u32 (Crc.step c b : Nat)) ∧ w = w' := by
  subst hci hbi
  rw [Crc.step_eq]
  have hb := b.toNat_lt
  obtain ⟨x, hx⟩ : ∃ x, x = c ^^^ b.toNat := ⟨_, rfl⟩
  have hxl : x < 4294967296 := by rw [hx]; exact Crc.lt32_xor hc (Crc.u8_lt32 b)
  have e0 : bits .xor .u32 (c : Int) (b.toNat : Int) = (x : Int) := by rw [u32_xor_nat _ _ hc (Crc.u8_lt32 b), hx]
  rw [← hx]
  have e1 : bits .and .u32 (x : Int) 15 = ((x % 16 : Nat) : Int) := by
    have := u32_and_nat x 15 hxl (by decide)
    rw [show ((15 : Nat) : Int) = 15 from rfl] at this
    rw [this, show x &&& 15 = x % 16 from Nat.and_two_pow_sub_one_eq_mod x 4]
  have t1 := hT (x % 16) (Nat.mod_lt _ (by decide))
  have l1 := Crc.fours_lt (x % 16) (Nat.mod_lt _ (by decide))
  obtain ⟨f, hf⟩ : ∃ f, f = Crc.fours.getD (x % 16) 0 := ⟨_, rfl⟩
  rw [← hf] at t1 l1
  obtain ⟨y, hy⟩ : ∃ y, y = x / 16 ^^^ f := ⟨_, rfl⟩
  have hyl : y < 4294967296 := by rw [hy]; exact Crc.lt32_xor (by omega) l1
  have e2 : bits .xor .u32 ((x / 16 : Nat) : Int) (f : Int) = (y : Int) := by rw [u32_xor_nat _ _ (by omega) l1, hy]
  have e2' : bits .xor .u32 ((x : Int) / 16) (f : Int) = (y : Int) := by rw [← e2]; congr 1
  have hfour : Crc.four x = y := by unfold Crc.four; rw [hy, hf]
  rw [hfour]
  have e3 : bits .and .u32 (y : Int) 15 = ((y % 16 : Nat) : Int) := by
    have := u32_and_nat y 15 hyl (by decide)
    rw [show ((15 : Nat) : Int) = 15 from rfl] at this
    rw [this, show y &&& 15 = y % 16 from Nat.and_two_pow_sub_one_eq_mod y 4]
  have t2 := hT (y % 16) (Nat.mod_lt _ (by decide))
  have l2 := Crc.fours_lt (y % 16) (Nat.mod_lt _ (by decide))
  obtain ⟨g, hg⟩ : ∃ g, g = Crc.fours.getD (y % 16) 0 := ⟨_, rfl⟩
  rw [← hg] at t2 l2
  have e4 : bits .xor .u32 ((y : Int) / 16) (g : Int) = ((Crc.four y : Nat) : Int) := by
    have := u32_xor_nat (y / 16) g (by omega) l2
    rw [show ((y : Int) / 16) = ((y / 16 : Nat) : Int) from rfl, this, hg]; rfl
  clear hx hy hf hg hT e2 hfour
  go_enter Tryd.func73, Tryd.ntmps73
  go_wp2
  go_ret
  exact ⟨rfl, rfl⟩

set_option maxHeartbeats 400000 in
set_option maxRecDepth 100000 in
theorem crc_Update (ci : Int) (c : Nat) (l : List UInt8) (w : World) (hci : ci = c) (hc : c < 4294967296) (hl : l.length ≤ 1000000000) (hT : Fours w) :
    Calls Tryd.prog 52 #[.int .u32 ci, .string ⟨l.toArray⟩] w fun e w' => e = .returned (.int .u32 (Crc.upd c l : Nat)) ∧ w = w' := by
  subst hci
  have hS := fun (ci bi : Int) c b h1 h2 h3 => crc_step ci bi c b w h1 h2 h3 hT
  have hsg : ¬ IntKind.u32.signed = true := by decide
  have hnot : ∀ d : Nat, d < 4294967296 → bits .xor .u32 IntKind.u32.max (d : Int) = ((Crc.turn d : Nat) : Int) := by
    intro d hd
    have h := u32_xor_nat 4294967295 d (by decide) hd
    rw [Nat.xor_comm, Crc.turn_eq d hd] at h
    exact h
  have n0 := hnot c hc
  have n1 := hnot (Crc.run (Crc.turn c) l) (Crc.run_lt (Crc.turn_lt c) l)
  have hup : Crc.upd c l = Crc.turn (Crc.run (Crc.turn c) l) := rfl
  rw [hup]
  obtain ⟨t, ht⟩ : ∃ t, t = Crc.turn c := ⟨_, rfl⟩
  have htl : t < 4294967296 := by rw [ht]; exact Crc.turn_lt c
  rw [← ht] at n0 n1 ⊢
  obtain ⟨z, hz⟩ : ∃ z, z = Crc.run t l := ⟨_, rfl⟩
  rw [← hz] at n1 ⊢
  have HZ := Lib.hid hz
  have HS := Lib.hid hS
  clear hS hT hnot ht hup hz
  go_enter Tryd.func52, Tryd.ntmps52
  go_wp2
  go_loop [0, 10] (fun n i => ∃ k : Nat, k ≤ l.length ∧ i = .int .i64 k ∧ n = .int .u32 (Crc.run t (l.take k) : Nat)) (fun _ i => l.length - (intOf i).toNat)
  case atStart => exact ⟨0, Nat.zero_le _, rfl, rfl⟩
  case round =>
    obtain ⟨k, hk, rfl, rfl⟩ := hrel
    obtain ⟨d, hd⟩ : ∃ d, d = Crc.run t (l.take k) := ⟨_, rfl⟩
    have hdl : d < 4294967296 := by rw [hd]; exact Crc.run_lt htl _
    rw [← hd]
    by_cases hlt : k < l.length
    · have hnx : Crc.step d l[k] = Crc.run t (l.take (k + 1)) := by rw [List.take_succ_eq_append_getElem hlt, Crc.run_snoc, hd]
      have HN := Lib.hid hnx
      have hst := fun (bi : Int) (h2 : bi = ((l[k]'hlt).toNat : Int)) => HS.out (d : Int) bi d (l[k]'hlt) rfl h2 hdl
      rw [hnx] at hst
      have HST := Lib.hid hst
      clear hnx hd hst
      go_wp2_with (fail)
      refine (HST.out _ rfl).mono ?_
      rintro e w' ⟨rfl, rfl⟩
      go_wp2
      exact ⟨⟨k + 1, by omega, by go_num, rfl⟩, by simp [intOf]; omega⟩
    · obtain rfl : k = l.length := by omega
      rw [List.take_length] at hd
      obtain rfl : d = z := by rw [hd, HZ.out]
      clear hd
      go_wp2
      go_ret
      exact ⟨rfl, rfl⟩

theorem crc_Sum (l : List UInt8) (w : World) (hl : l.length ≤ 1000000000) (hT : Fours w) :
    Calls Tryd.prog 30 #[.string ⟨l.toArray⟩] w fun e w' => e = .returned (.int .u32 (Crc.sum l : Nat)) ∧ w = w' := by
  go_enter Tryd.func30, Tryd.ntmps30
  go_wp2_with (fail)
  refine (crc_Update 0 0 l _ rfl (by decide) hl hT).mono ?_
  rintro e w' ⟨rfl, rfl⟩
  go_wp2
  go_ret
  exact ⟨rfl, rfl⟩

set_option maxHeartbeats 400000 in
set_option maxRecDepth 100000 in
theorem ref_step (ci bi : Int) (c : Nat) (b : UInt8) (w : World) (hci : ci = c) (hbi : bi = (b.toNat : Int)) (hc : c < 4294967296) :
    Calls Tryd.prog 75 #[.int .u32 ci, .int .u8 bi] w fun e w' => e = .returned (.int .u32 (Crc.step c b : Nat)) ∧ w = w' := by
  subst hci hbi
  have hb := b.toNat_lt
  obtain ⟨x, hx⟩ : ∃ x, x = c ^^^ b.toNat := ⟨_, rfl⟩
  have hxl : x < 4294967296 := by rw [hx]; exact Crc.lt32_xor hc (Crc.u8_lt32 b)
  have e0 : bits .xor .u32 (c : Int) (b.toNat : Int) = (x : Int) := by rw [u32_xor_nat _ _ hc (Crc.u8_lt32 b), hx]
  obtain ⟨z, hz⟩ : ∃ z, z = Crc.step c b := ⟨_, rfl⟩
  have hz2 : Crc.rounds 8 x = z := by rw [hz, hx]; rfl
  rw [← hz]
  clear hx hz
  have HZ := Lib.hid hz2
  clear hz2
  go_enter Tryd.func75, Tryd.ntmps75
  go_wp2
  go_loop [0, 5] (fun n i => ∃ k : Nat, k ≤ 8 ∧ i = .int .i64 k ∧ n = .int .u32 (Crc.rounds k x : Nat)) (fun _ i => 8 - (intOf i).toNat)
  case atStart => exact ⟨0, Nat.zero_le _, rfl, rfl⟩
  case round =>
    obtain ⟨k, hk, rfl, rfl⟩ := hrel
    obtain ⟨d, hd⟩ : ∃ d, d = Crc.rounds k x := ⟨_, rfl⟩
    have hdl : d < 4294967296 := by rw [hd]; exact Crc.rounds_lt hxl _
    rw [← hd]
    by_cases hlt : k < 8
    · have hnx : Crc.rounds (k + 1) x = Crc.bit1 d := by rw [hd]; rfl
      by_cases hp : d % 2 = 1
      · have e1 : bits .xor .u32 ((d : Int) / 2) 2197175160 = ((Crc.bit1 d : Nat) : Int) := by
          have h := u32_xor_nat (d / 2) 2197175160 (by omega) (by decide)
          rw [show (d / 2 ^^^ 2197175160) = Crc.bit1 d by unfold Crc.bit1; rw [if_pos hp]] at h
          exact h
        have HN := Lib.hid hnx
        clear hnx hd
        have hp2 : (d : Int) % 2 = 1 := by omega
        go_wp2
        exact ⟨⟨k + 1, by omega, by go_num, by rw [HN.out]⟩, by simp [intOf]; omega⟩
      · have e1 : ((d : Int) / 2) = ((Crc.bit1 d : Nat) : Int) := by unfold Crc.bit1; rw [if_neg hp]; omega
        have HN := Lib.hid hnx
        have HE := Lib.hid e1
        clear hnx hd e1
        have hp2 : (d : Int) % 2 = 0 := by omega
        go_wp2
        exact ⟨⟨k + 1, by omega, by go_num, by rw [HN.out, HE.out]⟩, by simp [intOf]; omega⟩
    · obtain rfl : k = 8 := by omega
      obtain rfl : d = z := by rw [hd, HZ.out]
      clear hd
      go_wp2
      go_ret
      exact ⟨rfl, rfl⟩

theorem ref_turned (ci : Int) (c : Nat) (w : World) (hci : ci = c) (hc : c < 4294967296) :
    Calls Tryd.prog 74 #[.int .u32 ci] w fun e w' => e = .returned (.int .u32 (Crc.turn c : Nat)) ∧ w = w' := by
  subst hci
  have e0 : bits .xor .u32 (c : Int) 4294967295 = ((Crc.turn c : Nat) : Int) := by
    have := u32_xor_nat c 4294967295 hc (by decide)
    rw [Crc.turn_eq c hc] at this
    exact this
  go_enter Tryd.func74, Tryd.ntmps74
  go_wp2
  go_ret
  exact ⟨rfl, rfl⟩

set_option maxHeartbeats 400000 in
set_option maxRecDepth 100000 in
theorem ref_Update (ci : Int) (c : Nat) (l : List UInt8) (w : World) (hci : ci = c) (hc : c < 4294967296) (hl : l.length ≤ 1000000000) :
    Calls Tryd.prog 53 #[.int .u32 ci, .string ⟨l.toArray⟩] w fun e w' => e = .returned (.int .u32 (Crc.upd c l : Nat)) ∧ w = w' := by
  subst hci
  have hS := fun (ci bi : Int) c b h1 h2 h3 => ref_step ci bi c b w h1 h2 h3
  have n0 := ref_turned c c w rfl hc
  have n1 := ref_turned (Crc.run (Crc.turn c) l : Nat) (Crc.run (Crc.turn c) l) w rfl (Crc.run_lt (Crc.turn_lt c) l)
  have hup : Crc.upd c l = Crc.turn (Crc.run (Crc.turn c) l) := rfl
  rw [hup]
  obtain ⟨t, ht⟩ : ∃ t, t = Crc.turn c := ⟨_, rfl⟩
  have htl : t < 4294967296 := by rw [ht]; exact Crc.turn_lt c
  rw [← ht] at n0 n1 ⊢
  obtain ⟨z, hz⟩ : ∃ z, z = Crc.run t l := ⟨_, rfl⟩
  rw [← hz] at n1 ⊢
  have HZ := Lib.hid hz
  have HS := Lib.hid hS
  have N0 := Lib.hid n0
  have N1 := Lib.hid n1
  clear hS ht hup hz n0 n1
  go_enter Tryd.func53, Tryd.ntmps53
  go_wp2_with (fail)
  refine N0.out.mono ?_
  rintro e w' ⟨rfl, rfl⟩
  go_wp2
  go_loop [0, 5] (fun n i => ∃ k : Nat, k ≤ l.length ∧ i = .int .i64 k ∧ n = .int .u32 (Crc.run t (l.take k) : Nat)) (fun _ i => l.length - (intOf i).toNat)
  case atStart => exact ⟨0, Nat.zero_le _, rfl, rfl⟩
  case round =>
    obtain ⟨k, hk, rfl, rfl⟩ := hrel
    obtain ⟨d, hd⟩ : ∃ d, d = Crc.run t (l.take k) := ⟨_, rfl⟩
    have hdl : d < 4294967296 := by rw [hd]; exact Crc.run_lt htl _
    rw [← hd]
    by_cases hlt : k < l.length
    · have hnx : Crc.step d l[k] = Crc.run t (l.take (k + 1)) := by rw [List.take_succ_eq_append_getElem hlt, Crc.run_snoc, hd]
      have hst := fun (bi : Int) (h2 : bi = ((l[k]'hlt).toNat : Int)) => HS.out (d : Int) bi d (l[k]'hlt) rfl h2 hdl
      rw [hnx] at hst
      have HST := Lib.hid hst
      clear hnx hd hst
      go_wp2_with (fail)
      refine (HST.out _ rfl).mono ?_
      rintro e w' ⟨rfl, rfl⟩
      go_wp2
      exact ⟨⟨k + 1, by omega, by go_num, rfl⟩, by simp [intOf]; omega⟩
    · obtain rfl : k = l.length := by omega
      rw [List.take_length] at hd
      obtain rfl : d = z := by rw [hd, HZ.out]
      clear hd
      go_wp2_with (fail)
      refine N1.out.mono ?_
      rintro e w' ⟨rfl, rfl⟩
      go_wp2
      go_ret
      exact ⟨rfl, rfl⟩

theorem ref_Sum (l : List UInt8) (w : World) (hl : l.length ≤ 1000000000) :
    Calls Tryd.prog 32 #[.string ⟨l.toArray⟩] w fun e w' => e = .returned (.int .u32 (Crc.sum l : Nat)) ∧ w = w' := by
  go_enter Tryd.func32, Tryd.ntmps32
  go_wp2_with (fail)
  refine (ref_Update 0 0 l _ rfl (by decide) hl).mono ?_
  rintro e w' ⟨rfl, rfl⟩
  go_wp2
  go_ret
  exact ⟨rfl, rfl⟩

end Go.Proofs.YtfkmoooeaijndaaDoor
