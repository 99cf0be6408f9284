/- A writer, since the world in which it was made. -/
import Derived.Test.YtlhjhkmmgkfmpaaCodec
import Derived.Laws.BitsAllLaws
set_option linter.unusedVariables false
set_option linter.unusedSimpArgs false
namespace Go.Proofs.Ytlhjhkmmgkfmpaa
open Go.RowKit

theorem append_list (a b : List UInt8) : (⟨a.toArray⟩ : ByteArray) ++ ⟨b.toArray⟩ = ⟨(a ++ b).toArray⟩ := by
  apply ByteArray.ext; simp
theorem be1 (x : Nat) : be 1 x = [UInt8.ofNat x] := by simp [be, List.range_succ]
theorem be2 (x : Nat) : be 2 x = [UInt8.ofNat (x / 256), UInt8.ofNat x] := by simp [be, List.range_succ]

/-! ### A writer since the world in which it was made -/
/-- The writer at b has the bytes bs; beside it the old blocks of w0 are as they were. -/
def Wk (w0 w : World) (b : Nat) (bs : List UInt8) : Prop := ∃ r, Wr w b r bs 0 ∧ Newer w0 none r ∧ Upd (fun k => k = b) w0 w

theorem Wk.new (w : World) : Wk (w.alloc (.cells #[.slice none 0 0, .int .i64 0] 59)) (w.alloc (.cells #[.slice none 0 0, .int .i64 0] 59)) w.heap.size [] :=
  ⟨none, ⟨_, heap_alloc_new w _, World.ownsRow_nil _ _ _ _, rfl⟩, Newer.refl _ _, Upd.refl _ _⟩
theorem Wk.heap {w0 w : World} {b : Nat} {bs : List UInt8} (h : Wk w0 w b bs) {k : Nat} {o : Obj} (hk : w0.heap[k]? = some o) (hn : k ≠ b) : w.heap[k]? = some o := by
  obtain ⟨r, _, _, hu⟩ := h; exact hu.heap hk hn
theorem Wk.cell {w0 w : World} {b : Nat} {bs : List UInt8} (h : Wk w0 w b bs) {a : Addr} {v : Value} (hc : w0.cell? a = some v) (hn : a.block ≠ b) : w.cell? a = some v := by
  obtain ⟨r, _, _, hu⟩ := h; exact hu.cell hc hn
theorem Wk.upd {w0 w : World} {b : Nat} {bs : List UInt8} (h : Wk w0 w b bs) : Upd (fun k => k = b) w0 w := by obtain ⟨r, _, _, hu⟩ := h; exact hu
/-- A step of something else leaves the writer. -/
theorem Wk.other {w0 w w' : World} {b : Nat} {bs : List UInt8} (h : Wk w0 w b bs) (hu : Upd (fun _ => False) w w') : Wk w0 w' b bs := by
  obtain ⟨r, ⟨v, hh, hown, hr⟩, hn, hu0⟩ := h
  exact ⟨r, ⟨v, hu.heap hh (fun f => f), hu.owns hown (fun _ _ f => f), hr⟩, hn, hu0.trans hu (fun _ _ f => f.elim)⟩
theorem Wk.next {w0 w w' : World} {b : Nat} {bs' : List UInt8} (r r' : Option Nat) (hn : Newer w0 none r) (hu : Upd (fun k => k = b) w0 w) (h : Wr w' b r' bs' 0) (hn' : Newer w r r') (hu' : Upd (WF b r) w w') : Wk w0 w' b bs' :=
  ⟨r', h, hn.trans hn' hu.size, hu.trans hu' (fun i hi hf => by
    rcases hf with hf | hf
    · exact hf
    · rcases hn with rfl | ⟨g, rfl, hg⟩
      · simp at hf
      · simp at hf; omega)⟩
theorem Wk_U8 {w0 w : World} {b : Nat} {bs : List UInt8} (h : Wk w0 w b bs) (xi : Int) (x : Nat) (hxi : xi = x) (hx : x < Two8) (hb : bs.length ≤ 1000000000) :
    Calls Try.prog 25 #[.pointer (some ⟨b, 0, none⟩), .int .u8 xi] w fun e w' => e = .returned (.tuple #[]) ∧ Wk w0 w' b (bs ++ be 1 x) := by
  obtain ⟨r, h1, h2, h3⟩ := h
  refine (Writer_U8 b r bs xi x w hxi hx hb h1).mono ?_
  rintro e w' ⟨rfl, r', k1, k2, k3⟩
  exact ⟨rfl, Wk.next r r' h2 h3 k1 k2 k3⟩
theorem Wk_U16 {w0 w : World} {b : Nat} {bs : List UInt8} (h : Wk w0 w b bs) (xi : Int) (x : Nat) (hxi : xi = x) (hx : x < Two16) (hb : bs.length ≤ 1000000000) :
    Calls Try.prog 27 #[.pointer (some ⟨b, 0, none⟩), .int .u16 xi] w fun e w' => e = .returned (.tuple #[]) ∧ Wk w0 w' b (bs ++ be 2 x) := by
  obtain ⟨r, h1, h2, h3⟩ := h
  refine (Writer_U16 b r bs xi x w hxi hx hb h1).mono ?_
  rintro e w' ⟨rfl, r', k1, k2, k3⟩
  exact ⟨rfl, Wk.next r r' h2 h3 k1 k2 k3⟩
theorem Wk_U64 {w0 w : World} {b : Nat} {bs : List UInt8} (h : Wk w0 w b bs) (xi : Int) (x : Nat) (hxi : xi = x) (hx : x < Two64) (hb : bs.length ≤ 1000000000) :
    Calls Try.prog 24 #[.pointer (some ⟨b, 0, none⟩), .int .u64 xi] w fun e w' => e = .returned (.tuple #[]) ∧ Wk w0 w' b (bs ++ be 8 x) := by
  obtain ⟨r, h1, h2, h3⟩ := h
  refine (Writer_U64 b r bs xi x w hxi hx hb h1).mono ?_
  rintro e w' ⟨rfl, r', k1, k2, k3⟩
  exact ⟨rfl, Wk.next r r' h2 h3 k1 k2 k3⟩
theorem Wk_Text {w0 w : World} {b : Nat} {bs : List UInt8} (h : Wk w0 w b bs) (l : List UInt8) (hb : bs.length ≤ 900000000) (hl : l.length ≤ 65535) :
    Calls Try.prog 26 #[.pointer (some ⟨b, 0, none⟩), .string ⟨l.toArray⟩] w fun e w' => e = .returned (.tuple #[]) ∧ Wk w0 w' b (bs ++ be 2 l.length ++ l) := by
  obtain ⟨r, h1, h2, h3⟩ := h
  refine (Writer_Text b r bs l w hb hl h1).mono ?_
  rintro e w' ⟨rfl, r', k1, k2, k3⟩
  exact ⟨rfl, Wk.next r r' h2 h3 k1 k2 k3⟩
theorem Wk_Bytes {w0 w : World} {b : Nat} {bs : List UInt8} (h : Wk w0 w b bs) (hb : bs.length ≤ 1000000000) :
    Calls Try.prog 28 #[.pointer (some ⟨b, 0, none⟩)] w fun e w' => e = .returned (.tuple #[.string ⟨bs.toArray⟩, .int .i64 0]) ∧ w = w' := by
  obtain ⟨r, h1, h2, h3⟩ := h
  exact Writer_Bytes b r bs w hb h1

end Go.Proofs.Ytlhjhkmmgkfmpaa

/- Sums of 32 bits: what the table reckons is what the bits do. -/
set_option linter.unusedVariables false
set_option linter.unusedSimpArgs false
namespace Go.Proofs.Ytlhjhkmmgkfmpaa
open Go.RowKit

namespace Crc
def bit1 (c : Nat) : Nat := if c % 2 = 1 then c / 2 ^^^ 2197175160 else c / 2
def rounds : Nat → Nat → Nat
  | 0, c => c
  | k + 1, c => bit1 (rounds k c)
def turn (c : Nat) : Nat := 4294967295 - c
def step (c : Nat) (b : UInt8) : Nat := rounds 8 (c ^^^ b.toNat)
def run (c : Nat) (l : List UInt8) : Nat := l.foldl step c
def upd (c : Nat) (l : List UInt8) : Nat := turn (run (turn c) l)
def sum (l : List UInt8) : Nat := upd 0 l

theorem lt32_xor {a b : Nat} (ha : a < 4294967296) (hb : b < 4294967296) : a ^^^ b < 4294967296 := Nat.xor_lt_two_pow (n := 32) ha hb
theorem bit1_lt {c : Nat} (h : c < 4294967296) : bit1 c < 4294967296 := by
  unfold bit1; split
  · exact lt32_xor (by omega) (by decide)
  · omega
theorem rounds_lt {c : Nat} (h : c < 4294967296) (k : Nat) : rounds k c < 4294967296 := by
  induction k with
  | zero => exact h
  | succ k ih => exact bit1_lt ih
theorem u8_lt32 (b : UInt8) : b.toNat < 4294967296 := by have := b.toNat_lt; omega
theorem step_lt {c : Nat} (h : c < 4294967296) (b : UInt8) : step c b < 4294967296 := rounds_lt (lt32_xor h (u8_lt32 b)) 8
theorem run_lt {c : Nat} (h : c < 4294967296) (l : List UInt8) : run c l < 4294967296 := by
  induction l generalizing c with
  | nil => exact h
  | cons b l ih => exact ih (step_lt h b)
theorem turn_lt (c : Nat) : turn c < 4294967296 := by unfold turn; omega
theorem upd_lt (c : Nat) (l : List UInt8) : upd c l < 4294967296 := turn_lt _
theorem sum_lt (l : List UInt8) : sum l < 4294967296 := turn_lt _

theorem bit1_xor (a b : Nat) : bit1 (a ^^^ b) = bit1 a ^^^ bit1 b := by
  have h1 : (a ^^^ b) % 2 = (a + b) % 2 := by
    have h := Nat.xor_mod_two_pow (a := a) (b := b) (n := 1)
    rw [show (2 : Nat) ^ 1 = 2 from rfl] at h
    rw [h]
    rcases Nat.mod_two_eq_zero_or_one a with ha | ha <;> rcases Nat.mod_two_eq_zero_or_one b with hb | hb <;> rw [ha, hb] <;> simp <;> omega
  have h2 : (a ^^^ b) / 2 = a / 2 ^^^ b / 2 := by simpa using Nat.xor_div_two_pow (a := a) (b := b) (n := 1)
  unfold bit1
  rw [h1, h2]
  by_cases ha : a % 2 = 1
  · by_cases hb : b % 2 = 1
    · rw [if_neg (by omega), if_pos ha, if_pos hb]
      rw [Nat.xor_comm (b / 2), Nat.xor_assoc, ← Nat.xor_assoc 2197175160, Nat.xor_self, Nat.zero_xor]
    · rw [if_pos (by omega), if_pos ha, if_neg hb]
      rw [Nat.xor_assoc, Nat.xor_assoc, Nat.xor_comm (b / 2)]
  · by_cases hb : b % 2 = 1
    · rw [if_pos (by omega), if_neg ha, if_pos hb, Nat.xor_assoc]
    · rw [if_neg (by omega), if_neg ha, if_neg hb]
theorem rounds_xor (k a b : Nat) : rounds k (a ^^^ b) = rounds k a ^^^ rounds k b := by
  induction k with
  | zero => rfl
  | succ k ih => show bit1 (rounds k (a ^^^ b)) = _; rw [ih, bit1_xor]; rfl
theorem rounds_add (j k c : Nat) : rounds (j + k) c = rounds j (rounds k c) := by
  induction j with
  | zero => rw [Nat.zero_add]; rfl
  | succ j ih => rw [Nat.succ_add]; show bit1 (rounds (j + k) c) = bit1 _; rw [ih]
theorem split16 (c : Nat) : c = (16 * (c / 16)) ^^^ (c % 16) := by
  have h1 : ((16 * (c / 16)) ^^^ (c % 16)) / 16 = c / 16 := by
    have := Nat.xor_div_two_pow (a := 16 * (c / 16)) (b := c % 16) (n := 4)
    rw [show (2 : Nat) ^ 4 = 16 from rfl] at this
    rw [this, Nat.mul_div_cancel_left _ (by decide), Nat.div_eq_of_lt (Nat.mod_lt _ (by decide)), Nat.xor_zero]
  have h2 : ((16 * (c / 16)) ^^^ (c % 16)) % 16 = c % 16 := by
    have := Nat.xor_mod_two_pow (a := 16 * (c / 16)) (b := c % 16) (n := 4)
    rw [show (2 : Nat) ^ 4 = 16 from rfl] at this
    rw [this, Nat.mul_mod_right, Nat.zero_xor, Nat.mod_mod]
  omega
def fours : List Nat := [0x00000000, 0x105ec76f, 0x20bd8ede, 0x30e349b1, 0x417b1dbc, 0x5125dad3, 0x61c69362, 0x7198540d, 0x82f63b78, 0x92a8fc17, 0xa24bb5a6, 0xb21572c9, 0xc38d26c4, 0xd3d3e1ab, 0xe330a81a, 0xf36e6f75]
theorem fours_all : ∀ i, i < 16 → rounds 4 i = fours.getD i 0 := by decide
theorem fours_lt : ∀ i, i < 16 → fours.getD i 0 < 4294967296 := by decide
theorem bit1_even (m : Nat) : bit1 (2 * m) = m := by unfold bit1; rw [if_neg (by omega)]; omega
/-- Four bits at once, by the table. -/
def four (c : Nat) : Nat := c / 16 ^^^ fours.getD (c % 16) 0
theorem four_eq (c : Nat) : four c = rounds 4 c := by
  conv => rhs; rw [split16 c]
  rw [rounds_xor, fours_all _ (Nat.mod_lt _ (by decide))]
  have : rounds 4 (16 * (c / 16)) = c / 16 := by
    show bit1 (bit1 (bit1 (bit1 (16 * (c / 16))))) = _
    rw [show 16 * (c / 16) = 2 * (2 * (2 * (2 * (c / 16)))) by omega]
    simp only [bit1_even]
  rw [this]; rfl
theorem step_eq (c : Nat) (b : UInt8) : step c b = four (four (c ^^^ b.toNat)) := by
  rw [four_eq, four_eq, ← rounds_add]; rfl
theorem turn_eq (c : Nat) (h : c < 4294967296) : c ^^^ 4294967295 = turn c := by
  have h1 := BitVec.toNat_not (x := BitVec.ofNat 32 c)
  have h2 : (BitVec.ofNat 32 c ^^^ BitVec.allOnes 32).toNat = c ^^^ 4294967295 := by
    rw [BitVec.toNat_xor, BitVec.toNat_allOnes, BitVec.toNat_ofNat, Nat.mod_eq_of_lt h]
  rw [BitVec.xor_allOnes, h1, BitVec.toNat_ofNat, Nat.mod_eq_of_lt h] at h2
  rw [← h2]; unfold turn; omega
theorem run_snoc (c : Nat) (l : List UInt8) (b : UInt8) : run c (l ++ [b]) = step (run c l) b := by simp [run]
theorem run_append (c : Nat) (l m : List UInt8) : run c (l ++ m) = run (run c l) m := by simp [run]
end Crc

end Go.Proofs.Ytlhjhkmmgkfmpaa

/- Numbers as bytes: the reference's own. -/
set_option linter.unusedVariables false
set_option linter.unusedSimpArgs false
namespace Go.Proofs.Ytlhjhkmmgkfmpaa
open Go.RowKit

theorem be_succ (i n : Nat) : be (i + 1) n = UInt8.ofNat (n / 2 ^ (8 * i)) :: be i n := by
  unfold be
  rw [List.range_succ_eq_map, List.map_cons, List.map_map]
  congr 1
  apply List.map_congr_left
  intro k hk
  have := List.mem_range.1 hk
  show UInt8.ofNat (n / 2 ^ (8 * (i + 1 - 1 - (k + 1)))) = _
  rw [show i + 1 - 1 - (k + 1) = i - 1 - k by omega]
theorem be_len (i n : Nat) : (be i n).length = i := by simp [be]

set_option maxHeartbeats 400000 in
set_option maxRecDepth 100000 in
theorem ref_Number (ni wi : Int) (n wd : Nat) (w : World) (hni : ni = n) (hwi : wi = wd) (hn : n < 18446744073709551616) (hw : wd ≤ 8) :
    Calls Try.prog 53 #[.int .u64 ni, .int .i64 wi] w fun e w' => e = .returned (.string ⟨(be wd n).toArray⟩) ∧ Upd (fun _ => False) w w' := by
  subst hni hwi
  go_enter Try.func53, Try.ntmps53
  go_wp2
  go_loopw [0, 5, 6] (fun v s i wr => ∃ k : Nat, k ≤ wd ∧ i = .int .i64 k ∧ v = .int .u64 (n / 2 ^ (8 * k) : Nat) ∧ s = .string ⟨(be k n).toArray⟩ ∧ Upd (fun _ => False) w wr) (fun _ _ i _ => wd - (intOf i).toNat)
  case atStart => exact ⟨0, Nat.zero_le _, rfl, by simp, rfl, Upd.refl _ _⟩
  case round =>
    obtain ⟨k, hk, rfl, rfl, rfl, hu⟩ := hrel
    obtain ⟨m, hm⟩ : ∃ m, m = n / 2 ^ (8 * k) := ⟨_, rfl⟩
    rw [← hm]
    have hml : m < 18446744073709551616 := by rw [hm]; exact Nat.lt_of_le_of_lt (Nat.div_le_self _ _) hn
    have hm2 : m / 256 = n / 2 ^ (8 * (k + 1)) := by rw [hm, Nat.div_div_eq_div_mul, show 256 = 2 ^ 8 from rfl, ← Nat.pow_add]; rfl
    have hbe : be (k + 1) n = UInt8.ofNat m :: be k n := by rw [be_succ, hm]
    by_cases hlt : k < wd
    · obtain ⟨S, hS⟩ : ∃ S, S = be k n := ⟨_, rfl⟩
      have hSl : S.length ≤ 8 := by rw [hS, be_len]; omega
      rw [← hS] at hbe ⊢
      have e1 : (m : Int) % 256 = ((UInt8.ofNat m).toNat : Int) := by simp
      have hown := World.ownsRow_lit (base := 0) (e := 5) (size := 1) wr #[.int .u8 ((UInt8.ofNat m).toNat : Int)] 1 (Nat.zero_le _) (by decide) rfl
      have hconv := run_conv_row (P := Try.prog) (wr.alloc (.cells #[.int .u8 ((UInt8.ofNat m).toNat : Int)] 5)) 57 5 9 Try.underlying57 Try.underlying5 Try.underlying9 _ [UInt8.ofNat m] 1 rfl hown
      have hcat := append_list [UInt8.ofNat m] S
      have h8 := (UInt8.ofNat m).toNat_lt
      have e2 : IntKind.u8.wrap ((m : Int) % 256) = ((UInt8.ofNat m).toNat : Int) := by rw [e1]; exact IntWalk.u8_in _ (by omega)
      obtain ⟨b, hb⟩ : ∃ b, b = UInt8.ofNat m := ⟨_, rfl⟩
      rw [← hb] at hbe e1 e2 hconv hcat
      have HB := Lib.hid hbe
      have H2 := Lib.hid hm2
      clear hown hm hbe hm2 hS hb h8
      go_wp2
      go_roundw
      case rel => exact ⟨k + 1, by omega, by go_num, by rw [← H2.out]; rfl, by rw [HB.out], hu.alloc _⟩
      case measure => simp [intOf]; omega
    · obtain rfl : k = wd := by omega
      clear hm hm2 hbe
      go_wp2
      go_ret
      exact ⟨rfl, hu⟩

set_option maxHeartbeats 400000 in
set_option maxRecDepth 100000 in
theorem ref_Told (l : List UInt8) (w : World) (hl : l.length ≤ 8) :
    Calls Try.prog 59 #[.string ⟨l.toArray⟩] w fun e w' => e = .returned (.int .u64 (ofBe l : Nat)) ∧ w = w' := by
  go_enter Try.func59, Try.ntmps59
  go_wp2
  go_loop [3, 4] (fun n i => ∃ k : Nat, k ≤ l.length ∧ i = .int .i64 k ∧ n = .int .u64 (ofBe (l.take k) : Nat)) (fun _ i => l.length - (intOf i).toNat)
  case atStart => exact ⟨0, Nat.zero_le _, rfl, rfl⟩
  case round =>
    obtain ⟨k, hk, rfl, rfl⟩ := hrel
    obtain ⟨d, hd⟩ : ∃ d, d = ofBe (l.take k) := ⟨_, rfl⟩
    rw [← hd]
    by_cases hlt : k < l.length
    · have hdl : d < 72057594037927936 := by
        have h1 := ofBe_lt (l.take k)
        have h2 := pow256_le (l.take k).length (by rw [List.length_take]; omega)
        rw [hd]; omega
      have hnx : ofBe (l.take (k + 1)) = d * 256 + (l[k]'hlt).toNat := by rw [List.take_succ_eq_append_getElem hlt, ofBe_snoc, hd]
      have hb := (l[k]'hlt).toNat_lt
      have hx : IntKind.u64.wrap ((d : Int) * 256 + IntKind.u64.wrap ((l[k]'hlt).toNat : Int)) = ((d * 256 + (l[k]'hlt).toNat : Nat) : Int) := by
        rw [IntWalk.u64_in ((l[k]'hlt).toNat : Int) (by omega), IntWalk.u64_in _ (by omega)]; simp
      have HN := Lib.hid hnx
      have HX := Lib.hid hx
      clear hnx hd hx
      go_wp2
      exact ⟨⟨k + 1, by omega, by go_num, by rw [HN.out]; exact congrArg _ HX.out⟩, by simp [intOf]; omega⟩
    · obtain rfl : k = l.length := by omega
      rw [List.take_length] at hd
      subst hd
      go_wp2
      go_ret
      exact ⟨rfl, rfl⟩

end Go.Proofs.Ytlhjhkmmgkfmpaa

/- What readers answer, in plain words; two writers beside one another. -/
set_option linter.unusedVariables false
set_option linter.unusedSimpArgs false
namespace Go.Proofs.Ytlhjhkmmgkfmpaa
open Go.RowKit

theorem fx_ok (l : List UInt8) (n : Nat) (h : n ≤ l.length) (h0 : 0 < n) : fx l 0 n = (l.take n, l.drop n, 0) := by
  unfold fx; rw [if_neg (by omega), if_neg (by omega)]; simp
theorem fx_torn (l : List UInt8) (n : Nat) (h : l.length < n) : fx l 0 n = ([], [], 10) := by
  unfold fx; rw [if_neg (by omega), if_pos (by omega)]
theorem fx_zero (l : List UInt8) (e : Int) : fx l e 0 = ([], l, e) := by unfold fx; rw [if_pos (by omega)]
theorem fx_err (l : List UInt8) (e n : Int) (h : e ≠ 0) : fx l e n = ([], l, e) := by unfold fx; rw [if_pos (Or.inl h)]
theorem fx_any (l : List UInt8) (n : Nat) (h : n ≤ l.length) : fx l 0 n = (l.take n, l.drop n, 0) := by
  by_cases h0 : n = 0
  · subst h0; rw [show ((0 : Nat) : Int) = 0 from rfl, fx_zero]; simp
  · exact fx_ok l n h (by omega)
theorem rU8_ok (l : List UInt8) (h : 1 ≤ l.length) : rU8 l 0 = (ofBe (l.take 1), l.drop 1, 0) := by unfold rU8; rw [show (1 : Int) = ((1 : Nat) : Int) from rfl, fx_ok _ 1 h (by decide)]
theorem rU8_short (l : List UInt8) (h : l.length < 1) : rU8 l 0 = (0, [], 10) := by unfold rU8; rw [show (1 : Int) = ((1 : Nat) : Int) from rfl, fx_torn _ 1 h]; rfl
theorem rU8_err (l : List UInt8) (e : Int) (h : e ≠ 0) : rU8 l e = (0, l, e) := by unfold rU8; rw [fx_err l e 1 h]; rfl
theorem rU16_ok (l : List UInt8) (h : 2 ≤ l.length) : rU16 l 0 = (ofBe (l.take 2), l.drop 2, 0) := by unfold rU16; rw [show (2 : Int) = ((2 : Nat) : Int) from rfl, fx_ok _ 2 h (by decide)]
theorem rU16_short (l : List UInt8) (h : l.length < 2) : rU16 l 0 = (0, [], 10) := by unfold rU16; rw [show (2 : Int) = ((2 : Nat) : Int) from rfl, fx_torn _ 2 h]; rfl
theorem rU16_err (l : List UInt8) (e : Int) (h : e ≠ 0) : rU16 l e = (0, l, e) := by unfold rU16; rw [fx_err l e 2 h]; rfl
theorem rU64_ok (l : List UInt8) (h : 8 ≤ l.length) : rU64 l 0 = (ofBe (l.take 8), l.drop 8, 0) := by unfold rU64; rw [show (8 : Int) = ((8 : Nat) : Int) from rfl, fx_ok _ 8 h (by decide)]
theorem rU64_short (l : List UInt8) (h : l.length < 8) : rU64 l 0 = (0, [], 10) := by unfold rU64; rw [show (8 : Int) = ((8 : Nat) : Int) from rfl, fx_torn _ 8 h]; rfl
theorem rU64_err (l : List UInt8) (e : Int) (h : e ≠ 0) : rU64 l e = (0, l, e) := by unfold rU64; rw [fx_err l e 8 h]; rfl
theorem rText_err (l : List UInt8) (e : Int) (h : e ≠ 0) : rText l e = ([], l, e) := by unfold rText; rw [rU16_err l e h]; exact fx_err l e 0 h
theorem rText_short (l : List UInt8) (h : l.length < 2) : rText l 0 = ([], [], 10) := by unfold rText; rw [rU16_short l h]; rfl
theorem rText_torn (l : List UInt8) (h : 2 ≤ l.length) (h2 : l.length < 2 + ofBe (l.take 2)) : rText l 0 = ([], [], 10) := by
  unfold rText; rw [rU16_ok l h]; exact fx_torn _ _ (by rw [List.length_drop]; omega)
theorem rText_ok (l : List UInt8) (h : 2 + ofBe (l.take 2) ≤ l.length) : rText l 0 = ((l.drop 2).take (ofBe (l.take 2)), l.drop (2 + ofBe (l.take 2)), 0) := by
  unfold rText; rw [rU16_ok l (by omega)]
  have := fx_any (l.drop 2) (ofBe (l.take 2)) (by rw [List.length_drop]; omega)
  rw [this, List.drop_drop]

/-- Two writers, new both. -/
theorem Wk.two (w : World) :
    Wk ((w.alloc (.cells #[.slice none 0 0, .int .i64 0] 59)).alloc (.cells #[.slice none 0 0, .int .i64 0] 59)) ((w.alloc (.cells #[.slice none 0 0, .int .i64 0] 59)).alloc (.cells #[.slice none 0 0, .int .i64 0] 59)) w.heap.size [] ∧
    Wk ((w.alloc (.cells #[.slice none 0 0, .int .i64 0] 59)).alloc (.cells #[.slice none 0 0, .int .i64 0] 59)) ((w.alloc (.cells #[.slice none 0 0, .int .i64 0] 59)).alloc (.cells #[.slice none 0 0, .int .i64 0] 59)) (w.heap.size + 1) [] := by
  refine ⟨⟨none, ⟨_, heap_alloc_lt (heap_alloc_new w _) _, World.ownsRow_nil _ _ _ _, rfl⟩, Newer.refl _ _, Upd.refl _ _⟩, ⟨none, ⟨_, heap_alloc_new2 w _ _, World.ownsRow_nil _ _ _ _, rfl⟩, Newer.refl _ _, Upd.refl _ _⟩⟩
/-- A writer that something else passes by. -/
theorem Wk.keep {w0 w w' : World} {b : Nat} {bs : List UInt8} {F : Nat → Prop} (h : Wk w0 w b bs) (hu : Upd F w w') (hb : ¬ F b) (hg : ∀ g, w0.heap.size ≤ g → ¬ F g) : ∃ r, Wr w' b r bs 0 ∧ Newer w0 none r := by
  obtain ⟨r, ⟨v, hh, hown, hr⟩, hn, hu0⟩ := h
  refine ⟨r, ⟨v, hu.heap hh hb, hu.owns hown (fun k hk => ?_), hr⟩, hn⟩
  rcases hn with rfl | ⟨g, rfl, hge⟩
  · rw [hr] at hk; simp at hk
  · rw [hr] at hk; simp at hk; subst hk; exact hg _ hge
/-- It begins anew, from the world at hand. -/
theorem Wk.anew {w0 w : World} {b : Nat} (h : Wk w0 w b []) (w' : World) (F : Nat → Prop) (hu : Upd F w w') (hb : ¬ F b) (hr : ∃ v, w.heap[b]? = some (.cells #[v, .int .i64 0] 59 (0, 0)) ∧ v.ownBlock = none ∧ w.ownsRow 0 5 1 v 0 []) : Wk w' w' b [] := by
  obtain ⟨v, hh, hv, ho⟩ := hr
  exact ⟨none, ⟨v, hu.heap hh hb, hu.owns ho (fun k hk => by rw [hv] at hk; simp at hk), hv⟩, Newer.refl _ _, Upd.refl _ _⟩
/-- A new writer, as it lies in memory. -/
theorem Wk.lies {w : World} {b : Nat} (hh : w.heap[b]? = some (.cells #[.slice none 0 0, .int .i64 0] 59 (0, 0))) : Wk w w b [] :=
  ⟨none, ⟨_, hh, World.ownsRow_nil _ _ _ _, rfl⟩, Newer.refl _ _, Upd.refl _ _⟩

end Go.Proofs.Ytlhjhkmmgkfmpaa
