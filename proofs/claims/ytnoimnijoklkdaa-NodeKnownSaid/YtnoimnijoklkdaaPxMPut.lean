/- Texts that belong together: YtnoimnijoklkdaaCrc, YtnoimnijoklkdaaSeal1, YtnoimnijoklkdaaPxMPut. -/
import Derived.Test.YtnoimnijoklkdaaCodecP
import Derived.Laws.BitsAllLaws
import Derived.Test.YtnoimnijoklkdaaPx0
import Derived.Test.YtnoimnijoklkdaaPx4
import Derived.Test.YtnoimnijoklkdaaPxMay
/- Sums of 32 bits: what the table reckons is what the bits do. -/
set_option linter.unusedVariables false
set_option linter.unusedSimpArgs false
namespace Go.Proofs.Ytnoimnijoklkdaa
open Go.RowKit

namespace Crc
def bit1 (c : Nat) : Nat := if c % 2 = 1 then c / 2 ^^^ 2197175160 else c / 2
def rounds : Nat → Nat → Nat
  | 0, c => c
  | k + 1, c => bit1 (rounds k c)
def turn (c : Nat) : Nat := 4294967295 - c
def step (c : Nat) (b : UInt8) : Nat := rounds 8 (c ^^^ b.toNat)
def run (c : Nat) (l : List UInt8) : Nat := l.foldl step c
def upd (c : Nat) (l : List UInt8) : Nat := turn (run (turn c) l)
def sum (l : List UInt8) : Nat := upd 0 l

theorem lt32_xor {a b : Nat} (ha : a < 4294967296) (hb : b < 4294967296) : a ^^^ b < 4294967296 := Nat.xor_lt_two_pow (n := 32) ha hb
theorem bit1_lt {c : Nat} (h : c < 4294967296) : bit1 c < 4294967296 := by
  unfold bit1; split
  · exact lt32_xor (by omega) (by decide)
  · omega
theorem rounds_lt {c : Nat} (h : c < 4294967296) (k : Nat) : rounds k c < 4294967296 := by
  induction k with
  | zero => exact h
  | succ k ih => exact bit1_lt ih
theorem u8_lt32 (b : UInt8) : b.toNat < 4294967296 := by have := b.toNat_lt; omega
theorem step_lt {c : Nat} (h : c < 4294967296) (b : UInt8) : step c b < 4294967296 := rounds_lt (lt32_xor h (u8_lt32 b)) 8
end Crc

end Go.Proofs.Ytnoimnijoklkdaa

/- Numbers as bytes: the reference's own. -/
set_option linter.unusedVariables false
set_option linter.unusedSimpArgs false
namespace Go.Proofs.Ytnoimnijoklkdaa
open Go.RowKit

theorem be_len (i n : Nat) : (be i n).length = i := by simp [be]

end Go.Proofs.Ytnoimnijoklkdaa

/- message.Put for the printer: a message's text. -/
set_option linter.unusedVariables false
set_option linter.unusedSimpArgs false
namespace Go.Proofs.Ytnoimnijoklkdaa.Px
open Go.RowKit Go.Proofs.YtnoimnijoklkdaaW.PrintWords Go.Proofs.YtnoimnijoklkdaaW.PrintLast

def tx (s : ByteArray) : List UInt8 := be 2 s.size ++ s.data.toList
theorem tx_len (s : ByteArray) : (tx s).length = s.size + 2 := by
  unfold tx
  rw [List.length_append, be_len, ← Lib.size_eq]; omega
theorem Wk_TextB {w0 w : World} {b : Nat} {bs : List UInt8} (h : Wk w0 w b bs) (s : ByteArray) (hb : bs.length ≤ 900000000) (hl : s.size ≤ 65535) :
    Calls Try.prog 72 #[.pointer (some ⟨b, 0, none⟩), .string s] w fun e w' => e = .returned (.tuple #[]) ∧ Wk w0 w' b (bs ++ tx s) := by
  have := Wk_Text h s.data.toList hb (by rw [← Lib.size_eq]; exact hl)
  rw [mk_ba, ← Lib.size_eq, List.append_assoc] at this
  exact this
/-- A message's text. -/
def putM (op : Int) (k t v : ByteArray) : List UInt8 := be 1 op.toNat ++ tx k ++ (if op = 3 then tx t else if op = 2 then [] else tx v)

theorem mayB_op {op : Int} {k t v : ByteArray} (h : mayB op k t v = true) : 1 ≤ op ∧ op ≤ 4 ∧ k.size ≤ 108 ∧ 1 ≤ k.size ∧ (op = 3 → t.size ≤ 108) := by
  unfold mayB at h
  have key : ∀ s, keyB s = true → 1 ≤ s.size ∧ s.size ≤ 108 := fun s hs => by unfold keyB at hs; simpa using hs
  split at h
  · cases h
  · rename_i hk
    have hk2 := key k (by simpa using hk)
    split at h
    · subst_vars; exact ⟨by decide, by decide, hk2.2, hk2.1, fun h => by omega⟩
    · split at h
      · subst_vars; exact ⟨by decide, by decide, hk2.2, hk2.1, fun h => by omega⟩
      · split at h
        · subst_vars; exact ⟨by decide, by decide, hk2.2, hk2.1, fun h => by omega⟩
        · split at h
          · subst_vars
            simp only [Bool.and_eq_true] at h
            exact ⟨by decide, by decide, hk2.2, hk2.1, fun _ => (key t h.2.1).2⟩
          · cases h

set_option maxHeartbeats 4000000 in
set_option maxRecDepth 100000 in
theorem mput_no (op : Int) (k t v : ByteArray) (w : World) (hv : v.size ≤ 60000) (hm : mayB op k t v = false) :
    Calls Try.prog 74 #[.agg #[.int .i64 op, .string k, .string t, .string v]] w fun e w' => e = .returned (.tuple #[.string ⟨#[]⟩, .int .i64 4]) ∧ Upd (fun _ => False) w w' := by
  have hum := Try.underlying59
  have u0 := (Upd.refl (fun _ => False) w).alloc (.cells #[.int .i64 op, .string k, .string t, .string v] 59)
  have hM := fun w => may_walk op k t v w (by omega)
  rw [hm] at hM
  have HM := Lib.hid hM
  clear hM
  go_enter Try.func74, Try.ntmps74
  go_wp2_with (fail)
  refine (HM.out _).mono ?_
  rintro e w1 ⟨rfl, u1⟩
  go_wp2
  go_ret2
  exact ⟨rfl, u0.trans u1 (fun _ _ f => f)⟩

set_option maxHeartbeats 4000000 in
set_option maxRecDepth 100000 in
theorem mput_yes (op : Int) (k t v : ByteArray) (w : World) (hv : v.size ≤ 60000) (hm : mayB op k t v = true) :
    Calls Try.prog 74 #[.agg #[.int .i64 op, .string k, .string t, .string v]] w fun e w' => e = .returned (.tuple #[.string ⟨(putM op k t v).toArray⟩, .int .i64 0]) ∧ Upd (fun _ => False) w w' := by
  have hum := Try.underlying59
  have huw := Try.underlying118
  obtain ⟨ho1, ho4, hk, hk1, ht⟩ := mayB_op hm
  obtain ⟨n, rfl⟩ := Int.eq_ofNat_of_zero_le (show 0 ≤ op by omega)
  have hB := heap_alloc_new w (.cells #[.int .i64 n, .string k, .string t, .string v] 59)
  have u0 := (Upd.refl (fun _ => False) w).alloc (.cells #[.int .i64 n, .string k, .string t, .string v] 59)
  have hM := fun w => may_walk n k t v w (by omega)
  rw [hm] at hM
  have HM := Lib.hid hM
  have hu8 : IntKind.u8.wrap (n : Int) = (n : Int) := IntWalk.u8_in _ (by omega)
  have HP : Hid (putM (n : Int) k t v = be 1 n ++ tx k ++ (if (n : Int) = 3 then tx t else if (n : Int) = 2 then [] else tx v)) := Lib.hid (by unfold putM; rw [Int.toNat_natCast])
  generalize putM (n : Int) k t v = PUT at *
  clear hM hm
  go_enter Try.func74, Try.ntmps74
  go_wp2_with (fail)
  refine (HM.out _).mono ?_
  rintro e w1 ⟨rfl, u1⟩
  have hB1 := u1.heap hB (fun f => f)
  have lB := lt_of_heap hB1
  have U1 := Lib.hid (u0.trans u1 (fun _ _ f => f))
  have hBW := heap_alloc_lt hB1 (.cells #[.slice none 0 0, .int .i64 0] 118)
  have d0 := cell_heap hBW 0 (.int .i64 n) rfl
  have k0 := Wk.new w1
  have nb : w.heap.size ≠ w1.heap.size := by omega
  have NB := Lib.hid nb
  have LB := Lib.hid lB
  clear u0 u1 hB hB1
  go_wp2_with (fail)
  refine (Wk_U8 k0 _ n rfl (by unfold Two8; omega) (by simp)).mono ?_
  rintro e w2 ⟨rfl, k1⟩
  have hx := k1.heap hBW nb
  have d1 := cell_heap hx 1 (.string k) rfl
  rw [List.nil_append] at k1
  go_wp2_with (fail)
  refine (Wk_TextB k1 k (by rw [be_len]; omega) (by omega)).mono ?_
  rintro e w3 ⟨rfl, k2⟩
  have hx := k2.heap hBW nb
  have d0 := cell_heap hx 0 (.int .i64 n) rfl
  have d2 := cell_heap hx 2 (.string t) rfl
  have d3 := cell_heap hx 3 (.string v) rfl
  have U2 := Lib.hid ((U1.out.alloc (.cells #[.slice none 0 0, .int .i64 0] 118)).trans k2.upd (fun j hj f => absurd f (by have := LB.out; omega)))
  have K2 := Lib.hid k2
  clear k0 k1 k2 hx hBW nb lB
  have hl : (be 1 n ++ tx k).length ≤ 200 := by rw [List.length_append, be_len, tx_len]; omega
  have HL := Lib.hid hl
  clear hl
  by_cases c3 : n = 3
  · subst c3
    have ht3 := Lib.hid (ht rfl)
    clear ht ho1 ho4 hk hk1
    replace HP := Lib.hid (HP.out.trans (congrArg _ (if_pos rfl)))
    have o1 : ((3 : Int) == 3) = true := rfl
    go_wp2_with (fail)
    refine (Wk_TextB K2.out t (by have := HL.out; omega) (by have := ht3.out; omega)).mono ?_
    rintro e w4 ⟨rfl, k3⟩
    go_wp2_with (fail)
    refine (Wk_Bytes k3 (by rw [List.length_append, tx_len]; have := HL.out; have := ht3.out; omega)).mono ?_
    rintro e w5 ⟨rfl, rfl⟩
    go_wp2
    go_ret2
    exact ⟨by rw [HP.out]; rfl, (U1.out.alloc (.cells #[.slice none 0 0, .int .i64 0] 118)).trans k3.upd (fun j hj f => absurd f (by have := LB.out; omega))⟩
  · by_cases c2 : n = 2
    · subst c2
      clear ht ho1 ho4 hk hk1 hv
      replace HP := Lib.hid (HP.out.trans (congrArg _ ((if_neg (by decide)).trans (if_pos rfl))))
      have o1 : ((2 : Int) == 3) = false := rfl
      have o2 : ((2 : Int) == 1) = false := rfl
      have o3 : ((2 : Int) == 4) = false := rfl
      go_wp2_with (fail)
      refine (Wk_Bytes K2.out (by have := HL.out; omega)).mono ?_
      rintro e w5 ⟨rfl, rfl⟩
      go_wp2
      go_ret2
      exact ⟨by rw [HP.out, List.append_nil]; rfl, U2.out⟩
    · replace HP := Lib.hid (HP.out.trans (congrArg _ ((if_neg (by omega)).trans (if_neg (by omega)))))
      have HV := Lib.hid hv
      have o1 : ((n : Int) == 3) = false := by simp; omega
      have hn : n = 1 ∨ n = 4 := by omega
      clear c3 c2 ht ho1 ho4 hk hk1 hv
      rcases hn with rfl | rfl
      · have o2 : (((1 : Nat) : Int) == 1) = true := rfl
        have o3 : ((1 : Int) == 1) = true := rfl
        have o4 : ((1 : Int) == 3) = false := rfl
        go_wp2_with (fail)
        refine (Wk_TextB K2.out v (by have := HL.out; omega) (by have := HV.out; omega)).mono ?_
        rintro e w4 ⟨rfl, k3⟩
        go_wp2_with (fail)
        refine (Wk_Bytes k3 (by rw [List.length_append, tx_len]; have := HL.out; have := HV.out; omega)).mono ?_
        rintro e w5 ⟨rfl, rfl⟩
        go_wp2
        go_ret2
        exact ⟨by rw [HP.out]; rfl, (U1.out.alloc (.cells #[.slice none 0 0, .int .i64 0] 118)).trans k3.upd (fun j hj f => absurd f (by have := LB.out; omega))⟩
      · have o3 : ((4 : Int) == 1) = false := rfl
        have o2 : ((4 : Int) == 4) = true := rfl
        have o4 : ((4 : Int) == 3) = false := rfl
        go_wp2_with (fail)
        refine (Wk_TextB K2.out v (by have := HL.out; omega) (by have := HV.out; omega)).mono ?_
        rintro e w4 ⟨rfl, k3⟩
        go_wp2_with (fail)
        refine (Wk_Bytes k3 (by rw [List.length_append, tx_len]; have := HL.out; have := HV.out; omega)).mono ?_
        rintro e w5 ⟨rfl, rfl⟩
        go_wp2
        go_ret2
        exact ⟨by rw [HP.out]; rfl, (U1.out.alloc (.cells #[.slice none 0 0, .int .i64 0] 118)).trans k3.upd (fun j hj f => absurd f (by have := LB.out; omega))⟩

def message_Put.f (op : Int) (k t v : ByteArray) : Option (ByteArray × Int) := if v.size ≤ 60000 then (if mayB op k t v = true then some (⟨(putM op k t v).toArray⟩, 0) else some (⟨#[]⟩, 4)) else none
theorem message_Put.calls (a0_0 : Int) (a0_1 a0_2 a0_3 : ByteArray) (r1 : ByteArray) (r2 : Int) (w : World) (h : message_Put.f a0_0 a0_1 a0_2 a0_3 = some (r1, r2)) :
    Calls Try.prog 74 #[.agg #[.int .i64 a0_0, .string a0_1, .string a0_2, .string a0_3]] w fun e w' => e = .returned (.tuple #[.string r1, .int .i64 r2]) ∧ Below w.heap.size w w' := by
  unfold message_Put.f at h
  split at h
  · rename_i hv
    split at h
    · rename_i hm
      obtain ⟨rfl, rfl⟩ := Prod.mk.inj (Option.some.inj h)
      exact (mput_yes a0_0 a0_1 a0_2 a0_3 w hv hm).mono fun e w' ⟨he, hu⟩ => ⟨he, hu.below (Nat.le_refl _) (fun _ f => f.elim)⟩
    · rename_i hm
      obtain ⟨rfl, rfl⟩ := Prod.mk.inj (Option.some.inj h)
      exact (mput_no a0_0 a0_1 a0_2 a0_3 w hv (by simpa using hm)).mono fun e w' ⟨he, hu⟩ => ⟨he, hu.below (Nat.le_refl _) (fun _ f => f.elim)⟩
  · cases h
end Go.Proofs.Ytnoimnijoklkdaa.Px
