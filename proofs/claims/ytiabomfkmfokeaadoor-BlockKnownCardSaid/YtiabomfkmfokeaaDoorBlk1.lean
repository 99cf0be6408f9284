/- The contracts of package block, and of its reference: what needs no writer. -/
import Derived.Test.YtiabomfkmfokeaaDoorBlk0
import Derived.Test.YtiabomfkmfokeaaDoorCodecK
set_option linter.unusedVariables false
set_option linter.unusedSimpArgs false
namespace Go.Proofs.YtiabomfkmfokeaaDoor
open Go.RowKit

theorem ret_int {k : IntKind} {a b : Int} (h : a = b) : Ending.returned (.int k a) = .returned (.int k b) := by rw [h]
theorem ret_bool {a b : Bool} (h : a = b) : Ending.returned (.bool a) = .returned (.bool b) := by rw [h]
theorem ret_str' {a b : ByteArray} (h : a = b) : Ending.returned (.string a) = .returned (.string b) := by rw [h]
theorem ret_str {a b : List UInt8} (h : a = b) : Ending.returned (.string ⟨a.toArray⟩) = .returned (.string ⟨b.toArray⟩) := by rw [h]


theorem block_Check (l : List UInt8) (w : World) (hl : l.length ≤ 1000000000) :
    Calls Tryd.prog 17 #[.string ⟨l.toArray⟩] w fun e w' => e = .returned (.int .i64 (Blk.check l)) ∧ w = w' := by
  by_cases h0 : l.length = 0
  · obtain rfl : l = [] := List.eq_nil_of_length_eq_zero h0
    go_enter Tryd.func17, Tryd.ntmps17
    go_wp2
    go_ret
    exact ⟨rfl, rfl⟩
  · have h1 : 0 < l.length := by omega
    have h3 : l.isEmpty = false := by cases l <;> simp at h0 ⊢
    have he : ((l.length : Int) == 0) = false := beq_eq_false_iff_ne.2 (by omega)
    have hlast := Blk.getLastD_eq l (by omega) 1
    by_cases h4 : 64 < l.length
    · have HC : Hid (Blk.check l = 4) := by unfold Blk.check; rw [if_neg h0, if_pos h4]; rfl
      clear hlast h0
      go_enter Tryd.func17, Tryd.ntmps17
      go_wp2
      go_ret
      exact ⟨ret_int HC.out.symm, rfl⟩
    · by_cases h6 : l.getLastD 1 = 0
      · have HC : Hid (Blk.check l = 4) := by unfold Blk.check; rw [if_neg h0, if_neg h4, if_pos h6]; rfl
        have ht : ∀ h, ((((⟨l.toArray⟩ : ByteArray)[l.length - 1]'h).toNat : Int) == 0) = true := fun h => by
          have : (⟨l.toArray⟩ : ByteArray)[l.length - 1]'h = l[l.length - 1] := rfl
          rw [this, ← hlast, h6]; rfl
        clear hlast h0 h6
        go_enter Tryd.func17, Tryd.ntmps17
        go_wp2
        go_ret
        exact ⟨ret_int HC.out.symm, rfl⟩
      · have HC : Hid (Blk.check l = 0) := by unfold Blk.check; rw [if_neg h0, if_neg h4, if_neg h6]; rfl
        have ht : ∀ h, ((((⟨l.toArray⟩ : ByteArray)[l.length - 1]'h).toNat : Int) == 0) = false := fun h => by
          have : (⟨l.toArray⟩ : ByteArray)[l.length - 1]'h = l[l.length - 1] := rfl
          rw [this, ← hlast, beq_eq_false_iff_ne]; intro hh; exact h6 (UInt8.toNat_inj.1 (by rw [show (0 : UInt8).toNat = 0 from rfl]; omega))
        clear hlast h0 h6
        go_enter Tryd.func17, Tryd.ntmps17
        go_wp2
        go_ret
        exact ⟨ret_int HC.out.symm, rfl⟩

def strSize : Value → Nat | .string b => b.size | _ => 0

set_option maxHeartbeats 400000 in
theorem trimRightByte (l : List UInt8) (c : UInt8) (w : World) (hl : l.length ≤ 1000000000) :
    Calls Tryd.prog 52 #[.string ⟨l.toArray⟩, .int .u8 c.toNat] w fun e w' => e = .returned (.string ⟨(Blk.trimB c l).toArray⟩) ∧ w = w' := by
  go_enter Tryd.func52, Tryd.ntmps52
  go_wp2
  go_loop [0] (fun s => ∃ cur : List UInt8, s = .string ⟨cur.toArray⟩ ∧ cur.length ≤ l.length ∧ Hid (Blk.trimB c cur = Blk.trimB c l)) (fun s => strSize s)
  case atStart => exact ⟨l, rfl, Nat.le_refl _, rfl⟩
  case round =>
    obtain ⟨cur, rfl, hcl, HT⟩ := hrel
    by_cases h0 : cur.length = 0
    · obtain rfl : cur = [] := List.eq_nil_of_length_eq_zero h0
      go_wp2
      go_ret
      exact ⟨ret_str HT.out, rfl⟩
    · have h1 : 0 < cur.length := by omega
      have h9 : cur.length - 1 < cur.length := by omega
      by_cases hx : cur[cur.length - 1] = c
      · have ht : ∀ h, ((((⟨cur.toArray⟩ : ByteArray)[cur.length - 1]'h).toNat : Int) == (c.toNat : Int)) = true := fun h => by
          have : (⟨cur.toArray⟩ : ByteArray)[cur.length - 1]'h = cur[cur.length - 1] := rfl
          rw [this, hx]; simp
        have HX := Lib.hid hx
        clear hx h0
        go_wp2
        go_round
        case rel => exact ⟨cur.take (cur.length - 1), by rw [ext_list]; simp, by simp; omega, (Blk.trimB_last h9 HX.out).trans HT.out⟩
        case measure => rw [ext_list]; simp [strSize, size_list]; omega
      · have ht : ∀ h, ((((⟨cur.toArray⟩ : ByteArray)[cur.length - 1]'h).toNat : Int) == (c.toNat : Int)) = false := fun h => by
          have : (⟨cur.toArray⟩ : ByteArray)[cur.length - 1]'h = cur[cur.length - 1] := rfl
          rw [this, beq_eq_false_iff_ne]; intro hh; exact hx (UInt8.toNat_inj.1 (by omega))
        have HX := Lib.hid hx
        clear hx h0
        go_wp2
        go_ret
        exact ⟨ret_str (by rw [← HT.out, Blk.trimB_stop h9 HX.out]), rfl⟩

set_option maxRecDepth 100000 in
theorem strings_TrimRight (l : List UInt8) (w : World) (hl : l.length ≤ 1000000000) :
    Calls Tryd.prog 38 #[.string ⟨l.toArray⟩, .string ⟨#[0]⟩] w fun e w' => e = .returned (.string ⟨(Blk.trim l).toArray⟩) ∧ w = w' := by
  by_cases h0 : l.length = 0
  · obtain rfl : l = [] := List.eq_nil_of_length_eq_zero h0
    go_enter Tryd.func38, Tryd.ntmps38
    go_wp2
    go_ret
    exact ⟨rfl, rfl⟩
  · have h3 : l.isEmpty = false := by cases l <;> simp at h0 ⊢
    clear h0
    go_enter Tryd.func38, Tryd.ntmps38
    go_wp2_with (go_at_call 52; refine (trimRightByte l 0 _ hl).mono ?_; rintro e w' ⟨rfl, rfl⟩)
    go_ret
    exact ⟨rfl, rfl⟩

theorem block_Trim (l : List UInt8) (w : World) (hl : l.length ≤ 1000000000) :
    Calls Tryd.prog 19 #[.string ⟨l.toArray⟩] w fun e w' => e = .returned (.string ⟨(Blk.trim l).toArray⟩) ∧ w = w' := by
  go_enter Tryd.func19, Tryd.ntmps19
  go_wp2_with (go_at_call 38; refine (strings_TrimRight l _ hl).mono ?_; rintro e w' ⟨rfl, rfl⟩)
  go_ret
  exact ⟨rfl, rfl⟩

theorem ref_Check (l : List UInt8) (w : World) (hl : l.length ≤ 1000000000) :
    Calls Tryd.prog 18 #[.string ⟨l.toArray⟩] w fun e w' => e = .returned (.int .i64 (Blk.check l)) ∧ w = w' := by
  by_cases h0 : l.length = 0
  · obtain rfl : l = [] := List.eq_nil_of_length_eq_zero h0
    go_enter Tryd.func18, Tryd.ntmps18
    go_wp2
    go_ret
    exact ⟨rfl, rfl⟩
  · have h1 : 0 < l.length := by omega
    have h3 : l.isEmpty = false := by cases l <;> simp at h0 ⊢
    have he : ((l.length : Int) == 0) = false := beq_eq_false_iff_ne.2 (by omega)
    have hlast := Blk.getLastD_eq l (by omega) 1
    by_cases h4 : 64 < l.length
    · have HC : Hid (Blk.check l = 4) := by unfold Blk.check; rw [if_neg h0, if_pos h4]; rfl
      clear hlast h0
      go_enter Tryd.func18, Tryd.ntmps18
      go_wp2
      go_ret
      exact ⟨ret_int HC.out.symm, rfl⟩
    · by_cases h6 : l.getLastD 1 = 0
      · have HC : Hid (Blk.check l = 4) := by unfold Blk.check; rw [if_neg h0, if_neg h4, if_pos h6]; rfl
        have ht : ∀ h, ((((⟨l.toArray⟩ : ByteArray)[l.length - 1]'h).toNat : Int) == 0) = true := fun h => by
          have : (⟨l.toArray⟩ : ByteArray)[l.length - 1]'h = l[l.length - 1] := rfl
          rw [this, ← hlast, h6]; rfl
        clear hlast h0 h6
        go_enter Tryd.func18, Tryd.ntmps18
        go_wp2
        go_ret
        exact ⟨ret_int HC.out.symm, rfl⟩
      · have HC : Hid (Blk.check l = 0) := by unfold Blk.check; rw [if_neg h0, if_neg h4, if_neg h6]; rfl
        have ht : ∀ h, ((((⟨l.toArray⟩ : ByteArray)[l.length - 1]'h).toNat : Int) == 0) = false := fun h => by
          have : (⟨l.toArray⟩ : ByteArray)[l.length - 1]'h = l[l.length - 1] := rfl
          rw [this, ← hlast, beq_eq_false_iff_ne]; intro hh; exact h6 (UInt8.toNat_inj.1 (by rw [show (0 : UInt8).toNat = 0 from rfl]; omega))
        clear hlast h0 h6
        go_enter Tryd.func18, Tryd.ntmps18
        go_wp2
        go_ret
        exact ⟨ret_int HC.out.symm, rfl⟩

set_option maxHeartbeats 400000 in
theorem ref_Trim (l : List UInt8) (w : World) (hl : l.length ≤ 1000000000) :
    Calls Tryd.prog 20 #[.string ⟨l.toArray⟩] w fun e w' => e = .returned (.string ⟨(Blk.trim l).toArray⟩) ∧ w = w' := by
  go_enter Tryd.func20, Tryd.ntmps20
  go_wp2
  go_loop [3] (fun n => ∃ k : Nat, n = .int .i64 k ∧ k ≤ l.length ∧ Hid (Blk.trim (l.take k) = Blk.trim l)) (fun n => (intOf n).toNat)
  case atStart => exact ⟨l.length, rfl, Nat.le_refl _, by show Blk.trim _ = _; rw [List.take_length]⟩
  case round =>
    obtain ⟨k, rfl, hk, HT⟩ := hrel
    by_cases h0 : k = 0
    · subst h0
      go_wp2
      go_ret
      exact ⟨ret_str' (by rw [← HT.out]; rfl), rfl⟩
    · have h1 : 0 < k := by omega
      have h9 : k - 1 < l.length := by omega
      by_cases hx : l[k - 1] = 0
      · have ht : ∀ h, ((((⟨l.toArray⟩ : ByteArray)[k - 1]'h).toNat : Int) == 0) = true := fun h => by
          have : (⟨l.toArray⟩ : ByteArray)[k - 1]'h = l[k - 1] := rfl
          rw [this, hx]; rfl
        have HX := Lib.hid hx
        clear hx h0
        go_wp2
        go_round
        case rel =>
          refine ⟨k - 1, by go_num, by omega, ?_⟩
          show Blk.trim _ = _
          rw [← HT.out]
          have := @Blk.trimB_last (l.take k) 0 (by simp; omega) (by simp [Nat.min_eq_left hk]; exact HX.out)
          rw [show (l.take k).take ((l.take k).length - 1) = l.take (k - 1) by rw [List.take_take]; simp; omega] at this
          exact this
        case measure => simp [intOf]; omega
      · have ht : ∀ h, ((((⟨l.toArray⟩ : ByteArray)[k - 1]'h).toNat : Int) == 0) = false := fun h => by
          have : (⟨l.toArray⟩ : ByteArray)[k - 1]'h = l[k - 1] := rfl
          rw [this, beq_eq_false_iff_ne]; intro hh; exact hx (UInt8.toNat_inj.1 (by rw [show (0 : UInt8).toNat = 0 from rfl]; omega))
        have HX := Lib.hid hx
        clear hx h0
        go_wp2
        go_ret
        refine ⟨?_, rfl⟩
        have := @Blk.trimB_stop (l.take k) 0 (by simp; omega) (by simp [Nat.min_eq_left hk]; exact HX.out)
        show Ending.returned (.string ((⟨l.toArray⟩ : ByteArray).extract 0 _)) = _
        rw [ext_list]
        exact ret_str (by rw [← HT.out]; show _ = Blk.trimB 0 _; rw [this]; simp)

theorem ref_byteAt (l : List UInt8) (i : Int) (k : Nat) (w : World) (hi : i = k) (hl : l.length ≤ 1000000000) (hk : k ≤ 2000000000) :
    Calls Tryd.prog 37 #[.string ⟨l.toArray⟩, .int .i64 i] w fun e w' => e = .returned (.int .u8 ((Blk.byteAt l k).toNat : Int)) ∧ w = w' := by
  subst hi
  by_cases h : k < l.length
  · go_enter Tryd.func37, Tryd.ntmps37
    go_wp2
    go_ret
    refine ⟨ret_int ?_, rfl⟩
    simp [Blk.byteAt, h, List.getD]
    rfl
  · go_enter Tryd.func37, Tryd.ntmps37
    go_wp2
    go_ret
    refine ⟨ret_int ?_, rfl⟩
    simp [Blk.byteAt, List.getD, List.getElem?_eq_none (show l.length ≤ k by omega)]

end Go.Proofs.YtiabomfkmfokeaaDoor
