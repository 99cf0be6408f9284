/- strings.ContainsAny(s, "\x00/:") at any bytes, no condition on s but its size. -/
import Derived.Test.YtlhjhkmmgkfmpaaBase
import Derived.Test.YtlhjhkmmgkfmpaaShelf
import Derived.Lib.OthersKept
import Derived.Laws.RangeAny
import Derived.WalkMore
set_option linter.unusedVariables false
set_option linter.unusedSimpArgs false
namespace Go.Proofs.Ytlhjhkmmgkfmpaa
open Go.RowKit

/-- What is told of a byte beyond ASCII. -/
def Far (s : ByteArray) (i : Nat) (D : Nat × Nat) : Prop :=
  128 ≤ D.1 ∧ 1 ≤ D.2 ∧ i + D.2 ≤ s.size ∧ (D.1 = 65533 ∨ Utf8.valid D.1 = true) ∧ ∀ j, i ≤ j → j < i + D.2 → 128 ≤ (s.get! j).toNat
theorem Far.mk {s : ByteArray} {i : Nat} (c n : Nat) (h1 : 128 ≤ c) (h2 : 1 ≤ n) (h3 : i + n ≤ s.size) (h4 : c = 65533 ∨ Utf8.valid c = true) (h5 : ∀ j, i ≤ j → j < i + n → 128 ≤ (s.get! j).toNat) : Far s i (c, n) := ⟨h1, h2, h3, h4, h5⟩
theorem valid_low (c : Nat) (h : c < 2048) : Utf8.valid c = true := by
  unfold Utf8.valid
  simp only [Bool.or_eq_true, Bool.and_eq_true, decide_eq_true_eq]
  omega
theorem far_two (x : Nat) (h : x / 64 = 2) : 128 ≤ x := by omega
theorem lt64 (x : Nat) : x % 64 < 64 := Nat.mod_lt _ (by decide)
theorem low_two (a b : Nat) : a % 32 * 64 + b % 64 < 2048 := by omega

set_option maxHeartbeats 1000000 in
/-- What stands at a byte beyond ASCII: a rune beyond ASCII, and all its bytes are beyond ASCII. -/
theorem decode_far (s : ByteArray) (i : Nat) (h : i < s.size) (ha : 128 ≤ (s[i]'h).toNat) : Far s i (Utf8.decode s i) := by
  have e0 : (s.get! (i + 0)).toNat = (s[i]'h).toNat := congrArg _ (get_at s i h)
  have hb0 : ¬ (s.get! (i + 0)).toNat < 128 := by rw [e0]; omega
  have one : ∀ j, i ≤ j → j < i + 1 → 128 ≤ (s.get! j).toNat := fun j h1 h2 => by rw [show j = i + 0 by omega]; omega
  have err : Far s i (Utf8.runeError, 1) := Far.mk _ _ (by decide) (by decide) (by omega) (Or.inl rfl) one
  unfold Utf8.decode
  simp only [hb0, if_false]
  split
  · rename_i hc
    simp only [Bool.and_eq_true, beq_iff_eq, decide_eq_true_eq] at hc
    obtain ⟨_, hc1, hc2⟩ := hc
    split
    · rename_i h2
      exact Far.mk _ _ h2 (by decide) (by omega) (Or.inr (valid_low _ (low_two _ _))) (fun j h3 h4 => by
        rcases (by omega : j = i + 0 ∨ j = i + 1) with rfl | rfl
        · exact Nat.le_of_not_lt hb0
        · exact far_two _ hc2)
    · exact err
  · split
    · rename_i hc
      simp only [Bool.and_eq_true, beq_iff_eq, decide_eq_true_eq] at hc
      obtain ⟨⟨_, hc1, hc2⟩, hc3, hc4⟩ := hc
      split
      · rename_i h2
        simp only [Bool.and_eq_true, decide_eq_true_eq] at h2
        exact Far.mk _ _ (Nat.le_trans (by decide) h2.1) (by decide) (by omega) (Or.inr h2.2) (fun j h3 h4 => by
          rcases (by omega : j = i + 0 ∨ j = i + 1 ∨ j = i + 2) with rfl | rfl | rfl
          · exact Nat.le_of_not_lt hb0
          · exact far_two _ hc2
          · exact far_two _ hc4)
      · exact err
    · split
      · rename_i hc
        simp only [Bool.and_eq_true, beq_iff_eq, decide_eq_true_eq] at hc
        obtain ⟨⟨⟨_, hc1, hc2⟩, hc3, hc4⟩, hc5, hc6⟩ := hc
        split
        · rename_i h2
          simp only [Bool.and_eq_true, decide_eq_true_eq] at h2
          exact Far.mk _ _ (Nat.le_trans (by decide) h2.1) (by decide) (by omega) (Or.inr h2.2) (fun j h3 h4 => by
            rcases (by omega : j = i + 0 ∨ j = i + 1 ∨ j = i + 2 ∨ j = i + 3) with rfl | rfl | rfl | rfl
            · exact Nat.le_of_not_lt hb0
            · exact far_two _ hc2
            · exact far_two _ hc4
            · exact far_two _ hc6)
        · exact err
      · exact err

set_option maxHeartbeats 4000000 in
/-- A rune's bytes: two to four, the last one beyond ASCII. -/
theorem encode_far (r : Nat) (h : 128 ≤ r) : (∃ a b : UInt8, Utf8.encode r = ⟨#[a, b]⟩ ∧ 128 ≤ b.toNat) ∨ (∃ a b c : UInt8, Utf8.encode r = ⟨#[a, b, c]⟩ ∧ 128 ≤ c.toNat) ∨ ∃ a b c d : UInt8, Utf8.encode r = ⟨#[a, b, c, d]⟩ := by
  have hm : ∀ n : Nat, 128 ≤ (UInt8.ofNat (128 + n % 64)).toNat := fun n => by rw [UInt8.toNat_ofNat']; omega
  unfold Utf8.encode
  simp only [Int.toNat_natCast]
  have hc : 128 ≤ (if Utf8.valid (r : Int) = true then r else Utf8.runeError) := by split; exact h; decide
  generalize (if Utf8.valid (r : Int) = true then r else Utf8.runeError) = c at hc
  rw [if_neg (by omega)]
  split
  · exact .inl ⟨_, _, rfl, hm _⟩
  · split
    · exact .inr (.inl ⟨_, _, _, rfl, hm _⟩)
    · exact .inr (.inr ⟨_, _, _, _, rfl⟩)

def bad3 : ByteArray := ⟨#[0, 47, 58]⟩
theorem not_bad {b : UInt8} (h : 128 ≤ b.toNat) : Lib.indexByte [0, 47, 58] b = -1 ∧ Lib.indexByte [58] b = -1 := by
  have h1 : ¬ b = 0 := by rintro rfl; simp at h
  have h2 : ¬ b = 47 := by rintro rfl; simp at h
  have h3 : ¬ b = 58 := by rintro rfl; simp at h
  have h1' : ¬ (0 : UInt8) = b := fun e => h1 e.symm
  have h2' : ¬ (47 : UInt8) = b := fun e => h2 e.symm
  have h3' : ¬ (58 : UInt8) = b := fun e => h3 e.symm
  constructor <;> simp [Lib.indexByte, h1, h2, h3, h1', h2', h3']

end Go.Proofs.Ytlhjhkmmgkfmpaa

/- strings.IndexRune of a far rune in "\x00/:". -/
set_option linter.unusedVariables false
set_option linter.unusedSimpArgs false
namespace Go.Proofs.Ytlhjhkmmgkfmpaa
open Go.RowKit

theorem quiet_l {P : Program} {f : FuncId} {args : Array Value} {w : World} {n : Nat} {v : Value} (h : Calls P f args (w.drewN n) fun e w' => e = .returned v ∧ w.drewN n = w') : Calls P f args (w.drewN n) fun e w' => e = .returned v ∧ ∃ m, w' = w.drewN m :=
  h.mono fun _ _ ⟨he, hm⟩ => ⟨he, n, hm.symm⟩

theorem bad3_ascii (i : Nat) (h : i < bad3.size) : (bad3[i]'h).toNat < 128 ∧ (bad3[i]'h).toNat ≠ 65533 := by
  have : i < 3 := h
  rcases (by omega : i = 0 ∨ i = 1 ∨ i = 2) with rfl | rfl | rfl <;> (revert h; decide)

theorem Upd.iterAt {F : Nat → Prop} {a w : World} (h : Upd F a w) {k : Nat} (hk : a.heap.size ≤ k) (s : ByteArray) (pos : Nat) : Upd F a (w.iterAt k s pos) :=
  ⟨h.os, h.tape, h.output, by rw [Lib.iterAt_size]; exact h.size, fun i hi hn => (Lib.iterAt_other w k i s pos (by omega)).trans (h.block i hi hn)⟩

set_option maxHeartbeats 1600000 in
set_option maxRecDepth 100000 in
theorem rune_err (w : World) :
    Calls Try.prog 66 #[.string bad3, .int .i32 65533] w (fun e w' => e = .returned (.int .i64 (-1)) ∧ Upd (fun _ => False) w w') := by
  go_enter Try.func66, Try.ntmps66
  go_wp2
  go_loopg [5, 6] 3 (fun g _ _ wx => ∃ i : Nat, i + g = 3 ∧ wx = w.iter bad3 i)
  case atStart => exact ⟨0, rfl, rfl⟩
  case round =>
    obtain ⟨i, hig, rfl⟩ := hrel
    cases gk with
    | zero =>
      obtain rfl : i = 3 := by omega
      have hnx := fun ty => run_next_end (P := Try.prog) w bad3 3 ty (by decide)
      go_wp2
      go_ret
      exact ⟨rfl, (Upd.refl _ _).alloc _⟩
    | succ g =>
      have hi : i < bad3.size := by show i < 3; omega
      have h0 := bad3_ascii i hi
      have hnx := fun ty => run_next_ascii (P := Try.prog) w bad3 i ty hi h0.1
      have hne : ((((bad3[i]'hi).toNat : Nat) : Int) == 65533) = false := by simp; omega
      obtain ⟨x, hx⟩ : ∃ x : UInt8, bad3[i]'hi = x := ⟨_, rfl⟩
      rw [hx] at hnx hne
      clear h0 hx
      go_wp2
      go_roundg g
      case measure => omega
      case rel => exact ⟨i + 1, by omega, rfl⟩

set_option maxHeartbeats 1600000 in
set_option maxRecDepth 100000 in
theorem rune_far (r : Nat) (h : 128 ≤ r) (hv : r = 65533 ∨ Utf8.valid r = true) (w : World) :
    Calls Try.prog 66 #[.string bad3, .int .i32 r] w (fun e w' => e = .returned (.int .i64 (-1)) ∧ Upd (fun _ => False) w w') := by
  by_cases he : r = 65533
  · subst he; exact rune_err w
  have hvr : Lib.validRune r = true := by
    rcases hv with hv | hv
    · exact absurd hv he
    · unfold Utf8.valid at hv
      unfold Lib.validRune
      simp only [Bool.or_eq_true, Bool.and_eq_true, decide_eq_true_eq] at hv ⊢
      omega
  have h1 : decide ((0 : Int) ≤ (r : Int)) = true := decide_eq_true (by omega)
  have h2 : decide ((r : Int) < 128) = false := decide_eq_false (by omega)
  have h3 : ((r : Int) == 65533) = false := beq_eq_false_iff_ne.2 (by omega)
  have hE := encode_far r h
  clear hv
  generalize hx : Utf8.encode r = x at hE
  have hconv : ∀ w, (convert 21 9 (.int .i32 r)).run Try.prog w = .ok (.string x) w := fun w => by rw [← hx]; rfl
  clear hx
  rcases hE with ⟨a, b, hX, hb⟩ | ⟨a, b, c, hX, hb⟩ | ⟨a, b, c, d, hX⟩
  · have hn := (not_bad hb).2
    obtain ⟨C, hC⟩ : ∃ C, C = bad3 := ⟨_, rfl⟩
    have hw2 : IntKind.i64.wrap 2 = 2 := by decide
    have hs : (1 : Int) < (C.size : Int) := by rw [hC]; decide
    have hs3 : (2 : Int) ≤ (C.size : Int) := by rw [hC]; decide
    have hsd : decide ((1 : Int) < (C.size : Int)) = true := decide_eq_true hs
    have xs : (x.size : Int) = 2 := by rw [hX]; rfl
    have x1 : (1 : Int) < (x.size : Int) := by omega
    have hCi : ∀ h : 1 < C.size, (C[1]'h).toNat = 47 := by subst hC; intro _; rfl
    have hXi : ∀ h : 1 < x.size, (x[1]'h).toNat = b.toNat := by subst hX; intro _; rfl
    have hq : (47 != (b.toNat : Int)) = true := by simp; omega
    have hB : ∀ w, Calls Try.prog 75 #[.string (C.extract 2 C.size), .int .u8 b.toNat] w (fun e w' => e = .returned (.int .i64 (-1)) ∧ w = w') := fun w => by
      have := Try.strings_IndexByte (C.extract 2 C.size) b.toNat w
      rw [hC] at this ⊢
      have e1 : (bad3.extract 2 bad3.size).data.toList = [58] := by decide
      rw [e1, show ((b.toNat : Int).toNat.toUInt8) = b by simp, hn] at this
      exact this.mono fun _ _ ⟨h1, h2⟩ => ⟨h1, h2.symm⟩
    have HB := Lib.hid hB
    clear hB
    rw [← hC]
    have HC := Lib.hid hC
    have HX := Lib.hid hX
    clear hC hX
    go_enter Try.func66, Try.ntmps66
    go_wp2_with (refine (Try.utf8_ValidRune _ _).mono ?_; rintro e w1 ⟨rfl, hw⟩; rw [hw, hvr])
    go_step3
    go_wp2
    go_loopg [9, 10, 11, 12] 1 (fun g a9 a10 _ _ wx => g = 1 ∧ a9 = .int .i64 1 ∧ a10 = .int .i64 0 ∧ wx = w)
    case atStart => exact ⟨rfl, rfl, rfl, rfl⟩
    case round =>
      obtain ⟨rfl, rfl, rfl, rfl⟩ := hrel
      go_wp2
      go_step3
      go_wp2
      go_quiet (fail)
      go_wp2
      go_quiet ((go_at_call 75; exact (HB.out _).mono fun e w1 h => ⟨h.1, _, h.2.symm⟩))
      go_wp2
      simp only [Exit.noGoto_ret, Exit.inBlock, Exit.then]
      go_ret
      exact ⟨rfl, (Upd.refl _ _).drewN _⟩
  · have hn : Lib.indexByte [] c = -1 := rfl
    obtain ⟨C, hC⟩ : ∃ C, C = bad3 := ⟨_, rfl⟩
    have hw2 : IntKind.i64.wrap 3 = 3 := by decide
    have hs : (2 : Int) < (C.size : Int) := by rw [hC]; decide
    have hs3 : (3 : Int) ≤ (C.size : Int) := by rw [hC]; decide
    have hsd : decide ((2 : Int) < (C.size : Int)) = true := decide_eq_true hs
    have xs : (x.size : Int) = 3 := by rw [hX]; rfl
    have x1 : (2 : Int) < (x.size : Int) := by omega
    have hCi : ∀ h : 2 < C.size, (C[2]'h).toNat = 58 := by subst hC; intro _; rfl
    have hXi : ∀ h : 2 < x.size, (x[2]'h).toNat = c.toNat := by subst hX; intro _; rfl
    have hq : (58 != (c.toNat : Int)) = true := by simp; omega
    have hB : ∀ w, Calls Try.prog 75 #[.string (C.extract 3 C.size), .int .u8 c.toNat] w (fun e w' => e = .returned (.int .i64 (-1)) ∧ w = w') := fun w => by
      have := Try.strings_IndexByte (C.extract 3 C.size) c.toNat w
      rw [hC] at this ⊢
      have e1 : (bad3.extract 3 bad3.size).data.toList = [] := by decide
      rw [e1, show ((c.toNat : Int).toNat.toUInt8) = c by simp, hn] at this
      exact this.mono fun _ _ ⟨h1, h2⟩ => ⟨h1, h2.symm⟩
    have HB := Lib.hid hB
    clear hB
    rw [← hC]
    have HC := Lib.hid hC
    have HX := Lib.hid hX
    clear hC hX
    go_enter Try.func66, Try.ntmps66
    go_wp2_with (refine (Try.utf8_ValidRune _ _).mono ?_; rintro e w1 ⟨rfl, hw⟩; rw [hw, hvr])
    go_step3
    go_wp2
    go_loopg [9, 10, 11, 12] 1 (fun g a9 a10 _ _ wx => g = 1 ∧ a9 = .int .i64 2 ∧ a10 = .int .i64 0 ∧ wx = w)
    case atStart => exact ⟨rfl, rfl, rfl, rfl⟩
    case round =>
      obtain ⟨rfl, rfl, rfl, rfl⟩ := hrel
      go_wp2
      go_step3
      go_wp2
      go_quiet (fail)
      go_wp2
      go_quiet ((go_at_call 75; exact (HB.out _).mono fun e w1 h => ⟨h.1, _, h.2.symm⟩))
      go_wp2
      simp only [Exit.noGoto_ret, Exit.inBlock, Exit.then]
      go_ret
      exact ⟨rfl, (Upd.refl _ _).drewN _⟩
  · have hlt : decide ((3 : Int) < ((bad3).size : Int)) = false := by decide
    obtain ⟨C, hC⟩ : ∃ C, C = bad3 := ⟨_, rfl⟩
    rw [← hC] at hlt
    have xs : (x.size : Int) = 4 := by rw [hX]; rfl
    rw [← hC]
    have HC := Lib.hid hC
    have HX := Lib.hid hX
    clear hC hX
    go_enter Try.func66, Try.ntmps66
    go_wp2_with (refine (Try.utf8_ValidRune _ _).mono ?_; rintro e w1 ⟨rfl, hw⟩; rw [hw, hvr])
    go_step3
    go_wp2
    go_loopg [9, 10, 11, 12] 1 (fun g a9 a10 _ _ wx => g = 1 ∧ a9 = .int .i64 3 ∧ a10 = .int .i64 0 ∧ wx = w)
    case atStart => exact ⟨rfl, rfl, rfl, rfl⟩
    case round =>
      obtain ⟨rfl, rfl, rfl, rfl⟩ := hrel
      go_wp2
      simp only [Exit.noGoto_ret, Exit.inBlock, Exit.then]
      go_ret
      exact ⟨rfl, Upd.refl _ _⟩

end Go.Proofs.Ytlhjhkmmgkfmpaa

/- strings.IndexAny and ContainsAny at "\x00/:". -/
set_option linter.unusedVariables false
set_option linter.unusedSimpArgs false
namespace Go.Proofs.Ytlhjhkmmgkfmpaa
open Go.RowKit

theorem NoAny.far {s : ByteArray} {i n : Nat} (h : Lib.NoAny s.data.toList [0, 47, 58] i) (hf : ∀ j, i ≤ j → j < i + n → 128 ≤ (s.get! j).toNat) (hn : i + n ≤ s.size) : Lib.NoAny s.data.toList [0, 47, 58] (i + n) := by
  intro j b hj hb
  by_cases hji : j < i
  · exact h j b hji hb
  · have h1 := hf j (by omega) hj
    have e : s.get! j = b := by
      have hlt : j < s.size := by omega
      have := get_at s j hlt
      rw [Nat.add_zero] at this
      rw [this]
      have h2 := Lib.data_getElem? s j hlt
      rw [h2] at hb
      exact Option.some.inj hb
    rw [e] at h1
    have h2 : ¬ b = 0 := by rintro rfl; simp at h1
    have h3 : ¬ b = 47 := by rintro rfl; simp at h1
    have h4 : ¬ b = 58 := by rintro rfl; simp at h1
    simp [h2, h3, h4]

set_option maxHeartbeats 3200000 in
set_option maxRecDepth 100000 in
theorem any_short (s : ByteArray) (w : World) (h8 : s.size ≤ 8) :
    Calls Try.prog 54 #[.string s, .string bad3] w (fun e w' => e = .returned (.int .i64 (Lib.indexAny s.data.toList [0, 47, 58])) ∧ Upd (fun _ => False) w w') := by
  obtain ⟨C, hC⟩ : ∃ C, C = bad3 := ⟨_, rfl⟩
  have hemp : C.toList.isEmpty = false := by rw [Lib.toList_data, hC]; decide
  have hn1 : ((C.size : Int) == 1) = false := by rw [hC]; decide
  have h8z : decide ((8 : Int) < (s.size : Int)) = false := decide_eq_false (by omega)
  have hA : ∀ (x : UInt8) (w : World), x.toNat < 128 → Calls Try.prog 66 #[.string C, .int .i32 x.toNat] w (fun e w' => e = .returned (.int .i64 (Lib.indexByte [0, 47, 58] x)) ∧ Upd (fun _ => False) w w') := by
    intro x w hx
    have := Try.strings_IndexRune_ascii C x.toNat w (by omega) (by omega)
    rw [show ((x.toNat : Int).toNat.toUInt8) = x by simp, hC] at this
    rw [hC]
    exact this.mono fun _ _ ⟨h1, h2⟩ => ⟨h1, by rw [h2]; exact Upd.refl _ _⟩
  have hF : ∀ (r : Nat) (w : World), 128 ≤ r → (r = 65533 ∨ Utf8.valid r = true) → Calls Try.prog 66 #[.string C, .int .i32 r] w (fun e w' => e = .returned (.int .i64 (-1)) ∧ Upd (fun _ => False) w w') := by
    intro r w h1 h2
    rw [hC]
    exact rune_far r h1 h2 w
  have HA := Lib.hid hA
  have HF := Lib.hid hF
  rw [← hC]
  clear hA hF hC
  go_enter Try.func54, Try.ntmps54
  go_wp2_with (go_at_call 67; refine (Try.strings_shouldUseASCIISet _ _).mono ?_; rintro e w' ⟨rfl, hw⟩; rw [hw, h8z])
  go_loopg [9, 10] s.size (fun g _ _ wx => ∃ i : Nat, i + g = s.size ∧ wx.heap[w.heap.size]? = some (.stringIter s i) ∧ Upd (fun _ => False) w wx ∧ RowKit.Hid (Lib.NoAny s.data.toList [0, 47, 58] i))
  case atStart => exact ⟨0, by omega, World.iter_heap _ _ _, (Upd.refl _ _).alloc _, Lib.hid (Lib.NoAny.zero _ _)⟩
  case round =>
    obtain ⟨i, hig, hit, hu, hno⟩ := hrel
    cases gk with
    | zero =>
      obtain rfl : i = s.size := by omega
      have hnx := fun ty => Lib.run_next_end_at (P := Try.prog) wr w.heap.size s s.size ty hit (by omega)
      go_wp2
      go_ret
      exact ⟨by rw [Lib.indexAny_none (by rw [← Lib.size_eq]; exact hno)]; rfl, hu⟩
    | succ g =>
      have hi : i < s.size := by omega
      obtain ⟨x, hx⟩ : ∃ x : UInt8, s[i]'hi = x := ⟨_, rfl⟩
      have hxl : s.data.toList[i]? = some x := by rw [← hx]; exact Lib.data_getElem? s i hi
      have hany := fun ty => Lib.run_next_any_at (P := Try.prog) wr w.heap.size s i ty hit hi
      by_cases h128 : x.toNat < 128
      · have hd := decode_ascii s i hi (by rw [hx]; exact h128)
        rw [hx] at hd
        rw [hd] at hany
        dsimp only at hany
        have hI := Lib.iterAt_heap wr w.heap.size s i (i + 1) hit
        have hu2 := Upd.iterAt hu (Nat.le_refl _) s (i + 1)
        have hnl := Lib.iterAt_size wr w.heap.size s (i + 1)
        clear hd hx hit
        generalize wr.iterAt w.heap.size s (i + 1) = w2 at hany hI hu2 hnl
        have hcon := Lib.contains_iff_indexByte [0, 47, 58] x
        have Hx := Lib.hid hxl
        clear hxl
        cases hin : List.contains [0, 47, 58] x
        · rw [hin] at hcon
          have hlt : decide ((0 : Int) ≤ Lib.indexByte [0, 47, 58] x) = false := hcon.symm
          clear hcon
          go_wp2_with (go_at_call 66; refine (HA x _ h128).mono ?_; rintro e w3 ⟨rfl, u3⟩)
          go_roundg g
          case measure => omega
          case rel => exact ⟨i + 1, by omega, u3.heap hI (fun f => f), hu2.trans u3 (fun _ _ f => f), Lib.NoAny.succ hno Hx hin⟩
        · rw [hin] at hcon
          have hge : decide ((0 : Int) ≤ Lib.indexByte [0, 47, 58] x) = true := hcon.symm
          clear hcon
          go_wp2_with (go_at_call 66; refine (HA x _ h128).mono ?_; rintro e w3 ⟨rfl, u3⟩)
          go_ret
          exact ⟨by rw [Lib.indexAny_hit hno Hx hin]; rfl, hu2.trans u3 (fun _ _ f => f)⟩
      · obtain ⟨f1, f2, f3, f4, f5⟩ := decode_far s i hi (by rw [hx]; omega)
        have hI := Lib.iterAt_heap wr w.heap.size s i (i + (Utf8.decode s i).2) hit
        have hu2 := Upd.iterAt hu (Nat.le_refl _) s (i + (Utf8.decode s i).2)
        generalize (Utf8.decode s i).1 = c at hany f1 f4
        generalize (Utf8.decode s i).2 = n at hany hI hu2 f2 f3 f5
        have hno2 := NoAny.far hno f5 f3
        have Hn := Lib.hid hno2
        clear hx hit hxl f5 hno2
        generalize wr.iterAt w.heap.size s (i + n) = w2 at hany hI hu2
        go_wp2_with (go_at_call 66; refine (HF c _ f1 f4).mono ?_; rintro e w3 ⟨rfl, u3⟩)
        go_roundg (s.size - (i + n))
        case measure => omega
        case rel => exact ⟨i + n, by omega, u3.heap hI (fun f => f), hu2.trans u3 (fun _ _ f => f), Hn⟩

theorem bad3_low : ∀ (j : Nat) b, bad3.data.toList[j]? = some b → b.toNat < 128 := fun j b h => by
  have h2 : j < 3 := by
    rcases Nat.lt_or_ge j 3 with h3 | h3
    · exact h3
    · rw [List.getElem?_eq_none (by exact h3)] at h; cases h
  rcases (by omega : j = 0 ∨ j = 1 ∨ j = 2) with rfl | rfl | rfl <;> (cases h; decide)
theorem zero_set (w : World) : (zeroValue 115).run Try.prog w = .ok (.agg (Array.replicate 256 (.bool false))) w := by kernel_rfl

theorem any_bad3 (s : ByteArray) (w : World) (hs : s.size < 4294967281) :
    Calls Try.prog 54 #[.string s, .string bad3] w (fun e w' => e = .returned (.int .i64 (Lib.indexAny s.data.toList [0, 47, 58])) ∧ Upd (fun _ => False) w w') := by
  by_cases h8 : s.size ≤ 8
  · exact any_short s w h8
  · exact (Try.strings_IndexAny_long zero_set s bad3 w (by decide) (by omega) hs (by decide) bad3_low).mono fun e w' ⟨h1, h2⟩ => ⟨h1, by rw [h2]; exact ((Upd.refl _ _).alloc _).alloc _⟩

set_option maxHeartbeats 1600000 in
set_option maxRecDepth 100000 in
theorem has_bad3 (s : ByteArray) (w : World) (hs : s.size < 4294967281) :
    Calls Try.prog 34 #[.string s, .string bad3] w (fun e w' => e = .returned (.bool (Lib.containsAny s.data.toList [0, 47, 58])) ∧ Upd (fun _ => False) w w') := by
  have h := fun w => any_bad3 s w hs
  have H := Lib.hid h
  unfold Lib.containsAny
  generalize Lib.indexAny s.data.toList [0, 47, 58] = r at H
  generalize bad3 = C at H
  clear h
  go_enter Try.func34, Try.ntmps34
  go_wp2_with (refine (H.out _).mono ?_; rintro e w1 ⟨rfl, u⟩)
  go_ret
  exact ⟨by rfl, u⟩

namespace Px
def strings_ContainsAny.f (a0 a1 : ByteArray) : Option Bool := if a1.data = #[0, 47, 58] ∧ a0.size < 4294967281 then some (Lib.containsAny a0.data.toList [0, 47, 58]) else none
theorem strings_ContainsAny.calls (a0 a1 : ByteArray) (r : Bool) (w : World) (h : strings_ContainsAny.f a0 a1 = some r) :
    Calls Try.prog 34 #[.string a0, .string a1] w fun e w' => e = .returned (.bool r) ∧ Below w.heap.size w w' := by
  unfold strings_ContainsAny.f at h
  split at h
  · rename_i hc
    obtain ⟨h1, h2⟩ := hc
    obtain ⟨d⟩ := a1
    dsimp only at h1
    subst h1
    obtain rfl := Option.some.inj h
    exact (has_bad3 a0 w h2).mono fun e w' ⟨he, hu⟩ => ⟨he, hu.below (Nat.le_refl _) (fun _ f => f.elim)⟩
  · cases h
end Px

end Go.Proofs.Ytlhjhkmmgkfmpaa
