/- The printed readers in plain words: fx, rU8, rU16, rU32, rU64, rText; metas and changes. -/
import Derived.Test.YtnoimnijoklkdaaPx6
import Derived.Test.YtnoimnijoklkdaaPx8
import Derived.Test.YtnoimnijoklkdaaCodecP
import Derived.Lib.Strings
set_option linter.unusedVariables false
set_option linter.unusedSimpArgs false
namespace Go.Proofs.Ytnoimnijoklkdaa.Px
open Go.RowKit Go.Proofs.YtnoimnijoklkdaaW.PrintWords Go.Proofs.YtnoimnijoklkdaaW.PrintLast

theorem fixed_eq (k : Nat) (l : List UInt8) (e n : Int) : codec_Reader_Fixed.f (k + 1) ⟨l.toArray⟩ e n = some (⟨(fx l e n).1.toArray⟩, ⟨(fx l e n).2.1.toArray⟩, (fx l e n).2.2) := by
  unfold codec_Reader_Fixed.f
  by_cases he : e = 0
  · rw [if_pos he]
    rw [codec_Reader_Fixed.j0]
    unfold fx
    by_cases hn : n ≤ 0
    · rw [if_pos (by simp [hn]), if_pos (.inr hn)]
    · have hz : ¬ (e ≠ 0 ∨ n ≤ 0) := by simp [he, hn]
      rw [if_neg (by simp [hn]), if_neg hz, size_list]
      by_cases hl : n > (l.length : Int)
      · rw [if_pos hl, if_pos hl]
      · rw [if_neg hl, if_neg hl, if_pos (by omega), if_pos (by omega)]
        have x1 : (⟨l.toArray⟩ : ByteArray).extract 0 n.toNat = ⟨(l.take n.toNat).toArray⟩ := by rw [ext_list]; simp
        have x2 : (⟨l.toArray⟩ : ByteArray).extract n.toNat l.length = ⟨(l.drop n.toNat).toArray⟩ := by rw [ext_list, List.take_of_length_le (by simp)]
        rw [x1, x2]
  · rw [if_neg he]
    rw [codec_Reader_Fixed.j0]
    unfold fx
    rw [if_pos rfl, if_pos (.inl he)]

theorem bt_list (l : List UInt8) (i : Nat) (h : i < l.length) : bt ⟨l.toArray⟩ (i : Int) = ((l[i]).toNat : Int) := by
  rw [← bt_at ⟨l.toArray⟩ (i : Int) (by rw [size_list]; simpa using h)]
  rfl
theorem bits_step (s : List UInt8) (i : Nat) (hi : i < s.length) (h8 : s.length ≤ 8) :
    Go.bits .or .u64 (IntKind.u64.wrap (((ofBe (s.take i) : Nat) : Int) * 256)) (IntKind.u64.wrap (bt ⟨s.toArray⟩ (i : Int))) = ((ofBe (s.take (i + 1)) : Nat) : Int) := by
  rw [bt_list s i hi]
  have h := get_step s i _ hi h8 rfl (by rw [size_list]; exact hi)
  exact h
theorem wrap64_small (n : Nat) (h : n < 1000000) : wrap64 ((n : Int) + 1) = ((n + 1 : Nat) : Int) := by unfold wrap64; omega

theorem loop_uint8 (s : List UInt8) (h8 : s.length ≤ 8) (x : ByteArray) (y : Int) : ∀ (g k i : Nat), i + g = s.length → g < k →
    codec_get_uint8.l0 k ⟨s.toArray⟩ ((ofBe (s.take i) : Nat) : Int) (s.length : Int) (i : Int) x y = some (((ofBe s : Nat) : Int) % 256, x, y) := by
  intro g
  induction g with
  | zero =>
    intro k i hi hk
    obtain ⟨k, rfl⟩ : ∃ m, k = m + 1 := ⟨k - 1, by omega⟩
    obtain rfl : i = s.length := by omega
    rw [codec_get_uint8.l0, if_neg (by omega), List.take_length]
  | succ g ih =>
    intro k i hi hk
    obtain ⟨k, rfl⟩ : ∃ m, k = m + 1 := ⟨k - 1, by omega⟩
    rw [codec_get_uint8.l0, if_pos (by omega), if_pos (by omega), if_pos (by rw [size_list]; omega), bits_step s i (by omega) h8, wrap64_small i (by omega)]
    exact ih k (i + 1) (by omega) (by omega)

theorem U8_eq (k : Nat) (hk : 9 ≤ k) (l : List UInt8) (e : Int) : codec_Reader_U8.f k ⟨l.toArray⟩ e = some ((((rU8 l e).1 : Nat) : Int), ⟨(rU8 l e).2.1.toArray⟩, (rU8 l e).2.2) := by
  obtain ⟨k, rfl⟩ : ∃ m, k = m + 1 := ⟨k - 1, by omega⟩
  have hlt := rU8_lt l e
  unfold codec_Reader_U8.f codec_get_uint8.f
  rw [fixed_eq]
  simp only [Option.bind_some, size_list]
  have hle : (fx l e 1).1.length ≤ 1 := fx_le l e 1
  have := loop_uint8 (fx l e 1).1 (by omega) ⟨(fx l e 1).2.1.toArray⟩ (fx l e 1).2.2 (fx l e 1).1.length (k + 1) 0 (by omega) (by omega)
  rw [List.take_zero] at this
  have h0 : ((ofBe ([] : List UInt8) : Nat) : Int) = 0 := rfl
  rw [h0] at this
  have hc : ((0 : Nat) : Int) = 0 := rfl
  rw [hc] at this
  rw [this]
  unfold rU8 at hlt ⊢
  simp only [Option.bind_some]
  simp only [Two8] at hlt
  congr 2
  omega

theorem loop_uint16 (s : List UInt8) (h8 : s.length ≤ 8) (x : ByteArray) (y : Int) : ∀ (g k i : Nat), i + g = s.length → g < k →
    codec_get_uint16.l0 k ⟨s.toArray⟩ ((ofBe (s.take i) : Nat) : Int) (s.length : Int) (i : Int) x y = some (IntKind.u16.wrap (((ofBe s : Nat) : Int)), x, y) := by
  intro g
  induction g with
  | zero =>
    intro k i hi hk
    obtain ⟨k, rfl⟩ : ∃ m, k = m + 1 := ⟨k - 1, by omega⟩
    obtain rfl : i = s.length := by omega
    rw [codec_get_uint16.l0, if_neg (by omega), List.take_length]
  | succ g ih =>
    intro k i hi hk
    obtain ⟨k, rfl⟩ : ∃ m, k = m + 1 := ⟨k - 1, by omega⟩
    rw [codec_get_uint16.l0, if_pos (by omega), if_pos (by omega), if_pos (by rw [size_list]; omega), bits_step s i (by omega) h8, wrap64_small i (by omega)]
    exact ih k (i + 1) (by omega) (by omega)

theorem U16_eq (k : Nat) (hk : 9 ≤ k) (l : List UInt8) (e : Int) : codec_Reader_U16.f k ⟨l.toArray⟩ e = some ((((rU16 l e).1 : Nat) : Int), ⟨(rU16 l e).2.1.toArray⟩, (rU16 l e).2.2) := by
  obtain ⟨k, rfl⟩ : ∃ m, k = m + 1 := ⟨k - 1, by omega⟩
  have hlt := rU16_lt l e
  unfold codec_Reader_U16.f codec_get_uint16.f
  rw [fixed_eq]
  simp only [Option.bind_some, size_list]
  have hle : (fx l e 2).1.length ≤ 2 := fx_le l e 2
  have := loop_uint16 (fx l e 2).1 (by omega) ⟨(fx l e 2).2.1.toArray⟩ (fx l e 2).2.2 (fx l e 2).1.length (k + 1) 0 (by omega) (by omega)
  rw [List.take_zero] at this
  have h0 : ((ofBe ([] : List UInt8) : Nat) : Int) = 0 := rfl
  rw [h0] at this
  have hc : ((0 : Nat) : Int) = 0 := rfl
  rw [hc] at this
  rw [this]
  unfold rU16 at hlt ⊢
  simp only [Option.bind_some]
  simp only [Two16] at hlt
  congr 2
  exact IntWalk.u16_in _ (by omega)

theorem loop_uint32 (s : List UInt8) (h8 : s.length ≤ 8) (x : ByteArray) (y : Int) : ∀ (g k i : Nat), i + g = s.length → g < k →
    codec_get_uint32.l0 k ⟨s.toArray⟩ ((ofBe (s.take i) : Nat) : Int) (s.length : Int) (i : Int) x y = some (((ofBe s : Nat) : Int) % 4294967296, x, y) := by
  intro g
  induction g with
  | zero =>
    intro k i hi hk
    obtain ⟨k, rfl⟩ : ∃ m, k = m + 1 := ⟨k - 1, by omega⟩
    obtain rfl : i = s.length := by omega
    rw [codec_get_uint32.l0, if_neg (by omega), List.take_length]
  | succ g ih =>
    intro k i hi hk
    obtain ⟨k, rfl⟩ : ∃ m, k = m + 1 := ⟨k - 1, by omega⟩
    rw [codec_get_uint32.l0, if_pos (by omega), if_pos (by omega), if_pos (by rw [size_list]; omega), bits_step s i (by omega) h8, wrap64_small i (by omega)]
    exact ih k (i + 1) (by omega) (by omega)

theorem U32_eq (k : Nat) (hk : 9 ≤ k) (l : List UInt8) (e : Int) : codec_Reader_U32.f k ⟨l.toArray⟩ e = some ((((rU32 l e).1 : Nat) : Int), ⟨(rU32 l e).2.1.toArray⟩, (rU32 l e).2.2) := by
  obtain ⟨k, rfl⟩ : ∃ m, k = m + 1 := ⟨k - 1, by omega⟩
  have hlt := rU32_lt l e
  unfold codec_Reader_U32.f codec_get_uint32.f
  rw [fixed_eq]
  simp only [Option.bind_some, size_list]
  have hle : (fx l e 4).1.length ≤ 4 := fx_le l e 4
  have := loop_uint32 (fx l e 4).1 (by omega) ⟨(fx l e 4).2.1.toArray⟩ (fx l e 4).2.2 (fx l e 4).1.length (k + 1) 0 (by omega) (by omega)
  rw [List.take_zero] at this
  have h0 : ((ofBe ([] : List UInt8) : Nat) : Int) = 0 := rfl
  rw [h0] at this
  have hc : ((0 : Nat) : Int) = 0 := rfl
  rw [hc] at this
  rw [this]
  unfold rU32 at hlt ⊢
  simp only [Option.bind_some]
  simp only [Two32] at hlt
  congr 2
  omega

theorem loop_uint64 (s : List UInt8) (h8 : s.length ≤ 8) (x : ByteArray) (y : Int) : ∀ (g k i : Nat), i + g = s.length → g < k →
    codec_get_uint64.l0 k ⟨s.toArray⟩ ((ofBe (s.take i) : Nat) : Int) (s.length : Int) (i : Int) x y = some (((ofBe s : Nat) : Int), x, y) := by
  intro g
  induction g with
  | zero =>
    intro k i hi hk
    obtain ⟨k, rfl⟩ : ∃ m, k = m + 1 := ⟨k - 1, by omega⟩
    obtain rfl : i = s.length := by omega
    rw [codec_get_uint64.l0, if_neg (by omega), List.take_length]
  | succ g ih =>
    intro k i hi hk
    obtain ⟨k, rfl⟩ : ∃ m, k = m + 1 := ⟨k - 1, by omega⟩
    rw [codec_get_uint64.l0, if_pos (by omega), if_pos (by omega), if_pos (by rw [size_list]; omega), bits_step s i (by omega) h8, wrap64_small i (by omega)]
    exact ih k (i + 1) (by omega) (by omega)

theorem U64_eq (k : Nat) (hk : 9 ≤ k) (l : List UInt8) (e : Int) : codec_Reader_U64.f k ⟨l.toArray⟩ e = some ((((rU64 l e).1 : Nat) : Int), ⟨(rU64 l e).2.1.toArray⟩, (rU64 l e).2.2) := by
  obtain ⟨k, rfl⟩ : ∃ m, k = m + 1 := ⟨k - 1, by omega⟩
  have hlt := rU64_lt l e
  unfold codec_Reader_U64.f codec_get_uint64.f
  rw [fixed_eq]
  simp only [Option.bind_some, size_list]
  have hle : (fx l e 8).1.length ≤ 8 := fx_le l e 8
  have := loop_uint64 (fx l e 8).1 (by omega) ⟨(fx l e 8).2.1.toArray⟩ (fx l e 8).2.2 (fx l e 8).1.length (k + 1) 0 (by omega) (by omega)
  rw [List.take_zero] at this
  have h0 : ((ofBe ([] : List UInt8) : Nat) : Int) = 0 := rfl
  rw [h0] at this
  have hc : ((0 : Nat) : Int) = 0 := rfl
  rw [hc] at this
  rw [this]
  unfold rU64 at hlt ⊢
  simp only [Option.bind_some]
theorem Text_eq (k : Nat) (hk : 9 ≤ k) (l : List UInt8) (e : Int) : codec_Reader_Text.f k ⟨l.toArray⟩ e = some (⟨(rText l e).1.toArray⟩, ⟨(rText l e).2.1.toArray⟩, (rText l e).2.2) := by
  unfold codec_Reader_Text.f
  have hlt := rU16_lt l e
  rw [U16_eq k hk]
  obtain ⟨k, rfl⟩ : ∃ m, k = m + 1 := ⟨k - 1, by omega⟩
  have hw : wrap64 ((rU16 l e).1 : Int) = ((rU16 l e).1 : Int) := by unfold Two16 at hlt; unfold wrap64; omega
  simp only [Option.bind_some]
  rw [hw, fixed_eq]
  rfl

/-- Why bytes are no meta; 0: they are one. -/
def metaE (l : List UInt8) : Int :=
  let a := rU8 l 0
  let b := rU32 a.2.1 a.2.2
  let c := rU64 b.2.1 b.2.2
  let d := rU64 c.2.1 c.2.2
  if d.2.2 ≠ 0 then d.2.2 else if d.2.1 ≠ [] then 4 else Nd.metaChk a.1 b.1 c.1
def chgMay (what n op by_ : Nat) : Bool :=
  if what = 1 ∨ what = 2 then decide (n ≤ 2048 ∧ op = 0 ∧ by_ = 0) else if what = 4 then decide (op = 0 ∧ by_ = 0) else if what = 3 then decide (n = 0 ∧ 1 ≤ op ∧ op ≤ 5) else false
def chgF (what n op by_ : Nat) (l : List UInt8) (e : Int) : Int := if e ≠ 0 then e else if l ≠ [] then 4 else if chgMay what n op by_ = true then 0 else 4
def chgE (l : List UInt8) : Int :=
  if l = [] then 10 else
  let a := rU8 l 0
  if a.1 = 1 ∨ a.1 = 2 then (let b := rU32 a.2.1 a.2.2; chgF a.1 b.1 0 0 b.2.1 b.2.2)
  else if a.1 = 4 then (let b := rU64 a.2.1 a.2.2; chgF a.1 b.1 0 0 b.2.1 b.2.2)
  else if a.1 = 3 then (let b := rU8 a.2.1 a.2.2; let c := rU64 b.2.1 b.2.2; chgF a.1 0 b.1 c.1 c.2.1 c.2.2)
  else 4

theorem nil_list (l : List UInt8) : ((⟨l.toArray⟩ : ByteArray).toList = ([] : List UInt8)) ↔ l = [] := by rw [Lib.toList_data]
theorem metaChk_eq (k : Nat) (hk : 3 ≤ k) (a b c d : Nat) : meta_Check.f k (a : Int) (b : Int) (c : Int) (d : Int) = some (Nd.metaChk a b c) := by
  obtain ⟨k, rfl⟩ : ∃ m, k = m + 3 := ⟨k - 3, by omega⟩
  have hq : number_Quiet.f (c : Int) = some ((Nd.quietN c : Nat) : Int) := by unfold number_Quiet.f; rw [if_pos (by omega), Int.toNat_natCast]
  unfold meta_Check.f Nd.metaChk
  simp only [meta_Check.j0, meta_Check.j1]
  rw [hq]
  simp only [Option.bind_some]
  have k3 : (((Nd.quietN c : Nat) : Int) = (c : Int)) ↔ Nd.quietN c = c := by omega
  have k2 : ((b : Int) > 2048) ↔ 2048 < b := by omega
  have k1 : ((b : Int) > 0) ↔ 0 < b := by omega
  have e1 : ((a : Int) = 1) ↔ a = 1 := by omega
  have e2 : ((a : Int) = 2) ↔ a = 2 := by omega
  have e3 : ((a : Int) != 2) = true ↔ ¬ a = 2 := by simp; omega
  simp only [k3, k2, k1, e1, e2, e3, decide_eq_true_eq, Bool.false_eq_true, if_false]
  by_cases h1 : a = 1
  · subst h1
    by_cases h2 : 2048 < b <;> by_cases h3 : Nd.quietN c = c <;> simp [h2, h3]
  · by_cases h2 : a = 2
    · subst h2
      by_cases h3 : 2048 < b <;> by_cases h4 : 0 < b <;> by_cases h5 : Nd.quietN c = c <;> simp [h3, h4, h5]
    · simp [h1, h2]
theorem meta_eq (k : Nat) (hk : 9 ≤ k) (l : List UInt8) : ∃ x y z t : Int, meta_Take.f k ⟨l.toArray⟩ = some (x, y, z, t, metaE l) := by
  unfold meta_Take.f codec_New.f metaE
  simp only [Option.bind_some]
  rw [U8_eq k hk]
  simp only [Option.bind_some]
  rw [U32_eq k hk]
  simp only [Option.bind_some]
  rw [U64_eq k hk]
  simp only [Option.bind_some]
  rw [U64_eq k hk]
  simp only [Option.bind_some]
  unfold meta_whole.f codec_Reader_Err.f codec_Reader_Rest.f
  simp only [Option.bind_some, nil_list]
  generalize rU8 l 0 = a
  generalize rU32 a.2.1 a.2.2 = b
  generalize rU64 b.2.1 b.2.2 = c
  generalize rU64 c.2.1 c.2.2 = d
  rw [metaChk_eq k (by omega)]
  by_cases h1 : d.2.2 = 0
  · by_cases h2 : d.2.1 = []
    · simp only [h1, h2, if_pos, Option.bind_some, ne_eq, not_true, if_false]
      split
      · rename_i h3; exact ⟨_, _, _, _, by rw [h3]⟩
      · exact ⟨_, _, _, _, rfl⟩
    · simp only [h1, h2, if_pos, if_false, Option.bind_some, ne_eq, not_true, not_false_eq_true]
      exact ⟨_, _, _, _, rfl⟩
  · simp only [h1, if_false, Option.bind_some, ne_eq, not_false_eq_true, if_true]
    exact ⟨_, _, _, _, rfl⟩
theorem chgMay_eq (k : Nat) (hk : 1 ≤ k) (a b c d : Nat) : meta_Change_may.f k (a : Int) (b : Int) (c : Int) (d : Int) = some (chgMay a b c d) := by
  obtain ⟨k, rfl⟩ : ∃ m, k = m + 1 := ⟨k - 1, by omega⟩
  unfold meta_Change_may.f chgMay
  simp only [meta_Change_may.j0]
  have e1 : ((a : Int) = 1) ↔ a = 1 := by omega
  have e2 : ((a : Int) = 2) ↔ a = 2 := by omega
  have e3 : ((a : Int) = 3) ↔ a = 3 := by omega
  have e4 : ((a : Int) = 4) ↔ a = 4 := by omega
  have e5 : ((b : Int) > 2048) ↔ ¬ b ≤ 2048 := by omega
  have e6 : ((b : Int) = 0) ↔ b = 0 := by omega
  have e7 : ((c : Int) ≥ 1) ↔ 1 ≤ c := by omega
  have e8 : ((c : Int) ≤ 5) ↔ c ≤ 5 := by omega
  have e9 : ((c : Int) == 0) = decide (c = 0) := by rw [Bool.eq_iff_iff]; simp
  have ea : ((d : Int) == 0) = decide (d = 0) := by rw [Bool.eq_iff_iff]; simp
  have eb : ((a : Int) == 1) = decide (a = 1) := by rw [Bool.eq_iff_iff]; simp; omega
  have ec : ((a : Int) == 2) = decide (a = 2) := by rw [Bool.eq_iff_iff]; simp; omega
  simp only [e1, e2, e3, e4, e5, e6, e7, e8, e9, ea, eb, ec, decide_eq_true_eq]
  by_cases h1 : a = 1
  · subst h1
    by_cases h2 : b ≤ 2048 <;> by_cases h3 : c = 0 <;> by_cases h4 : d = 0 <;> simp [h2, h3, h4]
  · by_cases h2 : a = 2
    · subst h2
      by_cases h2 : b ≤ 2048 <;> by_cases h3 : c = 0 <;> by_cases h4 : d = 0 <;> simp [h2, h3, h4]
    · by_cases h3 : a = 4
      · subst h3
        by_cases h3 : c = 0 <;> by_cases h4 : d = 0 <;> simp [h3, h4]
      · by_cases h4 : a = 3
        · subst h4
          by_cases h5 : b = 0 <;> by_cases h6 : 1 ≤ c <;> by_cases h7 : c ≤ 5 <;> simp [h5, h6, h7]
        · simp [h1, h2, h3, h4]
theorem chgF_eq (k : Nat) (hk : 3 ≤ k) (l : List UInt8) (e : Int) (a b c d : Nat) : ∃ x y z t : Int, meta_TakeChange.j1 k ⟨l.toArray⟩ e (a : Int) (b : Int) (c : Int) (d : Int) = some (x, y, z, t, chgF a b c d l e) := by
  obtain ⟨k, rfl⟩ : ∃ m, k = m + 3 := ⟨k - 3, by omega⟩
  rw [meta_TakeChange.j1]
  unfold meta_whole.f codec_Reader_Err.f codec_Reader_Rest.f chgF
  simp only [Option.bind_some, nil_list]
  by_cases h1 : e = 0
  · by_cases h2 : l = []
    · simp only [h1, h2, if_pos, Option.bind_some, ne_eq, not_true, if_false]
      rw [chgMay_eq _ (by omega)]
      simp only [Option.bind_some]
      rw [meta_TakeChange.j2]
      cases chgMay a b c d
      · exact ⟨_, _, _, _, rfl⟩
      · exact ⟨_, _, _, _, rfl⟩
    · simp only [h1, h2, if_pos, if_false, Option.bind_some, ne_eq, not_true, not_false_eq_true]
      rw [meta_TakeChange.j2]
      exact ⟨_, _, _, _, rfl⟩
  · simp only [h1, if_false, Option.bind_some, ne_eq, not_false_eq_true, if_true]
    rw [meta_TakeChange.j2]
    exact ⟨_, _, _, _, by rw [if_neg (by decide), if_neg h1]⟩
theorem chg_eq (k : Nat) (hk : 20 ≤ k) (l : List UInt8) : ∃ x y z t : Int, meta_TakeChange.f k ⟨l.toArray⟩ = some (x, y, z, t, chgE l) := by
  unfold meta_TakeChange.f codec_New.f chgE
  by_cases h0 : l = []
  · rw [if_pos ((nil_list l).2 h0), if_pos h0]
    exact ⟨_, _, _, _, rfl⟩
  rw [if_neg (fun h => h0 ((nil_list l).1 h)), if_neg h0]
  simp only [Option.bind_some]
  rw [U8_eq k (by omega)]
  simp only [Option.bind_some]
  generalize rU8 l 0 = a
  obtain ⟨k, rfl⟩ : ∃ m, k = m + 1 := ⟨k - 1, by omega⟩
  obtain ⟨a, l1, e1⟩ := a
  dsimp only
  have z0 : ((0 : Nat) : Int) = 0 := rfl
  have u32 : ∀ n : Nat, n < 4294967296 → IntKind.u64.wrap (n : Int) = (n : Int) := fun n hn => IntWalk.u64_in _ (by omega)
  by_cases h1 : a = 1 ∨ a = 2
  · have hb := rU32_lt l1 e1
    have hj : ∀ b, meta_TakeChange.j0 (k + 1) (a : Int) true ⟨l1.toArray⟩ e1 b 0 0 0 = (codec_Reader_U32.f k ⟨l1.toArray⟩ e1).bind fun bt => meta_TakeChange.j1 k bt.2.1 bt.2.2 b (IntKind.u64.wrap bt.1) 0 0 := fun b => by
      rw [meta_TakeChange.j0, if_pos rfl]
    have key : (if (a : Int) = 1 then meta_TakeChange.j0 (k + 1) (a : Int) ((a : Int) == 1) ⟨l1.toArray⟩ e1 (a : Int) 0 0 0 else meta_TakeChange.j0 (k + 1) (a : Int) ((a : Int) == 2) ⟨l1.toArray⟩ e1 (a : Int) 0 0 0) = meta_TakeChange.j0 (k + 1) (a : Int) true ⟨l1.toArray⟩ e1 (a : Int) 0 0 0 := by
      rcases h1 with rfl | rfl
      · rfl
      · rfl
    rw [if_pos h1, key, hj, U32_eq k (by omega)]
    simp only [Option.bind_some]
    rw [u32 _ hb]
    exact chgF_eq k (by omega) _ _ a _ 0 0
  · have e1' : ¬ (a : Int) = 1 := by omega
    have e2' : ((a : Int) == 2) = false := by simp; omega
    rw [if_neg h1, if_neg e1', e2', meta_TakeChange.j0, if_neg (by decide)]
    by_cases h2 : a = 4
    · have h2' : (a : Int) = 4 := by omega
      rw [if_pos h2, if_pos h2', U64_eq k (by omega)]
      simp only [Option.bind_some]
      exact chgF_eq k (by omega) _ _ a _ 0 0
    · have e3' : ¬ (a : Int) = 4 := by omega
      rw [if_neg h2, if_neg e3']
      by_cases h3 : a = 3
      · have h3' : (a : Int) = 3 := by omega
        rw [if_pos h3, if_pos h3', U8_eq k (by omega)]
        simp only [Option.bind_some]
        rw [U64_eq k (by omega)]
        simp only [Option.bind_some]
        exact chgF_eq k (by omega) _ _ a 0 _ _
      · have e4' : ¬ (a : Int) = 3 := by omega
        rw [if_neg h3, if_neg e4']
        exact ⟨_, _, _, _, rfl⟩
end Go.Proofs.Ytnoimnijoklkdaa.Px
