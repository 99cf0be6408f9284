/- The document's numbers and its Put, plain. -/
import Derived.Test.YtlhjhkmmgkfmpaaPxTheir
import Derived.Test.YtlhjhkmmgkfmpaaPx16
import Derived.Test.YtlhjhkmmgkfmpaaPx19
set_option linter.unusedVariables false
set_option linter.unusedSimpArgs false
namespace Go.Proofs.Ytlhjhkmmgkfmpaa.Px
open Go.RowKit Go.Shelf Go.Proofs.YtlhjhkmmgkfmpaaW.PrintWords Go.Proofs.YtlhjhkmmgkfmpaaW.PrintLast

theorem cat_bytes (a b : List UInt8) : (⟨a.toArray⟩ : ByteArray) ++ (⟨b.toArray⟩ : ByteArray) = ⟨(a ++ b).toArray⟩ := by
  apply ByteArray.ext
  simp [ByteArray.data_append]
theorem num_l0 (n w : Nat) (hn : n < 18446744073709551616) (hw : w ≤ 8) : ∀ (g i k : Nat), i + g = w → g < k →
    rillbedref04_Number.l0 k ((n / 2 ^ (8 * i) : Nat) : Int) (w : Int) ⟨(be i n).toArray⟩ (i : Int) = some ⟨(be w n).toArray⟩ := by
  intro g
  induction g with
  | zero =>
    intro i k hi hk
    obtain ⟨k, rfl⟩ : ∃ m, k = m + 1 := ⟨k - 1, by omega⟩
    obtain rfl : i = w := by omega
    rw [rillbedref04_Number.l0, if_neg (by omega)]
  | succ g ih =>
    intro i k hi hk
    obtain ⟨k, rfl⟩ : ∃ m, k = m + 1 := ⟨k - 1, by omega⟩
    rw [rillbedref04_Number.l0, if_pos (by omega), Option.bind_some]
    have hm : n / 2 ^ (8 * i) < 18446744073709551616 := Nat.lt_of_le_of_lt (Nat.div_le_self _ _) hn
    have hd : n / 2 ^ (8 * (i + 1)) = n / 2 ^ (8 * i) / 256 := by rw [Nat.mul_add, Nat.pow_add, Nat.div_div_eq_div_mul]
    have hs := be_succ i n
    have := ih (i + 1) k (by omega) (by omega)
    rw [hd, hs] at this
    generalize n / 2 ^ (8 * i) = m at *
    have e1 : strOfNums [Int.tmod ((m : Nat) : Int) 256 % 256] = ⟨[UInt8.ofNat m].toArray⟩ := by
      unfold strOfNums
      have : (Int.tmod ((m : Nat) : Int) 256 % 256).toNat = m % 256 := by
        rw [Int.tmod_eq_emod_of_nonneg (by omega)]; omega
      simp only [List.map_cons, List.map_nil, this]
      congr 3
      apply UInt8.toNat_inj.1
      simp
    have e2 : IntKind.u64.wrap (Int.tdiv ((m : Nat) : Int) 256) = ((m / 256 : Nat) : Int) := by
      rw [Int.tdiv_eq_ediv_of_nonneg (by omega)]
      have : ((m : Nat) : Int) / 256 = ((m / 256 : Nat) : Int) := by omega
      rw [this]
      exact wrapTwo64 (by unfold Two64; omega)
    have e3 : wrap64 ((i : Int) + 1) = ((i + 1 : Nat) : Int) := by unfold wrap64; omega
    rw [e1, e2, e3, cat_bytes, if_pos (by rw [Lib.size_eq, Lib.size_eq]; simp only [List.length_cons, List.length_nil, be_len]; omega)]
    exact this
theorem number_eq (n w k : Nat) (hn : n < 18446744073709551616) (hw : w ≤ 8) (hk : 8 < k) : rillbedref24_number.f k (n : Int) (w : Int) = some ⟨(be w n).toArray⟩ := by
  unfold rillbedref24_number.f rillbedref04_Number.f
  have := num_l0 n w hn hw w 0 k (by omega) (by omega)
  simp only [Nat.mul_zero, Nat.pow_zero, Nat.div_one] at this
  rw [show (⟨#[]⟩ : ByteArray) = ⟨(be 0 n).toArray⟩ from rfl, show (0 : Int) = ((0 : Nat) : Int) from rfl, this, Option.bind_some]

theorem rd68_cv (l : List S53) (i : Nat) (h : i < l.length) : rd_T68 (l.map cv1) (i : Int) = cv1 l[i] := by unfold rd_T68; rw [Int.toNat_natCast, List.getD_eq_getElem?_getD, List.getElem?_map, List.getElem?_eq_getElem h]; rfl
theorem rd69_cv (l : List S65) (i : Nat) (h : i < l.length) : rd_T69 (l.map cv2) (i : Int) = cv2 l[i] := by unfold rd_T69; rw [Int.toNat_natCast, List.getD_eq_getElem?_getD, List.getElem?_map, List.getElem?_eq_getElem h]; rfl
theorem num_of (n : Int) (w k : Nat) (h0 : 0 ≤ n) (hn : n < 18446744073709551616) (hw : w ≤ 8) (hk : 8 < k) : rillbedref24_number.f k n (w : Int) = some ⟨(be w n.toNat).toArray⟩ := by
  obtain ⟨m, rfl⟩ := Int.eq_ofNat_of_zero_le h0
  rw [number_eq m w k (by omega) hw hk, Int.toNat_natCast]
theorem wrap_of (n : Int) (h0 : 0 ≤ n) (hn : n < 18446744073709551616) : IntKind.u64.wrap n = n := by
  obtain ⟨m, rfl⟩ := Int.eq_ofNat_of_zero_le h0
  exact wrapTwo64 (by unfold Two64; omega)
theorem bsz (l : List UInt8) : (⟨l.toArray⟩ : ByteArray).size = l.length := by rw [Lib.size_eq]
theorem rput_l1 (a : Int) (m : List S68) (l2 : List S65) (h2 : ∀ x ∈ l2, smallB x.f0 = true ∧ smallB x.f1 = true) (hl : l2.length ≤ 4096) : ∀ (g i k : Nat) (T : List UInt8), i + g = l2.length → g + 10 < k → T.length + 4 * g ≤ 1000000 →
    rillbedref24_Put.l1 k ⟨T.toArray⟩ (i : Int) a m (l2.map cv2) = some (⟨(T ++ (l2.drop i).flatMap refTx).toArray⟩, 0) := by
  intro g
  induction g with
  | zero =>
    intro i k T hi hk hT
    obtain ⟨k, rfl⟩ : ∃ m, k = m + 1 := ⟨k - 1, by omega⟩
    rw [rillbedref24_Put.l1, if_neg (by rw [List.length_map]; omega), List.drop_of_length_le (by omega)]
    simp
  | succ g ih =>
    intro i k T hi hk hT
    obtain ⟨k, rfl⟩ : ∃ m, k = m + 1 := ⟨k - 1, by omega⟩
    have hlt : i < l2.length := by omega
    have hx := h2 l2[i] (List.getElem_mem hlt)
    have r0 := small_rng hx.1
    have r1 := small_rng hx.2
    rw [rillbedref24_Put.l1, if_pos (by rw [List.length_map]; omega), if_pos (by omega), rd69_cv l2 i hlt]
    rw [show (cv2 l2[i]).f0 = l2[i].f0 from rfl, show (cv2 l2[i]).f1 = l2[i].f1 from rfl, wrap_of _ (by omega) (by omega), wrap_of _ (by omega) (by omega)]
    rw [show (2 : Int) = ((2 : Nat) : Int) from rfl, num_of _ 2 k (by omega) (by omega) (by omega) (by omega), num_of _ 2 k (by omega) (by omega) (by omega) (by omega)]
    simp only [Option.bind_some, cat_bytes, bsz, List.length_append, be_len]
    rw [if_pos (by omega), if_pos (by omega)]
    have hw : wrap64 ((i : Int) + 1) = ((i + 1 : Nat) : Int) := by unfold wrap64; omega
    rw [hw, ih (i + 1) k _ (by omega) (by omega) (by simp only [List.length_append, be_len]; omega)]
    rw [List.drop_eq_getElem_cons hlt, List.flatMap_cons]
    unfold refTx
    simp only [List.append_assoc]
theorem rput_l0 (a : Int) (l1 : List S53) (l2 : List S65) (h1 : ∀ x ∈ l1, (nameB x.f0 = true ∧ smallB x.f1 = true) ∧ in64 x.f2 ∧ in64 x.f3) (h2 : ∀ x ∈ l2, smallB x.f0 = true ∧ smallB x.f1 = true) (hl1 : l1.length ≤ 6) (hl : l2.length ≤ 4096) : ∀ (g i k : Nat) (T : List UInt8), i + g = l1.length → g + l2.length + 20 < k → T.length + 36 * g + 2 + 4 * l2.length ≤ 1000000 →
    rillbedref24_Put.l0 k ⟨T.toArray⟩ (i : Int) a (l1.map cv1) (l2.map cv2) = some (⟨(T ++ (l1.drop i).flatMap snapTx ++ be 2 l2.length ++ l2.flatMap refTx).toArray⟩, 0) := by
  intro g
  induction g with
  | zero =>
    intro i k T hi hk hT
    obtain ⟨k, rfl⟩ : ∃ m, k = m + 1 := ⟨k - 1, by omega⟩
    rw [rillbedref24_Put.l0, if_neg (by rw [List.length_map]; omega), List.drop_of_length_le (by omega)]
    rw [List.length_map, wrap_of _ (by omega) (by omega), show (2 : Int) = ((2 : Nat) : Int) from rfl, num_of _ 2 k (by omega) (by omega) (by omega) (by omega)]
    simp only [Option.bind_some, cat_bytes, bsz, List.length_append, be_len]
    rw [if_pos (by omega)]
    have := rput_l1 a (l1.map cv1) l2 h2 hl l2.length 0 k (T ++ be 2 l2.length) (by omega) (by omega) (by simp only [List.length_append, be_len]; omega)
    rw [List.drop_zero] at this
    rw [Int.toNat_natCast]
    simp only [List.flatMap_nil, List.append_nil]
    exact this
  | succ g ih =>
    intro i k T hi hk hT
    obtain ⟨k, rfl⟩ : ∃ m, k = m + 1 := ⟨k - 1, by omega⟩
    have hlt : i < l1.length := by omega
    have hx := h1 l1[i] (List.getElem_mem hlt)
    obtain ⟨⟨x1, x2⟩, x3, x4⟩ := hx
    have r0 := name_short x1
    have r1 := small_rng x2
    unfold in64 at x3 x4
    rw [rillbedref24_Put.l0, if_pos (by rw [List.length_map]; omega), if_pos (by omega), rd68_cv l1 i hlt]
    rw [show (cv1 l1[i]).f0 = l1[i].f0 from rfl, show (cv1 l1[i]).f1 = l1[i].f1 from rfl, show (cv1 l1[i]).f2 = l1[i].f2 from rfl, show (cv1 l1[i]).f3 = l1[i].f3 from rfl, wrap_of _ (by omega) (by omega), wrap_of _ (by omega) (by omega)]
    rw [show (2 : Int) = ((2 : Nat) : Int) from rfl, show (8 : Int) = ((8 : Nat) : Int) from rfl, num_of _ 2 k (by omega) (by omega) (by omega) (by omega), num_of _ 2 k (by omega) (by omega) (by omega) (by omega), num_of _ 8 k (by omega) (by omega) (by omega) (by omega), num_of _ 8 k (by omega) (by omega) (by omega) (by omega)]
    have hd : l1[i].f0 = ⟨l1[i].f0.data.toList.toArray⟩ := by simp
    have hsz : l1[i].f0.data.toList.length = l1[i].f0.size := by rw [Lib.size_eq]
    have hcat : ∀ q : List UInt8, (⟨q.toArray⟩ : ByteArray) ++ l1[i].f0 = ⟨(q ++ l1[i].f0.data.toList).toArray⟩ := fun q => (congrArg ((⟨q.toArray⟩ : ByteArray) ++ ·) hd).trans (cat_bytes _ _)
    simp only [Option.bind_some, cat_bytes, hcat, bsz, List.length_append, be_len, hsz]
    rw [if_pos (by omega), if_pos (by omega), if_pos (by omega), if_pos (by omega), if_pos (by omega)]
    have hw : wrap64 ((i : Int) + 1) = ((i + 1 : Nat) : Int) := by unfold wrap64; omega
    rw [hw, ih (i + 1) k _ (by omega) (by omega) (by simp only [List.length_append, be_len, hsz]; omega)]
    rw [List.drop_eq_getElem_cons hlt, List.flatMap_cons]
    unfold snapTx
    simp only [List.append_assoc, Int.toNat_natCast]
theorem rput_eq (a : Int) (l1 : List S53) (l2 : List S65) (hn : okNums a l1) (k : Nat) (hk : l1.length + l2.length + 20 < k) : rillbedref24_Put.f k a (l1.map cv1) (l2.map cv2) = if chk (P1 l1) (P2 l2) = 0 then some (⟨(putT a l1 l2).toArray⟩, 0) else some (⟨#[]⟩, 4) := by
  unfold rillbedref24_Put.f rillbedref24_Check.f
  rw [Option.bind_some, cv_P1, cv_P2]
  split
  · rename_i hz
    obtain ⟨c1, c2, c3, c4⟩ := chk_zero hz
    have hn1 := hn.1
    unfold in64 at hn1
    rw [List.length_map, wrap_of _ (by omega) (by omega), show (8 : Int) = ((8 : Nat) : Int) from rfl, num_of _ 8 k (by omega) (by omega) (by omega) (by omega)]
    rw [show (1 : Int) = ((1 : Nat) : Int) from rfl, num_of _ 1 k (by omega) (by omega) (by omega) (by omega)]
    simp only [Option.bind_some, cat_bytes, bsz, be_len]
    rw [if_pos (by omega)]
    have := rput_l0 a l1 l2 (fun x hx => ⟨c3 x hx, hn.2 x hx⟩) c4 c1 c2 l1.length 0 k (be 8 a.toNat ++ be 1 l1.length) (by omega) (by omega) (by simp only [List.length_append, be_len]; omega)
    rw [List.drop_zero] at this
    rw [Int.toNat_natCast]
    exact this
  · rfl

end Go.Proofs.Ytlhjhkmmgkfmpaa.Px

/- The plain law of TablePuts. -/
set_option linter.unusedVariables false
set_option linter.unusedSimpArgs false
namespace Go.Proofs.Ytlhjhkmmgkfmpaa.Px
open Go.RowKit Go.Shelf Go.Proofs.YtlhjhkmmgkfmpaaW.PrintWords Go.Proofs.YtlhjhkmmgkfmpaaW.PrintLast

def e1B (x y : S53) : Bool := (x.f0.toList == y.f0.toList) && ((x.f1 == y.f1) && ((x.f2 == y.f2) && (x.f3 == y.f3)))
def e2B (x y : S65) : Bool := (x.f0 == y.f0) && (x.f1 == y.f1)
theorem ite_not_some {b : Bool} {x : Option Bool} : (if (!b) = true then some false else x) = (if b = true then x else some false) := by cases b <;> rfl
def all1 (l m : List S53) (i : Nat) : Bool := ((l.drop i).zip (m.drop i)).all fun p => e1B p.1 p.2
def all2 (l m : List S65) (i : Nat) : Bool := ((l.drop i).zip (m.drop i)).all fun p => e2B p.1 p.2
theorem all1_end (l m : List S53) (i : Nat) (h : l.length ≤ i) : all1 l m i = true := by unfold all1; rw [List.drop_of_length_le h]; rfl
theorem all2_end (l m : List S65) (i : Nat) (h : l.length ≤ i) : all2 l m i = true := by unfold all2; rw [List.drop_of_length_le h]; rfl
theorem all1_step (l m : List S53) (i : Nat) (h : i < l.length) (h' : i < m.length) : all1 l m i = (e1B l[i] m[i] && all1 l m (i + 1)) := by
  unfold all1; rw [List.drop_eq_getElem_cons h, List.drop_eq_getElem_cons h', List.zip_cons_cons, List.all_cons]
theorem all2_step (l m : List S65) (i : Nat) (h : i < l.length) (h' : i < m.length) : all2 l m i = (e2B l[i] m[i] && all2 l m (i + 1)) := by
  unfold all2; rw [List.drop_eq_getElem_cons h, List.drop_eq_getElem_cons h', List.zip_cons_cons, List.all_cons]
theorem snap_any (l m : List S53) (hl : l.length ≤ 1000000) (hm : m.length = l.length) : ∀ (g i k : Nat), i + g = l.length → g < k → table_Snap_32.l0 k l m (l.length : Int) (i : Int) = some (all1 l m i) := by
  intro g
  induction g with
  | zero =>
    intro i k hi hk
    obtain ⟨k, rfl⟩ : ∃ m, k = m + 1 := ⟨k - 1, by omega⟩
    rw [table_Snap_32.l0, if_neg (by omega), all1_end l m i (by omega)]
  | succ g ih =>
    intro i k hi hk
    obtain ⟨k, rfl⟩ : ∃ m, k = m + 1 := ⟨k - 1, by omega⟩
    rw [table_Snap_32.l0, if_pos (by omega), if_pos (by omega), if_pos (by omega), if_pos (by omega)]
    have hw : wrap64 ((i : Int) + 1) = ((i + 1 : Nat) : Int) := by unfold wrap64; omega
    rw [hw, rd53_get l i (by omega), rd53_get m i (by omega), ih (i + 1) k (by omega) (by omega), all1_step l m i (by omega) (by omega)]
    unfold e1B
    generalize ((l[i]).f0.toList == (m[i]).f0.toList) = b0
    generalize ((l[i]).f1 == (m[i]).f1) = b1
    generalize ((l[i]).f2 == (m[i]).f2) = b2
    generalize ((l[i]).f3 == (m[i]).f3) = b3
    cases b0 <;> cases b1 <;> cases b2 <;> cases b3 <;> rfl
theorem ref_any (l m : List S65) (hl : l.length ≤ 1000000) (hm : m.length = l.length) : ∀ (g i k : Nat), i + g = l.length → g < k → table_Ref_33.l0 k l m (l.length : Int) (i : Int) = some (all2 l m i) := by
  intro g
  induction g with
  | zero =>
    intro i k hi hk
    obtain ⟨k, rfl⟩ : ∃ m, k = m + 1 := ⟨k - 1, by omega⟩
    rw [table_Ref_33.l0, if_neg (by omega), all2_end l m i (by omega)]
  | succ g ih =>
    intro i k hi hk
    obtain ⟨k, rfl⟩ : ∃ m, k = m + 1 := ⟨k - 1, by omega⟩
    rw [table_Ref_33.l0, if_pos (by omega), if_pos (by omega), if_pos (by omega), if_pos (by omega)]
    have hw : wrap64 ((i : Int) + 1) = ((i + 1 : Nat) : Int) := by unfold wrap64; omega
    rw [hw, rd65_get l i (by omega), rd65_get m i (by omega), ih (i + 1) k (by omega) (by omega), all2_step l m i (by omega) (by omega)]
    unfold e2B
    generalize ((l[i]).f0 == (m[i]).f0) = b0
    generalize ((l[i]).f1 == (m[i]).f1) = b1
    cases b0 <;> cases b1 <;> rfl
/-- Whether two tables are the same. -/
def sameB (a : Int) (l1 : List S53) (l2 : List S65) (b : Int) (m1 : List S53) (m2 : List S65) : Bool :=
  if a = b then (if l1.length = m1.length then (if l2.length = m2.length then (if all1 l1 m1 0 = true then all2 l2 m2 0 else false) else false) else false) else false
theorem tsame_eq (a : Int) (l1 : List S53) (l2 : List S65) (b : Int) (m1 : List S53) (m2 : List S65) (b1 : l1.length ≤ 1000000) (b2 : l2.length ≤ 1000000) (k : Nat) (hk : l1.length < k ∧ l2.length < k) : table_Same.f k a l1 l2 b m1 m2 = some (sameB a l1 l2 b m1 m2) := by
  unfold table_Same.f table_Snap_32.f table_Ref_33.f sameB
  by_cases h0 : a = b
  · rw [if_pos h0, if_pos h0]
    by_cases h1 : l1.length = m1.length
    · rw [if_pos (by omega), if_pos h1]
      have e1 := snap_any l1 m1 b1 h1.symm l1.length 0 k (by omega) hk.1
      rw [show ((0 : Nat) : Int) = 0 from rfl] at e1
      rw [e1, Option.bind_some]
      by_cases h2 : l2.length = m2.length
      · rw [if_pos h2, show (if (l2.length : Int) = (m2.length : Int) then table_Ref_33.l0 k l2 m2 (l2.length : Int) 0 else some false) = some (all2 l2 m2 0) by
          rw [if_pos (by omega)]
          exact ref_any l2 m2 b2 h2.symm l2.length 0 k (by omega) hk.2, Option.bind_some]
        split
        · rfl
        · rfl
      · rw [if_neg h2, if_neg (show ¬ (l2.length : Int) = (m2.length : Int) by omega), Option.bind_some, ite_self]
    · rw [if_neg (by omega), if_neg h1, Option.bind_some, if_neg (by simp)]
  · rw [if_neg h0, if_neg h0]
theorem rsame_l1 (a b : Int) (x1 y1 : List S68) (l2 m2 : List S65) (b2 : l2.length ≤ 1000000) (hm : m2.length = l2.length) : ∀ (g i k : Nat), i + g = l2.length → g < k → rillbedref24_Same.l1 k (i : Int) a x1 (l2.map cv2) b y1 (m2.map cv2) = some (all2 l2 m2 i) := by
  intro g
  induction g with
  | zero =>
    intro i k hi hk
    obtain ⟨k, rfl⟩ : ∃ m, k = m + 1 := ⟨k - 1, by omega⟩
    rw [rillbedref24_Same.l1, if_neg (by rw [List.length_map]; omega), all2_end l2 m2 i (by omega)]
  | succ g ih =>
    intro i k hi hk
    obtain ⟨k, rfl⟩ : ∃ m, k = m + 1 := ⟨k - 1, by omega⟩
    rw [rillbedref24_Same.l1, if_pos (by rw [List.length_map]; omega), if_pos (by omega), if_pos (by rw [List.length_map]; omega)]
    have hw : wrap64 ((i : Int) + 1) = ((i + 1 : Nat) : Int) := by unfold wrap64; omega
    rw [hw, rd69_cv l2 i (by omega), rd69_cv m2 i (by omega), ih (i + 1) k (by omega) (by omega), all2_step l2 m2 i (by omega) (by omega)]
    unfold e2B cv2
    dsimp only
    generalize ((l2[i]).f0 == (m2[i]).f0) = b0
    generalize ((l2[i]).f1 == (m2[i]).f1) = b1
    cases b0 <;> cases b1 <;> rfl
theorem rsame_l0 (a b : Int) (l1 m1 : List S53) (l2 m2 : List S65) (b1 : l1.length ≤ 1000000) (b2 : l2.length ≤ 1000000) (hm1 : m1.length = l1.length) (hm : m2.length = l2.length) : ∀ (g i k : Nat), i + g = l1.length → g + l2.length + 1 < k → rillbedref24_Same.l0 k (i : Int) a (l1.map cv1) (l2.map cv2) b (m1.map cv1) (m2.map cv2) = some (if all1 l1 m1 i = true then all2 l2 m2 0 else false) := by
  intro g
  induction g with
  | zero =>
    intro i k hi hk
    obtain ⟨k, rfl⟩ : ∃ m, k = m + 1 := ⟨k - 1, by omega⟩
    rw [rillbedref24_Same.l0, if_neg (by rw [List.length_map]; omega), all1_end l1 m1 i (by omega), if_pos rfl]
    exact rsame_l1 a b _ _ l2 m2 b2 hm l2.length 0 k (by omega) (by omega)
  | succ g ih =>
    intro i k hi hk
    obtain ⟨k, rfl⟩ : ∃ m, k = m + 1 := ⟨k - 1, by omega⟩
    rw [rillbedref24_Same.l0, if_pos (by rw [List.length_map]; omega), if_pos (by omega), if_pos (by rw [List.length_map]; omega)]
    have hw : wrap64 ((i : Int) + 1) = ((i + 1 : Nat) : Int) := by unfold wrap64; omega
    rw [hw, rd68_cv l1 i (by omega), rd68_cv m1 i (by omega), ih (i + 1) k (by omega) (by omega), all1_step l1 m1 i (by omega) (by omega)]
    unfold e1B cv1
    dsimp only
    generalize ((l1[i]).f0.toList == (m1[i]).f0.toList) = c0
    generalize ((l1[i]).f1 == (m1[i]).f1) = c1
    generalize ((l1[i]).f2 == (m1[i]).f2) = c2
    generalize ((l1[i]).f3 == (m1[i]).f3) = c3
    cases c0 <;> cases c1 <;> cases c2 <;> cases c3 <;> rfl
theorem rsame_eq (a : Int) (l1 : List S53) (l2 : List S65) (b : Int) (m1 : List S53) (m2 : List S65) (b1 : l1.length ≤ 1000000) (b2 : l2.length ≤ 1000000) (k : Nat) (hk : l1.length + l2.length + 2 < k) : rillbedref24_Same.f k a (l1.map cv1) (l2.map cv2) b (m1.map cv1) (m2.map cv2) = some (sameB a l1 l2 b m1 m2) := by
  obtain ⟨k, rfl⟩ : ∃ m, k = m + 1 := ⟨k - 1, by omega⟩
  have ht : rillbedref24_Same.j0 (k + 1) true a (l1.map cv1) (l2.map cv2) b (m1.map cv1) (m2.map cv2) = some false := by rw [rillbedref24_Same.j0, if_pos rfl]
  unfold rillbedref24_Same.f sameB
  rw [ht, List.length_map, List.length_map, List.length_map, List.length_map]
  by_cases h0 : a = b
  · rw [if_pos h0, if_pos h0]
    by_cases h1 : l1.length = m1.length
    · rw [if_pos (by omega), if_pos h1]
      by_cases h2 : l2.length = m2.length
      · rw [if_pos h2, show ((l2.length : Int) != (m2.length : Int)) = false by rw [h2]; simp, rillbedref24_Same.j0, if_neg (by decide)]
        exact rsame_l0 a b l1 m1 l2 m2 b1 b2 h1.symm h2.symm l1.length 0 k (by omega) (by omega)
      · rw [if_neg h2, show ((l2.length : Int) != (m2.length : Int)) = true by rw [bne_iff_ne]; omega, ht]
    · rw [if_neg (by omega), if_neg h1]
  · rw [if_neg h0, if_neg h0]

theorem few_bd (a : Int) (l1 : List S53) (l2 : List S65) : ∀ k : Nat, (∀ x : Int, rillbedlaw24_few.l0 k x a l1 l2 = some true → l1.length ≤ 20 ∧ l2.length ≤ 5000) ∧ (∀ (x : Int) (b : Bool), rillbedlaw24_few.j1 k x b a l1 l2 = some true → l1.length ≤ 20 ∧ l2.length ≤ 5000) := by
  intro k
  induction k with
  | zero => exact ⟨fun x h => (by rw [rillbedlaw24_few.l0] at h; cases h), fun x b h => (by rw [rillbedlaw24_few.j1] at h; cases h)⟩
  | succ k ih =>
    refine ⟨fun x h => ?_, fun x b h => ?_⟩
    · rw [rillbedlaw24_few.l0] at h
      split at h
      · exact ih.2 _ _ h
      · exact ih.2 _ _ h
    · rw [rillbedlaw24_few.j1] at h
      split at h
      · split at h
        · split at h
          · split at h
            · cases h
            · exact ih.1 _ h
          · cases h
        · cases h
      · split at h
        · rename_i hb
          have h2 := of_decide_eq_true (Option.some.inj h)
          omega
        · cases h
theorem puts_j0 (a : Int) (l1 : List S53) (l2 : List S65) (hn : okNums a l1) (b : Int) (m1 : List S53) (m2 : List S65) (s : ByteArray) (f1 : l1.length ≤ 20) (f2 : l2.length ≤ 5000) (f3 : m1.length ≤ 20) (f4 : m2.length ≤ 5000) : rillbedlaw24_TablePuts.j0 20001 s false a l1 l2 b m1 m2 = some true := by
  rw [rillbedlaw24_TablePuts.j0, if_neg (by decide)]
  rw [their_eq a l1 l2 (by omega) (by omega) 20000 (by omega), their_eq b m1 m2 (by omega) (by omega) 20000 (by omega)]
  simp only [Option.bind_some]
  rw [rput_eq a l1 l2 hn 20000 (by omega)]
  rw [show table_Check.f a l1 l2 = some (chk (P1 l1) (P2 l2)) from rfl, show rillbedref24_Check.f a (l1.map cv1) (l2.map cv2) = some (chk (P1 l1) (P2 l2)) by unfold rillbedref24_Check.f; rw [cv_P1, cv_P2]]
  rw [tsame_eq a l1 l2 b m1 m2 (by omega) (by omega) 20000 ⟨by omega, by omega⟩, rsame_eq a l1 l2 b m1 m2 (by omega) (by omega) 20000 (by omega), table_Name_eq, ref_Name_eq s 20000 (by omega)]
  rw [show rillbedlaw24_works.f = some true from rfl]
  by_cases hz : chk (P1 l1) (P2 l2) = 0
  · rw [show table_Put.f a l1 l2 = some (⟨(putT a l1 l2).toArray⟩, 0) by unfold table_Put.f; rw [if_pos hn, if_pos hz], if_pos hz]
    simp only [Option.bind_some, beq_self_eq_true, if_true]
  · have h4 := chk_bad l1 l2 hz
    rw [show table_Put.f a l1 l2 = some (⟨#[]⟩, 4) by unfold table_Put.f; rw [if_pos hn, if_neg hz, h4], if_neg hz]
    simp only [Option.bind_some, beq_self_eq_true, if_true]
theorem puts_true (a : Int) (l1 : List S53) (l2 : List S65) (hn : okNums a l1) (b : Int) (m1 : List S53) (m2 : List S65) (s : ByteArray) : ∃ k, rillbedlaw24_TablePuts.f k a l1 l2 b m1 m2 s = some true := by
  refine ⟨20001, ?_⟩
  obtain ⟨x, hx⟩ := few_some a l1 l2 20001 (by omega)
  obtain ⟨y, hy⟩ := few_some b m1 m2 20001 (by omega)
  have ht : rillbedlaw24_TablePuts.j0 20001 s true a l1 l2 b m1 m2 = some true := by
    rw [rillbedlaw24_TablePuts.j0, if_pos rfl]
    rfl
  unfold rillbedlaw24_TablePuts.f
  rw [hx, hy, ht, Option.bind_some, Option.bind_some]
  split
  · rename_i h1
    split
    · rename_i h2
      by_cases hs : (s.size : Int) > 100
      · rw [decide_eq_true hs]; exact ht
      · rw [decide_eq_false hs]
        subst h1 h2
        obtain ⟨f1, f2⟩ := (few_bd a l1 l2 20001).1 _ hx
        obtain ⟨f3, f4⟩ := (few_bd b m1 m2 20001).1 _ hy
        exact puts_j0 a l1 l2 hn b m1 m2 s f1 f2 f3 f4
    · rfl
  · rfl

end Go.Proofs.Ytlhjhkmmgkfmpaa.Px
