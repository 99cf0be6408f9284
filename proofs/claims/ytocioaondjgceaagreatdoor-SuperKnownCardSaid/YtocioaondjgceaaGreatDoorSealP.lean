/- Stamped texts, as plain lists: what was stamped is told; what is told is stamped so; torn ones are one, the other, or none. -/
import Derived.Test.YtocioaondjgceaaGreatDoorSeal9
set_option linter.unusedVariables false
set_option linter.unusedSimpArgs false
namespace Go.Proofs.YtocioaondjgceaaGreatDoor
open Go.RowKit

theorem ofBe_cons (a : UInt8) (l : List UInt8) : ofBe (a :: l) = a.toNat * 256 ^ l.length + ofBe l := by
  suffices h : ∀ n, l.foldl (fun n c => n * 256 + c.toNat) n = n * 256 ^ l.length + ofBe l by
    have := h (0 * 256 + a.toNat)
    simp only [ofBe, List.foldl_cons] at this ⊢
    rw [this]; simp
  unfold ofBe
  induction l with
  | nil => intro n; simp
  | cons b l ih =>
    intro n
    simp only [List.foldl_cons, List.length_cons]
    rw [ih (n * 256 + b.toNat), ih (0 * 256 + b.toNat), Nat.pow_succ, Nat.add_mul, Nat.mul_assoc, Nat.mul_comm 256]; simp [Nat.add_assoc]
theorem ofBe_be (i n : Nat) : ofBe (be i n) = n % 256 ^ i := by
  induction i with
  | zero => rw [Nat.pow_zero, Nat.mod_one]; rfl
  | succ i ih =>
    rw [be_succ, ofBe_cons, be_len, ih]
    have h1 : (UInt8.ofNat (n / 2 ^ (8 * i))).toNat = n / 256 ^ i % 256 := by
      rw [Nat.pow_mul]; simp
    rw [h1, Nat.pow_succ, Nat.mod_mul (x := n) (a := 256 ^ i) (b := 256), Nat.mul_comm]; omega
theorem ofBe_be_of (i n : Nat) (h : n < 256 ^ i) : ofBe (be i n) = n := by rw [ofBe_be, Nat.mod_eq_of_lt h]
theorem be_ofBe (l : List UInt8) : be l.length (ofBe l) = l :=
  ofBe_inj l.length _ _ (be_len _ _) rfl (ofBe_be_of _ _ (ofBe_lt l))

/-- The parts of a stamped text. -/
theorem stamp_parts (A B L s : List UInt8) (q n : Nat) (hA : A.length = 8) (hB : B.length = 4) (hL : L.length = 2) (hn : n = 26 + s.length + q) (x : List UInt8) (hx : x = A ++ B ++ L ++ s ++ List.replicate q 0 ++ (B ++ A)) :
    x.length = n ∧ x.take 8 = A ∧ (x.drop 8).take 4 = B ∧ (x.drop 12).take 2 = L ∧ (x.drop 14).take s.length = s ∧ x.drop (n - 12) = B ++ A ∧ x.drop (n - 8) = A ∧ (∀ j, 14 + s.length ≤ j → j < n - 12 → x.getD j 0 = 0) := by
  have r0 : x = A ++ (B ++ (L ++ (s ++ (List.replicate q 0 ++ (B ++ A))))) := by rw [hx]; simp
  have r8 : x.drop 8 = B ++ (L ++ (s ++ (List.replicate q 0 ++ (B ++ A)))) := by rw [r0]; exact List.drop_left' hA
  have r12 : x.drop 12 = L ++ (s ++ (List.replicate q 0 ++ (B ++ A))) := by rw [show 12 = 8 + 4 from rfl, ← List.drop_drop, r8]; exact List.drop_left' hB
  have r14 : x.drop 14 = s ++ (List.replicate q 0 ++ (B ++ A)) := by rw [show 14 = 12 + 2 from rfl, ← List.drop_drop, r12]; exact List.drop_left' hL
  have rk : x.drop (14 + s.length) = List.replicate q 0 ++ (B ++ A) := by rw [← List.drop_drop, r14]; exact List.drop_left' rfl
  have r1 : x = (A ++ B ++ L ++ s ++ List.replicate q 0) ++ (B ++ A) := by rw [hx]
  have r2 : x = (A ++ B ++ L ++ s ++ List.replicate q 0 ++ B) ++ A := by rw [hx]; simp
  refine ⟨?_, ?_, ?_, ?_, ?_, ?_, ?_, ?_⟩
  · rw [hx]; simp; omega
  · rw [r0]; exact List.take_left' hA
  · rw [r8]; exact List.take_left' hB
  · rw [r12]; exact List.take_left' hL
  · rw [r14]; exact List.take_left' rfl
  · rw [r1]; exact List.drop_left' (by simp; omega)
  · rw [r2]; exact List.drop_left' (by simp; omega)
  · intro j h1 h2
    have h3 : x[j]? = (x.drop (14 + s.length))[j - (14 + s.length)]? := by rw [List.getElem?_drop]; congr 1; omega
    rw [List.getD, h3, rk, List.getElem?_append_left (by simp; omega), List.getElem?_replicate, if_pos (by omega)]; rfl

/-- What was stamped is told. -/
theorem stamp_told (g i : Nat) (s : List UInt8) (q n : Nat) (hg : g < 18446744073709551616) (hi : i < 4294967296) (hn : n = 26 + s.length + q) (hn2 : n ≤ 65536) :
    ∃ x, Sl.stamp g i s n = (x, 0) ∧ x.length = n ∧ Sl.unstampR x = (g, i, s, 0) ∧ x.take 8 = be 8 g ∧ (x.drop 8).take 4 = be 4 i ∧ x.drop (n - 12) = be 4 i ++ be 8 g ∧ x.drop (n - 8) = be 8 g := by
  obtain ⟨x, hx⟩ : ∃ x, x = be 8 g ++ be 4 i ++ be 2 s.length ++ s ++ List.replicate q 0 ++ (be 4 i ++ be 8 g) := ⟨_, rfl⟩
  obtain ⟨p1, p2, p3, p4, p5, p6, p7, p8⟩ := stamp_parts _ _ _ s q n (be_len 8 g) (be_len 4 i) (be_len 2 s.length) hn x hx
  refine ⟨x, ?_, p1, ?_, p2, p3, p6, p7⟩
  · unfold Sl.stamp
    rw [if_neg (by omega), if_neg (by omega), show ((n : Int) - 26 - s.length).toNat = q by omega, hx]
  · have hk : ofBe ((x.drop 12).take 2) = s.length := by rw [p4, ofBe_be_of 2 _ (by show _ < 65536; omega)]
    unfold Sl.unstampR
    rw [if_neg (by omega), if_neg (by omega), hk, p1, if_neg, p2, p3, p5, ofBe_be_of 8 g (by simpa using hg), ofBe_be_of 4 i (by simpa using hi)]
    rintro (h | h | h | h)
    · exact h (by rw [p2, p7])
    · exact h (by rw [p3, p6]; exact (List.take_left' (be_len 4 i)).symm)
    · omega
    · exact h p8

/-- What any bytes tell: nothing, for a reason; or a stamp and a text that are stamped just so. -/
theorem told_stamped (t : List UInt8) : (∃ e : Int, e ≠ 0 ∧ Sl.unstampR t = (0, 0, [], e)) ∨
    (∃ g i s, Sl.unstampR t = (g, i, s, 0) ∧ g < 18446744073709551616 ∧ i < 4294967296 ∧ s.length ≤ t.length ∧ Sl.stamp g i s t.length = (t, 0)) := by
  by_cases h1 : t.length < 26
  · left; exact ⟨10, by decide, by unfold Sl.unstampR; rw [if_pos h1]⟩
  by_cases h2 : 65536 < t.length
  · left; exact ⟨4, by decide, by unfold Sl.unstampR; rw [if_neg h1, if_pos h2]⟩
  by_cases hc : t.take 8 ≠ t.drop (t.length - 8) ∨ (t.drop 8).take 4 ≠ (t.drop (t.length - 12)).take 4 ∨ t.length - 26 < ofBe ((t.drop 12).take 2) ∨ ¬ (∀ j, 14 + ofBe ((t.drop 12).take 2) ≤ j → j < t.length - 12 → t.getD j 0 = 0)
  · left; exact ⟨4, by decide, by unfold Sl.unstampR; rw [if_neg h1, if_neg h2, if_pos hc]⟩
  · right
    have c1 : t.take 8 = t.drop (t.length - 8) := Classical.not_not.1 fun h => hc (Or.inl h)
    have c2 : (t.drop 8).take 4 = (t.drop (t.length - 12)).take 4 := Classical.not_not.1 fun h => hc (Or.inr (Or.inl h))
    have c3 : ¬ t.length - 26 < ofBe ((t.drop 12).take 2) := fun h => hc (Or.inr (Or.inr (Or.inl h)))
    have c4 : ∀ j, 14 + ofBe ((t.drop 12).take 2) ≤ j → j < t.length - 12 → t.getD j 0 = 0 := Classical.not_not.1 fun h => hc (Or.inr (Or.inr (Or.inr h)))
    obtain ⟨k, hk⟩ : ∃ k, k = ofBe ((t.drop 12).take 2) := ⟨_, rfl⟩
    rw [← hk] at c3 c4
    obtain ⟨n, hn⟩ : ∃ n, n = t.length := ⟨_, rfl⟩
    rw [← hn] at c1 c2 c3 c4
    have l8 : (t.take 8).length = 8 := by rw [List.length_take]; omega
    have l4 : ((t.drop 8).take 4).length = 4 := by rw [List.length_take, List.length_drop]; omega
    have l2 : ((t.drop 12).take 2).length = 2 := by rw [List.length_take, List.length_drop]; omega
    have lk : ((t.drop 14).take k).length = k := by rw [List.length_take, List.length_drop]; omega
    have b8 : be 8 (ofBe (t.take 8)) = t.take 8 := by have := be_ofBe (t.take 8); rwa [l8] at this
    have b4 : be 4 (ofBe ((t.drop 8).take 4)) = (t.drop 8).take 4 := by have := be_ofBe ((t.drop 8).take 4); rwa [l4] at this
    have b2 : be 2 k = (t.drop 12).take 2 := by have := be_ofBe ((t.drop 12).take 2); rw [l2, ← hk] at this; exact this
    refine ⟨ofBe (t.take 8), ofBe ((t.drop 8).take 4), (t.drop 14).take k, ?_, ?_, ?_, ?_, ?_⟩
    · unfold Sl.unstampR
      rw [if_neg h1, if_neg h2, if_neg hc, ← hk]
    · have := ofBe_lt (t.take 8); rw [l8] at this; simpa using this
    · have := ofBe_lt ((t.drop 8).take 4); rw [l4] at this; simpa using this
    · rw [lk]; omega
    · unfold Sl.stamp
      rw [← hn, if_neg (by omega), if_neg (by rw [lk]; omega), lk, show ((n : Int) - 26 - k).toNat = n - 26 - k by omega, b8, b4, b2]
      congr 1
      have z : List.replicate (n - 26 - k) (0 : UInt8) = (t.drop (14 + k)).take (n - 26 - k) := by
        apply List.ext_getElem
        · simp; omega
        · intro j h3 h4
          simp at h3
          have := c4 (14 + k + j) (by omega) (by omega)
          rw [List.getD, List.getElem?_eq_getElem (by omega)] at this
          rw [List.getElem_replicate, List.getElem_take, List.getElem_drop]
          exact this.symm
      have last : t.drop (n - 12) = (t.drop 8).take 4 ++ t.take 8 := by
        rw [c2, c1, show n - 8 = n - 12 + 4 by omega, ← List.drop_drop]
        exact (List.take_append_drop 4 _).symm
      rw [z, ← last]
      have e1 : t.take 8 ++ (t.drop 8).take 4 = t.take 12 := by rw [show 12 = 8 + 4 from rfl, List.take_add]
      have e2 : t.take 12 ++ (t.drop 12).take 2 = t.take 14 := by rw [show 14 = 12 + 2 from rfl, List.take_add]
      have e3 : t.take 14 ++ (t.drop 14).take k = t.take (14 + k) := by rw [List.take_add]
      have e4 : t.take (14 + k) ++ (t.drop (14 + k)).take (n - 26 - k) = t.take (n - 12) := by rw [show n - 12 = 14 + k + (n - 26 - k) by omega]; exact (List.take_add (l := t) (i := 14 + k) (j := n - 26 - k)).symm
      rw [e1, e2, e3, e4, List.take_append_drop]

/-- Torn: the first bytes of one stamped text, the others of another one. -/
theorem torn_texts (g i g2 i2 : Nat) (a b : List UInt8) (qa qb n : Nat) (hg : g < 18446744073709551616) (hi : i < 4294967296) (hg2 : g2 < 18446744073709551616) (hi2 : i2 < 4294967296) (hna : n = 26 + a.length + qa) (hnb : n = 26 + b.length + qb) (hn2 : n ≤ 65536)
    (hne : ¬ (g = g2 ∧ i = i2)) (k : Nat) (hk : k ≤ n) :
    ∃ x y, Sl.stamp g i a n = (x, 0) ∧ Sl.stamp g2 i2 b n = (y, 0) ∧ x.length = n ∧ y.length = n ∧ (x.take k ++ y.drop k = x ∨ x.take k ++ y.drop k = y ∨ Sl.unstampR (x.take k ++ y.drop k) = (0, 0, [], 4)) := by
  obtain ⟨x, ex, lx, _, x8, x4, xt, xl⟩ := stamp_told g i a qa n hg hi hna hn2
  obtain ⟨y, ey, ly, _, y8, y4, yt, yl⟩ := stamp_told g2 i2 b qb n hg2 hi2 hnb hn2
  refine ⟨x, y, ex, ey, lx, ly, ?_⟩
  obtain ⟨t, ht⟩ : ∃ t, t = x.take k ++ y.drop k := ⟨_, rfl⟩
  have lt : t.length = n := by rw [ht, List.length_append, List.length_take, List.length_drop]; omega
  rw [← ht]
  by_cases hc : t.take 8 = t.drop (n - 8) ∧ (t.drop 8).take 4 = (t.drop (n - 12)).take 4
  · obtain ⟨c1, c2⟩ := hc
    -- head and tail, whole
    have hxh : x.take 12 = be 8 g ++ be 4 i := by rw [show 12 = 8 + 4 from rfl, List.take_add, x8, x4]
    have hyh : y.take 12 = be 8 g2 ++ be 4 i2 := by rw [show 12 = 8 + 4 from rfl, List.take_add, y8, y4]
    have hth : t.drop (n - 12) = (t.drop 8).take 4 ++ t.take 8 := by
      rw [c2, c1, show n - 8 = n - 12 + 4 by omega, ← List.drop_drop]
      exact (List.take_append_drop 4 _).symm
    by_cases hlow : k ≤ n - 12
    · -- the tail is y's
      have t1 : t.drop (n - 12) = y.drop (n - 12) := by
        rw [ht, List.drop_append, List.drop_eq_nil_of_le (by rw [List.length_take]; omega), List.nil_append, List.length_take, lx, List.drop_drop]
        congr 1; omega
      rw [t1, yt] at hth
      have h4 : (t.drop 8).take 4 = be 4 i2 := (List.append_inj hth (by rw [be_len, List.length_take, List.length_drop]; omega)).1.symm
      have h8 : t.take 8 = be 8 g2 := (List.append_inj hth (by rw [be_len, List.length_take, List.length_drop]; omega)).2.symm
      have t12 : t.take 12 = y.take 12 := by rw [hyh, show 12 = 8 + 4 from rfl, List.take_add, h8, h4]
      by_cases hk12 : k ≤ 12
      · right; left
        have : x.take k = y.take k := by
          have e := congrArg (List.take k) t12
          rw [List.take_take, List.take_take, show min k 12 = k by omega, ht, List.take_append_of_le_length (by rw [List.length_take]; omega), List.take_take, show min k k = k by omega] at e
          exact e
        rw [ht, this, List.take_append_drop]
      · exfalso
        have e : x.take 12 = y.take 12 := by
          rw [← t12, ht, List.take_append_of_le_length (by rw [List.length_take]; omega), List.take_take]; congr 1; omega
        rw [hxh, hyh] at e
        have e1 := (List.append_inj e (by rw [be_len, be_len])).1
        have e2 := (List.append_inj e (by rw [be_len, be_len])).2
        have f1 := congrArg ofBe e1
        have f2 := congrArg ofBe e2
        rw [ofBe_be_of 8 g (by simpa using hg), ofBe_be_of 8 g2 (by simpa using hg2)] at f1
        rw [ofBe_be_of 4 i (by simpa using hi), ofBe_be_of 4 i2 (by simpa using hi2)] at f2
        exact hne ⟨f1, f2⟩
    · -- the head is x's
      left
      have t8 : t.take 8 = be 8 g := by
        rw [ht, List.take_append_of_le_length (by rw [List.length_take]; omega), List.take_take, show min 8 k = 8 by omega, x8]
      have t4 : (t.drop 8).take 4 = be 4 i := by
        rw [ht, List.drop_append_of_le_length (by rw [List.length_take]; omega), List.take_append_of_le_length (by rw [List.length_drop, List.length_take]; omega), List.drop_take, List.take_take, show min 4 (k - 8) = 4 by omega, x4]
      rw [t8, t4, ← xt] at hth
      have e : t = t.take (n - 12) ++ t.drop (n - 12) := (List.take_append_drop _ _).symm
      have e1 : t.take (n - 12) = x.take (n - 12) := by
        rw [ht, List.take_append_of_le_length (by rw [List.length_take]; omega), List.take_take]; congr 1; omega
      rw [e, e1, hth, List.take_append_drop]
  · right; right
    unfold Sl.unstampR
    rw [lt, if_neg (by omega), if_neg (by omega), if_pos]
    by_cases h1 : t.take 8 = t.drop (n - 8)
    · right; left; intro h2; exact hc ⟨h1, h2⟩
    · left; exact h1

end Go.Proofs.YtocioaondjgceaaGreatDoor
