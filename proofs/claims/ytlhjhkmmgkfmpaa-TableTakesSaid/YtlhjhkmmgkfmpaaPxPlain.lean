/- The plain law: the code's Take is the document's. -/
import Derived.Test.YtlhjhkmmgkfmpaaPxRTake
import Derived.Test.YtlhjhkmmgkfmpaaPx17
import Derived.Test.YtlhjhkmmgkfmpaaPx18
set_option linter.unusedVariables false
set_option linter.unusedSimpArgs false
namespace Go.Proofs.Ytlhjhkmmgkfmpaa.Px
open Go.RowKit Go.Shelf Go.Proofs.YtlhjhkmmgkfmpaaW.PrintWords Go.Proofs.YtlhjhkmmgkfmpaaW.PrintLast

def St (a : List UInt8 × Int) (b : List UInt8 × Bool) : Prop := (a.2 = 0 ∧ b.2 = false ∧ a.1 = b.1) ∨ (a.2 ≠ 0 ∧ b.2 = true)
theorem st_fx {a : List UInt8 × Int} {b : List UInt8 × Bool} (h : St a b) (n : Nat) : (fx a.1 a.2 n).1 = (tk b.1 b.2 n).1 ∧ St (fx a.1 a.2 n).2 (tk b.1 b.2 n).2 := by
  obtain ⟨l, e⟩ := a
  obtain ⟨l', t⟩ := b
  rcases h with ⟨h1, h2, h3⟩ | ⟨h1, h2⟩
  · dsimp only at h1 h2 h3 ⊢
    subst h1 h2 h3
    by_cases hn : n ≤ l.length
    · rw [fx_any l n hn]
      have : tk l false n = (l.take n, l.drop n, false) := by unfold tk; rw [if_neg (by simp; omega)]
      rw [this]
      exact ⟨rfl, .inl ⟨rfl, rfl, rfl⟩⟩
    · rw [fx_torn l n (by omega)]
      have : tk l false n = ([], l, true) := by unfold tk; rw [if_pos (.inr (by omega))]
      rw [this]
      exact ⟨rfl, .inr ⟨by decide, rfl⟩⟩
  · dsimp only at h1 h2 ⊢
    subst h2
    rw [fx_err l e n h1]
    have : tk l' true n = ([], l', true) := by unfold tk; rw [if_pos (.inl rfl)]
    rw [this]
    exact ⟨rfl, .inr ⟨h1, rfl⟩⟩
theorem st64 {a : List UInt8 × Int} {b : List UInt8 × Bool} (h : St a b) : (rU64 a.1 a.2).1 = (nm b.1 b.2 8).1 ∧ St (rU64 a.1 a.2).2 (nm b.1 b.2 8).2 := by
  have := st_fx h 8
  exact ⟨congrArg ofBe this.1, this.2⟩
theorem st16 {a : List UInt8 × Int} {b : List UInt8 × Bool} (h : St a b) : (rU16 a.1 a.2).1 = (nm b.1 b.2 2).1 ∧ St (rU16 a.1 a.2).2 (nm b.1 b.2 2).2 := by
  have := st_fx h 2
  exact ⟨congrArg ofBe this.1, this.2⟩
theorem st8 {a : List UInt8 × Int} {b : List UInt8 × Bool} (h : St a b) : (rU8 a.1 a.2).1 = (nm b.1 b.2 1).1 ∧ St (rU8 a.1 a.2).2 (nm b.1 b.2 1).2 := by
  have := st_fx h 1
  exact ⟨congrArg ofBe this.1, this.2⟩
theorem stText {a : List UInt8 × Int} {b : List UInt8 × Bool} (h : St a b) : (rText a.1 a.2).1 = (tk (nm b.1 b.2 2).2.1 (nm b.1 b.2 2).2.2 (nm b.1 b.2 2).1).1 ∧ St (rText a.1 a.2).2 (tk (nm b.1 b.2 2).2.1 (nm b.1 b.2 2).2.2 (nm b.1 b.2 2).1).2 := by
  obtain ⟨h1, h2⟩ := st16 h
  have := st_fx h2 (rU16 a.1 a.2).1
  unfold rText
  rw [← h1]
  exact this
def cv1 (x : S53) : S68 := ⟨x.f0, x.f1, x.f2, x.f3⟩
def cv2 (x : S65) : S69 := ⟨x.f0, x.f1⟩
theorem stSnap {a : List UInt8 × Int} {b : List UInt8 × Bool} (h : St a b) : cv1 (snapR a.1 a.2).1 = (rsnap b.1 b.2).1 ∧ St (snapR a.1 a.2).2 (rsnap b.1 b.2).2 := by
  obtain ⟨t1, t2⟩ := stText h
  obtain ⟨u1, u2⟩ := st16 t2
  obtain ⟨v1, v2⟩ := st64 u2
  obtain ⟨w1, w2⟩ := st64 v2
  refine ⟨?_, w2⟩
  unfold cv1 snapR rsnap
  dsimp only
  rw [t1, u1, v1, w1]
theorem stRef {a : List UInt8 × Int} {b : List UInt8 × Bool} (h : St a b) : cv2 (refR a.1 a.2).1 = (rref b.1 b.2).1 ∧ St (refR a.1 a.2).2 (rref b.1 b.2).2 := by
  obtain ⟨u1, u2⟩ := st16 h
  obtain ⟨v1, v2⟩ := st16 u2
  refine ⟨?_, v2⟩
  unfold cv2 refR rref
  dsimp only
  rw [u1, v1]
theorem st_err {a : List UInt8 × Int} {b : List UInt8 × Bool} (h : St a b) : a.2 ≠ 0 ↔ b.2 = true := by
  rcases h with ⟨h1, h2, h3⟩ | ⟨h1, h2⟩
  · rw [h1, h2]; simp
  · exact ⟨fun _ => h2, fun _ => h1⟩
theorem stReadS : ∀ (n : Nat) {a : List UInt8 × Int} {b : List UInt8 × Bool}, St a b → St (readS n a.1 a.2).2 (rS n b.1 b.2).2 ∧ ((rS n b.1 b.2).2.2 = false → (readS n a.1 a.2).1.map cv1 = (rS n b.1 b.2).1)
  | 0, a, b, h => ⟨h, fun _ => rfl⟩
  | n + 1, a, b, h => by
    obtain ⟨s1, s2⟩ := stSnap h
    by_cases hb : b.2 = true
    · have ha : (snapR a.1 a.2).2.2 ≠ 0 := by
        have h2 : (rsnap b.1 b.2).2.2 = true := by
          rw [hb]
          unfold rsnap nm tk
          simp
        exact (st_err s2).2 h2
      have e1 : readS (n + 1) a.1 a.2 = ([], (snapR a.1 a.2).2) := by unfold readS; rw [if_pos ha]
      have e2 : rS (n + 1) b.1 b.2 = ([], b.1, true) := by rw [hb]; exact rS_torn _ _
      rw [e1, e2]
      exact ⟨.inr ⟨ha, rfl⟩, fun h => by cases h⟩
    · have e2 : rS (n + 1) b.1 b.2 = ((rsnap b.1 b.2).1 :: (rS n (rsnap b.1 b.2).2.1 (rsnap b.1 b.2).2.2).1, (rS n (rsnap b.1 b.2).2.1 (rsnap b.1 b.2).2.2).2) := by
        conv => lhs; unfold rS
        rw [if_neg hb]
      by_cases ha : (snapR a.1 a.2).2.2 ≠ 0
      · have e1 : readS (n + 1) a.1 a.2 = ([], (snapR a.1 a.2).2) := by unfold readS; rw [if_pos ha]
        have ht := (st_err s2).1 ha
        rw [e1, e2, ht, rS_torn]
        exact ⟨.inr ⟨ha, rfl⟩, fun h => by cases h⟩
      · have e1 : readS (n + 1) a.1 a.2 = ((snapR a.1 a.2).1 :: (readS n (snapR a.1 a.2).2.1 (snapR a.1 a.2).2.2).1, (readS n (snapR a.1 a.2).2.1 (snapR a.1 a.2).2.2).2) := by
          conv => lhs; unfold readS
          rw [if_neg ha]
        obtain ⟨i1, i2⟩ := stReadS n s2
        rw [e1, e2]
        exact ⟨i1, fun hf => by rw [List.map_cons, s1, i2 hf]⟩
theorem stReadR : ∀ (n : Nat) {a : List UInt8 × Int} {b : List UInt8 × Bool}, St a b → St (readR n a.1 a.2).2 (rR n b.1 b.2).2 ∧ ((rR n b.1 b.2).2.2 = false → (readR n a.1 a.2).1.map cv2 = (rR n b.1 b.2).1)
  | 0, a, b, h => ⟨h, fun _ => rfl⟩
  | n + 1, a, b, h => by
    obtain ⟨s1, s2⟩ := stRef h
    by_cases hb : b.2 = true
    · have ha : (refR a.1 a.2).2.2 ≠ 0 := by
        have h2 : (rref b.1 b.2).2.2 = true := by
          rw [hb]
          unfold rref nm tk
          simp
        exact (st_err s2).2 h2
      have e1 : readR (n + 1) a.1 a.2 = ([], (refR a.1 a.2).2) := by unfold readR; rw [if_pos ha]
      have e2 : rR (n + 1) b.1 b.2 = ([], b.1, true) := by rw [hb]; exact rR_torn _ _
      rw [e1, e2]
      exact ⟨.inr ⟨ha, rfl⟩, fun h => by cases h⟩
    · have e2 : rR (n + 1) b.1 b.2 = ((rref b.1 b.2).1 :: (rR n (rref b.1 b.2).2.1 (rref b.1 b.2).2.2).1, (rR n (rref b.1 b.2).2.1 (rref b.1 b.2).2.2).2) := by
        conv => lhs; unfold rR
        rw [if_neg hb]
      by_cases ha : (refR a.1 a.2).2.2 ≠ 0
      · have e1 : readR (n + 1) a.1 a.2 = ([], (refR a.1 a.2).2) := by unfold readR; rw [if_pos ha]
        have ht := (st_err s2).1 ha
        rw [e1, e2, ht, rR_torn]
        exact ⟨.inr ⟨ha, rfl⟩, fun h => by cases h⟩
      · have e1 : readR (n + 1) a.1 a.2 = ((refR a.1 a.2).1 :: (readR n (refR a.1 a.2).2.1 (refR a.1 a.2).2.2).1, (readR n (refR a.1 a.2).2.1 (refR a.1 a.2).2.2).2) := by
          conv => lhs; unfold readR
          rw [if_neg ha]
        obtain ⟨i1, i2⟩ := stReadR n s2
        rw [e1, e2]
        exact ⟨i1, fun hf => by rw [List.map_cons, s1, i2 hf]⟩
theorem cv_P1 (l : List S53) : R1 (l.map cv1) = P1 l := by unfold R1 P1; rw [List.map_map]; rfl
theorem cv_P2 (l : List S65) : R2 (l.map cv2) = P2 l := by unfold R2 P2; rw [List.map_map]; rfl

theorem nm_torn (l : List UInt8) (t : Bool) (n : Nat) (h : t = true) : (nm l t n).2.2 = true := by subst h; unfold nm tk; simp
theorem take_same (s : List UInt8) : rtkP s = (((tkP s).1.1, (tkP s).1.2.1.map cv1, (tkP s).1.2.2.map cv2), (tkP s).2) := by
  have h0 : St (s, (0 : Int)) (s, false) := .inl ⟨rfl, rfl, rfl⟩
  have h1 := st64 h0
  unfold rtkP tkP
  dsimp only at h1 ⊢
  generalize rU64 s 0 = x1 at *
  generalize nm s false 8 = y1 at *
  obtain ⟨p1, X1⟩ := x1
  obtain ⟨q1, Y1⟩ := y1
  dsimp only at h1 ⊢
  obtain ⟨rfl, h1⟩ := h1
  have h2 := st8 h1
  generalize rU8 X1.1 X1.2 = x2 at *
  generalize nm Y1.1 Y1.2 1 = y2 at *
  obtain ⟨p2, X2⟩ := x2
  obtain ⟨q2, Y2⟩ := y2
  dsimp only at h2 ⊢
  obtain ⟨rfl, h2⟩ := h2
  have h3 := stReadS p2 h2
  generalize readS p2 X2.1 X2.2 = x3 at *
  generalize rS p2 Y2.1 Y2.2 = y3 at *
  obtain ⟨p3, X3⟩ := x3
  obtain ⟨q3, Y3⟩ := y3
  dsimp only at h3 ⊢
  obtain ⟨h3, k3⟩ := h3
  have h4 := st16 h3
  have t4 := nm_torn Y3.1 Y3.2 2
  generalize rU16 X3.1 X3.2 = x4 at *
  generalize nm Y3.1 Y3.2 2 = y4 at *
  obtain ⟨p4, X4⟩ := x4
  obtain ⟨q4, Y4⟩ := y4
  dsimp only at h4 t4 ⊢
  obtain ⟨rfl, h4⟩ := h4
  have h5 := stReadR p4 h4
  have t5 : Y4.2 = true → (rR p4 Y4.1 Y4.2).2.2 = true := fun h => by rw [h, rR_torn]
  generalize readR p4 X4.1 X4.2 = x5 at *
  generalize rR p4 Y4.1 Y4.2 = y5 at *
  obtain ⟨p5, X5⟩ := x5
  obtain ⟨q5, Y5⟩ := y5
  dsimp only at h5 t5 ⊢
  obtain ⟨h5, k5⟩ := h5
  by_cases hT : Y5.2 = true
  · rw [if_pos hT, if_pos ((st_err h5).2 hT)]
    rfl
  · have hE : ¬ X5.2 ≠ 0 := fun h => hT ((st_err h5).1 h)
    rw [if_neg hT, if_neg hE]
    have f5 : Y5.2 = false := by simpa using hT
    have f4 : Y4.2 = false := by cases h : Y4.2 with
      | false => rfl
      | true => exact absurd (t5 h) hT
    have f3 : Y3.2 = false := by cases h : Y3.2 with
      | false => rfl
      | true => rw [t4 h] at f4; cases f4
    have m3 := k3 f3
    have m5 := k5 f5
    subst m3 m5
    have hl : X5.1 = Y5.1 := by
      rcases h5 with ⟨_, _, h⟩ | ⟨h, _⟩
      · exact h
      · exact absurd h hE
    rw [cv_P1, cv_P2, hl]
    by_cases hc : Y5.1 ≠ [] ∨ chk (P1 p3) (P2 p5) ≠ 0
    · rw [if_pos hc, if_pos hc]; rfl
    · rw [if_neg hc, if_neg hc]

theorem rd53_get (l : List S53) (i : Nat) (h : i < l.length) : rd_T53 l (i : Int) = l[i] := by unfold rd_T53; rw [Int.toNat_natCast, List.getD_eq_getElem?_getD, List.getElem?_eq_getElem h]; rfl
theorem rd65_get (l : List S65) (i : Nat) (h : i < l.length) : rd_T65 l (i : Int) = l[i] := by unfold rd_T65; rw [Int.toNat_natCast, List.getD_eq_getElem?_getD, List.getElem?_eq_getElem h]; rfl
theorem their1 (a : Int) (l1 : List S53) (l2 : List S65) (b1 : l1.length ≤ 1000000) (b2 : l2.length ≤ 1000000) (c : Int) (m : List S68) : ∀ (g i k : Nat), i + g = l2.length → g < k →
    rillbedlaw24_their.l1 k (i : Int) a l1 l2 c m ((l2.take i).map cv2) = some (c, m, l2.map cv2) := by
  intro g
  induction g with
  | zero =>
    intro i k hi hk
    obtain ⟨k, rfl⟩ : ∃ m, k = m + 1 := ⟨k - 1, by omega⟩
    simp only [rillbedlaw24_their.l1]
    rw [if_neg (by omega), List.take_of_length_le (by omega)]
  | succ g ih =>
    intro i k hi hk
    obtain ⟨k, rfl⟩ : ∃ m, k = m + 1 := ⟨k - 1, by omega⟩
    have hlt : i < l2.length := by omega
    simp only [rillbedlaw24_their.l1]
    rw [if_pos (by omega), if_pos (by omega), if_pos (by simp; omega)]
    have hw : wrap64 ((i : Int) + 1) = ((i + 1 : Nat) : Int) := by unfold wrap64; omega
    rw [hw, rd65_get l2 i hlt]
    have := ih (i + 1) k (by omega) (by omega)
    rw [List.take_add_one, List.getElem?_eq_getElem hlt, List.map_append] at this
    exact this
theorem their0 (a : Int) (l1 : List S53) (l2 : List S65) (b1 : l1.length ≤ 1000000) (b2 : l2.length ≤ 1000000) (c : Int) : ∀ (g i k : Nat), i + g = l1.length → g + l2.length + 1 < k →
    rillbedlaw24_their.l0 k (i : Int) a l1 l2 c ((l1.take i).map cv1) = some (c, l1.map cv1, l2.map cv2) := by
  intro g
  induction g with
  | zero =>
    intro i k hi hk
    obtain ⟨k, rfl⟩ : ∃ m, k = m + 1 := ⟨k - 1, by omega⟩
    simp only [rillbedlaw24_their.l0]
    rw [if_neg (by omega), List.take_of_length_le (by omega)]
    exact their1 a l1 l2 b1 b2 c _ l2.length 0 k (by omega) (by omega)
  | succ g ih =>
    intro i k hi hk
    obtain ⟨k, rfl⟩ : ∃ m, k = m + 1 := ⟨k - 1, by omega⟩
    have hlt : i < l1.length := by omega
    simp only [rillbedlaw24_their.l0]
    rw [if_pos (by omega), if_pos (by omega), if_pos (by simp; omega)]
    have hw : wrap64 ((i : Int) + 1) = ((i + 1 : Nat) : Int) := by unfold wrap64; omega
    rw [hw, rd53_get l1 i hlt]
    have := ih (i + 1) k (by omega) (by omega)
    rw [List.take_add_one, List.getElem?_eq_getElem hlt, List.map_append] at this
    exact this
theorem their_eq (a : Int) (l1 : List S53) (l2 : List S65) (b1 : l1.length ≤ 1000000) (b2 : l2.length ≤ 1000000) (k : Nat) (hk : l1.length + l2.length + 1 < k) : rillbedlaw24_their.f k a l1 l2 = some (a, l1.map cv1, l2.map cv2) :=
  their0 a l1 l2 b1 b2 a l1.length 0 k (by omega) (by omega)
theorem same_l1 (a b : Int) (l1 : List S68) (l2 : List S69) (b2 : l2.length ≤ 1000000) : ∀ (g i k : Nat), i + g = l2.length → g < k → rillbedref24_Same.l1 k (i : Int) a l1 l2 b l1 l2 = some true := by
  intro g
  induction g with
  | zero =>
    intro i k hi hk
    obtain ⟨k, rfl⟩ : ∃ m, k = m + 1 := ⟨k - 1, by omega⟩
    simp only [rillbedref24_Same.l1]
    rw [if_neg (by omega)]
  | succ g ih =>
    intro i k hi hk
    obtain ⟨k, rfl⟩ : ∃ m, k = m + 1 := ⟨k - 1, by omega⟩
    simp only [rillbedref24_Same.l1]
    rw [if_pos (by omega), if_pos (by omega), if_pos (by omega), if_neg (by simp)]
    have hw : wrap64 ((i : Int) + 1) = ((i + 1 : Nat) : Int) := by unfold wrap64; omega
    rw [hw]
    exact ih (i + 1) k (by omega) (by omega)
theorem same_l0 (a b : Int) (l1 : List S68) (l2 : List S69) (b1 : l1.length ≤ 1000000) (b2 : l2.length ≤ 1000000) : ∀ (g i k : Nat), i + g = l1.length → g + l2.length + 1 < k → rillbedref24_Same.l0 k (i : Int) a l1 l2 b l1 l2 = some true := by
  intro g
  induction g with
  | zero =>
    intro i k hi hk
    obtain ⟨k, rfl⟩ : ∃ m, k = m + 1 := ⟨k - 1, by omega⟩
    simp only [rillbedref24_Same.l0]
    rw [if_neg (by omega)]
    exact same_l1 a b l1 l2 b2 l2.length 0 k (by omega) (by omega)
  | succ g ih =>
    intro i k hi hk
    obtain ⟨k, rfl⟩ : ∃ m, k = m + 1 := ⟨k - 1, by omega⟩
    simp only [rillbedref24_Same.l0]
    rw [if_pos (by omega), if_pos (by omega), if_pos (by omega), if_neg (by simp)]
    have hw : wrap64 ((i : Int) + 1) = ((i + 1 : Nat) : Int) := by unfold wrap64; omega
    rw [hw]
    exact ih (i + 1) k (by omega) (by omega)
theorem same_refl (a : Int) (l1 : List S68) (l2 : List S69) (b1 : l1.length ≤ 1000000) (b2 : l2.length ≤ 1000000) (k : Nat) (hk : l1.length + l2.length + 2 < k) : rillbedref24_Same.f k a l1 l2 a l1 l2 = some true := by
  obtain ⟨k, rfl⟩ : ∃ m, k = m + 1 := ⟨k - 1, by omega⟩
  unfold rillbedref24_Same.f
  rw [if_pos rfl, if_pos rfl]
  simp only [rillbedref24_Same.j0]
  rw [if_neg (by simp)]
  exact same_l0 a a l1 l2 b1 b2 l1.length 0 k (by omega) (by omega)
theorem tkP_len (s : List UInt8) : (tkP s).1.2.1.length ≤ 255 ∧ (tkP s).1.2.2.length ≤ 65535 := by
  have h1 := rU8_lt (rU64 s 0).2.1 (rU64 s 0).2.2
  unfold Two8 at h1
  unfold tkP
  dsimp only
  generalize rU8 (rU64 s 0).2.1 (rU64 s 0).2.2 = b at *
  have h2 := readS_len b.1 b.2.1 b.2.2
  generalize readS b.1 b.2.1 b.2.2 = c at *
  have h3 := rU16_lt c.2.1 c.2.2
  unfold Two16 at h3
  generalize rU16 c.2.1 c.2.2 = d at *
  have h4 := readR_len d.1 d.2.1 d.2.2
  generalize readR d.1 d.2.1 d.2.2 = f at *
  split
  · exact ⟨Nat.zero_le _, Nat.zero_le _⟩
  · split
    · exact ⟨Nat.zero_le _, Nat.zero_le _⟩
    · exact ⟨by dsimp only; omega, by dsimp only; omega⟩

end Go.Proofs.Ytlhjhkmmgkfmpaa.Px
