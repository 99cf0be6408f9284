/- What the code does with blocks and patches is what the reference does: plain lists. -/
import Derived.Test.YtiabomfkmfokeaaDoorBlk7
set_option linter.unusedVariables false
set_option linter.unusedSimpArgs false
namespace Go.Proofs.YtiabomfkmfokeaaDoor
open Go.RowKit

theorem fx_ok (l : List UInt8) (n : Nat) (h : n ≤ l.length) (h0 : 0 < n) : fx l 0 n = (l.take n, l.drop n, 0) := by
  unfold fx; rw [if_neg (by omega), if_neg (by omega)]; simp
theorem fx_torn (l : List UInt8) (n : Nat) (h : l.length < n) : fx l 0 n = ([], [], 10) := by
  unfold fx; rw [if_neg (by omega), if_pos (by omega)]
theorem fx_zero (l : List UInt8) (e : Int) : fx l e 0 = ([], l, e) := by unfold fx; rw [if_pos (by omega)]
theorem fx_err (l : List UInt8) (e n : Int) (h : e ≠ 0) : fx l e n = ([], l, e) := by unfold fx; rw [if_pos (Or.inl h)]
theorem rU8_nil : rU8 [] 0 = (0, [], 10) := rfl
theorem rU8_cons (k : UInt8) (r : List UInt8) : rU8 (k :: r) 0 = (k.toNat, r, 0) := by
  unfold rU8; rw [show (1 : Int) = ((1 : Nat) : Int) from rfl, fx_ok _ 1 (by simp) (by decide)]; simp [ofBe]
theorem rU8_err (l : List UInt8) (e : Int) (h : e ≠ 0) : rU8 l e = (0, l, e) := by unfold rU8; rw [fx_err l e 1 h]; rfl
theorem rU16_short (l : List UInt8) (h : l.length < 2) : rU16 l 0 = (0, [], 10) := by
  unfold rU16; rw [show (2 : Int) = ((2 : Nat) : Int) from rfl, fx_torn _ 2 h]; rfl
theorem rU16_cons (a b : UInt8) (r : List UInt8) : rU16 (a :: b :: r) 0 = (a.toNat * 256 + b.toNat, r, 0) := by
  unfold rU16; rw [show (2 : Int) = ((2 : Nat) : Int) from rfl, fx_ok _ 2 (by simp) (by decide)]; simp [ofBe]
theorem rU16_err (l : List UInt8) (e : Int) (h : e ≠ 0) : rU16 l e = (0, l, e) := by unfold rU16; rw [fx_err l e 2 h]; rfl
theorem rText_err (l : List UInt8) (e : Int) (h : e ≠ 0) : rText l e = ([], l, e) := by unfold rText; rw [rU16_err l e h]; exact fx_err l e 0 h
theorem rText_short (l : List UInt8) (h : l.length < 2) : rText l 0 = ([], [], 10) := by unfold rText; rw [rU16_short l h]; rfl
theorem rText_cons (a b : UInt8) (r : List UInt8) : rText (a :: b :: r) 0 = if r.length < a.toNat * 256 + b.toNat then ([], [], 10) else (r.take (a.toNat * 256 + b.toNat), r.drop (a.toNat * 256 + b.toNat), 0) := by
  unfold rText; rw [rU16_cons]; dsimp only
  split
  · rename_i h; exact fx_torn r _ h
  · rename_i h
    by_cases h0 : a.toNat * 256 + b.toNat = 0
    · rw [h0]; exact fx_zero r 0
    · exact fx_ok r _ (by omega) (by omega)

theorem finR_fin (p : Blk.Pt) (l : List UInt8) : finR p l 0 = Blk.fin p (decide (0 < l.length)) := by
  unfold finR Blk.fin; rw [if_neg (by omega)]
  by_cases h : l.length ≠ 0 ∨ Blk.may p = false
  · rw [if_pos h, if_pos (by rcases h with h | h; · left; simp; cases l <;> simp at h ⊢
                             · right; exact h)]
  · rw [if_neg h, if_neg (by intro g; apply h; rcases g with g | g; · left; simp at g; omega
                             · right; exact g)]

theorem takeR_eq (l : List UInt8) : takeR l = takeI l := by
  unfold takeR
  cases l with
  | nil => rfl
  | cons k r =>
    rw [rU8_cons]
    dsimp only
    rw [if_neg (by simp)]
    have hl0 : ¬ (k :: r).length = 0 := by simp
    have hg : (k :: r).getD 0 0 = k := rfl
    unfold takeI
    rw [if_neg hl0, hg]
    by_cases h2 : k.toNat = 2
    · rw [if_pos h2, if_neg (by omega), if_pos h2]
      cases r with
      | nil => rw [rU8_nil]; rfl
      | cons n r =>
        rw [rU8_cons]; dsimp only
        rw [if_neg (by simp), finR_fin]
        congr 1
        simp
    · rw [if_neg h2]
      by_cases h1 : k.toNat = 1
      · rw [if_pos h1, if_neg (by omega), if_neg h2]
        rcases r with _ | ⟨a, _ | ⟨h, _ | ⟨m, r⟩⟩⟩
        · rfl
        · rw [rU8_cons]; dsimp only; rw [rText_short _ (by simp)]; rfl
        · rw [rU8_cons]; dsimp only; rw [rText_short _ (by simp)]; rfl
        · rw [rU8_cons]; dsimp only; rw [rText_cons]
          have e1 : (k :: a :: h :: m :: r).getD 2 0 = h := rfl
          have e2 : (k :: a :: h :: m :: r).getD 3 0 = m := rfl
          have e3 : (k :: a :: h :: m :: r).getD 1 0 = a := rfl
          have e4 : (k :: a :: h :: m :: r).length = r.length + 4 := rfl
          rw [e1, e2, e3, e4]
          by_cases hs : r.length < h.toNat * 256 + m.toNat
          · rw [if_pos hs, if_neg (by omega), if_pos (by omega)]; rfl
          · rw [if_neg hs, if_neg (by omega), if_neg (by omega)]
            dsimp only
            rw [finR_fin, Nat.mul_comm h.toNat 256]
            congr 1
            simp; omega
      · rw [if_neg h1, if_pos ⟨h1, h2⟩]

theorem trim_zeros (l : List UInt8) (n : Nat) : Blk.trim (l ++ List.replicate n 0) = Blk.trim l := by
  unfold Blk.trim Blk.trimB
  congr 1
  rw [List.reverse_append, List.reverse_replicate]
  induction n with
  | zero => simp
  | succ n ih => rw [List.replicate_succ]; simp
/-- The first bytes, noughts behind them. -/
theorem range_pad (v : List UInt8) (h : v.length ≤ 64) : (List.range 64).map (Blk.byteAt v) = v ++ List.replicate (64 - v.length) 0 := by
  apply List.ext_getElem
  · simp; omega
  · intro i h1 h2
    simp at h1
    by_cases hi : i < v.length
    · simp [Blk.byteAt, List.getD, hi]
    · rw [List.getElem_append_right (by omega)]
      simp [Blk.byteAt, List.getD, List.getElem?_eq_none (show v.length ≤ i by omega)]

theorem applyW_eq (v : List UInt8) (p : Blk.Pt) : applyW v p = Blk.apply v p := by
  have hv : (v.take 64).length ≤ 64 := by simp; omega
  unfold applyW
  cases hm : Blk.may p with
  | false =>
    rw [if_pos rfl]
    rw [← trim_zeros (v.take 64) (64 - (v.take 64).length), ← range_pad _ hv]
    exact apply_seq (fun i hi => by rw [Blk.over, if_pos hm])
  | true =>
    rw [if_neg (by simp)]
    obtain ⟨cut, at_, n, s⟩ := p
    cases cut with
    | true =>
      have hn : 0 ≤ n ∧ n < 64 := by simp [Blk.may] at hm; omega
      obtain ⟨m, rfl⟩ := Int.eq_ofNat_of_zero_le hn.1
      rw [if_pos rfl]
      rw [← trim_zeros _ (64 - m)]
      have : Blk.at_ (v.take 64) 0 (m : Int) ++ List.replicate (64 - m) 0 = seq64 (fun i => if i < m then Blk.byteAt (v.take 64) i else 0) := by
        apply List.ext_getElem
        · simp [Blk.at_, seq64]; omega
        · intro i h1 h2
          simp [seq64] at h2
          by_cases hi : i < m
          · rw [List.getElem_append_left (by simp [Blk.at_]; omega)]
            simp [Blk.at_, seq64, hi]
          · rw [List.getElem_append_right (by simp [Blk.at_]; omega)]
            simp [seq64, hi]
      rw [this]
      exact apply_seq (fun i hi => by rw [over_cut hm rfl]; simp)
    | false =>
      have hn : 0 ≤ at_ ∧ at_ + s.length ≤ 64 ∧ s.length ≤ 64 := by simp [Blk.may] at hm; omega
      obtain ⟨m, rfl⟩ := Int.eq_ofNat_of_zero_le hn.1
      rw [if_neg (by simp)]
      have : Blk.at_ (v.take 64) 0 (m : Int) ++ s ++ Blk.at_ (v.take 64) ((m : Int) + s.length) (64 - ((m : Int) + s.length)) = seq64 (fun i => if m ≤ i ∧ i < m + s.length then s.getD (i - m) 0 else Blk.byteAt (v.take 64) i) := by
        apply List.ext_getElem
        · simp [Blk.at_, seq64]; omega
        · intro i h1 h2
          simp [seq64] at h2
          by_cases hi : i < m
          · rw [List.getElem_append_left (by simp [Blk.at_]; omega), List.getElem_append_left (by simp [Blk.at_]; omega)]
            simp [Blk.at_, seq64]; omega
          · by_cases hj : i < m + s.length
            · rw [List.getElem_append_left (by simp [Blk.at_]; omega), List.getElem_append_right (by simp [Blk.at_]; omega)]
              have e : (Blk.at_ (v.take 64) 0 (m : Int)).length = m := by simp [Blk.at_]; omega
              simp [seq64, e]; rw [if_pos (by omega)]; simp [List.getD, show i - m < s.length by omega]
            · rw [List.getElem_append_right (by simp [Blk.at_]; omega)]
              have e : (Blk.at_ (v.take 64) 0 (m : Int) ++ s).length = m + s.length := by simp [Blk.at_]; omega
              simp only [e]
              simp [Blk.at_, seq64]; rw [if_neg (by omega)]
              congr 1; omega
      rw [this]
      exact apply_seq (fun i hi => by
        rw [over_splice hm rfl]
        by_cases h : m ≤ i ∧ i < m + s.length
        · rw [if_pos h, if_pos (by simp; omega)]; simp
        · rw [if_neg h, if_neg (by simp; omega)])

end Go.Proofs.YtiabomfkmfokeaaDoor
