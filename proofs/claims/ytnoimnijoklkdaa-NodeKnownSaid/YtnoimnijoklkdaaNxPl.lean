/- Bounds of what node.read and message.Take read. -/
import Derived.Test.YtnoimnijoklkdaaNxMt
set_option linter.unusedVariables false
set_option linter.unusedSimpArgs false
namespace Go.Proofs.Ytnoimnijoklkdaa.Px
open Go.RowKit Go.Proofs.YtnoimnijoklkdaaW.PrintWords Go.Proofs.YtnoimnijoklkdaaW.PrintLast

theorem fx_got (l : List UInt8) (e n : Int) : (fx l e n).1.length ≤ l.length := by
  unfold fx
  split
  · simp
  · split
    · simp
    · simp only [List.length_take]; omega
theorem strR_sz (l : List UInt8) (e : Int) : (strR l e).1.size ≤ l.length := by
  unfold strR
  show (⟨(rText l e).1.toArray⟩ : ByteArray).size ≤ _
  rw [size_list]
  exact Nat.le_trans (fx_got _ _ _) (rU16_le l e)
theorem strR_le (l : List UInt8) (e : Int) : (strR l e).2.1.length ≤ l.length := rText_rest l e
theorem many_sz : ∀ (n : Nat) (l : List UInt8) (e : Int), ∀ x ∈ (many strR n l e).1, x.size ≤ l.length
  | 0, _, _, x, hx => by simp [many] at hx
  | n + 1, l, e, x, hx => by
    unfold many at hx
    split at hx
    · simp at hx
    · rcases List.mem_cons.1 hx with rfl | hx
      · exact strR_sz l e
      · exact Nat.le_trans (many_sz n _ _ x hx) (strR_le l e)
theorem rd_bounds (l : List UInt8) : (rdN l).1.ts.length ≤ 65535 ∧ (∀ t ∈ (rdN l).1.ts, t.size ≤ l.length) ∧ (rdN l).1.es.length < 1000000 ∧ (rdN l).1.ps.length < 1000000 ∧ (rdN l).1.ks.length < 1000000 := by
  unfold rdN
  dsimp only
  have q1 := rU8_le l 0
  generalize rU8 l 0 = a at *
  obtain ⟨k, L1, e1⟩ := a
  dsimp only at q1 ⊢
  split
  · simp [zRn]
  · split
    · unfold leafN
      dsimp only
      have b := rU16_lt L1 e1
      generalize rU16 L1 e1 = c at *
      obtain ⟨n, L2, e2⟩ := c
      unfold Two16 at b
      dsimp only at b ⊢
      have h := (many_len entR_le n L2 e2).1
      split
      · simp [zRn]
      · dsimp only
        refine ⟨by simp, by simp, by omega, by simp, by simp⟩
    · split
      · unfold innerN
        dsimp only
        have b := rU8_lt L1 e1
        have q2 := rU8_le L1 e1
        generalize rU8 L1 e1 = c at *
        obtain ⟨n, L2, e2⟩ := c
        unfold Two8 at b
        dsimp only at b q2 ⊢
        have h1 := many_len (R := kidR) (fun l e => rU16_le l e) n L2 e2
        generalize many kidR n L2 e2 = d1 at *
        obtain ⟨ks, L3, e3⟩ := d1
        dsimp only at h1 ⊢
        have h2 := many_len strR_le (n - 1) L3 e3
        generalize many strR (n - 1) L3 e3 = d2 at *
        obtain ⟨ps, L4, e4⟩ := d2
        dsimp only at h2 ⊢
        have b3 := rU16_lt L4 e4
        have q3 := rU16_le L4 e4
        generalize rU16 L4 e4 = d3 at *
        obtain ⟨m, L5, e5⟩ := d3
        unfold Two16 at b3
        dsimp only at b3 q3 ⊢
        have h4 := many_len strR_le m L5 e5
        have h5 := many_sz m L5 e5
        split
        · simp [zRn]
        · dsimp only
          exact ⟨by omega, fun t ht => by have := h5 t ht; omega, by simp, by omega, by omega⟩
      · simp [zRn]
theorem endM_f3 (op : Int) (k t v : ByteArray) (l : List UInt8) (e : Int) (n : Nat) (hv : v.size ≤ n) : (endM op k t v l e).1.f3.size ≤ n := by
  have h0 : (⟨#[]⟩ : ByteArray).size = 0 := rfl
  unfold endM
  repeat' split
  all_goals first | exact hv | (show (⟨#[]⟩ : ByteArray).size ≤ n; rw [h0]; exact Nat.zero_le n)
theorem mtk_f3 (l : List UInt8) : (mtk l).1.f3.size ≤ l.length := by
  have h0 : (⟨#[]⟩ : ByteArray).size = 0 := rfl
  unfold mtk
  dsimp only
  split
  · show (⟨#[]⟩ : ByteArray).size ≤ _; rw [h0]; exact Nat.zero_le _
  · split
    · show (⟨#[]⟩ : ByteArray).size ≤ _; rw [h0]; exact Nat.zero_le _
    · split
      · exact endM_f3 _ _ _ _ _ _ _ (by rw [h0]; exact Nat.zero_le _)
      · split
        · exact endM_f3 _ _ _ _ _ _ _ (by rw [h0]; exact Nat.zero_le _)
        · refine endM_f3 _ _ _ _ _ _ _ ?_
          exact Nat.le_trans (strR_sz _ _) (Nat.le_trans (strR_le _ _) (rU8_le l 0))
end Go.Proofs.Ytnoimnijoklkdaa.Px
