/- message.Take in plain words. -/
import Derived.Test.YtnoimnijoklkdaaNxTk2
set_option linter.unusedVariables false
set_option linter.unusedSimpArgs false
namespace Go.Proofs.Ytnoimnijoklkdaa.Px
open Go.RowKit Go.Proofs.YtnoimnijoklkdaaW.PrintWords Go.Proofs.YtnoimnijoklkdaaW.PrintLast

def zM : S59 := ⟨0, ⟨#[]⟩, ⟨#[]⟩, ⟨#[]⟩⟩
def endM (op : Int) (k t v : ByteArray) (l : List UInt8) (e : Int) : S59 × Int :=
  if e ≠ 0 then (zM, e) else if l ≠ [] then (zM, 4) else if mayB op k t v = true then (⟨op, k, t, v⟩, 0) else (zM, 4)
/-- A text's message, or why it is none. -/
def mtk (l : List UInt8) : S59 × Int :=
  if l = [] then (zM, 10) else
  let a := rU8 l 0
  if a.1 < 1 ∨ 4 < a.1 then (zM, 4) else
  let k := strR a.2.1 a.2.2
  let x := strR k.2.1 k.2.2
  if a.1 = 3 then endM a.1 k.1 x.1 ⟨#[]⟩ x.2.1 x.2.2
  else if a.1 = 2 then endM a.1 k.1 ⟨#[]⟩ ⟨#[]⟩ k.2.1 k.2.2
  else endM a.1 k.1 ⟨#[]⟩ x.1 x.2.1 x.2.2
def mtT (m : S59 × Int) : Int × ByteArray × ByteArray × ByteArray × Int := (m.1.f0, m.1.f1, m.1.f2, m.1.f3, m.2)
theorem strR_size (l : List UInt8) (e : Int) : (strR l e).1.size ≤ 65535 := by
  unfold strR
  have := rU16_lt l e
  unfold Two16 at this
  show (⟨(rText l e).1.toArray⟩ : ByteArray).size ≤ _
  rw [size_list]
  unfold rText
  exact Nat.le_trans (fx_le (rU16 l e).2.1 (rU16 l e).2.2 (rU16 l e).1) (by omega)
theorem mt_end (k : Nat) (op : Int) (a b v : ByteArray) (hv : v.size ≤ 65535) (l : List UInt8) (e : Int) : message_Take.j1 (k + 1) ⟨l.toArray⟩ e op a b v = some (mtT (endM op a b v l e)) := by
  rw [message_Take.j1]
  unfold codec_Reader_Err.f codec_Reader_Rest.f endM
  simp only [Option.bind_some]
  by_cases he : e = 0
  · rw [if_pos he, if_neg (show ¬ e ≠ 0 from fun h => h he)]
    by_cases hl : l = []
    · rw [if_pos ((nil_list l).2 hl), if_neg (show ¬ l ≠ [] from fun h => h hl)]
      unfold message_may.f
      rw [if_pos (by omega)]
      simp only [Option.bind_some]
      by_cases hm : mayB op a b v = true
      · rw [if_pos hm, if_pos hm]; rfl
      · rw [if_neg hm, if_neg hm]; rfl
    · rw [if_neg (fun h => hl ((nil_list l).1 h)), if_pos hl]; rfl
  · rw [if_neg he, if_pos he]; rfl
theorem empty_size : (⟨#[]⟩ : ByteArray).size ≤ 65535 := by decide
theorem Text_strR (k : Nat) (hk : 9 ≤ k) (l : List UInt8) (e : Int) : codec_Reader_Text.f k ⟨l.toArray⟩ e = some ((strR l e).1, ⟨(strR l e).2.1.toArray⟩, (strR l e).2.2) := Text_eq k hk l e
theorem mtk_eq (k : Nat) (hk : 9 ≤ k) (l : List UInt8) : message_Take.f (k + 2) ⟨l.toArray⟩ = some (mtT (mtk l)) := by
  unfold message_Take.f mtk
  by_cases hl : l = []
  · rw [if_pos ((nil_list l).2 hl), if_pos hl]; rfl
  · rw [if_neg (fun h => hl ((nil_list l).1 h)), if_neg hl]
    unfold codec_New.f
    simp only [Option.bind_some]
    rw [U8_eq (k + 2) (by omega)]
    have hlt := rU8_lt l 0
    generalize rU8 l 0 = a at *
    obtain ⟨n, L, e⟩ := a
    unfold Two8 at hlt
    dsimp only at hlt ⊢
    rw [Option.bind_some]
    dsimp only
    have hw : wrap64 (n : Int) = (n : Int) := by unfold wrap64; omega
    rw [hw]
    by_cases h1 : (n : Int) < 1
    · rw [if_pos h1, if_pos (.inl (by omega)), message_Take.j0, if_pos rfl]; rfl
    · rw [if_neg h1]
      by_cases h4 : 4 < n
      · rw [if_pos (.inr h4), message_Take.j0, if_pos (decide_eq_true (by omega))]; rfl
      · rw [if_neg (by omega), message_Take.j0, if_neg (by simp; omega), Text_strR (k + 1) (by omega)]
        rw [Option.bind_some]
        by_cases h3 : n = 3
        · rw [if_pos (show (n : Int) = 3 by omega), if_pos h3, Text_strR (k + 1) (by omega)]
          rw [Option.bind_some]
          exact mt_end k _ _ _ _ empty_size _ _
        · rw [if_neg (show ¬ (n : Int) = 3 by omega), if_neg h3]
          by_cases h2 : n = 2
          · subst h2
            rw [if_neg (show ¬ ((2 : Nat) : Int) = 1 by decide), if_neg (show ¬ ((2 : Nat) : Int) = 4 by decide), if_pos rfl]
            exact mt_end k _ _ _ _ empty_size _ _
          · rw [if_neg h2]
            by_cases hn1 : n = 1
            · subst hn1
              rw [if_pos (show ((1 : Nat) : Int) = 1 from rfl), Text_strR (k + 1) (by omega)]
              rw [Option.bind_some]
              exact mt_end k _ _ _ _ (strR_size _ _) _ _
            · rw [if_neg (show ¬ (n : Int) = 1 by omega), if_pos (show (n : Int) = 4 by omega), Text_strR (k + 1) (by omega)]
              rw [Option.bind_some]
              exact mt_end k _ _ _ _ (strR_size _ _) _ _
end Go.Proofs.Ytnoimnijoklkdaa.Px
