/- A set of sectors: Fill as one contract; Give. -/
import Derived.Test.YtieohjibccjliaaSpA
import Derived.Test.YtieohjibccjliaaSpB
import Derived.Test.YtieohjibccjliaaSpC
set_option linter.unusedVariables false
set_option linter.unusedSimpArgs false
namespace Go.Proofs.Ytieohjibccjliaa
open Go.RowKit Go.Shelf
set_option maxRecDepth 100000

/-- A span is laid between what ends ahead of it and what begins behind it. -/
def leftJ (a : List Ex) (x : Ex) (b : List Ex) : List Ex :=
  match a.getLast? with
  | some z => if z.1 + z.2 = x.1 then a.dropLast ++ (z.1, z.2 + x.2) :: b else a ++ x :: b
  | none => a ++ x :: b
def fillE (l : List Ex) (f t : Int) : List Ex × Int :=
  match l.drop (findN l f) with
  | [] => (leftJ (l.take (findN l f)) (f, t - f) [], 0)
  | y :: q => if y.1 < t then (l, 6) else if y.1 = t then (leftJ (l.take (findN l f)) (f, t - f + y.2) q, 0) else (leftJ (l.take (findN l f)) (f, t - f) (y :: q), 0)
theorem leftJ_nil (x : Ex) (b : List Ex) : leftJ [] x b = [] ++ x :: b := rfl
theorem leftJ_join (a : List Ex) (z x : Ex) (b : List Ex) (h : z.1 + z.2 = x.1) : leftJ (a ++ [z]) x b = a ++ (z.1, z.2 + x.2) :: b := by
  unfold leftJ
  rw [List.getLast?_concat]
  dsimp only
  rw [if_pos h, List.dropLast_concat]
theorem leftJ_apart (a : List Ex) (z x : Ex) (b : List Ex) (h : z.1 + z.2 ≠ x.1) : leftJ (a ++ [z]) x b = (a ++ [z]) ++ x :: b := by
  unfold leftJ
  rw [List.getLast?_concat]
  dsimp only
  rw [if_neg h]
/-- What a call that may write leaves. -/
def SpP (w : World) (b : Nat) (row : Option Nat) (n : Int) (l' : List Ex) (w' : World) : Prop :=
  ∃ v' row', SpAt w' b row' n v' l' ∧ (∀ r, row' = some r → row = some r ∨ w.heap.size ≤ r) ∧ Upd (fun k => k = b ∨ row = some k) w w'
theorem FillP.sp {w w' : World} {b : Nat} {row : Option Nat} {n : Int} {l : List Ex} {e : Ending} (h : FillP w b row n l e w') : SpP w b row n l w' := by
  obtain ⟨_, v', row', h1, h2, h3⟩ := h
  refine ⟨v', row', h1, fun r e => ?_, h3⟩
  rcases h2 with h2 | ⟨x, h2, hx⟩
  · exact .inl (by rw [← h2]; exact e)
  · rw [h2] at e; cases e; exact .inr hx
theorem SpP.same {w w' : World} {b : Nat} {row : Option Nat} {n : Int} {v : Value} {l : List Ex} (h : SpAt w b row n v l) (hu : Upd (fun _ => False) w w') : SpP w b row n l w' :=
  ⟨v, row, h.upd hu (fun f => f) (fun _ _ f => f), fun r e => .inl e, hu.mono (fun _ _ f => f.elim)⟩
theorem split_find {n : Int} {l : List Ex} (f : Int) : ∃ a c, l = a ++ c ∧ l.take (findN l f) = a ∧ l.drop (findN l f) = c ∧ findN l f = a.length :=
  ⟨l.take (findN l f), l.drop (findN l f), (List.take_append_drop _ _).symm, rfl, rfl, by rw [List.length_take, Nat.min_eq_left (findN_le l f)]⟩
theorem sp_FillE {w : World} {b : Nat} {row : Option Nat} {n : Int} {v : Value} {l : List Ex} (h : SpAt w b row n v l) (hok : SpOk n l) (f t : Int) (h1 : 0 ≤ f ∧ f < t ∧ t ≤ n) :
    Calls Try.prog 53 #[.pointer (some ⟨b, 0, none⟩), .int .i64 f, .int .i64 t] w fun e w' => e = .returned (.int .i64 (fillE l f t).2) ∧ SpP w b row n (fillE l f t).1 w' := by
  obtain ⟨a, c, hl, ht, hd, hf⟩ := split_find (n := n) (l := l) f
  unfold fillE
  rw [ht, hd]
  have key : ∀ {l' : List Ex} , Calls Try.prog 53 #[.pointer (some ⟨b, 0, none⟩), .int .i64 f, .int .i64 t] w (FillP w b row n l') → Calls Try.prog 53 #[.pointer (some ⟨b, 0, none⟩), .int .i64 f, .int .i64 t] w fun e w' => e = .returned (.int .i64 0) ∧ SpP w b row n l' w' :=
    fun hc => hc.mono fun e w' hp => ⟨hp.1, hp.sp⟩
  cases c with
  | nil =>
    dsimp only
    refine key ?_
    subst hl
    rcases List.eq_nil_or_concat a with rfl | ⟨a', z, rfl⟩
    · rw [leftJ_nil]; exact fill_A0 h hok f t h1 hf
    · by_cases hz : z.1 + z.2 = f
      · rw [List.concat_eq_append] at *
        rw [leftJ_join _ _ _ _ hz]; exact fill_A1 h hok f t h1 hf hz
      · rw [List.concat_eq_append] at *
        rw [leftJ_apart _ _ _ _ hz]; exact fill_A2 h hok f t h1 hf hz
  | cons y q =>
    dsimp only
    by_cases h3 : y.1 < t
    · rw [if_pos h3]
      have hy : l[findN l f]? = some y := by rw [hl, ← hl, hf, hl, List.getElem?_append_right (Nat.le_refl _), Nat.sub_self, List.getElem?_cons_zero]
      exact (fill_there h hok f t h1 hy h3).mono fun e w' ⟨he, hu⟩ => ⟨he, SpP.same h hu⟩
    · rw [if_neg h3]
      subst hl
      by_cases h4 : y.1 = t
      · rw [if_pos h4]
        refine key ?_
        rcases List.eq_nil_or_concat a with rfl | ⟨a', z, rfl⟩
        · rw [leftJ_nil]; exact fill_C0 h hok f t h1 hf h4
        · by_cases hz : z.1 + z.2 = f
          · rw [List.concat_eq_append] at *
            rw [leftJ_join _ _ _ _ hz]; exact fill_C1 h hok f t h1 hf h4 hz
          · rw [List.concat_eq_append] at *
            rw [leftJ_apart _ _ _ _ hz]; exact fill_C2 h hok f t h1 hf h4 hz
      · rw [if_neg h4]
        refine key ?_
        rcases List.eq_nil_or_concat a with rfl | ⟨a', z, rfl⟩
        · rw [leftJ_nil]; exact fill_B0 h hok f t h1 hf (by omega)
        · by_cases hz : z.1 + z.2 = f
          · rw [List.concat_eq_append] at *
            rw [leftJ_join _ _ _ _ hz]; exact fill_B1 h hok f t h1 hf (by omega) hz
          · rw [List.concat_eq_append] at *
            rw [leftJ_apart _ _ _ _ hz]; exact fill_B2 h hok f t h1 hf (by omega) hz
/-- Fill, whatever is asked. -/
def fillA (n : Int) (l : List Ex) (f t : Int) : List Ex × Int := if f < 0 ∨ t < f ∨ n < t then (l, 2) else if f = t then (l, 0) else fillE l f t
theorem sp_Fill {w : World} {b : Nat} {row : Option Nat} {n : Int} {v : Value} {l : List Ex} (h : SpAt w b row n v l) (hok : SpOk n l) (f t : Int) :
    Calls Try.prog 53 #[.pointer (some ⟨b, 0, none⟩), .int .i64 f, .int .i64 t] w fun e w' => e = .returned (.int .i64 (fillA n l f t).2) ∧ SpP w b row n (fillA n l f t).1 w' := by
  unfold fillA
  by_cases h1 : f < 0 ∨ t < f ∨ n < t
  · rw [if_pos h1]
    exact (fill_down h hok.1 f t h1).mono fun e w' ⟨he, hw⟩ => ⟨he, hw ▸ SpP.same h (Upd.refl _ _)⟩
  · rw [if_neg h1]
    by_cases h2 : f = t
    · rw [if_pos h2]
      subst h2
      exact (fill_none h hok.1 f (by omega)).mono fun e w' ⟨he, hw⟩ => ⟨he, hw ▸ SpP.same h (Upd.refl _ _)⟩
    · rw [if_neg h2]
      exact sp_FillE h hok f t (by omega)
def giveA (n : Int) (l : List Ex) (a : Int) : List Ex × Int := if a < 0 ∨ n ≤ a then (l, 2) else fillA n l a (a + 1)
theorem sp_Give {w : World} {b : Nat} {row : Option Nat} {n : Int} {v : Value} {l : List Ex} (h : SpAt w b row n v l) (hok : SpOk n l) (a : Int) :
    Calls Try.prog 32 #[.pointer (some ⟨b, 0, none⟩), .int .i64 a] w fun e w' => e = .returned (.int .i64 (giveA n l a).2) ∧ SpP w b row n (giveA n l a).1 w' := by
  have HI := Lib.hid (sp_is h)
  rw [decide_eq_true (show 0 < n by have := hok.1; omega)] at HI
  have c0 : w.cell? ⟨b, 0, none⟩ = some (.int .i64 n) := cell_heap h.set 0 _ rfl
  have hn := hok.1
  unfold giveA
  by_cases h1 : a < 0
  · rw [if_pos (.inl h1)]
    have HP := Lib.hid (SpP.same h (Upd.refl _ _))
    clear h hok hn
    go_enter Try.func32, Try.ntmps32
    go_wp2_with (go_at_call 52; refine HI.out.mono ?_; rintro e w' ⟨rfl, rfl⟩)
    go_ret
    exact ⟨rfl, HP.out⟩
  · by_cases h2 : n ≤ a
    · rw [if_pos (.inr h2)]
      have HP := Lib.hid (SpP.same h (Upd.refl _ _))
      clear h hok hn
      go_enter Try.func32, Try.ntmps32
      go_wp2_with (go_at_call 52; refine HI.out.mono ?_; rintro e w' ⟨rfl, rfl⟩)
      go_ret
      exact ⟨rfl, HP.out⟩
    · rw [if_neg (by omega)]
      have HF := Lib.hid (sp_Fill h hok a (a + 1))
      have p1 : IntKind.i64.wrap (a + 1) = a + 1 := IntWalk.i64_in _ (by omega)
      clear h hok hn
      generalize fillA n l a (a + 1) = R at HF ⊢
      go_enter Try.func32, Try.ntmps32
      go_wp2_with (first | (go_at_call 52; refine HI.out.mono ?_; rintro e w' ⟨rfl, rfl⟩) | (go_at_call 53; refine HF.out.mono ?_; rintro e w' ⟨rfl, hp⟩))
      go_ret
      exact ⟨rfl, hp⟩
theorem give_zero {w : World} {p : Option Addr} (h : NoSp w p) (a : Int) :
    Calls Try.prog 32 #[.pointer p, .int .i64 a] w fun e w' => e = .returned (.int .i64 1) ∧ w = w' := by
  have HI : Hid (Calls Try.prog 52 #[.pointer p] w fun e w' => e = .returned (.bool false) ∧ w = w') := by
    rcases h with rfl | ⟨b, v, fr, rfl, hb⟩
    · exact Lib.hid (nosp_is w)
    · have c0 := cell_heap hb 0 _ rfl
      refine Lib.hid ?_
      clear hb
      go_enter Try.func52, Try.ntmps52
      go_wp2
      go_ret
      exact ⟨rfl, rfl⟩
  have HF := fun t => Lib.hid (fill_zero h a t)
  clear h
  go_enter Try.func32, Try.ntmps32
  go_wp2_with (first | (go_at_call 52; refine HI.out.mono ?_; rintro e w' ⟨rfl, rfl⟩) | (go_at_call 53; refine (HF _).out.mono ?_; rintro e w' ⟨rfl, rfl⟩))
  go_ret
  exact ⟨rfl, rfl⟩

end Go.Proofs.Ytieohjibccjliaa
