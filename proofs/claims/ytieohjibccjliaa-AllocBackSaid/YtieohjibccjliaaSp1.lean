/- A set of sectors: find. -/
import Derived.Test.YtieohjibccjliaaSp0
import Derived.Shelf.Abstract
set_option linter.unusedVariables false
set_option linter.unusedSimpArgs false
namespace Go.Proofs.Ytieohjibccjliaa
open Go.RowKit Go.Shelf

/-- Spans that may be a set's. -/
def SpOk (n : Int) (l : List Ex) : Prop := (1 ≤ n ∧ n ≤ 4096) ∧ (∀ x ∈ l, 0 ≤ x.1 ∧ 1 ≤ x.2 ∧ x.1 + x.2 ≤ n) ∧ l.Pairwise (fun x y => x.1 + x.2 < y.1)
def findN (l : List Ex) (a : Int) : Nat := l.countP (fun x => decide (x.1 + x.2 ≤ a))
theorem countP_bound {α : Type} (p : α → Bool) (l : List α) (i : Nat) (hi : i ≤ l.length) (h1 : ∀ t (h : t < l.length), t < i → p l[t] = true) (h2 : ∀ t (h : t < l.length), i ≤ t → p l[t] = false) : l.countP p = i := by
  have e1 : (l.take i).countP p = i := by
    have := List.countP_eq_length (p := p) (l := l.take i)
    rw [List.length_take, Nat.min_eq_left hi] at this
    refine this.2 fun a ha => ?_
    obtain ⟨t, ht, rfl⟩ := List.getElem_of_mem ha
    rw [List.length_take] at ht
    rw [List.getElem_take]
    exact h1 t (by omega) (by omega)
  have e2 : (l.drop i).countP p = 0 := by
    refine List.countP_eq_zero.2 fun a ha => ?_
    obtain ⟨t, ht, rfl⟩ := List.getElem_of_mem ha
    rw [List.length_drop] at ht
    rw [List.getElem_drop, h2 (i + t) (by omega) (by omega)]
    decide
  rw [← List.take_append_drop i l, List.countP_append, e1, e2, Nat.add_zero]
theorem SpOk.mono {n : Int} {l : List Ex} (h : SpOk n l) (a b : Nat) (hb : b < l.length) (hab : a ≤ b) : l[a].1 + l[a].2 ≤ l[b].1 + l[b].2 := by
  by_cases e : a = b
  · subst e; exact Int.le_refl _
  · have := List.pairwise_iff_getElem.1 h.2.2 a b (by omega) hb (by omega)
    have := (h.2.1 _ (List.getElem_mem hb)).2.1
    omega
theorem SpOk.at {n : Int} {l : List Ex} (h : SpOk n l) : ∀ (j : Nat) (hj : j < l.length), (j : Int) ≤ l[j].1
  | 0, hj => (h.2.1 _ (List.getElem_mem hj)).1
  | j + 1, hj => by
    have h1 := SpOk.at h j (by omega)
    have h2 := List.pairwise_iff_getElem.1 h.2.2 j (j + 1) (by omega) hj (by omega)
    have h3 := (h.2.1 _ (List.getElem_mem (show j < l.length by omega))).2.1
    omega
theorem SpOk.len {n : Int} {l : List Ex} (h : SpOk n l) : (l.length : Int) ≤ n := by
  by_cases h0 : l.length = 0
  · have := h.1; omega
  · have h1 := h.at (l.length - 1) (by omega)
    have h2 := h.2.1 _ (List.getElem_mem (show l.length - 1 < l.length by omega))
    omega
theorem cmpI_neg (x y : Int) : cmpI x y < 0 ↔ x < y := by
  unfold cmpI
  split
  · simp; omega
  · split <;> simp <;> omega

theorem bs_none (w : World) (ad : Option Addr) (cap : Nat) (at_ : Int) :
    Calls Try.prog 64 #[.slice ad 0 cap, .int .i64 at_, .func (.func 65) #[] #[]] w fun e w' => e = .returned (.tuple #[.int .i64 0, .bool false]) ∧ w = w' := by
  go_enter Try.func64, Try.ntmps64
  go_wp2
  go_loopg [9, 10] 0 (fun kx s9 s10 wr => s9 = .int .i64 0 ∧ s10 = .int .i64 0 ∧ wr = w)
  case atStart => exact ⟨rfl, rfl, rfl⟩
  case round =>
    obtain ⟨rfl, rfl, rfl⟩ := hrel
    go_wp2
    go_ret2
    exact ⟨rfl, rfl⟩
set_option maxRecDepth 100000 in
theorem bs_some {w : World} {r off cap : Nat} {l : List Ex} {n : Int} (hok : SpOk n l) (hr : RowAt w (.slice (some ⟨r, off, none⟩) l.length cap) (some r) l) (hc : l.length ≤ cap ∧ cap ≤ maxLen) (at_ : Int) (ha : 0 ≤ at_ ∧ at_ ≤ 4096) :
    Calls Try.prog 64 #[.slice (some ⟨r, off, none⟩) l.length cap, .int .i64 at_, .func (.func 65) #[] #[]] w fun e w' =>
      (∃ b, e = .returned (.tuple #[.int .i64 (findN l at_ : Nat), .bool b])) ∧ Upd (fun _ => False) w w' := by
  have HR := Lib.hid hr
  have HO := Lib.hid hok
  have hl62 : l.length < 4611686018427387904 := by have := hok.len; have := hok.1; omega
  have eg : Enters Try.prog 65 := enters_of Try.func65 rfl rfl
  obtain ⟨N, hN⟩ : ∃ N, N = l.length := ⟨_, rfl⟩
  have HN := Lib.hid hN
  have HC := Lib.hid hc
  have HA := Lib.hid ha
  rw [← hN] at hl62
  rw [show (Value.slice (some ⟨r, off, none⟩) l.length cap) = Value.slice (some ⟨r, off, none⟩) N cap by rw [hN]]
  clear hr hok hc ha hN
  go_enter Try.func64, Try.ntmps64
  go_wp2
  go_loopg [9, 10] N (fun kx s9 s10 wr => ∃ lo hi : Nat, s9 = .int .i64 lo ∧ s10 = .int .i64 hi ∧ lo ≤ hi ∧ hi ≤ N ∧ hi - lo ≤ kx ∧ Hid (Upd (fun _ => False) w wr) ∧
    Hid ((∀ t (h : t < l.length), t < lo → l[t].1 + l[t].2 ≤ at_) ∧ (∀ t (h : t < l.length), hi ≤ t → at_ < l[t].1 + l[t].2)))
  case atStart => exact ⟨0, N, rfl, rfl, Nat.zero_le _, Nat.le_refl _, by omega, Lib.hid (Upd.refl _ _), Lib.hid ⟨fun t h ht => absurd ht (Nat.not_lt_zero _), fun t h ht => by have := HN.out; omega⟩⟩
  case round =>
    obtain ⟨lo, hi, rfl, rfl, hlh, hin, hg, HU, I⟩ := hrel
    by_cases hlt : lo < hi
    · have hml : (lo + hi) / 2 < l.length := by have := HN.out; omega
      obtain ⟨r', off', cap', e1, e2, cA, cB, _⟩ := (HR.out.upd HU.out (fun _ _ f => f)).get ((lo + hi) / 2) hml
      cases e1
      simp only [Value.slice.injEq, Option.some.injEq, Addr.mk.injEq] at e2
      obtain ⟨⟨_, rfl, _⟩, _, rfl⟩ := e2
      have hb := HO.out.2.1 _ (List.getElem_mem hml)
      have hnn := HO.out.1
      have hF := fun w => Lib.hid (find_f w l[(lo + hi) / 2] at_ ⟨by omega, by omega⟩ HA.out)
      have I2 := fun (h : l[(lo + hi) / 2].1 + l[(lo + hi) / 2].2 ≤ at_) t (ht : t < l.length) (h' : t < (lo + hi) / 2 + 1) => Int.le_trans (HO.out.mono t ((lo + hi) / 2) hml (by omega)) h
      have I3 := fun (h : at_ < l[(lo + hi) / 2].1 + l[(lo + hi) / 2].2) t (ht : t < l.length) (h' : (lo + hi) / 2 ≤ t) => Int.lt_of_lt_of_le h (HO.out.mono ((lo + hi) / 2) t ht h')
      generalize l[(lo + hi) / 2] = y at cA cB hb hF I2 I3
      have HI2 := Lib.hid I2
      have HI3 := Lib.hid I3
      rw [Nat.mul_comm 2] at cA cB
      by_cases hc : cmpI (y.1 + y.2) (at_ + 1) < 0
      · have hc2 := (cmpI_neg _ _).1 hc
        clear hb hnn I2 I3
        go_wp2_with (fail)
        refine (hF _).out.mono ?_
        rintro e w' ⟨rfl, hu⟩
        go_wp2
        go_roundg (hi - ((lo + hi) / 2 + 1))
        case measure => omega
        case rel => exact ⟨(lo + hi) / 2 + 1, hi, by rw [show ((lo : Int) + (hi : Int)) / 2 + 1 = (((lo + hi) / 2 + 1 : Nat) : Int) by omega], rfl, by omega, hin, Nat.le_refl _, Lib.hid (HU.out.trans hu (fun _ _ f => f)), Lib.hid ⟨HI2.out (by omega), I.out.2⟩⟩
      · have hc2 : ¬ (y.1 + y.2 < at_ + 1) := fun h => hc ((cmpI_neg _ _).2 h)
        clear hb hnn I2 I3
        go_wp2_with (fail)
        refine (hF _).out.mono ?_
        rintro e w' ⟨rfl, hu⟩
        go_wp2
        go_roundg ((lo + hi) / 2 - lo)
        case measure => omega
        case rel => exact ⟨lo, (lo + hi) / 2, rfl, by rw [show ((lo : Int) + (hi : Int)) / 2 = (((lo + hi) / 2 : Nat) : Int) by omega], by omega, by omega, Nat.le_refl _, Lib.hid (HU.out.trans hu (fun _ _ f => f)), Lib.hid ⟨I.out.1, HI3.out (by omega)⟩⟩
    · obtain rfl : hi = lo := by omega
      have hcnt : findN l at_ = hi := countP_bound _ l hi (by have := HN.out; omega) (fun t h ht => decide_eq_true (I.out.1 t h ht)) (fun t h ht => decide_eq_false (by have := I.out.2 t h ht; omega))
      by_cases hl : hi < N
      · have hml : hi < l.length := by have := HN.out; omega
        obtain ⟨r', off', cap', e1, e2, cA, cB, _⟩ := (HR.out.upd HU.out (fun _ _ f => f)).get hi hml
        cases e1
        simp only [Value.slice.injEq, Option.some.injEq, Addr.mk.injEq] at e2
        obtain ⟨⟨_, rfl, _⟩, _, rfl⟩ := e2
        have hb := HO.out.2.1 _ (List.getElem_mem hml)
        have hnn := HO.out.1
        have hF := fun w => Lib.hid (find_f w l[hi] at_ ⟨by omega, by omega⟩ HA.out)
        generalize l[hi] = y at cA cB hb hF
        rw [Nat.mul_comm 2] at cA cB
        have HCN := Lib.hid hcnt
        clear hml hb hnn hcnt
        go_wp2_with (fail)
        refine (hF _).out.mono ?_
        rintro e w' ⟨rfl, hu⟩
        go_wp2
        go_ret2
        exact ⟨⟨cmpI (y.1 + y.2) (at_ + 1) == 0, by rw [HCN.out]; rfl⟩, HU.out.trans hu (fun _ _ f => f)⟩
      · have HCN := Lib.hid hcnt
        clear hcnt
        go_wp2
        go_ret2
        exact ⟨⟨false, by rw [HCN.out]; rfl⟩, HU.out⟩
theorem bs_enters : Enters Try.prog 64 := enters_of Try.func64 rfl rfl
theorem bs_any {w : World} {v : Value} {row : Option Nat} {l : List Ex} {n : Int} (hok : SpOk n l) (hr : RowAt w v row l) (at_ : Int) (ha : 0 ≤ at_ ∧ at_ ≤ 4096) :
    Calls Try.prog 64 #[v, .int .i64 at_, .func (.func 65) #[] #[]] w fun e w' =>
      (∃ b, e = .returned (.tuple #[.int .i64 (findN l at_ : Nat), .bool b])) ∧ Upd (fun _ => False) w w' := by
  rcases hr with ⟨rfl, rfl, rfl⟩ | ⟨r, off, cap, cur, rfl, rfl, h3, h4, h5, h6, h7⟩
  · exact (bs_none w none 0 at_).mono fun e w' ⟨h1, h2⟩ => ⟨⟨false, h1⟩, h2 ▸ Upd.refl _ _⟩
  · exact bs_some hok (.inr ⟨r, off, cap, cur, rfl, rfl, h3, h4, h5, h6, h7⟩) ⟨h5, h6⟩ at_ ha
theorem sp_find {w : World} {b : Nat} {row : Option Nat} {n : Int} {v : Value} {l : List Ex} (h : SpAt w b row n v l) (hok : SpOk n l) (at_ : Int) (ha : 0 ≤ at_ ∧ at_ ≤ 4096) :
    Calls Try.prog 56 #[.pointer (some ⟨b, 0, none⟩), .int .i64 at_] w fun e w' => e = .returned (.int .i64 (findN l at_ : Nat)) ∧ Upd (fun _ => False) w w' := by
  have c1 := cell_heap h.set 1 _ rfl
  have HB := Lib.hid (bs_any hok h.row at_ ha)
  obtain ⟨ad, cap, rfl, _⟩ := h.row.form
  clear h
  generalize findN l at_ = k at HB ⊢
  go_enter Try.func56, Try.ntmps56
  go_wp2_with (go_at_call 64; refine HB.out.mono ?_; rintro e w' ⟨⟨bb, rfl⟩, hu⟩)
  go_ret
  exact ⟨rfl, hu⟩

end Go.Proofs.Ytieohjibccjliaa
