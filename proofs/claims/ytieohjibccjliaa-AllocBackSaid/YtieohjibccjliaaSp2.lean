/- A set of sectors: New, Has, Count, List, Copy. -/
import Derived.Test.YtieohjibccjliaaSp1
import Derived.Laws.CopyOwn
import Derived.Deep.Slices
set_option linter.unusedVariables false
set_option linter.unusedSimpArgs false
namespace Go.Proofs.Ytieohjibccjliaa
open Go.RowKit Go.Shelf

theorem findN_spec' : ∀ (l : List Ex), l.Pairwise (fun x y => x.1 + x.2 ≤ y.1 + y.2) → ∀ a, (∀ t (h : t < l.length), t < findN l a → l[t].1 + l[t].2 ≤ a) ∧ (∀ t (h : t < l.length), findN l a ≤ t → a < l[t].1 + l[t].2)
  | [], _, a => ⟨fun t h => (by cases h), fun t h => (by cases h)⟩
  | x :: r, hp, a => by
    have ih := findN_spec' r (List.pairwise_cons.1 hp).2 a
    have hx := (List.pairwise_cons.1 hp).1
    by_cases hxa : x.1 + x.2 ≤ a
    · have e : findN (x :: r) a = findN r a + 1 := by unfold findN; rw [List.countP_cons_of_pos (by simpa using hxa)]
      rw [e]
      refine ⟨fun t h ht => ?_, fun t h ht => ?_⟩
      · cases t with
        | zero => exact hxa
        | succ t => exact ih.1 t (by simpa using h) (by omega)
      · cases t with
        | zero => omega
        | succ t => exact ih.2 t (by simpa using h) (by omega)
    · have e0 : findN r a = 0 := by
        unfold findN
        refine List.countP_eq_zero.2 fun y hy => ?_
        have := hx y hy
        simp only [decide_eq_true_eq]
        omega
      have e : findN (x :: r) a = 0 := by unfold findN; rw [List.countP_cons_of_neg (by simpa using hxa)]; exact e0
      rw [e]
      refine ⟨fun t h ht => by omega, fun t h _ => ?_⟩
      cases t with
      | zero => show a < x.1 + x.2; omega
      | succ t => exact ih.2 t (by simpa using h) (by omega)
theorem SpOk.ends {n : Int} {l : List Ex} (h : SpOk n l) : l.Pairwise (fun x y => x.1 + x.2 ≤ y.1 + y.2) := by
  refine List.pairwise_iff_getElem.2 fun i j hi hj hij => ?_
  exact h.mono i j hj (by omega)
theorem SpOk.find {n : Int} {l : List Ex} (h : SpOk n l) (a : Int) : (∀ t (h : t < l.length), t < findN l a → l[t].1 + l[t].2 ≤ a) ∧ (∀ t (h : t < l.length), findN l a ≤ t → a < l[t].1 + l[t].2) := findN_spec' l h.ends a
theorem findN_le (l : List Ex) (a : Int) : findN l a ≤ l.length := List.countP_le_length
/-- Is a sector there? -/
def hasB (l : List Ex) (k : Int) : Bool := l.any fun x => decide (x.1 ≤ k) && decide (k < x.1 + x.2)
theorem hasB_iff (l : List Ex) (k : Int) : hasB l k = true ↔ ∃ x ∈ l, x.1 ≤ k ∧ k < x.1 + x.2 := by unfold hasB; simp
theorem has_find {n : Int} {l : List Ex} (h : SpOk n l) (k : Int) : hasB l k = if hl : findN l k < l.length then decide (l[findN l k].1 ≤ k) else false := by
  obtain ⟨f1, f2⟩ := h.find k
  split
  · rename_i hl
    rw [Bool.eq_iff_iff, hasB_iff, decide_eq_true_eq]
    constructor
    · rintro ⟨x, hx, h1, h2⟩
      obtain ⟨t, ht, rfl⟩ := List.getElem_of_mem hx
      by_cases e : t < findN l k
      · have := f1 t ht e; omega
      · by_cases e2 : t = findN l k
        · subst e2; exact h1
        · have := List.pairwise_iff_getElem.1 h.2.2 (findN l k) t hl ht (by omega)
          have := f2 _ hl (Nat.le_refl _)
          omega
    · intro h1
      exact ⟨_, List.getElem_mem hl, h1, f2 _ hl (Nat.le_refl _)⟩
  · rename_i hl
    rw [← Bool.not_eq_true, hasB_iff]
    rintro ⟨x, hx, h1, h2⟩
    obtain ⟨t, ht, rfl⟩ := List.getElem_of_mem hx
    have := f1 t ht (by omega)
    omega
/-- How many sectors. -/
def cntE (l : List Ex) : Int := (l.map (·.2)).sum
theorem cntE_cons (x : Ex) (l : List Ex) : cntE (x :: l) = x.2 + cntE l := by unfold cntE; simp
theorem cntE_append (a b : List Ex) : cntE (a ++ b) = cntE a + cntE b := by unfold cntE; simp
theorem cntE_le {n : Int} : ∀ (l : List Ex) (lo : Int), (∀ x ∈ l, lo ≤ x.1 ∧ 1 ≤ x.2 ∧ x.1 + x.2 ≤ n) → l.Pairwise (fun x y => x.1 + x.2 < y.1) → lo ≤ n → cntE l + lo ≤ n ∧ 0 ≤ cntE l
  | [], lo, _, _, hlo => by unfold cntE; simp; exact hlo
  | x :: r, lo, h, hp, hlo => by
    have hx := h x (List.mem_cons_self ..)
    have ih := cntE_le r (x.1 + x.2) (fun y hy => ⟨by have := (List.pairwise_cons.1 hp).1 y hy; omega, (h y (List.mem_cons_of_mem _ hy)).2⟩) (List.pairwise_cons.1 hp).2 hx.2.2
    rw [cntE_cons]
    omega
theorem SpOk.take {n : Int} {l : List Ex} (h : SpOk n l) (i : Nat) : SpOk n (l.take i) := ⟨h.1, fun x hx => h.2.1 x (List.mem_of_mem_take hx), h.2.2.sublist (List.take_sublist _ _)⟩
theorem SpOk.cnt {n : Int} {l : List Ex} (h : SpOk n l) : cntE l ≤ n ∧ 0 ≤ cntE l := by
  have := cntE_le l 0 (fun x hx => h.2.1 x hx) h.2.2 (by have := h.1; omega)
  omega

/-- A pointer that is no set: nil, or of zero sectors. -/
def NoSp (w : World) (p : Option Addr) : Prop := p = none ∨ ∃ b v fr, p = some ⟨b, 0, none⟩ ∧ w.heap[b]? = some (.cells #[.int .i64 0, v] 95 fr)

theorem sp_New (w : World) (n : Int) (h : 1 ≤ n ∧ n ≤ 4096) : Calls Try.prog 31 #[.int .i64 n] w fun e w' => ∃ b, e = .returned (.pointer (some ⟨b, 0, none⟩)) ∧ w.heap.size ≤ b ∧ SpAt w' b none n (.slice none 0 0) [] ∧ Upd (fun _ => False) w w' := by
  go_enter Try.func31, Try.ntmps31
  go_wp2
  go_ret
  exact ⟨_, rfl, Nat.le_refl _, ⟨heap_alloc_new _ _, .inl ⟨rfl, rfl, rfl⟩⟩, (Upd.refl _ _).alloc _⟩
theorem sp_New_no (w : World) (n : Int) (h : ¬ (1 ≤ n ∧ n ≤ 4096)) : Calls Try.prog 31 #[.int .i64 n] w fun e w' => e = .returned (.pointer none) ∧ w = w' := by
  by_cases h1 : n < 1
  · go_enter Try.func31, Try.ntmps31
    go_wp2
    go_ret
    exact ⟨rfl, rfl⟩
  · have h2 : 4096 < n := by omega
    clear h
    go_enter Try.func31, Try.ntmps31
    go_wp2
    go_ret
    exact ⟨rfl, rfl⟩
theorem sp_Has {w : World} {b : Nat} {row : Option Nat} {n : Int} {v : Value} {l : List Ex} (h : SpAt w b row n v l) (hok : SpOk n l) (k : Int) :
    Calls Try.prog 39 #[.pointer (some ⟨b, 0, none⟩), .int .i64 k] w fun e w' => e = .returned (.bool (decide (0 ≤ k) && decide (k < n) && hasB l k)) ∧ Upd (fun _ => False) w w' := by
  have hn := hok.1
  have hn1 : 0 < n := by omega
  have HI := Lib.hid (sp_is h)
  have c0 := cell_heap h.set 0 _ rfl
  rw [decide_eq_true hn1] at HI
  by_cases h0 : k < 0
  · rw [decide_eq_false (show ¬ (0 ≤ k) by omega)]
    simp only [Bool.false_and]
    clear h hok hn hn1
    go_enter Try.func39, Try.ntmps39
    go_wp2_with (go_at_call 52; refine HI.out.mono ?_; rintro e w' ⟨rfl, rfl⟩)
    go_ret
    exact ⟨rfl, Upd.refl _ _⟩
  by_cases h1 : k < n
  · rw [decide_eq_true (show 0 ≤ k by omega), decide_eq_true h1, Bool.true_and, Bool.true_and, has_find hok]
    have HF := Lib.hid (sp_find h hok k ⟨by omega, by omega⟩)
    have c1 : w.cell? ⟨b, 1, none⟩ = some v := cell_heap h.set 1 _ rfl
    have HH := Lib.hid h
    obtain ⟨N, hN⟩ : ∃ N, N = l.length := ⟨_, rfl⟩
    have hle := findN_le l k
    obtain ⟨i, hi⟩ : ∃ i, i = findN l k := ⟨_, rfl⟩
    have hl2 := hok.len
    have hl3 : i ≤ 4096 := by omega
    have hl4 : N ≤ 4096 := by omega
    by_cases hl : i < N
    · have hl0 : findN l k < l.length := by omega
      rw [dif_pos hl0]
      obtain ⟨r, off, cap, e1, rfl, cA, cB, hf⟩ := h.row.get (findN l k) hl0
      have cA2 := fun (w' : World) (hu : Upd (fun _ => False) w w') => hu.cell cA (fun f => f)
      have c12 := fun (w' : World) (hu : Upd (fun _ => False) w w') => hu.cell c1 (fun f => f)
      generalize l[findN l k].1 = y at cA2 ⊢
      rw [← hi] at HF cA2
      rw [← hN] at c12
      rw [Nat.mul_comm] at cA2
      have HA2 := Lib.hid cA2
      have H12 := Lib.hid c12
      have hd : decide ((i : Int) < (N : Int)) = true := decide_eq_true (by omega)
      clear h hok hn hn1 c1 cA cB hle hl2 hi hN hl0 hf cA2 c12
      go_enter Try.func39, Try.ntmps39
      go_wp2_with (go_at_call 52; refine HI.out.mono ?_; rintro e w' ⟨rfl, rfl⟩)
      refine HF.out.mono ?_
      rintro e w1 ⟨rfl, hu⟩
      have d1 := HA2.out _ hu
      have d2 := H12.out _ hu
      go_wp2
      go_ret
      exact ⟨rfl, hu⟩
    · rw [dif_neg (by omega)]
      obtain ⟨ad, cap, rfl, _⟩ := h.row.form
      have c12 := fun (w' : World) (hu : Upd (fun _ => False) w w') => hu.cell c1 (fun f => f)
      rw [← hi] at HF
      rw [← hN] at c12
      have H12 := Lib.hid c12
      have hd : decide ((i : Int) < (N : Int)) = false := decide_eq_false (by omega)
      have hd2 : ¬ ((i : Int) < (N : Int)) := by omega
      clear h hok hn hn1 c1 hle hl2 hi hN c12
      go_enter Try.func39, Try.ntmps39
      go_wp2_with (go_at_call 52; refine HI.out.mono ?_; rintro e w' ⟨rfl, rfl⟩)
      refine HF.out.mono ?_
      rintro e w1 ⟨rfl, hu⟩
      have d2 := H12.out _ hu
      go_wp2
      go_ret
      exact ⟨rfl, hu⟩
  · rw [decide_eq_false h1]
    simp only [Bool.and_false, Bool.false_and]
    clear h hok hn hn1
    go_enter Try.func39, Try.ntmps39
    go_wp2_with (go_at_call 52; refine HI.out.mono ?_; rintro e w' ⟨rfl, rfl⟩)
    go_ret
    exact ⟨rfl, Upd.refl _ _⟩

theorem sp_Count {w : World} {b : Nat} {row : Option Nat} {n : Int} {v : Value} {l : List Ex} (h : SpAt w b row n v l) (hok : SpOk n l) :
    Calls Try.prog 51 #[.pointer (some ⟨b, 0, none⟩)] w fun e w' => e = .returned (.int .i64 (cntE l)) ∧ Upd (fun _ => False) w w' := by
  have hn := hok.1
  have HI := Lib.hid (sp_is h)
  rw [decide_eq_true (show 0 < n by omega)] at HI
  have c1 : w.cell? ⟨b, 1, none⟩ = some v := cell_heap h.set 1 _ rfl
  have HH := Lib.hid h
  have HO := Lib.hid hok
  obtain ⟨ad, cap, rfl, _⟩ := h.row.form
  obtain ⟨N, hN⟩ : ∃ N, N = l.length := ⟨_, rfl⟩
  have hl2 := hok.len
  have hl4 : N ≤ 4096 := by omega
  rw [← hN] at c1
  have HN := Lib.hid hN
  clear h hok hn hl2 hN
  go_enter Try.func51, Try.ntmps51
  go_wp2_with (go_at_call 52; refine HI.out.mono ?_; rintro e w' ⟨rfl, rfl⟩)
  go_loopg [2, 13] N (fun kx s2 s13 wr => ∃ i : Nat, s13 = .int .i64 i ∧ i + kx = N ∧ s2 = .int .i64 (cntE (l.take i)) ∧ Hid (Upd (fun _ => False) w wr))
  case atStart => exact ⟨0, rfl, by omega, rfl, Lib.hid (Upd.refl _ _)⟩
  case round =>
    obtain ⟨i, rfl, hik, rfl, HU⟩ := hrel
    cases gk with
    | zero =>
      obtain rfl : i = N := by omega
      go_wp2
      go_ret
      exact ⟨by rw [List.take_of_length_le (by have := HN.out; omega)]; rfl, HU.out⟩
    | succ g =>
      have hil : i < l.length := by have := HN.out; omega
      have hd : decide ((i : Int) < (N : Int)) = true := decide_eq_true (by omega)
      obtain ⟨r', off', cap', e1, e2, cA, cB, _⟩ := (HH.out.row.upd HU.out (fun _ _ f => f)).get i hil
      simp only [Value.slice.injEq] at e2
      obtain ⟨rfl, _, rfl⟩ := e2
      have hc1 := (HO.out.take i).cnt
      have hc2 := (HO.out.take (i + 1)).cnt
      have hcs : cntE (l.take (i + 1)) = cntE (l.take i) + l[i].2 := by
        rw [List.take_succ_eq_append_getElem hil, cntE_append, cntE_cons]
        unfold cntE; simp
      have hO1 := HO.out.1
      rw [Nat.mul_comm] at cA cB
      generalize l[i] = y at cA cB hcs
      have hw : IntKind.i64.wrap (cntE (l.take i) + y.2) = cntE (l.take (i + 1)) := by rw [hcs]; exact IntWalk.i64_in _ (by omega)
      have HCS := Lib.hid hcs
      have HW := Lib.hid hw
      have hb1 : -9223372036854775808 ≤ cntE (l.take i) + y.2 ∧ cntE (l.take i) + y.2 ≤ 9223372036854775807 := by omega
      clear hil hc1 hc2 hcs hO1 hw
      generalize cntE (l.take i) = c at *
      go_wp2
      go_roundg g
      case measure => omega
      case rel => exact ⟨i + 1, by rw [Int.natCast_add]; rfl, by omega, by rw [HCS.out], Lib.hid (by repeat (first | exact Upd.refl _ _ | refine Upd.alloc ?_ _ | refine Upd.drew ?_ | refine Upd.trans ?_ (by assumption) (fun _ _ f => f)))⟩

end Go.Proofs.Ytieohjibccjliaa
