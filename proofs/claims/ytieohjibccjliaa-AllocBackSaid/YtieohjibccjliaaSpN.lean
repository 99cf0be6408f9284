/- Plain: what Fill, Give, Take make of spans. -/
import Derived.Test.YtieohjibccjliaaSpK
set_option linter.unusedVariables false
set_option linter.unusedSimpArgs false
namespace Go.Proofs.Ytieohjibccjliaa
open Go.RowKit Go.Shelf

def inE (x : Ex) (k : Int) : Bool := decide (x.1 ≤ k) && decide (k < x.1 + x.2)
theorem inE_iff (x : Ex) (k : Int) : inE x k = true ↔ x.1 ≤ k ∧ k < x.1 + x.2 := by unfold inE; simp
theorem hasB_nil (k : Int) : hasB [] k = false := rfl
theorem hasB_cons (x : Ex) (l : List Ex) (k : Int) : hasB (x :: l) k = (inE x k || hasB l k) := rfl
theorem hasB_append (a b : List Ex) (k : Int) : hasB (a ++ b) k = (hasB a k || hasB b k) := by unfold hasB; rw [List.any_append]
theorem hasB_false (l : List Ex) (k : Int) (h : ∀ x ∈ l, x.1 + x.2 ≤ k ∨ k < x.1) : hasB l k = false := by
  rw [← Bool.not_eq_true, hasB_iff]
  rintro ⟨x, hx, h1, h2⟩
  rcases h x hx with h | h <;> omega
theorem SpOk.split {n : Int} {l : List Ex} (h : SpOk n l) (f : Int) : ∃ a c, l = a ++ c ∧ l.take (findN l f) = a ∧ l.drop (findN l f) = c ∧ (∀ x ∈ a, x.1 + x.2 ≤ f) ∧ (∀ x ∈ c, f < x.1 + x.2) := by
  refine ⟨l.take (findN l f), l.drop (findN l f), (List.take_append_drop _ _).symm, rfl, rfl, fun x hx => ?_, fun x hx => ?_⟩
  · obtain ⟨t, ht, rfl⟩ := List.getElem_of_mem hx
    rw [List.length_take] at ht
    rw [List.getElem_take]
    exact (h.find f).1 t (by omega) (by omega)
  · obtain ⟨t, ht, rfl⟩ := List.getElem_of_mem hx
    rw [List.length_drop] at ht
    rw [List.getElem_drop]
    exact (h.find f).2 _ (by omega) (by omega)
theorem SpOk.nil {n : Int} (hn : 1 ≤ n ∧ n ≤ 4096) : SpOk n [] := ⟨hn, fun z hz => (by cases hz), List.Pairwise.nil⟩
theorem SpOk.mk' {n : Int} (hn : 1 ≤ n ∧ n ≤ 4096) {a b : List Ex} {x : Ex} (ha : SpOk n a) (hb : SpOk n b) (hx : 0 ≤ x.1 ∧ 1 ≤ x.2 ∧ x.1 + x.2 ≤ n) (h1 : ∀ y ∈ a, y.1 + y.2 < x.1) (h2 : ∀ y ∈ b, x.1 + x.2 < y.1) : SpOk n (a ++ x :: b) := by
  refine ⟨hn, fun y hy => ?_, ?_⟩
  · rcases List.mem_append.1 hy with h | h
    · exact ha.2.1 y h
    · rcases List.mem_cons.1 h with rfl | h
      · exact hx
      · exact hb.2.1 y h
  · refine List.pairwise_append.2 ⟨ha.2.2, List.pairwise_cons.2 ⟨fun y hy => h2 y hy, hb.2.2⟩, fun y hy z hz => ?_⟩
    rcases List.mem_cons.1 hz with rfl | hz
    · exact h1 y hy
    · have := h1 y hy; have := h2 z hz; omega
theorem SpOk.left {n : Int} {a b : List Ex} (h : SpOk n (a ++ b)) : SpOk n a := ⟨h.1, fun x hx => h.2.1 x (List.mem_append.2 (.inl hx)), (List.pairwise_append.1 h.2.2).1⟩
theorem SpOk.right {n : Int} {a b : List Ex} (h : SpOk n (a ++ b)) : SpOk n b := ⟨h.1, fun x hx => h.2.1 x (List.mem_append.2 (.inr hx)), (List.pairwise_append.1 h.2.2).2.1⟩
theorem SpOk.tail {n : Int} {x : Ex} {b : List Ex} (h : SpOk n (x :: b)) : SpOk n b := ⟨h.1, fun y hy => h.2.1 y (List.mem_cons_of_mem _ hy), (List.pairwise_cons.1 h.2.2).2⟩
/-- A span joined to what ends ahead of it. -/
theorem leftJ_ok {n : Int} {a b : List Ex} {x : Ex} (ha : SpOk n a) (hb : SpOk n b) (hx : 0 ≤ x.1 ∧ 1 ≤ x.2 ∧ x.1 + x.2 ≤ n) (h1 : ∀ y ∈ a, y.1 + y.2 ≤ x.1) (h2 : ∀ y ∈ b, x.1 + x.2 < y.1) :
    SpOk n (leftJ a x b) ∧ ∀ k, hasB (leftJ a x b) k = (hasB a k || (inE x k || hasB b k)) := by
  rcases List.eq_nil_or_concat a with rfl | ⟨a', z, rfl⟩
  · rw [leftJ_nil]
    refine ⟨SpOk.mk' ha.1 ha hb hx (fun y hy => by cases hy) h2, fun k => by rw [hasB_append, hasB_cons]⟩
  · rw [List.concat_eq_append] at *
    have hz := ha.2.1 z (by simp)
    have hze := h1 z (by simp)
    have hpw := List.pairwise_append.1 ha.2.2
    by_cases e : z.1 + z.2 = x.1
    · rw [leftJ_join _ _ _ _ e]
      refine ⟨SpOk.mk' ha.1 ha.left hb ⟨hz.1, by show 1 ≤ z.2 + x.2; omega, by show z.1 + (z.2 + x.2) ≤ n; omega⟩ (fun y hy => hpw.2.2 y hy z (by simp)) (fun y hy => by show z.1 + (z.2 + x.2) < y.1; have := h2 y hy; omega), fun k => ?_⟩
      have hj : inE (z.1, z.2 + x.2) k = (inE z k || inE x k) := by
        rw [Bool.eq_iff_iff, Bool.or_eq_true, inE_iff, inE_iff, inE_iff]
        dsimp only
        omega
      rw [hasB_append, hasB_append, hasB_cons, hasB_cons, hasB_nil, hj, Bool.or_false]
      cases hasB a' k <;> cases inE z k <;> rfl
    · rw [leftJ_apart _ _ _ _ e]
      refine ⟨SpOk.mk' ha.1 ha hb hx (fun y hy => ?_) h2, fun k => by rw [hasB_append, hasB_cons]⟩
      rcases List.mem_append.1 hy with h | h
      · have := hpw.2.2 y h z (by simp); omega
      · simp only [List.mem_singleton] at h; subst h; omega
theorem fillE_spec {n : Int} {l : List Ex} (hok : SpOk n l) (f t : Int) (h1 : 0 ≤ f ∧ f < t ∧ t ≤ n) :
    ((∃ k, (f ≤ k ∧ k < t) ∧ hasB l k = true) ∧ fillE l f t = (l, 6)) ∨
    ((∀ k, f ≤ k → k < t → hasB l k = false) ∧ (fillE l f t).2 = 0 ∧ SpOk n (fillE l f t).1 ∧ ∀ k, hasB (fillE l f t).1 k = (hasB l k || (decide (f ≤ k) && decide (k < t)))) := by
  obtain ⟨a, c, hl, ht, hd, hA, hC⟩ := hok.split f
  unfold fillE
  rw [ht, hd]
  have hoka : SpOk n a := by rw [hl] at hok; exact hok.left
  have hokc : SpOk n c := by rw [hl] at hok; exact hok.right
  have hhas : ∀ k, hasB l k = (hasB a k || hasB c k) := fun k => by rw [hl, hasB_append]
  have hkf : ∀ k, f ≤ k → hasB a k = false := fun k hk => hasB_false a k (fun x hx => .inl (by have := hA x hx; omega))
  cases c with
  | nil =>
    dsimp only
    right
    obtain ⟨j1, j2⟩ := leftJ_ok (x := (f, t - f)) hoka hokc ⟨h1.1, by show 1 ≤ t - f; omega, by show f + (t - f) ≤ n; omega⟩ hA (fun y hy => by cases hy)
    refine ⟨fun k h2 h3 => by rw [hhas, hkf k h2]; rfl, rfl, j1, fun k => ?_⟩
    rw [j2, hhas, hasB_nil, Bool.or_false, Bool.or_false]
    congr 1
    unfold inE
    rw [show f + (t - f) = t by omega]
  | cons y q =>
    have hy := hC y (List.mem_cons_self ..)
    have hyb := hokc.2.1 y (List.mem_cons_self ..)
    have hq : ∀ z ∈ q, y.1 + y.2 < z.1 := (List.pairwise_cons.1 hokc.2.2).1
    dsimp only
    by_cases h3 : y.1 < t
    · rw [if_pos h3]
      left
      refine ⟨?_, rfl⟩
      by_cases h4 : f ≤ y.1
      · exact ⟨y.1, ⟨h4, h3⟩, by rw [hhas, hasB_cons, (inE_iff y y.1).2 ⟨Int.le_refl _, by omega⟩]; simp⟩
      · exact ⟨f, ⟨Int.le_refl _, h1.2.1⟩, by rw [hhas, hasB_cons, (inE_iff y f).2 ⟨by omega, hy⟩]; simp⟩
    · rw [if_neg h3]
      right
      have hno : ∀ k, f ≤ k → k < t → hasB l k = false := fun k h4 h5 => by
        rw [hhas, hkf k h4, hasB_false (y :: q) k (fun z hz => ?_)]
        · rfl
        · rcases List.mem_cons.1 hz with rfl | hz
          · right; omega
          · right; have := hq z hz; omega
      by_cases h4 : y.1 = t
      · rw [if_pos h4]
        obtain ⟨j1, j2⟩ := leftJ_ok (x := (f, t - f + y.2)) hoka hokc.tail ⟨h1.1, by show 1 ≤ t - f + y.2; omega, by show f + (t - f + y.2) ≤ n; omega⟩ hA (fun z hz => by have := hq z hz; show f + (t - f + y.2) < z.1; omega)
        refine ⟨hno, rfl, j1, fun k => ?_⟩
        have hj : inE (f, t - f + y.2) k = ((decide (f ≤ k) && decide (k < t)) || inE y k) := by
          rw [Bool.eq_iff_iff, Bool.or_eq_true, inE_iff, inE_iff, Bool.and_eq_true, decide_eq_true_eq, decide_eq_true_eq]
          dsimp only
          omega
        rw [j2, hhas, hasB_cons, hj]
        cases hasB a k <;> cases inE y k <;> cases hasB q k <;> cases (decide (f ≤ k) && decide (k < t)) <;> rfl
      · rw [if_neg h4]
        obtain ⟨j1, j2⟩ := leftJ_ok (x := (f, t - f)) hoka hokc ⟨h1.1, by show 1 ≤ t - f; omega, by show f + (t - f) ≤ n; omega⟩ hA (fun z hz => by
          show f + (t - f) < z.1
          rcases List.mem_cons.1 hz with rfl | hz
          · omega
          · have := hq z hz; omega)
        refine ⟨hno, rfl, j1, fun k => ?_⟩
        have hj : inE (f, t - f) k = (decide (f ≤ k) && decide (k < t)) := by unfold inE; rw [show f + (t - f) = t by omega]
        rw [j2, hhas, hj]
        cases hasB a k <;> cases hasB (y :: q) k <;> cases (decide (f ≤ k) && decide (k < t)) <;> rfl
/-- Fill, whatever is asked. -/
theorem fillA_spec {n : Int} {l : List Ex} (hok : SpOk n l) (f t : Int) :
    SpOk n (fillA n l f t).1 ∧ ((fillA n l f t).2 ≠ 0 → (fillA n l f t).1 = l) ∧ ((fillA n l f t).2 = 0 → (0 ≤ f ∧ f ≤ t ∧ t ≤ n) ∧ (∀ k, f ≤ k → k < t → hasB l k = false) ∧ ∀ k, hasB (fillA n l f t).1 k = (hasB l k || (decide (f ≤ k) && decide (k < t)))) := by
  unfold fillA
  by_cases h1 : f < 0 ∨ t < f ∨ n < t
  · rw [if_pos h1]; exact ⟨hok, fun _ => rfl, fun h => by cases h⟩
  · rw [if_neg h1]
    by_cases h2 : f = t
    · rw [if_pos h2]
      refine ⟨hok, fun h => absurd rfl h, fun _ => ⟨by omega, fun k _ _ => by omega, fun k => ?_⟩⟩
      have : (decide (f ≤ k) && decide (k < t)) = false := by simp; omega
      rw [this, Bool.or_false]
    · rw [if_neg h2]
      rcases fillE_spec hok f t (by omega) with ⟨_, e⟩ | ⟨e1, e2, e3, e4⟩
      · rw [e]; exact ⟨hok, fun _ => rfl, fun h => by cases h⟩
      · exact ⟨e3, fun h => absurd e2 h, fun _ => ⟨by omega, e1, e4⟩⟩
theorem giveA_spec {n : Int} {l : List Ex} (hok : SpOk n l) (a : Int) :
    SpOk n (giveA n l a).1 ∧ ((giveA n l a).2 ≠ 0 → (giveA n l a).1 = l) ∧ ((giveA n l a).2 = 0 → (0 ≤ a ∧ a < n) ∧ hasB l a = false ∧ ∀ k, hasB (giveA n l a).1 k = (hasB l k || decide (k = a))) := by
  unfold giveA
  by_cases h1 : a < 0 ∨ n ≤ a
  · rw [if_pos h1]; exact ⟨hok, fun _ => rfl, fun h => by cases h⟩
  · rw [if_neg h1]
    obtain ⟨f1, f2, f3⟩ := fillA_spec hok a (a + 1)
    refine ⟨f1, f2, fun h => ?_⟩
    obtain ⟨g1, g2, g3⟩ := f3 h
    refine ⟨by omega, g2 a (Int.le_refl _) (by omega), fun k => ?_⟩
    rw [g3 k]
    congr 1
    rw [Bool.eq_iff_iff]
    simp only [Bool.and_eq_true, decide_eq_true_eq]
    omega
/-! ### Take -/
theorem flat_sorted {n : Int} : ∀ (l : List Ex), SpOk n l → (flatE l).Pairwise (· < ·)
  | [], _ => by rw [flatE_nil]; exact List.Pairwise.nil
  | x :: r, h => by
    rw [flatE_cons]
    refine List.pairwise_append.2 ⟨?_, flat_sorted r h.tail, fun y hy z hz => ?_⟩
    · unfold seqE
      refine List.pairwise_map.2 (List.pairwise_lt_range.imp (fun hab => ?_))
      omega
    · unfold seqE at hy
      obtain ⟨j, hj, rfl⟩ := List.mem_map.1 hy
      have := List.mem_range.1 hj
      obtain ⟨u, hu, h1, h2⟩ := (mem_flatE r z).1 hz
      have := (List.pairwise_cons.1 h.2.2).1 u hu
      have := h.2.1 x (List.mem_cons_self ..)
      omega
theorem mem_has {n : Int} {l : List Ex} (h : SpOk n l) (y : Int) : y ∈ flatE l ↔ hasB l y = true := by
  rw [mem_flatE, hasB_iff]
  constructor
  · rintro ⟨x, hx, h1, h2⟩; have := h.2.1 x hx; exact ⟨x, hx, h1, by omega⟩
  · rintro ⟨x, hx, h1, h2⟩; have := h.2.1 x hx; exact ⟨x, hx, h1, by omega⟩
theorem takeL_spec {n : Int} {l : List Ex} (hok : SpOk n l) (y : Int) (hy : hasB l y = true) : SpOk n (takeL l y) ∧ ∀ k, hasB (takeL l y) k = (hasB l k && decide (y < k)) := by
  obtain ⟨a, c, hl, ht, hd, hA, hC⟩ := hok.split y
  unfold takeL
  rw [hd]
  have hokc : SpOk n c := by rw [hl] at hok; exact hok.right
  have hhas : ∀ k, hasB l k = (hasB a k || hasB c k) := fun k => by rw [hl, hasB_append]
  have hka : ∀ k, y < k → hasB a k = false := fun k hk => hasB_false a k (fun x hx => .inl (by have := hA x hx; omega))
  cases c with
  | nil =>
    rw [hhas, hasB_nil, Bool.or_false, hasB_false a y (fun x hx => .inl (hA x hx))] at hy
    cases hy
  | cons x q =>
    have hxe := hC x (List.mem_cons_self ..)
    have hxb := hokc.2.1 x (List.mem_cons_self ..)
    have hq : ∀ z ∈ q, x.1 + x.2 < z.1 := (List.pairwise_cons.1 hokc.2.2).1
    have hx1 : x.1 ≤ y := by
      rw [hhas, hasB_false a y (fun x hx => .inl (hA x hx)), Bool.false_or, hasB_cons, hasB_false q y (fun z hz => .inr (by have := hq z hz; omega)), Bool.or_false] at hy
      exact ((inE_iff x y).1 hy).1
    dsimp only
    have hmain : ∀ (l' : List Ex), (∀ k, hasB l' k = ((decide (y < k) && inE x k) || hasB q k)) → ∀ k, hasB l' k = (hasB l k && decide (y < k)) := by
      intro l' h' k
      rw [h' k, hhas, hasB_cons]
      by_cases hk : y < k
      · rw [hka k hk, decide_eq_true hk]
        simp
      · rw [decide_eq_false hk, hasB_false q k (fun z hz => .inr (by have := hq z hz; omega))]
        simp
    by_cases hc : y + 1 < x.1 + x.2
    · rw [if_pos hc]
      refine ⟨?_, hmain _ fun k => ?_⟩
      · have := SpOk.mk' (a := []) (b := q) (x := (y + 1, x.1 + x.2 - y - 1)) hok.1 (SpOk.nil hok.1) hokc.tail ⟨by show 0 ≤ y + 1; omega, by show 1 ≤ x.1 + x.2 - y - 1; omega, by show y + 1 + (x.1 + x.2 - y - 1) ≤ n; omega⟩ (fun z hz => by cases hz) (fun z hz => by have := hq z hz; show y + 1 + (x.1 + x.2 - y - 1) < z.1; omega)
        exact this
      · rw [hasB_cons]
        congr 1
        rw [Bool.eq_iff_iff, Bool.and_eq_true, inE_iff, inE_iff, decide_eq_true_eq]
        dsimp only
        omega
    · rw [if_neg hc]
      refine ⟨hokc.tail, hmain _ fun k => ?_⟩
      have : (decide (y < k) && inE x k) = false := by
        rw [← Bool.not_eq_true, Bool.and_eq_true, inE_iff, decide_eq_true_eq]
        omega
      rw [this, Bool.false_or]
/-- Take: what is taken is the first of what is there; what is left is what lies behind. -/
theorem takeA_spec {n : Int} {l : List Ex} (hok : SpOk n l) (k : Int) :
    SpOk n (takeA l k).2.2 ∧ ((takeA l k).2.1 ≠ 0 → (takeA l k).2.2 = l ∧ (takeA l k).1 = []) ∧
      ((takeA l k).2.1 = 0 → (takeA l k).1.Pairwise (· < ·) ∧ (∀ y ∈ (takeA l k).1, hasB l y = true) ∧ (∀ y, hasB (takeA l k).2.2 y = (hasB l y && decide (y ∉ (takeA l k).1))) ∧ (∀ y ∈ (takeA l k).1, ∀ z, z < y → hasB l z = true → z ∈ (takeA l k).1)) := by
  unfold takeA
  by_cases h1 : k < 1
  · rw [if_pos h1]; exact ⟨hok, fun _ => ⟨rfl, rfl⟩, fun h => by cases h⟩
  rw [if_neg h1]
  by_cases h2 : cntE l < k
  · rw [if_pos h2]; exact ⟨hok, fun _ => ⟨rfl, rfl⟩, fun h => by cases h⟩
  rw [if_neg h2]
  by_cases h3 : k = cntE l
  · rw [if_pos h3]
    refine ⟨(SpOk.nil hok.1), fun h => absurd rfl h, fun _ => ⟨flat_sorted l hok, fun y hy => (mem_has hok y).1 hy, fun y => ?_, fun y hy z hz hz2 => (mem_has hok z).2 hz2⟩⟩
    dsimp only
    rw [hasB_nil]
    by_cases hy : hasB l y = true
    · rw [hy, decide_eq_false (fun h => h ((mem_has hok y).2 hy))]; rfl
    · rw [Bool.not_eq_true] at hy; rw [hy]; rfl
  rw [if_neg h3]
  obtain ⟨m, rfl⟩ := Int.eq_ofNat_of_zero_le (show 0 ≤ k by omega)
  rw [Int.toNat_natCast]
  have hfl := flat_len hok
  have hml : m < (flatE l).length := by omega
  have hm1 : 1 ≤ m := by omega
  have hlast : (flatE l)[m - 1]? = some ((flatE l).getD (m - 1) 0) := by rw [List.getD_eq_getElem?_getD, List.getElem?_eq_getElem (by omega)]; rfl
  generalize (flatE l).getD (m - 1) 0 = last at hlast
  have hsrt := flat_sorted l hok
  have hmem : ∀ y, y ∈ (flatE l).take m ↔ hasB l y = true ∧ y ≤ last := by
    intro y
    rw [← mem_has hok]
    constructor
    · intro hy
      obtain ⟨t, ht, rfl⟩ := List.getElem_of_mem hy
      rw [List.length_take] at ht
      refine ⟨List.mem_of_mem_take hy, ?_⟩
      rw [List.getElem_take]
      have hle := (List.getElem?_eq_some_iff.1 hlast).2
      rw [← hle]
      by_cases e : t = m - 1
      · subst e; exact Int.le_refl _
      · exact Int.le_of_lt (List.pairwise_iff_getElem.1 hsrt t (m - 1) (by omega) (by omega) (by omega))
    · rintro ⟨hy, hle⟩
      obtain ⟨t, ht, rfl⟩ := List.getElem_of_mem hy
      have hl2 := (List.getElem?_eq_some_iff.1 hlast).2
      by_cases e : t < m
      · exact List.mem_take_iff_getElem.2 ⟨t, by omega, rfl⟩
      · have := List.pairwise_iff_getElem.1 hsrt (m - 1) t (by omega) ht (by omega)
        omega
  have hlh : hasB l last = true := (mem_has hok last).1 (List.mem_of_getElem? hlast)
  obtain ⟨t1, t2⟩ := takeL_spec hok last hlh
  refine ⟨t1, fun h => absurd rfl h, fun _ => ⟨hsrt.sublist (List.take_sublist _ _), fun y hy => ((hmem y).1 hy).1, fun y => ?_, fun y hy z hz hz2 => (hmem z).2 ⟨hz2, by have := ((hmem y).1 hy).2; omega⟩⟩⟩
  dsimp only
  rw [t2]
  by_cases hy : hasB l y = true
  · rw [hy, Bool.true_and, Bool.true_and, Bool.eq_iff_iff, decide_eq_true_eq, decide_eq_true_eq, hmem y]
    constructor
    · intro h h2; omega
    · intro h
      by_cases hle : y ≤ last
      · exact absurd ⟨hy, hle⟩ h
      · omega
  · rw [Bool.not_eq_true] at hy; rw [hy]; rfl

end Go.Proofs.Ytieohjibccjliaa
