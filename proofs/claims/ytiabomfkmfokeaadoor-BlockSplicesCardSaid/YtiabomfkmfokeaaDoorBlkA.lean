/- What patches do, as plain lists: a patch's text is read as the patch; a splice stands; twice is as once. -/
import Derived.Test.YtiabomfkmfokeaaDoorBlk9
set_option linter.unusedVariables false
set_option linter.unusedSimpArgs false
namespace Go.Proofs.YtiabomfkmfokeaaDoor
open Go.RowKit
namespace Blk

theorem ofNat_toNat (n : Nat) (h : n < 256) : (UInt8.ofNat n).toNat = n := by simp; omega
theorem put_ok {p : Pt} (h : may p = true) : put p = (if p.cut then [2, UInt8.ofNat p.n.toNat] else [1, UInt8.ofNat p.at_.toNat, 0, UInt8.ofNat p.s.length] ++ p.s, 0) := by
  unfold put; rw [if_neg (by simp [h])]; split <;> rfl
theorem put_no {p : Pt} (h : may p = false) : put p = ([], 4) := by unfold put; rw [if_pos h]

theorem takeI_takeCut (n : UInt8) (r : List UInt8) : takeI (2 :: n :: r) = fin ⟨true, 0, n.toNat, []⟩ (!r.isEmpty) := by
  have e : (2 :: n :: r : List UInt8).length = r.length + 2 := rfl
  unfold takeI
  rw [e, if_neg (by omega)]
  have hg : (2 :: n :: r : List UInt8).getD 0 0 = 2 := rfl
  have hg1 : (2 :: n :: r : List UInt8).getD 1 0 = n := rfl
  rw [hg, hg1, if_neg (by decide), if_pos (by decide), if_neg (by omega)]
  congr 1
  cases r <;> simp
theorem takeI_nil : takeI [] = (zero, 10) := rfl
theorem takeI_cut1 : takeI [2] = (zero, 10) := rfl
theorem takeI_splice1 (r : List UInt8) (h : r.length < 3) : takeI (1 :: r) = (zero, 10) := by
  have e : (1 :: r : List UInt8).length = r.length + 1 := rfl
  unfold takeI
  rw [e, if_neg (by omega)]
  have hg : (1 :: r : List UInt8).getD 0 0 = 1 := rfl
  rw [hg, if_neg (by decide), if_neg (by decide), if_pos (by omega)]
theorem takeI_splice (a h l : UInt8) (r : List UInt8) : takeI (1 :: a :: h :: l :: r) =
    if r.length < 256 * h.toNat + l.toNat then (zero, 10) else fin ⟨false, a.toNat, 0, r.take (256 * h.toNat + l.toNat)⟩ (decide (256 * h.toNat + l.toNat < r.length)) := by
  have e : (1 :: a :: h :: l :: r : List UInt8).length = r.length + 4 := rfl
  unfold takeI
  have hg : (1 :: a :: h :: l :: r : List UInt8).getD 0 0 = 1 := rfl
  have hg1 : (1 :: a :: h :: l :: r : List UInt8).getD 1 0 = a := rfl
  have hg2 : (1 :: a :: h :: l :: r : List UInt8).getD 2 0 = h := rfl
  have hg3 : (1 :: a :: h :: l :: r : List UInt8).getD 3 0 = l := rfl
  rw [e, hg, hg1, hg2, hg3, if_neg (by omega), if_neg (by decide), if_neg (by decide), if_neg (by omega)]
  by_cases hs : r.length < 256 * h.toNat + l.toNat
  · rw [if_pos hs, if_pos (by omega)]
  · rw [if_neg hs, if_neg (by omega)]
    congr 1
    simp; omega

theorem fin_false {p : Pt} (h : may p = true) : fin p false = (p, 0) := by unfold fin; rw [if_neg (by simp [h])]

theorem back {p : Pt} (h : may p = true) : takeI (put p).1 = (p, 0) := by
  rw [put_ok h]
  obtain ⟨cut, at_, n, s⟩ := p
  cases cut with
  | true =>
    have hn : 0 ≤ n ∧ n < 64 ∧ at_ = 0 ∧ s.length = 0 := by simpa [may] using h
    obtain ⟨h1, h2, rfl, h4⟩ := hn
    obtain rfl := List.eq_nil_of_length_eq_zero h4
    show takeI [2, UInt8.ofNat n.toNat] = _
    rw [takeI_takeCut, ofNat_toNat _ (by omega), Int.toNat_of_nonneg h1]
    exact fin_false h
  | false =>
    have hn : 0 < s.length ∧ s.length ≤ 64 ∧ 0 ≤ at_ ∧ at_ ≤ 64 - s.length ∧ n = 0 := by simpa [may, Nat.pos_iff_ne_zero] using h
    obtain ⟨h1, h2, h3, h4, rfl⟩ := hn
    show takeI (1 :: UInt8.ofNat at_.toNat :: 0 :: UInt8.ofNat s.length :: s) = _
    have e : 256 * (0 : UInt8).toNat + (UInt8.ofNat s.length).toNat = s.length := by rw [ofNat_toNat _ (by omega)]; simp
    rw [takeI_splice, e, if_neg (by omega), List.take_length, ofNat_toNat _ (by omega), Int.toNat_of_nonneg h3]
    have : decide (s.length < s.length) = false := by simp
    rw [this]
    exact fin_false h

theorem torn {p : Pt} (h : may p = true) (k : Nat) (hk : k < (put p).1.length) : takeI ((put p).1.take k) = (zero, 10) := by
  rw [put_ok h] at hk ⊢
  obtain ⟨cut, at_, n, s⟩ := p
  cases cut with
  | true =>
    simp only [if_pos] at hk ⊢
    rcases k with _ | _ | k
    · rfl
    · rfl
    · exact absurd hk (by show ¬ (k + 1 + 1 < 2); omega)
  | false =>
    have hn : 0 < s.length ∧ s.length ≤ 64 ∧ 0 ≤ at_ ∧ at_ ≤ 64 - s.length ∧ n = 0 := by simpa [may, Nat.pos_iff_ne_zero] using h
    have hl : (1 :: UInt8.ofNat at_.toNat :: 0 :: UInt8.ofNat s.length :: s).length = s.length + 4 := rfl
    have hk' : k < s.length + 4 := hk
    show takeI ((1 :: UInt8.ofNat at_.toNat :: 0 :: UInt8.ofNat s.length :: s).take k) = _
    rcases k with _ | _ | _ | _ | k
    · rfl
    · exact takeI_splice1 _ (by simp)
    · exact takeI_splice1 _ (by simp)
    · exact takeI_splice1 _ (by simp)
    · show takeI (1 :: UInt8.ofNat at_.toNat :: 0 :: UInt8.ofNat s.length :: s.take k) = _
      have e : 256 * (0 : UInt8).toNat + (UInt8.ofNat s.length).toNat = s.length := by rw [ofNat_toNat _ (by omega)]; simp
      rw [takeI_splice, e, if_pos (by rw [List.length_take]; omega)]

theorem put_len {p : Pt} (h : may p = true) : (put p).1.length ≠ 0 ∧ (put p).1.length ≤ 100 := by
  rw [put_ok h]
  obtain ⟨cut, at_, n, s⟩ := p
  cases cut with
  | true => exact ⟨by simp, by simp⟩
  | false =>
    have hn : 0 < s.length ∧ s.length ≤ 64 ∧ 0 ≤ at_ ∧ at_ ≤ 64 - s.length ∧ n = 0 := by simpa [may, Nat.pos_iff_ne_zero] using h
    have e : (if ({ cut := false, at_ := at_, n := n, s := s } : Pt).cut = true then [2, UInt8.ofNat n.toNat] else [1, UInt8.ofNat at_.toNat, 0, UInt8.ofNat s.length] ++ s).length = s.length + 4 := by simp
    refine ⟨?_, ?_⟩
    · show (if ({ cut := false, at_ := at_, n := n, s := s } : Pt).cut = true then [2, UInt8.ofNat n.toNat] else [1, UInt8.ofNat at_.toNat, 0, UInt8.ofNat s.length] ++ s).length ≠ 0; omega
    · show (if ({ cut := false, at_ := at_, n := n, s := s } : Pt).cut = true then [2, UInt8.ofNat n.toNat] else [1, UInt8.ofNat at_.toNat, 0, UInt8.ofNat s.length] ++ s).length ≤ 100; omega

theorem fin_cases (p : Pt) (b : Bool) : (fin p b = (zero, 4)) ∨ (fin p b = (p, 0) ∧ b = false ∧ may p = true) := by
  unfold fin
  by_cases h : b = true ∨ may p = false
  · exact Or.inl (if_pos h)
  · refine Or.inr ⟨if_neg h, ?_, ?_⟩
    · cases b <;> simp at h ⊢
    · cases hm : may p <;> simp [hm] at h ⊢

/-- What is read of any text: nothing, or a patch with that text. -/
theorem read (l : List UInt8) : (∃ f, takeI l = (zero, f) ∧ f ≠ 0) ∨ (∃ p, takeI l = (p, 0) ∧ put p = (l, 0)) := by
  cases l with
  | nil => exact Or.inl ⟨10, rfl, by decide⟩
  | cons k r =>
    by_cases h2 : k = 2
    · subst h2
      cases r with
      | nil => exact Or.inl ⟨10, rfl, by decide⟩
      | cons n r =>
        rw [takeI_takeCut]
        rcases fin_cases ⟨true, 0, n.toNat, []⟩ (!r.isEmpty) with e | ⟨e, e2, e3⟩
        · exact Or.inl ⟨4, e, by decide⟩
        · refine Or.inr ⟨_, e, ?_⟩
          have : r = [] := by simpa using e2
          subst this
          rw [put_ok e3]; simp
    · by_cases h1 : k = 1
      · subst h1
        by_cases hs : r.length < 3
        · exact Or.inl ⟨10, takeI_splice1 r hs, by decide⟩
        · obtain ⟨a, h, l, r, rfl⟩ : ∃ a h l r', r = a :: h :: l :: r' := by
            rcases r with _ | ⟨a, _ | ⟨h, _ | ⟨l, r⟩⟩⟩
            · simp at hs
            · simp at hs
            · simp at hs
            · exact ⟨_, _, _, _, rfl⟩
          rw [takeI_splice]
          by_cases ht : r.length < 256 * h.toNat + l.toNat
          · rw [if_pos ht]; exact Or.inl ⟨10, rfl, by decide⟩
          · rw [if_neg ht]
            rcases fin_cases ⟨false, a.toNat, 0, r.take (256 * h.toNat + l.toNat)⟩ (decide (256 * h.toNat + l.toNat < r.length)) with e | ⟨e, e2, e3⟩
            · exact Or.inl ⟨4, e, by decide⟩
            · refine Or.inr ⟨_, e, ?_⟩
              have hle : r.length = 256 * h.toNat + l.toNat := by simp at e2; omega
              rw [← hle, List.take_length] at e3 ⊢
              rw [put_ok e3]
              have hn : 0 < r.length ∧ r.length ≤ 64 ∧ (0 : Int) ≤ a.toNat ∧ (a.toNat : Int) ≤ 64 - r.length ∧ True := by simpa [may, Nat.pos_iff_ne_zero] using e3
              have hh : h = 0 := by apply UInt8.toNat_inj.1; show h.toNat = 0; omega
              subst hh
              have hll : UInt8.ofNat r.length = l := by rw [hle]; simp
              simp [hll]
      · refine Or.inl ⟨4, ?_, by decide⟩
        unfold takeI
        have hg : (k :: r : List UInt8).getD 0 0 = k := rfl
        have n1 : k.toNat ≠ 1 := fun h => h1 (UInt8.toNat_inj.1 h)
        have n2 : k.toNat ≠ 2 := fun h => h2 (UInt8.toNat_inj.1 h)
        rw [if_neg (by simp), hg, if_pos ⟨n1, n2⟩]

/-! Applying. -/
theorem takeWhile_zero (l : List UInt8) : l.takeWhile (· == 0) = List.replicate (l.takeWhile (· == 0)).length 0 := by
  induction l with
  | nil => rfl
  | cons a l ih =>
    by_cases h : a = 0
    · subst h; simp [List.takeWhile_cons, List.replicate_succ]; exact ih
    · simp [List.takeWhile_cons, h]
theorem trim_pad (l : List UInt8) : ∃ k, l = trim l ++ List.replicate k 0 := by
  refine ⟨(l.reverse.takeWhile (· == 0)).length, ?_⟩
  have h := List.takeWhile_append_dropWhile (p := (· == (0 : UInt8))) (l := l.reverse)
  have hr := takeWhile_zero l.reverse
  have h2 := congrArg List.reverse h
  rw [List.reverse_append, List.reverse_reverse] at h2
  rw [← h2]
  unfold trim trimB
  congr 1
  · rw [h2]
  · rw [h2, hr]; simp
theorem byteAt_trim (l : List UInt8) (i : Nat) : byteAt (trim l) i = byteAt l i := by
  obtain ⟨k, hk⟩ := trim_pad l
  conv => rhs; rw [hk]
  unfold byteAt
  by_cases h : i < (trim l).length
  · rw [List.getD, List.getD, List.getElem?_append_left h]
  · rw [List.getD, List.getD, List.getElem?_append_right (by omega), List.getElem?_eq_none (by omega), List.getElem?_replicate]
    split <;> rfl
theorem trim_length (l : List UInt8) : (trim l).length ≤ l.length := by
  obtain ⟨k, hk⟩ := trim_pad l
  have := congrArg List.length hk
  simp at this; omega
theorem trim_lastne (l : List UInt8) (h : trim l ≠ []) : byteAt (trim l) ((trim l).length - 1) ≠ 0 := by
  have hd := List.head?_dropWhile_not (fun x : UInt8 => x == 0) l.reverse
  have hne : l.reverse.dropWhile (· == 0) ≠ [] := by intro e; apply h; unfold trim trimB; rw [e]; rfl
  obtain ⟨x, t, e⟩ := List.exists_cons_of_ne_nil hne
  rw [e] at hd
  have e2 : trim l = t.reverse ++ [x] := by unfold trim trimB; rw [e]; simp
  rw [e2]
  simpa [byteAt, List.getD] using hd
theorem trim_eq_of_last {l : List UInt8} (h : l = [] ∨ byteAt l (l.length - 1) ≠ 0) : trim l = l := by
  rcases h with rfl | h
  · rfl
  · by_cases h0 : l = []
    · subst h0; rfl
    · have hl : l.length - 1 < l.length := by have := List.length_pos_iff.2 h0; omega
      apply trimB_stop hl
      intro e
      apply h
      simp [byteAt, List.getD, hl, e]
theorem trim_trim (l : List UInt8) : trim (trim l) = trim l :=
  trim_eq_of_last (by by_cases h : trim l = []; · exact Or.inl h
                      · exact Or.inr (trim_lastne l h))
theorem trim_length_le {l : List UInt8} {n : Nat} (h : ∀ i, n ≤ i → byteAt l i = 0) : (trim l).length ≤ n := by
  by_cases h0 : trim l = []
  · rw [h0]; simp
  · have := trim_lastne l h0
    rw [byteAt_trim] at this
    by_cases hn : n ≤ (trim l).length - 1
    · exact absurd (h _ hn) this
    · omega
theorem byteAt_seq (f : Nat → UInt8) (i : Nat) : byteAt (seq64 f) i = if i < 64 then f i else 0 := by
  unfold byteAt seq64
  by_cases h : i < 64
  · simp [List.getD, h]
  · rw [if_neg h, List.getD, List.getElem?_eq_none (by simp; omega)]; rfl
theorem byteAt_take (v : List UInt8) (i : Nat) (h : i < 64) : byteAt (v.take 64) i = byteAt v i := by
  simp [byteAt, List.getD, List.getElem?_take, h]
theorem byteAt_none (v : List UInt8) (i : Nat) (h : v.length ≤ i) : byteAt v i = 0 := by
  rw [byteAt, List.getD, List.getElem?_eq_none h]; rfl

theorem byteAt_apply (v : List UInt8) (p : Pt) (i : Nat) : byteAt (apply v p) i = if i < 64 then over v p i else 0 := by
  unfold apply; rw [byteAt_trim]; exact byteAt_seq _ i
theorem apply_length (v : List UInt8) (p : Pt) : (apply v p).length ≤ 64 := by
  have := trim_length ((List.range 64).map (over v p)); simp at this; exact this
theorem apply_trim (v : List UInt8) (p : Pt) : trim (apply v p) = apply v p := trim_trim _
theorem apply_twice (v : List UInt8) (p : Pt) : apply (apply v p) p = apply v p := by
  conv => rhs; unfold apply
  refine (apply_seq (l := apply v p) (p := p) (f := over v p) fun i hi => ?_).symm
  have hb : byteAt ((apply v p).take 64) i = over v p i := by rw [byteAt_take _ _ hi, byteAt_apply, if_pos hi]
  conv => rhs; unfold over
  rw [hb]
  cases hm : may p with
  | false => rw [if_pos rfl]
  | true =>
    rw [if_neg (by simp)]
    unfold over
    rw [if_neg (by simp [hm])]
    by_cases hc : p.cut = true
    · rw [if_pos hc, if_pos hc]; split <;> rfl
    · rw [if_neg hc, if_neg hc]; split <;> rfl
theorem apply_check (v : List UInt8) (p : Pt) (h : apply v p ≠ []) : check (apply v p) = 0 := by
  have h1 := apply_length v p
  have h2 : byteAt (apply v p) ((apply v p).length - 1) ≠ 0 := trim_lastne _ h
  have hl : 0 < (apply v p).length := List.length_pos_iff.2 h
  unfold check
  rw [if_neg (by omega), if_neg (by omega), if_neg]
  rw [getLastD_eq _ (by omega)]
  intro e; apply h2
  unfold byteAt; rw [List.getD, List.getElem?_eq_getElem (by omega)]; exact e
theorem apply_no (v : List UInt8) (p : Pt) (h : may p = false) : apply v p = trim (v.take 64) := by
  have hv : (v.take 64).length ≤ 64 := by simp; omega
  rw [← trim_zeros (v.take 64) (64 - (v.take 64).length), ← range_pad _ hv]
  exact (apply_seq (fun i hi => by rw [over, if_pos h])).symm
theorem at_congr {v w : List UInt8} {f n : Int} (h : ∀ i, i < (min n 64).toNat → byteAt v (f.toNat + i) = byteAt w (f.toNat + i)) : at_ v f n = at_ w f n := by
  unfold at_; exact List.map_congr_left (fun i hi => h i (List.mem_range.1 hi))
theorem cut_keeps (v : List UInt8) (p : Pt) (h : may p = true) (hc : p.cut = true) : at_ (apply v p) 0 p.n = at_ (v.take 64) 0 p.n ∧ ((apply v p).length : Int) ≤ p.n := by
  have hn : 0 ≤ p.n ∧ p.n < 64 := by unfold may at h; rw [if_pos hc] at h; simp at h; omega
  refine ⟨at_congr fun i hi => ?_, ?_⟩
  · rw [byteAt_apply, if_pos (by simp; omega), over_cut h hc, if_pos (by simp; omega)]
  · have := trim_length_le (l := (List.range 64).map (over v p)) (n := p.n.toNat) fun i hi => by
      show byteAt (seq64 (over v p)) i = 0
      rw [byteAt_seq]
      split
      · rw [over_cut h hc, if_neg (by omega)]
      · rfl
    have h2 : (apply v p).length ≤ p.n.toNat := this
    omega
theorem splice_keeps (v : List UInt8) (p : Pt) (h : may p = true) (hc : p.cut = false) :
    at_ (apply v p) p.at_ p.s.length = p.s ∧ at_ (apply v p) 0 p.at_ = at_ (v.take 64) 0 p.at_ ∧ at_ (apply v p) (p.at_ + p.s.length) (64 - (p.at_ + p.s.length)) = at_ (v.take 64) (p.at_ + p.s.length) (64 - (p.at_ + p.s.length)) := by
  have hn : 0 < p.s.length ∧ p.s.length ≤ 64 ∧ 0 ≤ p.at_ ∧ p.at_ ≤ 64 - p.s.length ∧ p.n = 0 := by
    unfold may at h; rw [if_neg (by simp [hc])] at h; simpa [Nat.pos_iff_ne_zero] using h
  refine ⟨?_, at_congr fun i hi => ?_, at_congr fun i hi => ?_⟩
  · apply List.ext_getElem
    · simp [at_]; omega
    · intro i h1 h2
      simp only [at_, List.getElem_map, List.getElem_range]
      rw [byteAt_apply, if_pos (by omega), over_splice h hc, if_pos (by omega)]
      simp [List.getD, show p.at_.toNat + i - p.at_.toNat = i by omega, h2]
  · rw [byteAt_apply, if_pos (by simp; omega), over_splice h hc, if_neg (by simp; omega)]
  · rw [byteAt_apply, if_pos (by omega), over_splice h hc, if_neg (by omega)]

end Blk
end Go.Proofs.YtiabomfkmfokeaaDoor
