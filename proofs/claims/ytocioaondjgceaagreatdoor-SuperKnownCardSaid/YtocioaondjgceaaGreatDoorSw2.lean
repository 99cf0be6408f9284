/- What crashes leave of superblocks: plain lists. -/
import Derived.Test.YtocioaondjgceaaGreatDoorSw1
set_option linter.unusedVariables false
set_option linter.unusedSimpArgs false
namespace Go.Proofs.YtocioaondjgceaaGreatDoor
open Go.RowKit

theorem p_settle_len (c : Nat → Nat) : ∀ (d : List Dv.Cel) (i : Nat), (Dv.settleF c i d).length = d.length
  | [], _ => rfl
  | (s, none) :: r, i => by
    show (Dv.settleF c i r).length + 1 = r.length + 1
    rw [p_settle_len c r]
  | (s, some y) :: r, i => by
    show (Dv.settleF c (i + 1) r).length + 1 = r.length + 1
    rw [p_settle_len c r]
theorem p_settle_cell (c : Nat → Nat) : ∀ (d : List Dv.Cel) (i k : Nat), k < d.length → ∃ m, Dv.cell (Dv.settleF c i d) k = match (Dv.cell d k).2 with | none => ((Dv.cell d k).1, none) | some y => (Dv.mixB (c m) y (Dv.cell d k).1, none)
  | [], _, k, hk => by simp at hk
  | (s, none) :: r, i, 0, _ => ⟨0, rfl⟩
  | (s, some y) :: r, i, 0, _ => ⟨i, rfl⟩
  | (s, none) :: r, i, k + 1, hk => by
    obtain ⟨m, hm⟩ := p_settle_cell c r i k (by simpa using hk)
    exact ⟨m, hm⟩
  | (s, some y) :: r, i, k + 1, hk => by
    obtain ⟨m, hm⟩ := p_settle_cell c r (i + 1) k (by simpa using hk)
    exact ⟨m, hm⟩
theorem p_settle_none (c : Nat → Nat) : ∀ (d : List Dv.Cel) (i : Nat) (x : Dv.Cel), x ∈ Dv.settleF c i d → x.2 = none
  | [], _, x, h => by cases h
  | (s, none) :: r, i, x, h => by
    unfold Dv.settleF at h
    rcases List.mem_cons.1 h with rfl | h
    · rfl
    · exact p_settle_none c r i x h
  | (s, some y) :: r, i, x, h => by
    unfold Dv.settleF at h
    rcases List.mem_cons.1 h with rfl | h
    · rfl
    · exact p_settle_none c r (i + 1) x h
theorem p_settle_ok (c : Nat → Nat) {d : List Dv.Cel} (h : Dv.Ok d) (i : Nat) : Dv.Ok (Dv.settleF c i d) := by
  refine ⟨by rw [p_settle_len]; exact h.1, by rw [p_settle_len]; exact h.2.1, fun x hx => ⟨?_, fun y hy => by rw [p_settle_none c d i x hx] at hy; cases hy⟩⟩
  obtain ⟨k, hk⟩ := List.getElem?_of_mem hx
  have hkl := (List.getElem?_eq_some_iff.1 hk).1
  rw [p_settle_len] at hkl
  have hc : Dv.cell (Dv.settleF c i d) k = x := by
    have := cell_at (Dv.settleF c i d) k (by rw [p_settle_len]; exact hkl)
    rw [hk] at this; exact (Option.some.inj this).symm
  obtain ⟨m, hm⟩ := p_settle_cell c d i k hkl
  rw [hc] at hm
  have hl := cell_len h k hkl
  cases ho : (Dv.cell d k).2 with
  | none => rw [ho] at hm; rw [hm]; exact hl.1
  | some y => rw [ho] at hm; rw [hm]; exact mix_len _ _ _ (hl.2 y ho) hl.1

theorem be_low (x : Nat) : (be 8 x).getD 7 0 = UInt8.ofNat x := by
  unfold be
  rw [List.getD_eq_getElem?_getD, List.getElem?_map]
  simp
theorem low_ne (g : Nat) (hg : 1 ≤ g) : UInt8.ofNat (g + 1) ≠ UInt8.ofNat (g - 1) := by
  intro h
  have := congrArg UInt8.toNat h
  simp at this
  omega
theorem be_inj {x y : Nat} (hx : x < 18446744073709551616) (hy : y < 18446744073709551616) (h : be 8 x = be 8 y) : x = y := by
  have := congrArg ofBe h
  rw [ofBe_be, ofBe_be, Nat.mod_eq_of_lt (by simpa using hx), Nat.mod_eq_of_lt (by simpa using hy)] at this
  exact this
theorem put_may {s : Sp.Sup} {u : List UInt8} (h : Sp.put s = (u, 0)) : Sp.may s = true := by
  by_cases hm : Sp.may s = true
  · exact hm
  · rw [Sp.put_no s (by simpa using hm)] at h
    simp at h
theorem put_parts {s : Sp.Sup} {u : List UInt8} (h : Sp.put s = (u, 0)) : u.length = 128 ∧ u.take 8 = be 8 s.gen ∧ u.drop 120 = be 8 s.gen := by
  have hm := put_may h
  unfold Sp.put at h
  rw [hm, if_neg (by simp)] at h
  unfold Sl.stamp at h
  rw [if_neg (by omega), if_neg (by rw [Sp.txt_len]; omega), Sp.txt_len] at h
  simp only [Prod.mk.injEq, and_true] at h
  have e : u = be 8 s.gen ++ (be 4 0 ++ be 2 14 ++ Sp.txt s ++ List.replicate 88 0 ++ be 4 0) ++ be 8 s.gen := by
    rw [← h]; simp [List.append_assoc]
  have hmid : (be 4 0 ++ be 2 14 ++ Sp.txt s ++ List.replicate 88 (0 : UInt8) ++ be 4 0).length = 112 := by
    simp [be_len, Sp.txt_len]
  generalize be 4 0 ++ be 2 14 ++ Sp.txt s ++ List.replicate 88 (0 : UInt8) ++ be 4 0 = mid at e hmid
  subst e
  refine ⟨by simp [be_len, hmid], ?_, ?_⟩
  · rw [List.append_assoc, List.take_append_of_le_length (by rw [be_len]; omega), List.take_of_length_le (by rw [be_len]; omega)]
  · rw [List.drop_append, List.drop_of_length_le (by simp [be_len, hmid]), List.nil_append]
    simp [be_len, hmid]

/-- What stands in the slot of the next generation. -/
def Oth (K : List UInt8) (g : Nat) : Prop := K.length = 128 ∧ K.getD 127 0 = UInt8.ofNat (g - 1) ∧ ∃ j, j ≤ 8 ∧ K.take 8 = (be 8 (g + 1)).take j ++ (be 8 (g - 1)).drop j ∧ (j = 8 ∨ K.drop 120 = be 8 (g - 1))
theorem oth_take {K : List UInt8} {g : Nat} (h : Oth K g) (hg : 1 ≤ g) (hg2 : g ≤ 1000) {y : Sp.Sup} (hy : Sp.take K = (y, 0)) : y.gen = g - 1 := by
  obtain ⟨hl, h127, j, hj, h8, h120⟩ := h
  rcases Sp.take_cases K with ⟨f, hf, e⟩ | ⟨y', e, hyg, _, hp⟩
  · rw [hy] at e; simp at e; exact absurd e.2.symm hf
  · rw [hy] at e
    obtain rfl : y = y' := by simpa using e
    obtain ⟨_, k8, k120⟩ := put_parts hp
    rcases h120 with rfl | h120
    · have hb : be 8 y.gen = be 8 (g + 1) := by
        rw [← k8, h8, List.take_of_length_le (by rw [be_len]; omega), List.drop_of_length_le (by rw [be_len]; omega), List.append_nil]
      have e1 : (K.drop 120).getD 7 0 = K.getD 127 0 := by rw [List.getD_eq_getElem?_getD, List.getD_eq_getElem?_getD, List.getElem?_drop]
      rw [k120, hb, be_low, h127] at e1
      exact absurd e1 (low_ne g hg)
    · exact be_inj hyg (by omega) (by rw [← k120, h120])
theorem oth_torn {K N : List UInt8} {g : Nat} (h : Oth K g) (hN : N.length = 128) (hN8 : N.take 8 = be 8 (g + 1)) {m : Nat} (hm : m < 128) : Oth (N.take m ++ K.drop m) g := by
  obtain ⟨hl, h127, j, hj, h8, h120⟩ := h
  have htl : (N.take m).length = m := by rw [List.length_take]; omega
  have hBl : (be 8 (g + 1)).length = 8 := be_len _ _
  have hbl : (be 8 (g - 1)).length = 8 := be_len _ _
  refine ⟨by rw [List.length_append, htl, List.length_drop]; omega, ?_, max j (min m 8), by omega, ?_, ?_⟩
  · rw [← h127, List.getD_eq_getElem?_getD, List.getD_eq_getElem?_getD, List.getElem?_append_right (by omega), htl, List.getElem?_drop]
    congr 2; omega
  · by_cases h9 : 8 ≤ m
    · rw [show max j (min m 8) = 8 by omega, List.take_append_of_le_length (by omega), List.take_take, show min 8 m = 8 by omega, hN8]
      rw [List.take_of_length_le (by omega), List.drop_of_length_le (by omega), List.append_nil]
    · have e1 : (N.take m ++ K.drop m).take 8 = (N.take 8).take m ++ (K.take 8).drop m := by
        rw [List.take_append, htl, List.take_take, List.take_take, show min 8 m = m by omega, show min m 8 = m by omega, List.drop_take]
      rw [e1, hN8, h8]
      generalize be 8 (g + 1) = P at hBl ⊢
      generalize be 8 (g - 1) = Q at hbl ⊢
      by_cases hmj : m ≤ j
      · rw [show max j (min m 8) = j by omega]
        rw [List.drop_append_of_le_length (by rw [List.length_take]; omega), ← List.append_assoc]
        congr 1
        rw [List.drop_take]
        have : P.take j = (P.take j).take m ++ (P.take j).drop m := (List.take_append_drop m _).symm
        rw [this, List.take_take, show min m j = m by omega, List.drop_take]
      · rw [show max j (min m 8) = m by omega]
        congr 1
        rw [List.drop_append, List.drop_of_length_le (by rw [List.length_take]; omega), List.nil_append, List.length_take, show min j P.length = j by omega, List.drop_drop]
        congr 1; omega
  · by_cases h9 : 8 ≤ m
    · left; omega
    · rcases h120 with rfl | h120
      · left; omega
      · right
        rw [← h120, List.drop_append, htl, List.drop_of_length_le (by omega), List.nil_append, List.drop_drop]
        congr 1; omega
theorem oth_main {s : Sp.Sup} {u : List UInt8} (h : Sp.put s = (u, 0)) : Oth u (s.gen + 1) := by
  obtain ⟨hl, h8, h120⟩ := put_parts h
  refine ⟨hl, ?_, 0, by omega, ?_, Or.inr ?_⟩
  · have e1 : (u.drop 120).getD 7 0 = u.getD 127 0 := by rw [List.getD_eq_getElem?_getD, List.getD_eq_getElem?_getD, List.getElem?_drop]
    rw [← e1, h120, be_low]; rfl
  · rw [h8, List.take_zero, List.nil_append, List.drop_zero]; rfl
  · rw [h120]; rfl
theorem oth_zero : Oth (List.replicate 128 0) 1 := ⟨by simp, by decide, 0, by omega, by decide +kernel, Or.inr (by decide +kernel)⟩

/-- What stands between two tries. -/
structure SI (d : List Dv.Cel) (l : Sp.Sup) : Prop where
  ok : Dv.Ok d
  len : d.length = 512
  non : ∀ x ∈ d, x.2 = none
  gen : 1 ≤ l.gen ∧ l.gen ≤ 1000
  calls : l.calls < 18446744073709551616
  sec : l.sectors = 512
  main : Sp.put l = ((Dv.cell d (l.gen % 2)).1, 0)
  other : Oth ((Dv.cell d ((l.gen + 1) % 2)).1) l.gen
theorem si_read {d : List Dv.Cel} (hl : d.length = 512) (hn : ∀ x ∈ d, x.2 = none) (k : Nat) (hk : k < 512) : readE d (k : Int) = ((Dv.cell d k).1, 0) := by
  unfold readE
  rw [if_neg (by omega)]
  show (Dv.shows (Dv.cell d k), 0) = _
  have := hn _ (List.mem_of_getElem? (cell_at d k (by omega)))
  unfold Dv.shows
  rw [this]; rfl
theorem pick_main {s : Sp.Sup} {u : List UInt8} (h : Sp.put s = (u, 0)) (hg : s.gen < 18446744073709551616) (hc : s.calls < 18446744073709551616) (hs : s.sectors = 512) (i : Nat) (hi : s.gen % 2 = i) : pickE u i 512 = s := by
  obtain ⟨u', e, _, ht⟩ := Sp.put_ok s hg hc (put_may h)
  rw [h] at e
  obtain rfl : u = u' := by simpa using e
  unfold pickE
  rw [ht, if_pos ⟨rfl, hi, hs⟩]
theorem pick_other {K : List UInt8} {g : Nat} (h : Oth K g) (hg : 1 ≤ g) (hg2 : g ≤ 1000) (i : Nat) : (pickE K i 512).gen < g := by
  unfold pickE
  by_cases hc : (Sp.take K).2 = 0 ∧ (Sp.take K).1.gen % 2 = i ∧ (Sp.take K).1.sectors = 512
  · rw [if_pos hc]
    have := oth_take h hg hg2 (y := (Sp.take K).1) (by rw [← hc.1])
    omega
  · rw [if_neg hc]; show 0 < g; omega
theorem si_choose {d : List Dv.Cel} {l : Sp.Sup} (h : SI d l) : chooseE (Dv.cell d 0).1 (Dv.cell d 1).1 512 = (l, 0) := by
  have hm := h.main
  have ho := h.other
  obtain ⟨g1, g2⟩ := h.gen
  unfold chooseE
  rcases Nat.mod_two_eq_zero_or_one l.gen with e | e
  · rw [e] at hm
    rw [show (l.gen + 1) % 2 = 1 by omega] at ho
    rw [pick_main hm (by omega) h.calls h.sec 0 e, if_pos (pick_other ho g1 g2 1)]
  · rw [e] at hm
    rw [show (l.gen + 1) % 2 = 0 by omega] at ho
    have := pick_other ho g1 g2 0
    rw [pick_main hm (by omega) h.calls h.sec 1 e, if_neg (by omega), if_pos (by omega)]

theorem write_cells {d : List Dv.Cel} (h : Dv.Ok d) (k : Nat) (hk : k < d.length) (s : List UInt8) (hs : s.length = 128) : writeE d (k : Int) s = (d.set k ((Dv.cell d k).1, some s), 0) := by
  unfold writeE
  rw [if_neg (by omega), if_neg (by omega)]
  have : Dv.full s = s := by unfold Dv.full; rw [hs]; simp
  rw [this]; rfl
theorem set_cell (d : List Dv.Cel) (k i : Nat) (c : Dv.Cel) (hk : k < d.length) : Dv.cell (d.set k c) i = if i = k then c else Dv.cell d i := by
  unfold Dv.cell
  by_cases e : i = k
  · subst e; rw [if_pos rfl, List.getD_eq_getElem?_getD, List.getElem?_set_self hk]; rfl
  · rw [if_neg e, List.getD_eq_getElem?_getD, List.getElem?_set_ne (fun f => e f.symm), ← List.getD_eq_getElem?_getD]
theorem set_ok {d : List Dv.Cel} (h : Dv.Ok d) (k : Nat) (c : Dv.Cel) (h1 : c.1.length = 128) (h2 : ∀ y, c.2 = some y → y.length = 128) : Dv.Ok (d.set k c) := by
  refine ⟨by rw [List.length_set]; exact h.1, by rw [List.length_set]; exact h.2.1, fun x hx => ?_⟩
  rcases List.mem_or_eq_of_mem_set hx with hx | rfl
  · exact h.2.2 x hx
  · exact ⟨h1, h2⟩
/-- One try: written, made sure or not, crashed. -/
theorem si_step {d : List Dv.Cel} {l n : Sp.Sup} (h : SI d l) (hn : n.gen = l.gen + 1) (hg : l.gen + 1 ≤ 1000) (hc : n.calls < 18446744073709551616) (hs : n.sectors = 512) {N : List UInt8} (hp : Sp.put n = (N, 0)) (c : Nat → Nat) (whole : Bool) :
    ∃ x, SI (Dv.settleF c 0 (if whole then Dv.settleF (fun _ => 128) 0 (writeE d ((n.gen % 2 : Nat) : Int) N).1 else (writeE d ((n.gen % 2 : Nat) : Int) N).1)) x ∧ (x = l ∨ x = n) ∧ (whole = true → x = n) := by
  obtain ⟨hNl, hN8, hN120⟩ := put_parts hp
  have hlen := h.len
  obtain ⟨p, hp2⟩ : ∃ p, p = n.gen % 2 := ⟨_, rfl⟩
  have hp3 : p < d.length := by omega
  rw [← hp2, write_cells h.ok p hp3 N hNl]
  obtain ⟨o, ho2⟩ : ∃ o, o = l.gen % 2 := ⟨_, rfl⟩
  have hop : o ≠ p := by omega
  have hot := h.other
  have hmn := h.main
  rw [show (l.gen + 1) % 2 = p by omega] at hot
  rw [← ho2] at hmn
  have hK := (cell_len h.ok p hp3).1
  have ho3 : o < d.length := by omega
  have hOn := h.non _ (List.mem_of_getElem? (cell_at d o ho3))
  obtain ⟨d1, hd1⟩ : ∃ d1, d1 = d.set p ((Dv.cell d p).1, some N) := ⟨_, rfl⟩
  have ok1 : Dv.Ok d1 := by rw [hd1]; exact set_ok h.ok p _ hK (fun y hy => by simp only [Option.some.injEq] at hy; rw [← hy]; exact hNl)
  have len1 : d1.length = 512 := by rw [hd1, List.length_set]; exact hlen
  have c1p : Dv.cell d1 p = ((Dv.cell d p).1, some N) := by rw [hd1, set_cell _ _ _ _ hp3, if_pos rfl]
  have c1o : Dv.cell d1 o = Dv.cell d o := by rw [hd1, set_cell _ _ _ _ hp3, if_neg hop]
  show ∃ x, SI (Dv.settleF c 0 (if whole then Dv.settleF (fun _ => 128) 0 (d.set p ((Dv.cell d p).1, some N)) else d.set p ((Dv.cell d p).1, some N))) x ∧ (x = l ∨ x = n) ∧ (whole = true → x = n)
  rw [← hd1]
  -- the two slots behind it
  obtain ⟨d2, hd2⟩ : ∃ d2, d2 = if whole then Dv.settleF (fun _ => 128) 0 d1 else d1 := ⟨_, rfl⟩
  have ok2 : Dv.Ok d2 := by rw [hd2]; split; exact p_settle_ok _ ok1 0; exact ok1
  have len2 : d2.length = 512 := by rw [hd2]; split; rw [p_settle_len]; exact len1; exact len1
  obtain ⟨m, hm, c3p, hwh⟩ : ∃ m, m ≤ 128 ∧ (Dv.cell (Dv.settleF c 0 d2) p).1 = N.take m ++ (Dv.cell d p).1.drop m ∧ (whole = true → m = 128) := by
    obtain ⟨q, hq⟩ := p_settle_cell c d2 0 p (by omega)
    cases whole with
    | true =>
      obtain ⟨q1, hq1⟩ := p_settle_cell (fun _ => 128) d1 0 p (by omega)
      rw [c1p] at hq1
      have e2 : Dv.cell d2 p = (N, none) := by
        rw [hd2, if_pos rfl, hq1]
        show (Dv.mixB 128 N (Dv.cell d p).1, none) = _
        unfold Dv.mixB
        rw [show min 128 128 = 128 from rfl, List.take_of_length_le (by omega), List.drop_of_length_le (by omega), List.append_nil]
      rw [e2] at hq
      refine ⟨128, Nat.le_refl _, ?_, fun _ => rfl⟩
      rw [hq, List.take_of_length_le (by omega), List.drop_of_length_le (by omega), List.append_nil]
    | false =>
      have e2 : Dv.cell d2 p = ((Dv.cell d p).1, some N) := by rw [hd2, if_neg (by simp), c1p]
      rw [e2] at hq
      refine ⟨min (c q) 128, by omega, ?_, fun h => by cases h⟩
      rw [hq]; rfl
  have c3o : (Dv.cell (Dv.settleF c 0 d2) o).1 = (Dv.cell d o).1 := by
    have e2 : Dv.cell d2 o = Dv.cell d o := by
      rw [hd2]
      split
      · obtain ⟨q1, hq1⟩ := p_settle_cell (fun _ => 128) d1 0 o (by omega)
        rw [hq1, c1o, hOn]
        exact Prod.ext rfl hOn.symm
      · exact c1o
    obtain ⟨q, hq⟩ := p_settle_cell c d2 0 o (by omega)
    rw [hq, e2, hOn]
  rw [← hd2]
  have ok3 := p_settle_ok c ok2 0
  have len3 : (Dv.settleF c 0 d2).length = 512 := by rw [p_settle_len]; exact len2
  by_cases hm8 : m = 128
  · refine ⟨n, ⟨ok3, len3, p_settle_none c d2 0, by omega, hc, hs, ?_, ?_⟩, Or.inr rfl, fun _ => rfl⟩
    · rw [← hp2, c3p, hm8, List.take_of_length_le (by omega), List.drop_of_length_le (by omega), List.append_nil]; exact hp
    · rw [show (n.gen + 1) % 2 = o by omega, c3o, hn]
      exact oth_main hmn
  · refine ⟨l, ⟨ok3, len3, p_settle_none c d2 0, by have := h.gen; omega, h.calls, h.sec, ?_, ?_⟩, Or.inl rfl, fun hw => absurd (hwh hw) hm8⟩
    · rw [← ho2, c3o]; exact hmn
    · rw [show (l.gen + 1) % 2 = p by omega, c3p]
      exact oth_torn hot hNl (by rw [hN8, hn]) (by omega)

end Go.Proofs.YtocioaondjgceaaGreatDoor
