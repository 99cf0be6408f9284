/- Chapter 10: DeviceTorn, DeviceApart: plain facts. -/
import Derived.Test.YthdkhmmabfnnkaaDevL3
set_option linter.unusedVariables false
set_option linter.unusedSimpArgs false
namespace Go.Proofs.Ythdkhmmabfnnkaa
open Go.RowKit Go.Maps

theorem settle_len (c : Nat → Nat) : ∀ (d : List Dv.Cel) (i : Nat), (Dv.settleF c i d).length = d.length
  | [], _ => rfl
  | (s, none) :: r, i => by
    show (Dv.settleF c i r).length + 1 = r.length + 1
    rw [settle_len c r]
  | (s, some y) :: r, i => by
    show (Dv.settleF c (i + 1) r).length + 1 = r.length + 1
    rw [settle_len c r]
theorem settle_cell (c : Nat → Nat) : ∀ (d : List Dv.Cel) (i k : Nat), k < d.length → ∃ m, Dv.cell (Dv.settleF c i d) k = match (Dv.cell d k).2 with | none => ((Dv.cell d k).1, none) | some y => (Dv.mixB (c m) y (Dv.cell d k).1, none)
  | [], _, k, hk => by simp at hk
  | (s, none) :: r, i, 0, _ => ⟨0, rfl⟩
  | (s, some y) :: r, i, 0, _ => ⟨i, rfl⟩
  | (s, none) :: r, i, k + 1, hk => by
    obtain ⟨m, hm⟩ := settle_cell c r i k (by simpa using hk)
    exact ⟨m, hm⟩
  | (s, some y) :: r, i, k + 1, hk => by
    obtain ⟨m, hm⟩ := settle_cell c r (i + 1) k (by simpa using hk)
    exact ⟨m, hm⟩
theorem settle_id (c : Nat → Nat) : ∀ (d : List Dv.Cel) (i : Nat), (∀ x ∈ d, x.2 = none) → Dv.settleF c i d = d
  | [], _, _ => rfl
  | (s, none) :: r, i, h => by
    show (s, none) :: Dv.settleF c i r = _
    rw [settle_id c r i (fun x hx => h x (List.mem_cons_of_mem _ hx))]
  | (s, some y) :: r, i, h => by
    have := h _ (List.mem_cons_self ..)
    simp at this
theorem settle_twice (c c' : Nat → Nat) (d : List Dv.Cel) : Dv.settleF c' 0 (Dv.settleF c 0 d) = Dv.settleF c 0 d := settle_id _ _ _ (settle_none c d 0)
theorem write_len (d : List Dv.Cel) (k : Int) (s : List UInt8) : (writeE d k s).1.length = d.length := by
  unfold writeE
  split
  · rfl
  · split
    · rfl
    · simp
theorem do_len (d : List Dv.Cel) (a : DAct) : (doD d a).1.length = d.length := by
  unfold doD
  split
  · exact write_len _ _ _
  · split
    · exact settle_len _ _ _
    · split
      · exact settle_len _ _ _
      · rfl
/-- What a crash leaves of a sector. -/
theorem torn (c : Nat → Nat) {d : List Dv.Cel} (h : Dv.Ok d) (k : Nat) (hk : k < d.length) : ∃ (s t old : List UInt8) (m : Nat), readE d k = (s, 0) ∧ readE (Dv.settleF c 0 d) k = (t, 0) ∧ sureS d k = old ∧ sureS (Dv.settleF c 0 d) k = t ∧
    s.length = 128 ∧ t.length = 128 ∧ old.length = 128 ∧ m ≤ 128 ∧ t = s.take m ++ old.drop m := by
  obtain ⟨i, hi⟩ := settle_cell c d 0 k hk
  have hl := settle_len c d 0
  have hn : ¬ ((k : Int) < 0 ∨ (d.length : Int) ≤ k) := by omega
  have hc := cell_len h k hk
  refine ⟨Dv.shows (Dv.cell d k), Dv.shows (Dv.cell (Dv.settleF c 0 d) k), (Dv.cell d k).1, ?_⟩
  have r1 : readE d k = (Dv.shows (Dv.cell d k), 0) := by unfold readE; rw [if_neg hn]; rfl
  have r2 : readE (Dv.settleF c 0 d) k = (Dv.shows (Dv.cell (Dv.settleF c 0 d) k), 0) := by unfold readE; rw [hl, if_neg hn]; rfl
  have r3 : sureS d k = (Dv.cell d k).1 := by unfold sureS; rw [if_neg hn]; rfl
  have r4 : sureS (Dv.settleF c 0 d) k = Dv.shows (Dv.cell (Dv.settleF c 0 d) k) := by rw [sure_read (settle_waits _ _ _), r2]
  rw [r1, r2, r3, r4]
  generalize Dv.cell d k = x at hi hc
  obtain ⟨s, o⟩ := x
  dsimp only at hi hc
  rw [hi]
  cases o with
  | none => exact ⟨0, rfl, rfl, rfl, rfl, hc.1, hc.1, hc.1, by omega, by simp [Dv.shows]⟩
  | some y =>
    have hy := hc.2 y rfl
    refine ⟨min (c i) 128, rfl, rfl, rfl, rfl, hy, ?_, hc.1, by omega, rfl⟩
    exact mix_len _ _ _ hy hc.1
theorem torn_tail {s t old : List UInt8} {m n : Nat} (hs : s.length = 128) (ho : old.length = 128) (hm : m ≤ 128) (ht : t = s.take m ++ old.drop m) (hn : n ≤ 128) (hx : n < 128 → s.getD n 0 ≠ t.getD n 0) : t.drop n = old.drop n := by
  by_cases h : m ≤ n
  · rw [ht, List.drop_append, List.drop_of_length_le (by rw [List.length_take]; omega), List.nil_append, List.length_take, List.drop_drop]
    congr 1; omega
  · have := hx (by omega)
    rw [ht, List.getD_eq_getElem?_getD, List.getD_eq_getElem?_getD, List.getElem?_append_left (by rw [List.length_take]; omega), List.getElem?_take_of_lt (by omega)] at this
    exact absurd rfl this

/-! A copy that is written to. -/
theorem apart_read {d : List Dv.Cel} (k : Nat) (hk : k < d.length) (s : List UInt8) (hs : s.length ≤ 128) (i : Nat) (hi : i < d.length) :
    (writeE d k s).2 = 0 ∧ readE (writeE d k s).1 i = (if i = k then (Dv.full s, 0) else readE d i) ∧ sureS (writeE d k s).1 i = sureS d i := by
  have hn : ¬ ((k : Int) < 0 ∨ (d.length : Int) ≤ k) := by omega
  have hni : ¬ ((i : Int) < 0 ∨ (d.length : Int) ≤ i) := by omega
  have e : writeE d k s = (d.set k ((Dv.cell d k).1, some (Dv.full s)), 0) := by unfold writeE; rw [if_neg hn, if_neg (by omega)]; rfl
  rw [e]
  refine ⟨rfl, ?_, ?_⟩
  · unfold readE
    rw [List.length_set, if_neg hni]
    show (Dv.shows (Dv.cell (d.set k _) i), 0) = _
    unfold Dv.cell
    by_cases h : i = k
    · subst h; rw [if_pos rfl, List.getD_eq_getElem?_getD, List.getElem?_set_self hi]; rfl
    · rw [if_neg h, List.getD_eq_getElem?_getD, List.getElem?_set_ne (fun f => h f.symm), ← List.getD_eq_getElem?_getD, if_neg hni]; rfl
  · unfold sureS
    rw [List.length_set, if_neg hni]
    show (Dv.cell (d.set k _) i).1 = _
    unfold Dv.cell
    by_cases h : i = k
    · subst h; rw [List.getD_eq_getElem?_getD, List.getElem?_set_self hi, if_neg hni]; rfl
    · rw [List.getD_eq_getElem?_getD, List.getElem?_set_ne (fun f => h f.symm), ← List.getD_eq_getElem?_getD, if_neg hni]; rfl
theorem apart_sure {d : List Dv.Cel} (hd : Dv.Ok d) (k : Nat) (hk : k < d.length) (s : List UInt8) (hs : s.length ≤ 128) : sureS (Dv.settleF (fun _ => 128) 0 (writeE d k s).1) k = Dv.full s := by
  have hn : ¬ ((k : Int) < 0 ∨ (d.length : Int) ≤ k) := by omega
  have e : writeE d k s = (d.set k ((Dv.cell d k).1, some (Dv.full s)), 0) := by unfold writeE; rw [if_neg hn, if_neg (by omega)]; rfl
  rw [e]
  obtain ⟨m, hm⟩ := settle_cell (fun _ => 128) (d.set k ((Dv.cell d k).1, some (Dv.full s))) 0 k (by rw [List.length_set]; exact hk)
  have hc : Dv.cell (d.set k ((Dv.cell d k).1, some (Dv.full s))) k = ((Dv.cell d k).1, some (Dv.full s)) := by unfold Dv.cell; rw [List.getD_eq_getElem?_getD, List.getElem?_set_self hk]; rfl
  rw [hc] at hm
  unfold sureS
  rw [settle_len, List.length_set, if_neg hn]
  show (Dv.cell _ k).1 = _
  rw [hm]
  show Dv.mixB 128 (Dv.full s) (Dv.cell d k).1 = _
  have h1 := Dv.full_len s hs
  have h2 := (cell_len hd k hk).1
  unfold Dv.mixB
  rw [show min 128 128 = 128 from rfl, List.take_of_length_le (by omega), List.drop_of_length_le (by omega), List.append_nil]

end Go.Proofs.Ythdkhmmabfnnkaa
