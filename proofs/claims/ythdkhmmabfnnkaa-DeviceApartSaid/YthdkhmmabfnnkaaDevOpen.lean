/- Chapter 10's arguments: rows of numbers and of acts that came in. -/
import Derived.Test.YthdkhmmabfnnkaaDevL2
import Derived.Deep.Slices
import Derived.Deep.Fields
import Derived.ChangeSlices
import Derived.OpenShut
set_option linter.unusedVariables false
set_option linter.unusedSimpArgs false
namespace Go.Proofs.Ythdkhmmabfnnkaa
open Go.RowKit Go.Maps Go.ChangeShapes Go.WideShapes

section
variable {H : Type} {enc : TypeId × Value → H} {W : World} {base : Nat} {spare : Nat → Bool} {held : Bool}
theorem open_nums {fuel : Nat} {v : Value} {x : DataW H × List MemPlace} (h : DataW.trod enc Try.prog W base spare held fuel 23 [v] = some x) :
    ∃ (ad : Option Addr) (cp : Nat) (ks : List Int), v = .slice ad ks.length cp ∧ NumsAt W W.heap.size ad ks := by
  rcases open_ints Try.underlying23 Try.underlying3 (by kernel_rfl) h with ⟨e, _⟩ | ⟨a, len, cap, zs, e, _, hl, hm, hz, _, hc, _⟩
  · simp only [List.cons.injEq, and_true] at e
    exact ⟨none, 0, [], e, ⟨Nat.zero_le _, (fun j hj => by cases hj), (fun p e => by cases e)⟩⟩
  · simp only [List.cons.injEq, and_true] at e
    have hlz : len ≤ zs.length := by rw [hz]; split <;> omega
    have ht : (zs.take len).length = len := by rw [List.length_take]; omega
    refine ⟨some a, cap, zs.take len, by rw [ht]; exact e, ⟨by rw [ht]; unfold maxLen at hm; omega, fun j hj => ?_, fun p e hne => ?_⟩⟩
    · rw [ht] at hj
      refine ⟨a, rfl, ?_⟩
      rw [hc j (by omega), List.getD_eq_getElem?_getD, List.getD_eq_getElem?_getD, List.getElem?_take_of_lt hj]
    · cases e
      have h0 : 0 < len := by
        rcases Nat.eq_zero_or_pos len with h | h
        · exact absurd (by rw [h]; rfl) hne
        · exact h
      have := World.block_lt_of_cell? _ _ (hc 0 (by omega))
      rwa [block_add2] at this
theorem choose_list {α : Type} [Inhabited α] (n : Nat) (Q : Nat → α → Prop) (h : ∀ i, i < n → ∃ a, Q i a) : ∃ l : List α, l.length = n ∧ ∀ i a, l[i]? = some a → Q i a := by
  induction n with
  | zero => exact ⟨[], rfl, fun i a h => by cases h⟩
  | succ n ih =>
    obtain ⟨l, hl, hq⟩ := ih (fun i hi => h i (by omega))
    obtain ⟨a, ha⟩ := h n (by omega)
    refine ⟨l ++ [a], by simp [hl], fun i b hb => ?_⟩
    by_cases hi : i < n
    · rw [List.getElem?_append_left (by omega)] at hb; exact hq i b hb
    · rw [List.getElem?_append_right (by omega)] at hb
      have hi2 : i = n := by
        have := (List.getElem?_eq_some_iff.1 hb).1
        simp at this; omega
      subst hi2
      rw [hl, Nat.sub_self, List.getElem?_cons_zero, Option.some.injEq] at hb
      subst hb; exact ha
instance : Inhabited DAct := ⟨dact0⟩
theorem open_acts {fuel : Nat} {v : Value} {x : DataW H × List MemPlace} (h : DataW.trod enc Try.prog W base spare held fuel 22 [v] = some x) :
    ∃ (ad : Option Addr) (cp : Nat) (l : List DAct), v = .slice ad l.length cp ∧ ActsAt W W.heap.size ad l := by
  rcases Go.Deep.open_slice Try.underlying22 h with ⟨e, _⟩ | ⟨a, len, cap, m, n, D, Pl, e, hb, hl, hm, hmm, _, hi⟩
  · simp only [List.cons.injEq, and_true] at e
    exact ⟨none, 0, [], e, ⟨Nat.zero_le _, fun j a hj => by cases hj⟩⟩
  · simp only [List.cons.injEq, and_true] at e
    have hlm : len ≤ m := by rw [hmm]; split <;> omega
    obtain ⟨l, hll, hq⟩ := choose_list len (fun i (c : DAct) => ActAt W W.heap.size c ∧ ∃ p : Addr, some a = some p ∧ p.block < W.heap.size ∧ ∀ j u, c.cells[j]? = some u → W.cell? (p.add (i * 5 + j)) = some u) (fun i hil => by
      obtain ⟨cs, hcs, ht⟩ := hi i (by omega)
      rw [show Try.prog.cellsOf 31 = 5 by kernel_rfl] at hcs
      obtain ⟨_, hcl, hat⟩ := World.cells?_some hcs
      obtain ⟨c0, c1, c2, c3, c4, rfl⟩ : ∃ c0 c1 c2 c3 c4, cs = [c0, c1, c2, c3, c4] := by
        match cs, hcl with
        | [c0, c1, c2, c3, c4], _ => exact ⟨_, _, _, _, _, rfl⟩
      obtain ⟨xs, k, _, _, _, hxl, hf⟩ := DataW.trod_struct Try.underlying31 ht
      obtain ⟨y0, y1, y2, y3, y4, rfl⟩ : ∃ y0 y1 y2 y3 y4, xs = [y0, y1, y2, y3, y4] := by
        match xs, hxl with
        | [y0, y1, y2, y3, y4], _ => exact ⟨_, _, _, _, _, rfl⟩
      have f0 := hf 0 _ rfl
      have f1 := hf 1 _ rfl
      have f2 := hf 2 _ rfl
      have f3 := hf 3 _ rfl
      have f4 := hf 4 _ rfl
      rw [show Try.prog.cellsOf _ = 1 by kernel_rfl] at f0 f1 f2 f3 f4
      change DataW.trod enc Try.prog W base spare held _ 5 [c0] = some y0 at f0
      change DataW.trod enc Try.prog W base spare held _ 3 [c1] = some y1 at f1
      change DataW.trod enc Try.prog W base spare held _ 3 [c2] = some y2 at f2
      change DataW.trod enc Try.prog W base spare held _ 9 [c3] = some y3 at f3
      change DataW.trod enc Try.prog W base spare held _ 23 [c4] = some y4 at f4
      obtain ⟨n0, e0, _, w0⟩ := DataW.trod_int Try.underlying5 f0
      obtain ⟨n1, e1, _, w1⟩ := DataW.trod_int Try.underlying3 f1
      obtain ⟨n2, e2, _, w2⟩ := DataW.trod_int Try.underlying3 f2
      obtain ⟨s3, e3, _, w3⟩ := DataW.trod_string Try.underlying9 f3
      obtain ⟨ad4, cp4, ks4, e4, w4⟩ := open_nums f4
      simp only [List.cons.injEq, and_true] at e0 e1 e2 e3
      subst e0 e1 e2 e3 e4
      have b0 := bounds_u8 w0
      obtain ⟨n0, rfl⟩ := Int.eq_ofNat_of_zero_le b0.1
      have hlt : a.block < W.heap.size := by
        have := World.block_lt_of_cell? _ _ ((hat 0 (by omega)).trans rfl)
        rwa [block_add2, block_add2] at this
      refine ⟨⟨n0, n1, n2, s3.data.toList, ad4, cp4, ks4⟩, ⟨by have := b0.2; show n0 < 256; omega, by show s3.data.toList.length ≤ _; rw [Array.length_toList]; exact w3, w4⟩, a, rfl, hlt, fun j u hj => ?_⟩
      have hj5 : j < 5 := (List.getElem?_eq_some_iff.1 hj).1
      rw [← Go.Deep.add_add, hat j hj5]
      have es : (⟨s3.data.toList.toArray⟩ : ByteArray) = s3 := by simp
      rw [← hj]
      unfold DAct.cells
      rw [es])
    refine ⟨some a, cap, l, by rw [hll]; exact e, ⟨by rw [hll]; unfold maxLen at hm; omega, fun i c hc => hq i c hc⟩⟩
end

end Go.Proofs.Ythdkhmmabfnnkaa
