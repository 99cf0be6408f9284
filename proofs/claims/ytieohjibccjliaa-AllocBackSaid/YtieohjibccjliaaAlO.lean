/- Acts of chapter 13, opened. -/
import Derived.Test.YtieohjibccjliaaAlG
import Derived.Deep.Slices
import Derived.Deep.Fields
import Derived.ChangeSlices
import Derived.OpenShut
set_option linter.unusedVariables false
set_option linter.unusedSimpArgs false
namespace Go.Proofs.Ytieohjibccjliaa
open Go.RowKit Go.Shelf Go.ChangeShapes Go.WideShapes Go.Maps
set_option maxRecDepth 100000

abbrev AAct := Nat × Int
/-- The acts' row, as it came in. -/
structure AActsAt (w : World) (B : Nat) (v : Option Addr) (l : List AAct) : Prop where
  len : l.length ≤ 9223372036854775807
  one : ∀ i x, l[i]? = some x → (x.1 < 256 ∧ inI x.2) ∧ ∃ g off : Nat, v = some ⟨g, off, none⟩ ∧ g < B ∧ w.cell? ⟨g, off + i * 2, none⟩ = some (.int .u8 (x.1 : Int)) ∧ w.cell? ⟨g, off + i * 2 + 1, none⟩ = some (.int .i64 x.2)
theorem block_add3 (p : Addr) (i : Nat) : (p.add i).block = p.block := by unfold Addr.add; split <;> rfl
theorem AActsAt.upd {w w' : World} {B : Nat} {v : Option Addr} {l : List AAct} {F : Nat → Prop} (h : AActsAt w B v l) (hu : Upd F w w') (hF : ∀ i, i < B → ¬ F i) : AActsAt w' B v l :=
  ⟨h.len, fun i a ha => by
    obtain ⟨h1, g, off, e, hp, hc1, hc2⟩ := h.one i a ha
    exact ⟨h1, g, off, e, hp, hu.cell hc1 (hF _ hp), hu.cell hc2 (hF _ hp)⟩⟩
section
variable {H : Type} {enc : TypeId × Value → H} {W : World} {base : Nat} {spare : Nat → Bool} {held : Bool}
theorem choose_list {α : Type} (n : Nat) (Q : Nat → α → Prop) (h : ∀ i, i < n → ∃ a, Q i a) : ∃ l : List α, l.length = n ∧ ∀ i a, l[i]? = some a → Q i a := by
  induction n with
  | zero => exact ⟨[], rfl, fun i a h => by cases h⟩
  | succ n ih =>
    obtain ⟨l, hl, hq⟩ := ih (fun i hi => h i (by omega))
    obtain ⟨a, ha⟩ := h n (by omega)
    refine ⟨l ++ [a], by simp [hl], fun i b hb => ?_⟩
    by_cases hi : i < n
    · rw [List.getElem?_append_left (by omega)] at hb; exact hq i b hb
    · rw [List.getElem?_append_right (by omega)] at hb
      have hi2 : i = n := by
        have := (List.getElem?_eq_some_iff.1 hb).1
        simp at this; omega
      subst hi2
      rw [hl, Nat.sub_self, List.getElem?_cons_zero, Option.some.injEq] at hb
      subst hb; exact ha
theorem open_aacts {fuel : Nat} {v : Value} {x : DataW H × List MemPlace} (h : DataW.trod enc Try.prog W base spare held fuel 23 [v] = some x) :
    ∃ (ad : Option Addr) (cp : Nat) (l : List AAct), v = .slice ad l.length cp ∧ AActsAt W W.heap.size ad l := by
  rcases Go.Deep.open_slice Try.underlying23 h with ⟨e, _⟩ | ⟨a, len, cap, m, n, D, Pl, e, hb, hl, hm, hmm, _, hi⟩
  · simp only [List.cons.injEq, and_true] at e
    exact ⟨none, 0, [], e, ⟨Nat.zero_le _, fun j a hj => by cases hj⟩⟩
  · simp only [List.cons.injEq, and_true] at e
    have hlm : len ≤ m := by rw [hmm]; split <;> omega
    obtain ⟨l, hll, hq⟩ := choose_list len (fun i (c : AAct) => (c.1 < 256 ∧ inI c.2) ∧ ∃ g off : Nat, some a = some ⟨g, off, none⟩ ∧ g < W.heap.size ∧ W.cell? ⟨g, off + i * 2, none⟩ = some (.int .u8 (c.1 : Int)) ∧ W.cell? ⟨g, off + i * 2 + 1, none⟩ = some (.int .i64 c.2)) (fun i hil => by
      obtain ⟨cs, hcs, ht⟩ := hi i (by omega)
      rw [show Try.prog.cellsOf 28 = 2 by kernel_rfl] at hcs
      obtain ⟨_, hcl, hat⟩ := World.cells?_some hcs
      obtain ⟨c0, c1, rfl⟩ : ∃ c0 c1, cs = [c0, c1] := by
        match cs, hcl with
        | [c0, c1], _ => exact ⟨_, _, rfl⟩
      obtain ⟨xs, k, _, _, _, hxl, hf⟩ := DataW.trod_struct Try.underlying28 ht
      obtain ⟨y0, y1, rfl⟩ : ∃ y0 y1, xs = [y0, y1] := by
        match xs, hxl with
        | [y0, y1], _ => exact ⟨_, _, rfl⟩
      have f0 := hf 0 _ rfl
      have f1 := hf 1 _ rfl
      rw [show Try.prog.cellsOf _ = 1 by kernel_rfl] at f0 f1
      change DataW.trod enc Try.prog W base spare held _ 5 [c0] = some y0 at f0
      change DataW.trod enc Try.prog W base spare held _ 3 [c1] = some y1 at f1
      obtain ⟨n0, e0, _, w0⟩ := DataW.trod_int Try.underlying5 f0
      obtain ⟨n1, e1, _, w1⟩ := DataW.trod_int Try.underlying3 f1
      simp only [List.cons.injEq, and_true] at e0 e1
      subst e0 e1
      have b0 := bounds_u8 w0
      have b1 := bounds_i64 w1
      obtain ⟨n0, rfl⟩ := Int.eq_ofNat_of_zero_le b0.1
      have hlt : a.block < W.heap.size := by
        have := World.block_lt_of_cell? _ _ ((hat 0 (by omega)).trans rfl)
        rwa [block_add3, block_add3] at this
      have h9 := hat 0 (by omega)
      have h10 := hat 1 (by omega)
      rw [Go.Deep.add_add] at h9 h10
      have hsp : a.spot = none := by
        obtain ⟨cs0, hcs0, _⟩ := hi 0 (by omega)
        rw [show Try.prog.cellsOf 28 = 2 by kernel_rfl] at hcs0
        obtain ⟨_, hcl0, hat0⟩ := World.cells?_some hcs0
        have h8 := hat0 0 (by omega)
        rw [Go.Deep.add_add, List.getElem?_eq_getElem (by omega)] at h8
        have := World.cell?_spot h8
        simpa [Addr.add] using this
      obtain ⟨ab, ao, asp⟩ := a
      dsimp only at hsp
      subst hsp
      refine ⟨⟨n0, n1⟩, ⟨by have := b0.2; show n0 < 256; omega, by unfold inI; dsimp only; omega⟩, ab, ao, rfl, hlt, ?_, ?_⟩
      · have e : (⟨ab, ao, none⟩ : Addr).add (i * 2 + 0) = ⟨ab, ao + i * 2, none⟩ := by simp [Addr.add]
        rw [e] at h9; exact h9
      · have e : (⟨ab, ao, none⟩ : Addr).add (i * 2 + 1) = ⟨ab, ao + i * 2 + 1, none⟩ := by simp [Addr.add]; omega
        rw [e] at h10; exact h10)
    refine ⟨some a, cap, l, by rw [hll]; exact e, ⟨by rw [hll]; unfold maxLen at hm; omega, fun i c hc => hq i c hc⟩⟩
end

end Go.Proofs.Ytieohjibccjliaa
