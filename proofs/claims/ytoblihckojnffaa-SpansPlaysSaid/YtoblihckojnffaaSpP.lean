/- Acts of chapter 12; the set's calls beside a row of bools. -/
import Derived.Test.YtoblihckojnffaaSpO
import Derived.Deep.Slices
import Derived.Deep.Fields
import Derived.ChangeSlices
import Derived.OpenShut
set_option linter.unusedVariables false
set_option linter.unusedSimpArgs false
namespace Go.Proofs.Ytoblihckojnffaa
open Go.RowKit Go.Shelf Go.ChangeShapes Go.WideShapes
set_option maxRecDepth 100000

structure SAct where
  what : Nat
  a : Int
  b : Int
  ask : Int
def SAct.cells (x : SAct) : List Value := [.int .u8 x.what, .int .i64 x.a, .int .i64 x.b, .int .i64 x.ask]
def SAct.val (x : SAct) : Value := .agg x.cells.toArray
/-- The acts' row, as it came in. -/
structure SActsAt (w : World) (B : Nat) (v : Option Addr) (l : List SAct) : Prop where
  len : l.length ≤ 9223372036854775807
  one : ∀ i x, l[i]? = some x → x.what < 256 ∧ ∃ p : Addr, v = some p ∧ p.block < B ∧ ∀ j u, x.cells[j]? = some u → w.cell? (p.add (i * 4 + j)) = some u
theorem block_add3 (p : Addr) (i : Nat) : (p.add i).block = p.block := by unfold Addr.add; split <;> rfl
theorem SActsAt.upd {w w' : World} {B : Nat} {v : Option Addr} {l : List SAct} {F : Nat → Prop} (h : SActsAt w B v l) (hu : Upd F w w') (hF : ∀ i, i < B → ¬ F i) : SActsAt w' B v l :=
  ⟨h.len, fun i a ha => by
    obtain ⟨h1, p, e, hp, hc⟩ := h.one i a ha
    exact ⟨h1, p, e, hp, fun j u hj => hu.cell (hc j u hj) (by rw [block_add3]; exact hF _ hp)⟩⟩
/-- One act, loaded whole. -/
theorem SActsAt.load {w : World} {B : Nat} {v : Option Addr} {l : List SAct} (h : SActsAt w B v l) (i : Nat) (x : SAct) (hx : l[i]? = some x) : x.what < 256 ∧ ∃ p : Addr, v = some p ∧ (loadVar 31 (p.add (i * 4))).run Try.prog w = .ok x.val w := by
  obtain ⟨h1, p, e, hp, hc⟩ := h.one i x hx
  refine ⟨h1, p, e, ?_⟩
  have hl : (loadCells (p.add (i * 4)) 4).run Try.prog w = .ok x.cells.toArray w :=
    run_loadCells_list (P := Try.prog) w (p.add (i * 4)) x.cells (fun j u hj => by rw [Go.Deep.add_add]; exact hc j u hj)
  have hagg : (isAgg 31).run Try.prog w = .ok true w := by kernel_rfl
  have hsz : (sizeOf 31).run Try.prog w = .ok 4 w := by kernel_rfl
  unfold loadVar
  simp only [Sem.run_bind, hsz, hagg, Result.andThen_ok, hl, Sem.run_pure, if_true]
  rfl
section
variable {H : Type} {enc : TypeId × Value → H} {W : World} {base : Nat} {spare : Nat → Bool} {held : Bool}
theorem choose_list {α : Type} (n : Nat) (Q : Nat → α → Prop) (h : ∀ i, i < n → ∃ a, Q i a) : ∃ l : List α, l.length = n ∧ ∀ i a, l[i]? = some a → Q i a := by
  induction n with
  | zero => exact ⟨[], rfl, fun i a h => by cases h⟩
  | succ n ih =>
    obtain ⟨l, hl, hq⟩ := ih (fun i hi => h i (by omega))
    obtain ⟨a, ha⟩ := h n (by omega)
    refine ⟨l ++ [a], by simp [hl], fun i b hb => ?_⟩
    by_cases hi : i < n
    · rw [List.getElem?_append_left (by omega)] at hb; exact hq i b hb
    · rw [List.getElem?_append_right (by omega)] at hb
      have hi2 : i = n := by
        have := (List.getElem?_eq_some_iff.1 hb).1
        simp at this; omega
      subst hi2
      rw [hl, Nat.sub_self, List.getElem?_cons_zero, Option.some.injEq] at hb
      subst hb; exact ha
theorem open_sacts {fuel : Nat} {v : Value} {x : DataW H × List MemPlace} (h : DataW.trod enc Try.prog W base spare held fuel 22 [v] = some x) :
    ∃ (ad : Option Addr) (cp : Nat) (l : List SAct), v = .slice ad l.length cp ∧ SActsAt W W.heap.size ad l := by
  rcases Go.Deep.open_slice Try.underlying22 h with ⟨e, _⟩ | ⟨a, len, cap, m, n, D, Pl, e, hb, hl, hm, hmm, _, hi⟩
  · simp only [List.cons.injEq, and_true] at e
    exact ⟨none, 0, [], e, ⟨Nat.zero_le _, fun j a hj => by cases hj⟩⟩
  · simp only [List.cons.injEq, and_true] at e
    have hlm : len ≤ m := by rw [hmm]; split <;> omega
    obtain ⟨l, hll, hq⟩ := choose_list len (fun i (c : SAct) => c.what < 256 ∧ ∃ p : Addr, some a = some p ∧ p.block < W.heap.size ∧ ∀ j u, c.cells[j]? = some u → W.cell? (p.add (i * 4 + j)) = some u) (fun i hil => by
      obtain ⟨cs, hcs, ht⟩ := hi i (by omega)
      rw [show Try.prog.cellsOf 31 = 4 by kernel_rfl] at hcs
      obtain ⟨_, hcl, hat⟩ := World.cells?_some hcs
      obtain ⟨c0, c1, c2, c3, rfl⟩ : ∃ c0 c1 c2 c3, cs = [c0, c1, c2, c3] := by
        match cs, hcl with
        | [c0, c1, c2, c3], _ => exact ⟨_, _, _, _, rfl⟩
      obtain ⟨xs, k, _, _, _, hxl, hf⟩ := DataW.trod_struct Try.underlying31 ht
      obtain ⟨y0, y1, y2, y3, rfl⟩ : ∃ y0 y1 y2 y3, xs = [y0, y1, y2, y3] := by
        match xs, hxl with
        | [y0, y1, y2, y3], _ => exact ⟨_, _, _, _, rfl⟩
      have f0 := hf 0 _ rfl
      have f1 := hf 1 _ rfl
      have f2 := hf 2 _ rfl
      have f3 := hf 3 _ rfl
      rw [show Try.prog.cellsOf _ = 1 by kernel_rfl] at f0 f1 f2 f3
      change DataW.trod enc Try.prog W base spare held _ 5 [c0] = some y0 at f0
      change DataW.trod enc Try.prog W base spare held _ 3 [c1] = some y1 at f1
      change DataW.trod enc Try.prog W base spare held _ 3 [c2] = some y2 at f2
      change DataW.trod enc Try.prog W base spare held _ 3 [c3] = some y3 at f3
      obtain ⟨n0, e0, _, w0⟩ := DataW.trod_int Try.underlying5 f0
      obtain ⟨n1, e1, _, w1⟩ := DataW.trod_int Try.underlying3 f1
      obtain ⟨n2, e2, _, w2⟩ := DataW.trod_int Try.underlying3 f2
      obtain ⟨n3, e3, _, w3⟩ := DataW.trod_int Try.underlying3 f3
      simp only [List.cons.injEq, and_true] at e0 e1 e2 e3
      subst e0 e1 e2 e3
      have b0 := bounds_u8 w0
      obtain ⟨n0, rfl⟩ := Int.eq_ofNat_of_zero_le b0.1
      have hlt : a.block < W.heap.size := by
        have := World.block_lt_of_cell? _ _ ((hat 0 (by omega)).trans rfl)
        rwa [block_add3, block_add3] at this
      refine ⟨⟨n0, n1, n2, n3⟩, by have := b0.2; show n0 < 256; omega, a, rfl, hlt, fun j u hj => ?_⟩
      have hj5 : j < 4 := (List.getElem?_eq_some_iff.1 hj).1
      rw [← Go.Deep.add_add, hat j hj5]
      rw [← hj]
      rfl)
    refine ⟨some a, cap, l, by rw [hll]; exact e, ⟨by rw [hll]; unfold maxLen at hm; omega, fun i c hc => hq i c hc⟩⟩
end

/-! ### The set's calls beside a row of bools -/
theorem SpP.bools {w w' : World} {b : Nat} {row : Option Nat} {n : Int} {v : Value} {l l' : List Ex} (h : SpAt w b row n v l) (hp : SpP w b row n l' w') {g : Nat} {bits : List Bool} (hb : BoolsAt w g bits) : BoolsAt w' g bits := by
  obtain ⟨_, _, _, _, hu⟩ := hp
  refine hu.heap hb ?_
  rintro (e | e)
  · subst e
    have := h.set
    rw [show w.heap[g]? = _ from hb] at this
    simp at this
  · exact h.row.ne hb (by decide) e
theorem BoolsAt.upd {F : Nat → Prop} {w w' : World} {g : Nat} {bits : List Bool} (h : BoolsAt w g bits) (hu : Upd F w w') (hn : ¬ F g) : BoolsAt w' g bits := hu.heap h hn
/-- A set, and a row of bools that says what is in it, both made since w0. -/
structure Fair (w0 w : World) (b g : Nat) (n : Int) (l : List Ex) (bits : List Bool) : Prop where
  set : New0 w0 w b n l
  ok : SpOk n l
  row : BoolsAt w g bits
  low : w0.heap.size ≤ g
  says : Says n l bits
theorem Fair.later {w0 w w' : World} {b g : Nat} {n : Int} {l : List Ex} {bits : List Bool} (h : Fair w0 w b g n l bits) (hu : Upd (fun _ => False) w w') : Fair w0 w' b g n l bits :=
  ⟨h.set.later hu, h.ok, h.row.upd hu (fun f => f), h.low, h.says⟩
/-- behind a call that writes: the bools lie as they lay -/
structure Part (w0 w : World) (b g : Nat) (n : Int) (l : List Ex) (bits : List Bool) : Prop where
  set : New0 w0 w b n l
  ok : SpOk n l
  row : BoolsAt w g bits
  low : w0.heap.size ≤ g
theorem Fair.part {w0 w : World} {b g : Nat} {n : Int} {l : List Ex} {bits : List Bool} (h : Fair w0 w b g n l bits) : Part w0 w b g n l bits := ⟨h.set, h.ok, h.row, h.low⟩
theorem Part.fair {w0 w : World} {b g : Nat} {n : Int} {l : List Ex} {bits : List Bool} (h : Part w0 w b g n l bits) (hs : Says n l bits) : Fair w0 w b g n l bits := ⟨h.set, h.ok, h.row, h.low, hs⟩
theorem Part.later {w0 w w' : World} {b g : Nat} {n : Int} {l : List Ex} {bits : List Bool} (h : Part w0 w b g n l bits) (hu : Upd (fun _ => False) w w') : Part w0 w' b g n l bits :=
  ⟨h.set.later hu, h.ok, h.row.upd hu (fun f => f), h.low⟩
/-- a bool is stored -/
theorem Part.put {w0 w : World} {b g : Nat} {n : Int} {l : List Ex} {bits : List Bool} (h : Part w0 w b g n l bits) (k : Nat) (c : Bool) : Part w0 (w.setCell ⟨g, k, none⟩ (.bool c)) b g n l (bits.set k c) := by
  obtain ⟨v, row, h1, h2⟩ := h.set.at_
  have hu : Upd (fun i => i = g) w (w.setCell ⟨g, k, none⟩ (.bool c)) := (Upd.refl (fun i => i = g) w).setCell (p := ⟨g, k, none⟩) (fun _ => rfl) _
  have hgb : b ≠ g := by
    intro e
    subst e
    have := h1.set
    rw [show w.heap[b]? = _ from h.row] at this
    simp at this
  refine ⟨⟨h.set.upd.trans hu (fun i hi e => by have := h.low; omega), h.set.low, v, row, h1.upd hu hgb (fun r e f => by subst f; exact h1.row.ne h.row (by decide) e), h2⟩, h.ok, ?_, h.low⟩
  unfold BoolsAt
  rw [heap_setCell_eq h.row]
  congr 2
  simp
/-- What a call of a set leaves: every block of another kind. -/
def Keeps (w w' : World) : Prop := ∀ (i : Nat) (cs : Array Value) (t : TypeId) (fr : Nat × Nat), t ≠ 63 → t ≠ 53 → w.heap[i]? = some (.cells cs t fr) → w'.heap[i]? = some (.cells cs t fr)
theorem Keeps.refl (w : World) : Keeps w w := fun _ _ _ _ _ _ h => h
theorem Keeps.trans {w w' w'' : World} (h : Keeps w w') (h2 : Keeps w' w'') : Keeps w w'' := fun i cs t fr a b c => h2 i cs t fr a b (h i cs t fr a b c)
theorem Keeps.upd {w w' : World} (h : Upd (fun _ => False) w w') : Keeps w w' := fun i cs t fr _ _ c => h.heap c (fun f => f)
theorem SpP.keeps {w w' : World} {b : Nat} {row : Option Nat} {n : Int} {v : Value} {l l' : List Ex} (h : SpAt w b row n v l) (hp : SpP w b row n l' w') : Keeps w w' := by
  obtain ⟨_, _, _, _, hu⟩ := hp
  intro i cs t fr h1 h2 h3
  refine hu.heap h3 ?_
  rintro (e | e)
  · subst e
    have := h.set
    rw [h3] at this
    simp only [Option.some.injEq, Obj.cells.injEq] at this
    exact h2 this.2.1
  · exact h.row.ne h3 h1 e
theorem Keeps.put {w : World} {g : Nat} {bits : List Bool} (h : BoolsAt w g bits) (k : Nat) (c : Value) : ∀ (i : Nat) (cs : Array Value) (t : TypeId) (fr : Nat × Nat), t ≠ 4 → w.heap[i]? = some (.cells cs t fr) → (w.setCell ⟨g, k, none⟩ c).heap[i]? = some (.cells cs t fr) := by
  intro i cs t fr ht hi
  have hu : Upd (fun i => i = g) w (w.setCell ⟨g, k, none⟩ c) := (Upd.refl (fun i => i = g) w).setCell (p := ⟨g, k, none⟩) (fun _ => rfl) _
  refine hu.heap hi (fun e => ?_)
  subst e
  rw [show w.heap[i]? = _ from h] at hi
  simp only [Option.some.injEq, Obj.cells.injEq] at hi
  exact ht hi.2.1.symm
theorem part_give {w0 w : World} {b g : Nat} {n : Int} {l : List Ex} {bits : List Bool} (h : Part w0 w b g n l bits) (a : Int) : Calls Try.prog 17 #[.pointer (some ⟨b, 0, none⟩), .int .i64 a] w fun e w' => e = .returned (.int .i64 (giveA n l a).2) ∧ Part w0 w' b g n (giveA n l a).1 bits ∧ Keeps w w' := by
  obtain ⟨v, row, h1, h2⟩ := h.set.at_
  exact (sp_Give h1 h.ok a).mono fun e w' ⟨he, hp⟩ => ⟨he, ⟨h.set.next (P := fun _ => True) h2 hp, (giveA_spec h.ok a).1, hp.bools h1 h.row, h.low⟩, hp.keeps h1⟩
theorem part_fill {w0 w : World} {b g : Nat} {n : Int} {l : List Ex} {bits : List Bool} (h : Part w0 w b g n l bits) (f t : Int) : Calls Try.prog 18 #[.pointer (some ⟨b, 0, none⟩), .int .i64 f, .int .i64 t] w fun e w' => e = .returned (.int .i64 (fillA n l f t).2) ∧ Part w0 w' b g n (fillA n l f t).1 bits ∧ Keeps w w' := by
  obtain ⟨v, row, h1, h2⟩ := h.set.at_
  exact (sp_Fill h1 h.ok f t).mono fun e w' ⟨he, hp⟩ => ⟨he, ⟨h.set.next (P := fun _ => True) h2 hp, (fillA_spec h.ok f t).1, hp.bools h1 h.row, h.low⟩, hp.keeps h1⟩
theorem part_take {w0 w : World} {b g : Nat} {n : Int} {l : List Ex} {bits : List Bool} (h : Part w0 w b g n l bits) (k : Int) : Calls Try.prog 19 #[.pointer (some ⟨b, 0, none⟩), .int .i64 k] w fun e w' => ∃ v row, e = .returned (.tuple #[v, .int .i64 (takeA l k).2.1]) ∧ IntsAt w' v row (takeA l k).1 ∧ (∀ x, row = some x → w.heap.size ≤ x ∧ x ≠ g) ∧ Part w0 w' b g n (takeA l k).2.2 bits ∧ Keeps w w' := by
  obtain ⟨v, row, h1, h2⟩ := h.set.at_
  refine (sp_Take h1 h.ok k).mono fun e w' ⟨vt, he, ho, hp⟩ => ?_
  obtain ⟨i1, i2⟩ := IntsAt.of_owns ho
  exact ⟨vt, _, he, i1, fun x e => ⟨i2 x e, by have := i2 x e; have := lt_of_heap h.row; omega⟩, ⟨h.set.next (P := fun _ => True) h2 hp, (takeA_spec h.ok k).1, hp.bools h1 h.row, h.low⟩, hp.keeps h1⟩
/-- a copy, from which one is taken and to which one is given: the set and the bools lie as they lay -/
theorem part_copy {w0 w : World} {b g : Nat} {n : Int} {l : List Ex} {bits : List Bool} (h : Part w0 w b g n l bits) : Calls Try.prog 20 #[.pointer (some ⟨b, 0, none⟩)] w fun e w' => ∃ b', e = .returned (.pointer (some ⟨b', 0, none⟩)) ∧ New0 w w' b' n l := by
  obtain ⟨v, row, h1, h2⟩ := h.set.at_
  exact (sp_Copy h1 h.ok).mono fun e w' ⟨b', row', v', e1, e2, e3, e4, e5⟩ => ⟨b', e1, e5, e2, v', row', e4, e3⟩
theorem Fair.told {w0 w : World} {b g : Nat} {n : Int} {l : List Ex} {bits : List Bool} (h : Fair w0 w b g n l bits) (cap : Nat) : Calls Try.prog 21 #[.pointer (some ⟨b, 0, none⟩), .slice (some ⟨g, 0, none⟩) bits.length cap] w fun e w' => e = .returned (.bool true) ∧ Upd (fun _ => False) w w' := by
  obtain ⟨v, row, h1, h2⟩ := h.set.at_
  exact told_ok h1 h.ok h.row h.says

end Go.Proofs.Ytoblihckojnffaa
