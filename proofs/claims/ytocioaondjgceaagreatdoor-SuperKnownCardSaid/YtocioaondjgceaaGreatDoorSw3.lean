/- SuperWhole: the tries in memory, and the start. -/
import Derived.Test.YtocioaondjgceaaGreatDoorSw2
import Derived.Deep.Slices
import Derived.Deep.Fields
import Derived.ChangeSlices
import Derived.OpenShut
set_option linter.unusedVariables false
set_option linter.unusedSimpArgs false
namespace Go.Proofs.YtocioaondjgceaaGreatDoor
open Go.RowKit Go.Maps

theorem s_block_add (a : Addr) (i : Nat) : (a.add i).block = a.block := by unfold Addr.add; split <;> rfl
theorem s_add_field (p : Addr) (i j : Nat) (hj : 0 < j) : p.add (i + j) = ⟨(p.add i).block, (p.add i).off + j, none⟩ := by
  unfold Addr.add
  rw [if_neg (by omega)]
  split
  · subst_vars; simp
  · simp; omega
structure CNums (w : World) (B : Nat) (ad : Option Addr) (cp : Nat) (ks : List Int) : Prop where
  len : ks.length ≤ 9223372036854775807
  row : ∀ j, j < ks.length → ∃ p : Addr, ad = some p ∧ p.block < B ∧ w.cell? (p.add j) = some (.int .i64 (ks.getD j 0))
  nil : ad = none → cp = 0
theorem CNums.upd {w w' : World} {B : Nat} {ad : Option Addr} {cp : Nat} {ks : List Int} {F : Nat → Prop} (h : CNums w B ad cp ks) (hu : Upd F w w') (hF : ∀ i, i < B → ¬ F i) : CNums w' B ad cp ks :=
  ⟨h.len, fun j hj => by obtain ⟨p, e, hp, hc⟩ := h.row j hj; exact ⟨p, e, hp, hu.cell hc (by rw [s_block_add]; exact hF _ hp)⟩, h.nil⟩
structure STry where
  calls : Nat
  root : Nat
  table : Nat
  ad : Option Addr
  cp : Nat
  ks : List Int
def STry.cells (a : STry) : List Value := [.int .u64 (a.calls : Int), .int .u16 (a.root : Int), .int .u16 (a.table : Int), .slice a.ad a.ks.length a.cp]
structure TriesAt (w : World) (B : Nat) (v : Option Addr) (l : List STry) : Prop where
  len : l.length ≤ 9223372036854775807
  one : ∀ i a, l[i]? = some a → (a.calls < 18446744073709551616 ∧ a.root < 65536 ∧ a.table < 65536 ∧ CNums w B a.ad a.cp a.ks) ∧ ∃ p : Addr, v = some p ∧ p.block < B ∧ ∀ j u, a.cells[j]? = some u → w.cell? (p.add (i * 4 + j)) = some u
theorem TriesAt.upd {w w' : World} {B : Nat} {v : Option Addr} {l : List STry} {F : Nat → Prop} (h : TriesAt w B v l) (hu : Upd F w w') (hF : ∀ i, i < B → ¬ F i) : TriesAt w' B v l :=
  ⟨h.len, fun i a ha => by
    obtain ⟨⟨h1, h2, h3, h4⟩, p, e, hp, hc⟩ := h.one i a ha
    exact ⟨⟨h1, h2, h3, h4.upd hu hF⟩, p, e, hp, fun j u hj => hu.cell (hc j u hj) (by rw [s_block_add]; exact hF _ hp)⟩⟩
def stry0 : STry := ⟨0, 0, 0, none, 0, []⟩
def snth (l : List STry) (i : Nat) : STry := l.getD i stry0
theorem snth_at (l : List STry) (i : Nat) (h : i < l.length) : l[i]? = some (snth l i) := by unfold snth; rw [List.getD, List.getElem?_eq_getElem h]; rfl
theorem TriesAt.cells {w : World} {B : Nat} {v : Option Addr} {l : List STry} (h : TriesAt w B v l) (k : Nat) (hk : k < l.length) : ∃ p : Addr, v = some p ∧ ((snth l k).calls < 18446744073709551616 ∧ (snth l k).root < 65536 ∧ (snth l k).table < 65536 ∧ CNums w B (snth l k).ad (snth l k).cp (snth l k).ks) ∧
    w.cell? (p.add (k * 4)) = some (.int .u64 ((snth l k).calls : Int)) ∧ w.cell? ⟨(p.add (k * 4)).block, (p.add (k * 4)).off + 1, none⟩ = some (.int .u16 ((snth l k).root : Int)) ∧
    w.cell? ⟨(p.add (k * 4)).block, (p.add (k * 4)).off + 2, none⟩ = some (.int .u16 ((snth l k).table : Int)) ∧ w.cell? ⟨(p.add (k * 4)).block, (p.add (k * 4)).off + 3, none⟩ = some (.slice (snth l k).ad (snth l k).ks.length (snth l k).cp) := by
  obtain ⟨h1, p, e, hp, hc⟩ := h.one k _ (snth_at l k hk)
  exact ⟨p, e, h1, hc 0 _ rfl, by rw [← s_add_field _ _ _ (by omega)]; exact hc 1 _ rfl, by rw [← s_add_field _ _ _ (by omega)]; exact hc 2 _ rfl, by rw [← s_add_field _ _ _ (by omega)]; exact hc 3 _ rfl⟩

section
open Go.ChangeShapes Go.WideShapes
variable {H : Type} {enc : TypeId × Value → H} {W : World} {base : Nat} {spare : Nat → Bool} {held : Bool}
theorem open_cnums {fuel : Nat} {v : Value} {x : DataW H × List MemPlace} (h : DataW.trod enc Tryz.prog W base spare held fuel 40 [v] = some x) :
    ∃ (ad : Option Addr) (cp : Nat) (ks : List Int), v = .slice ad ks.length cp ∧ CNums W W.heap.size ad cp ks := by
  rcases open_ints Tryz.underlying40 Tryz.underlying3 (by kernel_rfl) h with ⟨e, _⟩ | ⟨a, len, cap, zs, e, _, hl, hm, hz, _, hc, _⟩
  · simp only [List.cons.injEq, and_true] at e
    exact ⟨none, 0, [], e, ⟨Nat.zero_le _, (fun j hj => by cases hj), fun _ => rfl⟩⟩
  · simp only [List.cons.injEq, and_true] at e
    have hlz : len ≤ zs.length := by rw [hz]; split <;> omega
    have ht : (zs.take len).length = len := by rw [List.length_take]; omega
    refine ⟨some a, cap, zs.take len, by rw [ht]; exact e, ⟨by rw [ht]; unfold maxLen at hm; omega, fun j hj => ?_, fun e => by cases e⟩⟩
    rw [ht] at hj
    have hcj := hc j (by omega)
    refine ⟨a, rfl, ?_, ?_⟩
    · have := World.block_lt_of_cell? _ _ hcj
      rwa [s_block_add] at this
    · rw [hcj, List.getD_eq_getElem?_getD, List.getD_eq_getElem?_getD, List.getElem?_take_of_lt hj]
theorem s_choose_list {α : Type} (n : Nat) (Q : Nat → α → Prop) (h : ∀ i, i < n → ∃ a, Q i a) : ∃ l : List α, l.length = n ∧ ∀ i a, l[i]? = some a → Q i a := by
  induction n with
  | zero => exact ⟨[], rfl, fun i a h => by cases h⟩
  | succ n ih =>
    obtain ⟨l, hl, hq⟩ := ih (fun i hi => h i (by omega))
    obtain ⟨a, ha⟩ := h n (by omega)
    refine ⟨l ++ [a], by simp [hl], fun i b hb => ?_⟩
    by_cases hi : i < n
    · rw [List.getElem?_append_left (by omega)] at hb; exact hq i b hb
    · rw [List.getElem?_append_right (by omega)] at hb
      have hi2 : i = n := by
        have := (List.getElem?_eq_some_iff.1 hb).1
        simp at this; omega
      subst hi2
      rw [hl, Nat.sub_self, List.getElem?_cons_zero, Option.some.injEq] at hb
      subst hb; exact ha
theorem open_tries {fuel : Nat} {v : Value} {x : DataW H × List MemPlace} (h : DataW.trod enc Tryz.prog W base spare held fuel 38 [v] = some x) :
    ∃ (ad : Option Addr) (cp : Nat) (l : List STry), v = .slice ad l.length cp ∧ TriesAt W W.heap.size ad l := by
  rcases Go.Deep.open_slice Tryz.underlying38 h with ⟨e, _⟩ | ⟨a, len, cap, m, n, D, Pl, e, hb, hl, hm, hmm, _, hi⟩
  · simp only [List.cons.injEq, and_true] at e
    exact ⟨none, 0, [], e, ⟨Nat.zero_le _, fun j a hj => by cases hj⟩⟩
  · simp only [List.cons.injEq, and_true] at e
    have hlm : len ≤ m := by rw [hmm]; split <;> omega
    obtain ⟨l, hll, hq⟩ := s_choose_list len (fun i (c : STry) => (c.calls < 18446744073709551616 ∧ c.root < 65536 ∧ c.table < 65536 ∧ CNums W W.heap.size c.ad c.cp c.ks) ∧ ∃ p : Addr, some a = some p ∧ p.block < W.heap.size ∧ ∀ j u, c.cells[j]? = some u → W.cell? (p.add (i * 4 + j)) = some u) (fun i hil => by
      obtain ⟨cs, hcs, ht⟩ := hi i (by omega)
      rw [show Tryz.prog.cellsOf 42 = 4 by kernel_rfl] at hcs
      obtain ⟨_, hcl, hat⟩ := World.cells?_some hcs
      obtain ⟨c0, c1, c2, c3, rfl⟩ : ∃ c0 c1 c2 c3, cs = [c0, c1, c2, c3] := by
        match cs, hcl with
        | [c0, c1, c2, c3], _ => exact ⟨_, _, _, _, rfl⟩
      obtain ⟨xs, k, _, _, _, hxl, hf⟩ := DataW.trod_struct Tryz.underlying42 ht
      obtain ⟨y0, y1, y2, y3, rfl⟩ : ∃ y0 y1 y2 y3, xs = [y0, y1, y2, y3] := by
        match xs, hxl with
        | [y0, y1, y2, y3], _ => exact ⟨_, _, _, _, rfl⟩
      have f0 := hf 0 _ rfl
      have f1 := hf 1 _ rfl
      have f2 := hf 2 _ rfl
      have f3 := hf 3 _ rfl
      rw [show Tryz.prog.cellsOf _ = 1 by kernel_rfl] at f0 f1 f2 f3
      change DataW.trod enc Tryz.prog W base spare held _ 23 [c0] = some y0 at f0
      change DataW.trod enc Tryz.prog W base spare held _ 39 [c1] = some y1 at f1
      change DataW.trod enc Tryz.prog W base spare held _ 39 [c2] = some y2 at f2
      change DataW.trod enc Tryz.prog W base spare held _ 40 [c3] = some y3 at f3
      obtain ⟨n0, e0, _, w0⟩ := DataW.trod_int Tryz.underlying23 f0
      obtain ⟨n1, e1, _, w1⟩ := DataW.trod_int Tryz.underlying39 f1
      obtain ⟨n2, e2, _, w2⟩ := DataW.trod_int Tryz.underlying39 f2
      obtain ⟨ad4, cp4, ks4, e4, w4⟩ := open_cnums f3
      simp only [List.cons.injEq, and_true] at e0 e1 e2
      subst e0 e1 e2 e4
      have b0 := bounds_u64 w0
      have b1 := bounds_u16 w1
      have b2 := bounds_u16 w2
      obtain ⟨n0, rfl⟩ := Int.eq_ofNat_of_zero_le b0.1
      obtain ⟨n1, rfl⟩ := Int.eq_ofNat_of_zero_le b1.1
      obtain ⟨n2, rfl⟩ := Int.eq_ofNat_of_zero_le b2.1
      have hlt : a.block < W.heap.size := by
        have := World.block_lt_of_cell? _ _ ((hat 0 (by omega)).trans rfl)
        rwa [s_block_add, s_block_add] at this
      refine ⟨⟨n0, n1, n2, ad4, cp4, ks4⟩, ⟨by have := b0.2; show n0 < _; omega, by have := b1.2; show n1 < _; omega, by have := b2.2; show n2 < _; omega, w4⟩, a, rfl, hlt, fun j u hj => ?_⟩
      have hj5 : j < 4 := (List.getElem?_eq_some_iff.1 hj).1
      rw [← Go.Deep.add_add, hat j hj5]
      exact hj)
    exact ⟨some a, cap, l, by rw [hll]; exact e, ⟨by rw [hll]; unfold maxLen at hm; omega, fun i c hc => hq i c hc⟩⟩
end

/-! The start. -/
theorem new_len : (newD 512).length = 512 := by unfold newD; exact List.length_replicate ..
def given0 : Sp.Sup := ⟨1, 2, 66, 70, 512⟩
theorem new_cell (k : Nat) (hk : k < 512) : Dv.cell (newD 512) k = (zeros, none) := by
  unfold Dv.cell newD
  rw [List.getD_eq_getElem?_getD, List.getElem?_replicate, if_pos hk]; rfl
theorem new_ok : Dv.Ok (newD 512) := by
  refine ⟨by rw [new_len]; exact Nat.le_refl _, by rw [new_len]; omega, fun x hx => ?_⟩
  rw [(List.mem_replicate.1 hx).2]
  exact ⟨zeros_len, fun y hy => by cases hy⟩
theorem si_init {u : List UInt8} (h : Sp.put given0 = (u, 0)) : SI (Dv.settleF (fun _ => 128) 0 (writeE (newD 512) 1 u).1) given0 := by
  obtain ⟨hl, _, _⟩ := put_parts h
  have hw := write_cells new_ok 1 (by rw [new_len]; omega) u hl
  have hlen := new_len
  have hw2 : (writeE (newD 512) 1 u).1 = (newD 512).set 1 ((Dv.cell (newD 512) 1).1, some u) := by
    have : writeE (newD 512) 1 u = _ := hw
    rw [this]
  rw [hw2, new_cell 1 (by omega)]
  have ok1 := set_ok new_ok 1 (zeros, some u) zeros_len (fun y hy => by simp only [Option.some.injEq] at hy; rw [← hy]; exact hl)
  refine ⟨p_settle_ok _ ok1 0, by rw [p_settle_len, List.length_set]; exact hlen, p_settle_none _ _ 0, by decide, by decide, rfl, ?_, ?_⟩
  · show Sp.put given0 = ((Dv.cell _ 1).1, 0)
    obtain ⟨q, hq⟩ := p_settle_cell (fun _ => 128) ((newD 512).set 1 (zeros, some u)) 0 1 (by rw [List.length_set, hlen]; omega)
    rw [set_cell _ _ _ _ (by rw [hlen]; omega), if_pos rfl] at hq
    rw [hq, h]
    show (u, (0 : Int)) = (Dv.mixB 128 u zeros, 0)
    have := zeros_len
    unfold Dv.mixB
    rw [show min 128 128 = 128 from rfl, List.take_of_length_le (by omega), List.drop_of_length_le (by omega), List.append_nil]
  · show Oth (Dv.cell _ 0).1 1
    obtain ⟨q, hq⟩ := p_settle_cell (fun _ => 128) ((newD 512).set 1 (zeros, some u)) 0 0 (by rw [List.length_set, hlen]; omega)
    rw [set_cell _ _ _ _ (by rw [hlen]; omega), if_neg (by omega), new_cell 0 (by omega)] at hq
    rw [hq]
    exact oth_zero
/-- a fuse that is never cut lets all through -/
theorem act_through (a : Nat) (d d1 : List Dv.Cel) : Fz.act ⟨-1, a, true, []⟩ d d1 = (true, ⟨-1, a + 1, true, []⟩, d1) := by
  unfold Fz.act
  rfl
theorem supWrite_through (a : Nat) (d : List Dv.Cel) (s : Sp.Sup) {u : List UInt8} (h : Sp.put s = (u, 0)) : supWriteE ⟨-1, a, true, []⟩ d s = ((writeE d ((s.gen % 2 : Nat) : Int) u).2, ⟨-1, a + 1, true, []⟩, (writeE d ((s.gen % 2 : Nat) : Int) u).1) := by
  unfold supWriteE
  rw [h, if_neg (by simp)]
  unfold Fz.writeE
  rw [act_through]; rfl

end Go.Proofs.YtocioaondjgceaaGreatDoor
