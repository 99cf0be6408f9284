/- A set of sectors: each: the iterator. -/
import Derived.Test.YtieohjibccjliaaSpD
import Derived.RangeFuncNested
import Derived.RangeFuncBound
import Derived.RangeFuncCalls
import Derived.RangeFuncLeaves
import Derived.RangeFuncBox
import Derived.Shelf.Abstract
import Derived.Shelf.RegionOpen
import Derived.OwnWalkIn
import Derived.TacticsInMore
import Derived.LoopNIn
import Derived.LoopIn
import Derived.Maps.AppendAt
set_option linter.unusedVariables false
set_option linter.unusedSimpArgs false
namespace Go.Proofs.Ytieohjibccjliaa
open Go.RowKit Go.Shelf
attribute [local go_sem] Oper.semAt_some

/-- The sectors of a span, of spans. -/
def seqE (a : Int) (m : Nat) : List Int := (List.range m).map fun (k : Nat) => a + (k : Int)
def flatE (l : List Ex) : List Int := l.flatMap fun x => seqE x.1 x.2.toNat
theorem seqE_succ (a : Int) (m : Nat) : seqE a (m + 1) = seqE a m ++ [a + (m : Int)] := by unfold seqE; rw [List.range_succ, List.map_append]; rfl
theorem seqE_len (a : Int) (m : Nat) : (seqE a m).length = m := by unfold seqE; simp
theorem range_pre {a b : Nat} (h : a ≤ b) : List.range a <+: List.range b := by
  obtain ⟨c, rfl⟩ := Nat.exists_eq_add_of_le h
  rw [List.range_add]
  exact List.prefix_append _ _
theorem flatE_append (a b : List Ex) : flatE (a ++ b) = flatE a ++ flatE b := by unfold flatE; rw [List.flatMap_append]
theorem flatE_cons (x : Ex) (b : List Ex) : flatE (x :: b) = seqE x.1 x.2.toNat ++ flatE b := by unfold flatE; rw [List.flatMap_cons]
theorem flatE_nil : flatE [] = [] := rfl
theorem flatE_take (l : List Ex) (i : Nat) (h : i < l.length) : flatE (l.take (i + 1)) = flatE (l.take i) ++ seqE l[i].1 l[i].2.toNat := by
  rw [List.take_succ_eq_append_getElem h, flatE_append, flatE_cons, flatE_nil, List.append_nil]
/-- What a round keeps: what lay below, and the spans' cells. -/
def KpE (n₀ : Nat) (W W' : World) : Prop := Below n₀ W W' ∧ ∀ (k : Nat) (cs : Array Value) (fr : Nat × Nat), W.heap[k]? = some (Obj.cells cs 99 fr) → W'.heap[k]? = some (Obj.cells cs 99 fr)
theorem KpE.trans {n₀ : Nat} {A B C : World} (h : KpE n₀ A B) (k : KpE n₀ B C) : KpE n₀ A C := ⟨h.1.trans k.1, fun i cs fr hi => k.2 i cs fr (h.2 i cs fr hi)⟩
theorem KpE.refl (n₀ : Nat) (A : World) : KpE n₀ A A := ⟨Below.refl _ _, fun _ _ _ h => h⟩
theorem SpAt.belowSp {w w' : World} {b : Nat} {row : Option Nat} {n : Int} {v : Value} {l : List Ex} {n₀ : Nat} (h : SpAt w b row n v l) (hb : b < n₀) (hr : ∀ r, row = some r → r < n₀) (hw : n₀ ≤ w.heap.size) (hB : Below n₀ w w') : SpAt w' b row n v l :=
  h.upd (Upd.of_below hB) (by omega) (fun r e f => by have := hr r e; omega)
set_option maxRecDepth 100000 in
set_option maxHeartbeats 1000000 in
theorem each1_in (m : Nat) (hm : 1 ≤ m) (lb Bn n₀ b : Nat) (row : Option Nat) (n : Int) (v : Value) (l : List Ex) (hok : SpOk n l) (J Jx : List Int → World → Prop) (W : World) (hW0 : n₀ ≤ W.heap.size) (hJ : AbidesFrom W.heap.size J)
    (hY : ∀ pre x W1, J pre W1 → pre.length < (flatE l).length → YieldAt Fence.wide (m - 1) Try.prog lb #[.int .i64 x] W1 fun e W' =>
      (e = .returned (.bool true) ∧ J (pre ++ [x]) W' ∧ KpE n₀ W1 W') ∨ (e = .returned (.bool false) ∧ Jx (pre ++ [x]) W'))
    (hBn : W.cell? ⟨Bn, 0, none⟩ = some (.pointer (some ⟨b, 0, none⟩))) (hS : SpAt W b row n v l) (hb : b < n₀) (hr : ∀ r, row = some r → r < n₀) (h0 : J [] W) :
    CallsIn Fence.wide m Try.prog 63 #[.func (.yield lb) #[] #[], .pointer (some ⟨Bn, 0, none⟩)] W fun e W' => (∃ v, e = .returned v) ∧
      ((∃ ys, ys = flatE l ∧ J ys W') ∨ (∃ pre, pre <+: flatE l ∧ Jx pre W')) := by
  have HI := Lib.hid (sp_is hS)
  rw [decide_eq_true (show 0 < n by have := hok.1; omega)] at HI
  have c1 : W.cell? ⟨b, 1, none⟩ = some v := cell_heap hS.set 1 _ rfl
  obtain ⟨ad, cap, rfl, _⟩ := hS.row.form
  obtain ⟨N, hN⟩ : ∃ N, N = l.length := ⟨_, rfl⟩
  have hl4 : N ≤ 4096 := by have := hok.len; have := hok.1; omega
  rw [← hN] at c1
  have HN := Lib.hid hN
  have HS := Lib.hid hS
  have HO := Lib.hid hok
  have HW0 := Lib.hid hW0
  have HB := Lib.hid hb
  have HR := Lib.hid hr
  clear hS hok hN hW0 hb hr
  refine callsIn_of_wp Try.func63 rfl trivial ?_ rfl
  simp only [Try.ntmps63, List.size_toArray, List.length_cons, List.length_nil, Nat.reduceAdd, Nat.reduceSub, Array.replicate_succ, Array.replicate_zero, List.push_toArray, List.append_toArray, List.nil_append, List.cons_append]
  gi_wp2_with (refine ⟨trivial, ?_⟩; gi_at_call 52; refine (callsIn_wide.2 HI.out).mono ?_; rintro e w' ⟨rfl, rfl⟩)
  gi_loopw [14] (fun p wr => ∃ i : Nat, i ≤ N ∧ p = .int .i64 i ∧ J (flatE (l.take i)) wr ∧ Hid (Below n₀ W wr)) (fun p _ => N - (intOf p).toNat)
  case atStart => exact ⟨0, Nat.zero_le _, rfl, h0, Lib.hid (Below.refl _ _)⟩
  case round =>
    obtain ⟨i, hi, rfl, hJs, hB⟩ := hrel
    by_cases hlt : i < N
    · have hil : i < l.length := by have := HN.out; omega
      obtain ⟨r', off', cap', e1, e2, cA, cB, _⟩ := (HS.out.belowSp HB.out HR.out HW0.out hB.out).row.get i hil
      simp only [Value.slice.injEq] at e2
      obtain ⟨rfl, _, rfl⟩ := e2
      have hx := HO.out.2.1 _ (List.getElem_mem hil)
      have hn := HO.out.1
      have hft := flatE_take l i hil
      have hfl : (flatE (l.take i)).length + l[i].2.toNat ≤ (flatE l).length := by
        have : (flatE l).length = (flatE (l.take (i + 1))).length + (flatE (l.drop (i + 1))).length := by rw [← List.length_append, ← flatE_append, List.take_append_drop]
        rw [this, hft, List.length_append, seqE_len]
        omega
      rw [Nat.mul_comm] at cA cB
      generalize l[i] = y at cA cB hx hft hfl
      obtain ⟨y1, y2⟩ := y
      dsimp only at cA cB hx hft hfl
      obtain ⟨Y, rfl⟩ := Int.eq_ofNat_of_zero_le (show 0 ≤ y2 by omega)
      rw [Int.toNat_natCast] at hft hfl
      have HFT := Lib.hid hft
      have HFL := Lib.hid hfl
      have hJ1 : J (flatE (l.take i)) (wr.alloc (.cells #[.int .i64 y1, .int .i64 (Y : Int)] 99)) := hJ _ wr _ none hJs (World.grownBy_alloc wr _ none) (fun r e => by cases e)
      have hB1 : Below n₀ W (wr.alloc (.cells #[.int .i64 y1, .int .i64 (Y : Int)] 99)) := hB.out.alloc (by have := HW0.out; have := hB.out.size; omega) _
      have hX := heap_alloc_new wr (.cells #[.int .i64 y1, .int .i64 (Y : Int)] 99)
      have xA := cell_heap hX 0 _ rfl
      have xB := cell_heap hX 1 _ rfl
      have HX := Lib.hid hX
      have HB1 := Lib.hid hB1
      clear hft hfl hX hB1 hil
      gi_wp2
      gi_loopw [20] (fun p wq => ∃ j : Nat, j ≤ Y ∧ p = .int .i64 j ∧ J (flatE (l.take i) ++ seqE y1 j) wq ∧ Hid (Below n₀ W wq) ∧ Hid (wq.heap[wr.heap.size]? = some (.cells #[.int .i64 y1, .int .i64 (Y : Int)] 99 (0, 0)))) (fun p _ => Y - (intOf p).toNat)
      case atStart => exact ⟨0, Nat.zero_le _, rfl, by unfold seqE; simpa using hJ1, HB1, HX⟩
      case round =>
        clear hJ1 hJs xA xB
        obtain ⟨j, hj, rfl, hJq, hBq, hXq⟩ := hrel
        have xA := cell_heap hXq.out 0 _ rfl
        by_cases hjl : j < Y
        · obtain ⟨fn, tmps, assign, body, hy, hR⟩ := hY (flatE (l.take i) ++ seqE y1 j) (y1 + (j : Int)) wr hJq (by rw [List.length_append, seqE_len]; have := HFL.out; omega)
          have hd : decide ((j : Int) < (Y : Int)) = true := decide_eq_true (by omega)
          gi_wp2
          refine hR.mono ?_
          rintro e W3 (⟨rfl, hJ3, hk3⟩ | ⟨rfl, hJx3⟩)
          · gi_wp2
            go_roundw
            case rel => exact ⟨j + 1, by omega, by simp, by rw [seqE_succ, ← List.append_assoc]; exact hJ3, Lib.hid (hBq.out.trans hk3.1), Lib.hid (hk3.2 _ _ _ hXq.out)⟩
            case measure => simp [intOf]; omega
          · gi_wp2
            refine bodyPost_ret (results_none rfl _ _ _) rfl ?_
            refine ⟨⟨_, rfl⟩, .inr ⟨flatE (l.take i) ++ seqE y1 j ++ [y1 + (j : Int)], ?_, hJx3⟩⟩
            refine List.IsPrefix.trans ?_ (List.IsPrefix.trans (show flatE (l.take (i + 1)) <+: flatE l from ?_) (List.prefix_refl _))
            · rw [HFT.out, List.append_assoc, ← seqE_succ]
              refine (List.prefix_append_right_inj _).2 ?_
              unfold seqE
              exact List.IsPrefix.map _ (range_pre (by omega))
            · conv => rhs; rw [← List.take_append_drop (i + 1) l, flatE_append]
              exact List.prefix_append _ _
        · obtain rfl : j = Y := by omega
          gi_wp2
          go_roundw
          case rel => exact ⟨i + 1, by omega, by simp, by rw [HFT.out]; exact hJq, hBq⟩
          case measure => simp [intOf]; omega
    · obtain rfl : i = N := by omega
      gi_wp2
      go_end0
      exact ⟨⟨_, rfl⟩, .inl ⟨flatE l, rfl, by rw [List.take_of_length_le (by have := HN.out; omega)] at hJs; exact hJs⟩⟩

end Go.Proofs.Ytieohjibccjliaa
