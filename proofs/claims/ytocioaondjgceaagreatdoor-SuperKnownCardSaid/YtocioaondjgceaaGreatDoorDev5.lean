/- Sorted keys; a sector held against another; a function value called within a region. -/
import Derived.Test.YtocioaondjgceaaGreatDoorDev4
import Derived.Test.YtocioaondjgceaaGreatDoorIter
import Derived.Stop.BytesEq
set_option linter.unusedVariables false
set_option linter.unusedSimpArgs false
namespace Go.Proofs.YtocioaondjgceaaGreatDoor
open Go.RowKit Go.Maps Go.Sort Go.Shelf

section
variable {P : Program}
theorem step_call_func {ops : Array Oper} {o : Oper} {a : Act} {w : World} {K : Act → World → Prop} {Q : Exit → Act → World → Prop} {E : Prop} (hgd : o.guard = none) (x y : Operand) (t : TypeId)
    (ho : o.op = .call { callee := .value x, args := #[y], argTypes := #[t] }) (f : FuncId) (he : Enters P f) (caps : Array Value) (hx : a.eval x = .func (.func f) #[] caps) (v : Value) (hv : a.eval y = v) (r : Value) (R : World → Prop)
    (hc : Calls P f (#[v] ++ caps) w fun e w' => e = .returned r ∧ R w') (h : ∀ w', R w' → K (a.put o.dst r) w') : if Region.wanted o (yielded ops a.tmps) = true then Oper.wp P o a w K Q else E := by
  have hw : Region.wanted o (yielded ops a.tmps) = true := by simp [Region.wanted, hgd]
  rw [if_pos hw]
  have hrun : (execOp a.eval o).run P w = .ok (.enter f (#[v] ++ caps)) w := by
    unfold execOp
    simp [ho, resolve, invoke, hx, hv, Deferred.ofValue, Result.andThen, he _ w]
  unfold Oper.wp
  rw [hrun, Oper.upon_enter]
  refine hc.mono ?_
  rintro e w' ⟨rfl, hr⟩
  exact h w' hr
end

namespace Dv
def keysFrom : Nat → List Cel → List Nat
  | _, [] => []
  | k, (s, none) :: r => keysFrom (k + 1) r
  | k, (s, some x) :: r => k :: keysFrom (k + 1) r
def mixB (n : Nat) (x s : List UInt8) : List UInt8 := x.take (min n 128) ++ s.drop (min n 128)
def settleF (c : Nat → Nat) : Nat → List Cel → List Cel
  | _, [] => []
  | i, (s, none) :: r => (s, none) :: settleF c i r
  | i, (s, some x) :: r => (mixB (c i) x s, none) :: settleF c (i + 1) r
def goK (c : Nat → Nat) : Nat → List Nat → List Cel → List Cel
  | _, [], d => d
  | i, k :: ks, d => goK c (i + 1) ks (d.set k (mixB (c i) ((cell d k).2.getD []) (cell d k).1, none))
theorem goK_settle (c : Nat → Nat) : ∀ (d pre : List Cel) (i : Nat), goK c i (keysFrom pre.length d) (pre ++ d) = pre ++ settleF c i d := by
  intro d
  induction d with
  | nil => intro pre i; simp [keysFrom, goK, settleF]
  | cons x d ih =>
    intro pre i
    obtain ⟨s, o⟩ := x
    cases o with
    | none =>
      have := ih (pre ++ [(s, none)]) i
      simpa [keysFrom, settleF] using this
    | some y =>
      have h1 : cell (pre ++ (s, some y) :: d) pre.length = (s, some y) := by unfold cell; simp [List.getD]
      have := ih (pre ++ [(mixB (c i) y s, none)]) (i + 1)
      unfold keysFrom goK settleF
      rw [h1]
      simpa using this
theorem keys_mem (k : Nat) : ∀ (d : List Cel) (n : Nat), k ∈ keysFrom n d → n ≤ k ∧ k - n < d.length ∧ ∃ x, (d[k - n]?).bind (·.2) = some x := by
  intro d
  induction d with
  | nil => intro n h; cases h
  | cons x d ih =>
    intro n h
    obtain ⟨s, o⟩ := x
    have tail : k ∈ keysFrom (n + 1) d → n ≤ k ∧ k - n < ((s, o) :: d).length ∧ ∃ x, (((s, o) :: d)[k - n]?).bind (·.2) = some x := fun h => by
      obtain ⟨h1, h2, x, h3⟩ := ih (n + 1) h
      refine ⟨by omega, by simp; omega, x, ?_⟩
      rw [show k - n = (k - (n + 1)) + 1 by omega]; simpa using h3
    cases o with
    | none => exact tail h
    | some y =>
      unfold keysFrom at h
      rcases List.mem_cons.1 h with rfl | h
      · exact ⟨Nat.le_refl _, by simp, y, by simp⟩
      · exact tail h
theorem keys_next (k : Nat) (s' : List UInt8) : ∀ (d : List Cel) (n : Nat) (t : List Nat), keysFrom n d = k :: t → keysFrom n (d.set (k - n) (s', none)) = t := by
  intro d
  induction d with
  | nil => intro n t h; cases h
  | cons x d ih =>
    intro n t h
    obtain ⟨s, o⟩ := x
    cases o with
    | none =>
      have hk : n + 1 ≤ k := (keys_mem k d (n + 1) (by unfold keysFrom at h; rw [h]; simp)).1
      rw [show k - n = (k - (n + 1)) + 1 by omega, List.set_cons_succ]
      unfold keysFrom at h ⊢
      exact ih (n + 1) t h
    | some y =>
      unfold keysFrom at h
      injection h with h1 h2
      subst h1
      rw [Nat.sub_self, List.set_cons_zero]
      unfold keysFrom
      exact h2
theorem keys_rising : ∀ (d : List Cel) (n : Nat), (keysFrom n d).Pairwise (· < ·) := by
  intro d
  induction d with
  | nil => intro n; exact List.Pairwise.nil
  | cons x d ih =>
    intro n
    obtain ⟨s, o⟩ := x
    cases o with
    | none => exact ih (n + 1)
    | some y =>
      unfold keysFrom
      exact List.Pairwise.cons (fun k hk => by have := (keys_mem k d (n + 1) hk).1; omega) (ih (n + 1))
theorem int_keys (d : List Cel) : intKeys (waitsD d) = (keysFrom 0 d).map fun k : Nat => (k : Int) := by
  have : ∀ (d : List Cel) (n : Nat), intKeys (DataW.map (ents n d)) = (keysFrom n d).map fun k : Nat => (k : Int) := by
    intro d
    induction d with
    | nil => intro n; rfl
    | cons x d ih =>
      intro n
      obtain ⟨s, o⟩ := x
      cases o with
      | none => exact ih (n + 1)
      | some y =>
        unfold ents keysFrom
        rw [List.map_cons, ← ih]; rfl
  exact this d 0
theorem sorted_keys_eq (d : List Cel) (ss : List Int) (h : ss.Perm (intKeys (waitsD d))) : ss.mergeSort (fun x y => decide (x ≤ y)) = (keysFrom 0 d).map fun k : Nat => (k : Int) := by
  rw [int_keys] at h
  refine List.Perm.eq_of_pairwise (le := fun a b : Int => a ≤ b) (fun a b _ _ h1 h2 => by omega) ?_ ?_ ((List.mergeSort_perm _ _).trans h)
  · have := List.pairwise_mergeSort (le := fun x y : Int => decide (x ≤ y)) (by intro a b c; simp; omega) (by intro a b; simp; omega) ss
    exact this.imp (fun h => by simpa using h)
  · rw [List.pairwise_map]
    exact (keys_rising d 0).imp (fun h => by omega)
end Dv

theorem neq_sec (a b : List UInt8) (ha : a.length = 128) (hb : b.length = 128) (w : World) : (binOp .neq 81 (secV a) (secV b)).run Tryz.prog w = .ok (.bool (a != b)) w := by
  have h := run_equalIn_bytes (P := Tryz.prog) w 9998 81 5 128 Tryz.underlying81 Tryz.underlying5 (fun w => by kernel_rfl) a b ha hb
  have e : (Op.equal 81 (secV a) (secV b)).run Tryz.prog w = .ok (a == b) w := h
  show Sem.run Tryz.prog (do let x ← Op.equal 81 (secV a) (secV b); pure (Value.bool !x)) w = _
  rw [Sem.run_bind, e]
  rfl

theorem keys_any (mb : Option Nat) (W : World) : Calls Tryz.prog 67 #[.map mb] W fun e w' => e = .returned (.func (.func 94) #[] #[.pointer (some ⟨W.heap.size, 0, none⟩)]) ∧ w' = W.alloc (.cells #[.map mb] 66) :=
  (callsIn_wide (n := 5)).1 (AnyZI.keys_in Tryz.keys67 Fence.wide 5 trivial rfl mb W)
theorem sorts_in (m : Nat) : AnyZI.SortsIn Tryz.prog Tryz.sorted66_ren Fence.wide m :=
  ⟨fun blk off cap ss W hH hblk hsz => callsIn_wide.2 (AnyM.slices_Sort_int Tryz.sort93 blk off cap ss W hH hblk hsz),
   fun p cap W => callsIn_wide.2 (AnyM.slices_Sort_int_none Tryz.sort93 p cap W)⟩
theorem sorted_keys (b nn : Nat) (D0 : DataW Unit) (R : Value → Option (DataW Unit × List MemPlace)) (w : World) (hown : w.ownsMap Tryz.prog 3 R b nn D0) (hmax : Maps.size D0 ≤ maxLen) (hbytes : Maps.size D0 * 8 ≤ 140737488355328) :
    Calls Tryz.prog 66 #[.func (.func 94) #[] #[.pointer (some ⟨w.heap.size, 0, none⟩)]] (w.alloc (.cells #[.map (some b)] 66)) fun e w' => ∃ (v : Value) (ss : List Int), e = .returned v ∧ ss.Perm (intKeys D0) ∧
      w'.ownsRow (w.heap.size + 1) 3 1 v ss.length ((ss.mergeSort (fun x y => decide (x ≤ y))).map encZ) ∧ (v = .slice none 0 0 ↔ ss = []) ∧ Below (w.heap.size + 1) (w.alloc (.cells #[.map (some b)] 66)) w' := by
  have hbl := hown.lt
  have hseq : SeqGives Fence.wide 2 Tryz.prog 94 #[.pointer (some ⟨w.heap.size, 0, none⟩)] encZ (fun ss => ss.Perm (intKeys D0)) (Maps.size D0) (w.alloc (.cells #[.map (some b)] 66)) :=
    AnyZI.keys_gives (ρ := Tryz.keys67_ren) { Tryz.keys67 with } Fence.wide _ trivial rfl (by omega) w.heap.size b nn D0 _ (by simp) (by simp) (by
      obtain ⟨es, clock, hb, Ft, hs, hD⟩ := hown
      exact ⟨es, clock, (Below.heap_alloc _ _ b hbl).trans hb, Ft, hs, hD⟩)
  have cS := AnyZI.sorted_in Tryz.sorted66 Fence.wide 5 trivial trivial trivial trivial rfl (by omega) (sorts_in _) (enters_of Tryz.func93 (by kernel_rfl) rfl) 94 #[.pointer (some ⟨w.heap.size, 0, none⟩)] trivial (enters_of Tryz.func94 (by kernel_rfl) rfl) _ _ hmax hbytes _ hseq
  refine ((callsIn_wide (n := 5)).1 cS).mono ?_
  intro e w' h
  rw [World.size_alloc] at h
  exact h

end Go.Proofs.YtocioaondjgceaaGreatDoor
