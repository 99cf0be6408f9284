/- An allocator: New. -/
import Derived.Test.YtieohjibccjliaaAl8
set_option linter.unusedVariables false
set_option linter.unusedSimpArgs false
namespace Go.Proofs.Ytieohjibccjliaa
open Go.RowKit Go.Shelf Go.Maps
set_option maxRecDepth 100000

def newA (from_ n : Int) : AlS := { n := n, free := [(from_, n - from_)], ch := [], wait := [] }
theorem heap_alloc2 (w : World) (o o2 o3 : Obj) : (((w.alloc o).alloc o2).alloc o3).heap[w.heap.size]? = some o ∧ (((w.alloc o).alloc o2).alloc o3).heap[w.heap.size + 1]? = some o2 ∧ (((w.alloc o).alloc o2).alloc o3).heap[w.heap.size + 2]? = some o3 := by
  refine ⟨?_, ?_, ?_⟩
  · rw [Below.heap_alloc _ _ _ (by simp; omega), Below.heap_alloc _ _ _ (by simp)]; exact heap_alloc_new w o
  · rw [Below.heap_alloc _ _ _ (by simp)]; exact heap_alloc_new2 w o o2
  · have := heap_alloc_new ((w.alloc o).alloc o2) o3
    simp only [World.size_alloc] at this
    exact this
theorem ownsMap_nil (R : Value → Option (DataW Unit × List MemPlace)) {w : World} {b n : Nat} (h : w.heap[b]? = some (.map #[] 0)) : w.ownsMap (H := Unit) Try.prog 3 R b n (mD []) :=
  ⟨#[], 0, h, ⟨by simp, MapKept.stamped_empty 0, by simp⟩, Nat.zero_le _, rfl⟩
theorem AlAt.fresh {lo : Nat} {w1 : World} {bs : Nat} {v : Value} {n : Int} (hs : SpAt w1 bs none n v []) (hb : lo ≤ bs) (hlo : lo ≤ w1.heap.size) :
    AlAt lo (((w1.alloc (.map #[] 0)).alloc (.map #[] 0)).alloc (.cells #[.pointer (some ⟨bs, 0, none⟩), .map (some w1.heap.size), .map (some (w1.heap.size + 1))] 66)) (w1.heap.size + 2) { n := n, free := [], ch := [], wait := [] } { bs := bs, row := none, v := v, bc := w1.heap.size, bw := w1.heap.size + 1, xs := [] } := by
  obtain ⟨h1, h2, h3⟩ := heap_alloc2 w1 (.map #[] 0) (.map #[] 0) (.cells #[.pointer (some ⟨bs, 0, none⟩), .map (some w1.heap.size), .map (some (w1.heap.size + 1))] 66)
  have hu : Upd (fun _ => False) w1 (((w1.alloc (.map #[] 0)).alloc (.map #[] 0)).alloc (.cells #[.pointer (some ⟨bs, 0, none⟩), .map (some w1.heap.size), .map (some (w1.heap.size + 1))] 66)) := (((Upd.refl _ w1).alloc _).alloc _).alloc _
  refine ⟨h3, hs.upd hu (fun f => f) (fun _ _ f => f), ownsMap_nil _ h1, ownsMap_nil _ h2, rfl, fun x hx => (by cases hx), fun x hx => (by cases hx), by dsimp only; omega, ?_⟩
  dsimp only
  refine ⟨by omega, hb, fun r e => (by cases e), by omega, by omega, fun x hx => (by cases hx)⟩
theorem AlOk.empty {n : Int} {l : List Ex} (h : SpOk n l) : AlOk { n := n, free := l, ch := [], wait := [] } := ⟨h, List.Pairwise.nil, List.Pairwise.nil, fun x hx => (by cases hx), fun x hx => (by cases hx)⟩
theorem AlSt.give1 {lo : Nat} {w : World} {b : Nat} {s : AlS} {h : AlB} {wr : World} {xs' : List (Int × CB)} (H : AlSt lo w b h wr s xs') (hlo : lo ≤ w.heap.size) (y : Int) :
    wr.cell? ⟨b, 0, none⟩ = some (.pointer (some ⟨h.bs, 0, none⟩)) ∧ Calls Try.prog 32 #[.pointer (some ⟨h.bs, 0, none⟩), .int .i64 y] wr fun e w' => (∃ v, e = .returned (.int .i64 v)) ∧ AlSt lo w b h w' { s with free := (giveA s.n s.free y).1 } xs' ∧ Upd (fun i => i = h.bs ∨ (∃ row v, AlAt lo wr b s { bs := h.bs, row := row, v := v, bc := h.bc, bw := h.bw, xs := xs' } ∧ row = some i)) wr w' := by
  obtain ⟨row, v, h1, h2, h3, h4⟩ := H
  refine ⟨cell_heap h1.obj 0 _ rfl, ?_⟩
  refine (sp_Give h1.set h2.free y).mono ?_
  rintro e w' ⟨rfl, hp⟩
  obtain ⟨a1, a2⟩ := AlSt.free hlo h1 h2 h3 h4 (giveA_spec h2.free y).1 hp
  exact ⟨⟨_, rfl⟩, a1, a2.mono (fun i _ e => e.imp (fun e => e) (fun e => ⟨row, v, h1, e⟩))⟩
theorem one_span {n f : Int} (h : 0 ≤ f ∧ f < n ∧ n ≤ 4096) : SpOk n [(f, n - f)] := ⟨by omega, fun x hx => by simp at hx; subst hx; dsimp only; omega, List.pairwise_singleton _ _⟩
theorem one_end {n f : Int} (h : 0 ≤ f ∧ f < n ∧ n ≤ 4096) {l : List Ex} (hok : SpOk n l) (hh : ∀ k, hasB l k = (decide (f ≤ k) && decide (k < n))) : l = [(f, n - f)] :=
  SpOk.ext _ _ hok (one_span h) fun k => by
    rw [hh, hasB_cons, hasB_nil, Bool.or_false]
    unfold inE
    rw [show (f, n - f).1 + (f, n - f).2 = n by dsimp only; omega]
theorem al_New_no (w : World) (f n : Int) (h : ¬ (0 ≤ f ∧ f < n ∧ n ≤ 4096)) : Calls Try.prog 8 #[.int .i64 f, .int .i64 n] w fun e w' => e = .returned (.pointer none) ∧ w = w' := by
  by_cases h1 : f < 0
  · clear h
    go_enter Try.func8, Try.ntmps8
    go_wp2
    go_ret
    exact ⟨rfl, rfl⟩
  · by_cases h2 : n ≤ f
    · clear h
      go_enter Try.func8, Try.ntmps8
      go_wp2
      go_ret
      exact ⟨rfl, rfl⟩
    · have h3 : 4096 < n := by omega
      clear h
      go_enter Try.func8, Try.ntmps8
      go_wp2
      go_ret
      exact ⟨rfl, rfl⟩
theorem al_New (w : World) (f n : Int) (h : 0 ≤ f ∧ f < n ∧ n ≤ 4096) : Calls Try.prog 8 #[.int .i64 f, .int .i64 n] w fun e w' => ∃ b, e = .returned (.pointer (some ⟨b, 0, none⟩)) ∧ Al w w' b (newA f n) := by
  have HN := Lib.hid (sp_New w n (by omega))
  have hmm := @run_makeMap Try.prog
  obtain ⟨F, rfl⟩ := Int.eq_ofNat_of_zero_le h.1
  obtain ⟨M, rfl⟩ : ∃ M : Nat, n = (M : Int) := ⟨n.toNat, by omega⟩
  have HH := Lib.hid h
  have h1 : decide ((F : Int) ≥ (M : Int)) = false := decide_eq_false (by omega)
  have h1b : ¬ ((F : Int) ≥ (M : Int)) := by omega
  have h2 : decide ((M : Int) > 4096) = false := decide_eq_false (by omega)
  have h2b : ¬ ((M : Int) > 4096) := by omega
  have h0 : ¬ ((F : Int) < 0) := by omega
  clear h
  go_enter Try.func8, Try.ntmps8
  go_wp2_with (go_at_call 31; refine HN.out.mono ?_; rintro e w1 ⟨bs, rfl, hb, hs, hu⟩; have HA := Lib.hid (AlAt.fresh (lo := w.heap.size) hs hb hu.size); have HU := Lib.hid (show Upd (fun _ => False) w _ from (((hu.alloc (.map #[] 0)).alloc (.map #[] 0)).alloc (.cells #[.pointer (some ⟨bs, 0, none⟩), .map (some w1.heap.size), .map (some (w1.heap.size + 1))] 66))); clear hs hu hb)
  rw [show w1.heap.size + 2 = w1.heap.size + 1 + 1 from rfl] at HA
  generalize (((w1.alloc (.map #[] 0)).alloc (.map #[] 0)).alloc (.cells #[.pointer (some ⟨bs, 0, none⟩), .map (some w1.heap.size), .map (some (w1.heap.size + 1))] 66)) = W at HA HU ⊢
  generalize w1.heap.size + 1 + 1 = B at HA ⊢
  obtain ⟨h0, hh0⟩ : ∃ h0 : AlB, h0 = { bs := bs, row := none, v := .slice none 0 0, bc := w1.heap.size, bw := w1.heap.size + 1, xs := [] } := ⟨_, rfl⟩
  have hbs : h0.bs = bs := by rw [hh0]
  have hxs : h0.xs = [] := by rw [hh0]
  rw [← hh0] at HA
  have HLO := Lib.hid HU.out.size
  have HOK0 : SpOk (M : Int) [] := SpOk.nil (by have := HH.out; omega)
  have HST := Lib.hid (AlSt.start HA.out (AlOk.empty HOK0))
  have HOK := Lib.hid HOK0
  obtain ⟨N, hN⟩ : ∃ N : Nat, (F : Int) + N = M := ⟨M - F, by omega⟩
  clear hh0 HOK0
  go_loopg [6] N (fun kx s6 wr => ∃ i : Nat, s6 = .int .i64 ((F + i : Nat) : Int) ∧ i + kx = N ∧ Hid (∃ l, AlSt w.heap.size W B h0 wr { n := (M : Int), free := l, ch := [], wait := [] } h0.xs ∧ SpOk (M : Int) l ∧ ∀ k, hasB l k = (decide ((F : Int) ≤ k) && decide (k < ((F + i : Nat) : Int)))))
  case atStart =>
    refine ⟨0, rfl, by omega, Lib.hid ⟨[], HST.out, HOK.out, fun k => ?_⟩⟩
    rw [hasB_nil]; simp
  case round =>
    obtain ⟨i, rfl, hik, HI⟩ := hrel
    cases gk with
    | zero =>
      have hd : decide (((F + i : Nat) : Int) < (M : Int)) = false := decide_eq_false (by omega)
      have hd2 : ¬ (((F + i : Nat) : Int) < (M : Int)) := by omega
      go_wp2
      go_ret
      obtain ⟨l, q, q2, q3⟩ := HI.out
      obtain ⟨row, v, a1, a2, a3, a4⟩ := q
      have e := one_end (n := (M : Int)) (f := (F : Int)) HH.out q2 (fun k => by rw [q3 k, show ((F + i : Nat) : Int) = (M : Int) by omega])
      rw [e] at a1 a2
      exact ⟨B, rfl, ⟨HU.out.trans a4 (fun i hi e => by have := HA.out.lowF i e; omega), a2, ⟨_, a1⟩⟩⟩
    | succ g =>
      have hd : decide (((F + i : Nat) : Int) < (M : Int)) = true := decide_eq_true (by omega)
      have hd2 : (((F + i : Nat) : Int) < (M : Int)) := by omega
      have hw1 : IntKind.i64.wrap (((F + i : Nat) : Int) + 1) = ((F + i : Nat) : Int) + 1 := IntWalk.i64_in _ (by have := HH.out; omega)
      obtain ⟨l, q, q2, q3⟩ := HI.out
      obtain ⟨c0, HG⟩ := q.give1 HLO.out ((F + i : Nat) : Int)
      have HG2 := Lib.hid HG
      have HGS := Lib.hid (giveA_in q2 ((F + i : Nat) : Int) (by have := HH.out; omega))
      have HQ3 := Lib.hid q3
      rw [hbs] at c0 HG2
      clear HG q q2 q3
      go_wp2_with (go_at_call 32; refine HG2.out.mono ?_; rintro e w2 ⟨⟨v, rfl⟩, D2, _⟩)
      go_roundg g
      case measure => omega
      case rel =>
        refine ⟨i + 1, by congr 1 <;> omega, by omega, Lib.hid ⟨_, D2, HGS.out.1, fun k => ?_⟩⟩
        rw [HGS.out.2, HQ3.out, Bool.eq_iff_iff]
        simp only [Bool.or_eq_true, Bool.and_eq_true, decide_eq_true_eq]
        omega

end Go.Proofs.Ytieohjibccjliaa
