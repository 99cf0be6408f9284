/- An allocator: Commit: both ranges over maps. -/
import Derived.Test.YtieohjibccjliaaAl5
import Derived.Maps.RangeWalk
set_option linter.unusedVariables false
set_option linter.unusedSimpArgs false
namespace Go.Proofs.Ytieohjibccjliaa
open Go.RowKit Go.Shelf Go.Maps
set_option maxRecDepth 100000

/-! ### Plain: spans are known by their sectors -/
theorem SpOk.ext {n : Int} : ∀ (a b : List Ex), SpOk n a → SpOk n b → (∀ k, hasB a k = hasB b k) → a = b
  | [], [], _, _, _ => rfl
  | [], y :: t, _, hb, h => by
    have hy := hb.2.1 y (List.mem_cons_self ..)
    have := h y.1
    rw [hasB_cons, (inE_iff y y.1).2 ⟨Int.le_refl _, by omega⟩] at this
    cases this
  | x :: r, [], ha, _, h => by
    have hx := ha.2.1 x (List.mem_cons_self ..)
    have := h x.1
    rw [hasB_cons, (inE_iff x x.1).2 ⟨Int.le_refl _, by omega⟩] at this
    cases this
  | x :: r, y :: t, ha, hb, h => by
    have hx := ha.2.1 x (List.mem_cons_self ..)
    have hy := hb.2.1 y (List.mem_cons_self ..)
    have hr := (List.pairwise_cons.1 ha.2.2).1
    have ht := (List.pairwise_cons.1 hb.2.2).1
    have ina : ∀ k, hasB (x :: r) k = true → (x.1 ≤ k ∧ k < x.1 + x.2) ∨ (x.1 + x.2 < k ∧ hasB r k = true) := fun k hk => by
      rw [hasB_cons, Bool.or_eq_true, inE_iff] at hk
      rcases hk with hk | hk
      · exact .inl hk
      · obtain ⟨z, hz, h1, h2⟩ := (hasB_iff r k).1 hk
        exact .inr ⟨by have := hr z hz; omega, hk⟩
    have inb : ∀ k, hasB (y :: t) k = true → (y.1 ≤ k ∧ k < y.1 + y.2) ∨ (y.1 + y.2 < k ∧ hasB t k = true) := fun k hk => by
      rw [hasB_cons, Bool.or_eq_true, inE_iff] at hk
      rcases hk with hk | hk
      · exact .inl hk
      · obtain ⟨z, hz, h1, h2⟩ := (hasB_iff t k).1 hk
        exact .inr ⟨by have := ht z hz; omega, hk⟩
    have mka : ∀ k, x.1 ≤ k → k < x.1 + x.2 → hasB (x :: r) k = true := fun k h1 h2 => by rw [hasB_cons, (inE_iff x k).2 ⟨h1, h2⟩]; rfl
    have mkb : ∀ k, y.1 ≤ k → k < y.1 + y.2 → hasB (y :: t) k = true := fun k h1 h2 => by rw [hasB_cons, (inE_iff y k).2 ⟨h1, h2⟩]; rfl
    have e1 : x.1 = y.1 := by
      have h1 := inb x.1 (by rw [← h]; exact mka _ (by omega) (by omega))
      have h2 := ina y.1 (by rw [h]; exact mkb _ (by omega) (by omega))
      omega
    have e2 : x.2 = y.2 := by
      rcases Int.lt_trichotomy x.2 y.2 with h1 | h1 | h1
      · have := ina (x.1 + x.2) (by rw [h]; exact mkb _ (by omega) (by omega))
        omega
      · exact h1
      · have := inb (y.1 + y.2) (by rw [← h]; exact mka _ (by omega) (by omega))
        omega
    have e : x = y := Prod.ext e1 e2
    subst e
    congr 1
    refine SpOk.ext r t ha.tail hb.tail fun k => ?_
    have hk := h k
    rw [hasB_cons, hasB_cons] at hk
    by_cases hi : inE x k = true
    · have hi2 := (inE_iff x k).1 hi
      rw [hasB_false r k (fun z hz => .inr (by have := hr z hz; omega)), hasB_false t k (fun z hz => .inr (by have := ht z hz; omega))]
    · rw [Bool.not_eq_true] at hi
      rw [hi, Bool.false_or, Bool.false_or] at hk
      exact hk
theorem giveA_in {n : Int} {l : List Ex} (hok : SpOk n l) (a : Int) (ha : 0 ≤ a ∧ a < n) : SpOk n (giveA n l a).1 ∧ ∀ k, hasB (giveA n l a).1 k = (hasB l k || decide (k = a)) := by
  obtain ⟨h1, h2, h3⟩ := giveA_spec hok a
  refine ⟨h1, fun k => ?_⟩
  by_cases hc : (giveA n l a).2 = 0
  · exact (h3 hc).2.2 k
  · rw [h2 hc]
    have hthere : hasB l a = true := by
      rcases fillE_spec hok a (a + 1) (by omega) with ⟨⟨j, hj, hj2⟩, _⟩ | ⟨_, e, _⟩
      · obtain rfl : j = a := by omega
        exact hj2
      · exfalso
        apply hc
        unfold giveA fillA
        rw [if_neg (by omega), if_neg (by omega), if_neg (by omega)]
        exact e
    by_cases e : k = a
    · subst e; rw [hthere]; rfl
    · rw [decide_eq_false e, Bool.or_false]
theorem freeF_spec {n : Int} : ∀ (ks : List Int) (l : List Ex), SpOk n l → (∀ y ∈ ks, 0 ≤ y ∧ y < n) → SpOk n (freeF n l ks) ∧ ∀ k, hasB (freeF n l ks) k = (hasB l k || decide (k ∈ ks))
  | [], l, hok, _ => ⟨hok, fun k => by unfold freeF; simp⟩
  | y :: r, l, hok, h => by
    obtain ⟨g1, g2⟩ := giveA_in hok y (h y (List.mem_cons_self ..))
    obtain ⟨i1, i2⟩ := freeF_spec r _ g1 (fun z hz => h z (List.mem_cons_of_mem _ hz))
    have e : freeF n l (y :: r) = freeF n (giveA n l y).1 r := rfl
    rw [e]
    refine ⟨i1, fun k => ?_⟩
    rw [i2, g2, Bool.or_assoc]
    congr 1
    rw [Bool.eq_iff_iff]
    simp only [Bool.or_eq_true, decide_eq_true_eq, List.mem_cons]

/-! ### Commit -/
def mapK {α β : Type} (f : Int → α → β) (ps : List (Int × α)) : List (Int × β) := ps.map fun p => (p.1, f p.1 p.2)
theorem KS.mapk {α β : Type} {ps : List (Int × α)} (h : KS ps) (f : Int → α → β) : KS (mapK f ps) := by unfold KS mapK; rw [List.pairwise_map]; exact h
theorem getP_mapK {α β : Type} (f : Int → α → β) (ps : List (Int × α)) (k : Int) : getP (mapK f ps) k = (getP ps k).map (f k) := by
  induction ps with
  | nil => rfl
  | cons q r ih =>
    have : mapK f (q :: r) = (q.1, f q.1 q.2) :: mapK f r := rfl
    rw [this, getP_cons, getP_cons, ih]
    dsimp only
    split
    · rename_i e; rw [e]; rfl
    · rfl
theorem mapV_mapK {α β γ : Type} (f : Int → α → β) (g : β → γ) (ps : List (Int × α)) : mapV g (mapK f ps) = mapK (fun k x => g (f k x)) ps := by unfold mapV mapK; rw [List.map_map]; rfl
theorem mapK_mapV {α β γ : Type} (f : α → β) (g : Int → β → γ) (ps : List (Int × α)) : mapK g (mapV f ps) = mapK (fun k x => g k (f x)) ps := by unfold mapV mapK; rw [List.map_map]; rfl
/-- chains' state when those keys are still to come -/
def sureC (left : Lit → Bool) (p : Int) (c : Ch) : Ch := (c.1, c.2.1, c.2.2 || !left (.int .i64 p))
def sureX (left : Lit → Bool) (p : Int) (y : CB) : CB := (y.1, y.2.1, sureC left p y.2.2)
def commitA (s : AlS) : AlS := { s with ch := mapV (fun c => (c.1, c.2.1, true)) s.ch, wait := [], free := freeF s.n s.free (s.wait.map (·.1)) }
theorem ranges_upd {F : Nat → Prop} {w w' : World} {R : Value → Option (DataW Unit × List MemPlace)} {b r n : Nat} {D : DataW Unit} {left : Lit → Bool} {cnt : Nat} (h : w.ranges (H := Unit) Try.prog 3 R b r n D left cnt) (hu : Upd F w w') (h1 : ¬ F b) (h2 : ¬ F r) : w'.ranges (H := Unit) Try.prog 3 R b r n D left cnt := by
  obtain ⟨es, clock, since, seen, c0, hb, q1, q2, q3, hr, rest⟩ := h
  exact ⟨es, clock, since, seen, c0, hu.heap hb h1, q1, q2, q3, hu.heap hr h2, rest⟩
theorem ranges_iter {w : World} {R : Value → Option (DataW Unit × List MemPlace)} {b r n : Nat} {D : DataW Unit} {left : Lit → Bool} {cnt : Nat} (h : w.ranges (H := Unit) Try.prog 3 R b r n D left cnt) : ∃ x y z u, w.heap[r]? = some (.mapIter x y z u) := by
  obtain ⟨es, clock, since, seen, c0, hb, q1, q2, q3, hr, rest⟩ := h
  exact ⟨_, _, _, _, hr⟩
theorem ranges_ne {w : World} {R : Value → Option (DataW Unit × List MemPlace)} {b r n : Nat} {D : DataW Unit} {left : Lit → Bool} {cnt : Nat} (h : w.ranges (H := Unit) Try.prog 3 R b r n D left cnt) {k : Nat} {cs : Array Value} {t : TypeId} {fr : Nat × Nat} (hk : w.heap[k]? = some (.cells cs t fr)) : k ≠ r ∧ k ≠ b := by
  obtain ⟨es, clock, since, seen, c0, hb, q1, q2, q3, hr, rest⟩ := h
  refine ⟨fun e => ?_, fun e => ?_⟩
  · rw [e, hr] at hk; cases hk
  · rw [e, hb] at hk; cases hk
/-- What is neither cells nor a map is no block of an allocator. -/
theorem AlAt.iter {lo : Nat} {w w' : World} {b : Nat} {s : AlS} {h : AlB} (H : AlAt lo w b s h) {k : Nat} (hk : ∃ x y z u, w.heap[k]? = some (.mapIter x y z u)) (hu : Upd (fun i => i = k) w w') : AlAt lo w' b s h := by
  obtain ⟨x, y, z, u, hk⟩ := hk
  have hne : ∀ (i : Nat) (cs : Array Value) (t : TypeId) (fr : Nat × Nat), w.heap[i]? = some (.cells cs t fr) → i ≠ k := fun i cs t fr hi e => by rw [e, hk] at hi; cases hi
  have hnm : ∀ {R : Value → Option (DataW Unit × List MemPlace)} {m : Nat} {D : DataW Unit}, w.ownsMap (H := Unit) Try.prog 3 R m 5000 D → m ≠ k := fun ho e => by
    obtain ⟨es, clock, hb, _⟩ := ho
    rw [e, hk] at hb; cases hb
  refine H.upd hu (hne _ _ _ _ H.obj) (hne _ _ _ _ H.set.set) (fun r hr e => ?_) (hnm H.chains) (hnm H.wait) (fun x hx => ?_)
  · rcases H.set.row with ⟨_, e2, _⟩ | ⟨r', off, cap, cur, e2, _, e3, _⟩
    · rw [e2] at hr; cases hr
    · rw [e2] at hr; cases hr; exact hne _ _ _ _ e3 e
  · obtain ⟨v1, h1, off, cap, cur, _, hrow, _⟩ := H.each x hx
    exact ⟨hne _ _ _ _ h1, hne _ _ _ _ hrow⟩
def optP (o : Option Nat) : Value := match o with | some b => .pointer (some ⟨b, 0, none⟩) | none => .pointer none
theorem ptrRn_form (v : Value) (y : DataW Unit × List MemPlace) (h : ptrRn v = some y) : ∃ c, v = optP c := by
  unfold ptrRn at h
  split at h
  · exact ⟨none, rfl⟩
  · rename_i b; exact ⟨some b, rfl⟩
  · cases h
theorem intKey_form (key : Value) (kl : Lit) (h : keyOf Try.prog 3 key = some kl) : ∃ x, key = Value.int .i64 x := by
  obtain ⟨x, h1, _⟩ := Maps.keyOf_int_inv Try.underlying3 h
  exact ⟨x, h1⟩
theorem clear_map {R : Value → Option (DataW Unit × List MemPlace)} {w : World} {bw n : Nat} {D : DataW Unit} (h : w.ownsMap (H := Unit) Try.prog 3 R bw n D) :
    ∃ w', (∀ ty, (Builtin.clear_ #[64] ty #[.map (some bw)]).run Try.prog w = .ok (.tuple #[]) w') ∧ w'.ownsMap (H := Unit) Try.prog 3 R bw 0 (.map []) ∧ Upd (fun i => i = bw) w w' := by
  obtain ⟨es, clock, hb, F, _, _⟩ := h
  have hlt := lt_of_heap hb
  refine ⟨{ w with heap := w.heap.setIfInBounds bw (.map #[] clock) }, fun ty => by simp [Builtin.clear_, run_underlying Try.underlying64, MapKept.run_getObj_map hb, MapKept.run_setObj_map _ hb, Result.andThen], ⟨#[], clock, by simp [hlt], ⟨by simp, MapKept.stamped_empty _, by simp⟩, Nat.le_refl _, rfl⟩, ⟨rfl, rfl, rfl, by simp, fun k hk hn => by simp [Array.getElem?_setIfInBounds, Ne.symm hn]⟩⟩

end Go.Proofs.Ytieohjibccjliaa
