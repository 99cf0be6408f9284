/- Maps from ints, as lists sorted by their keys. -/
import Derived.Test.YtieohjibccjliaaBase
import Derived.Test.YtieohjibccjliaaProg
import Derived.Maps.OwnSet
import Derived.Maps.OwnOps
import Derived.Maps.Ext
import Derived.Maps.RangeWalk
set_option linter.unusedVariables false
set_option linter.unusedSimpArgs false
namespace Go.Proofs.Ytieohjibccjliaa
open Go.RowKit Go.Maps

/-- a list sorted by keys -/
def KS {α : Type} (ps : List (Int × α)) : Prop := ps.Pairwise (fun p q => p.1 < q.1)
def getP {α : Type} (ps : List (Int × α)) (k : Int) : Option α := (ps.find? (fun p => decide (p.1 = k))).map (·.2)
def putP {α : Type} : List (Int × α) → Int → α → List (Int × α)
  | [], k, v => [(k, v)]
  | p :: r, k, v => if k < p.1 then (k, v) :: p :: r else if k = p.1 then (k, v) :: r else p :: putP r k v
def delP {α : Type} (ps : List (Int × α)) (k : Int) : List (Int × α) := ps.filter (fun p => decide (p.1 ≠ k))
def mapV {α β : Type} (f : α → β) (ps : List (Int × α)) : List (Int × β) := ps.map fun p => (p.1, f p.2)
def entP (p : Int × Int) : Lit × DataW Unit := (.int .i64 p.1, .lit (.int .i64 p.2))
def mD (ps : List (Int × Int)) : DataW Unit := .map (ps.map entP)
section
variable {α : Type}
theorem getP_nil (k : Int) : getP ([] : List (Int × α)) k = none := rfl
theorem getP_cons (p : Int × α) (r : List (Int × α)) (k : Int) : getP (p :: r) k = if p.1 = k then some p.2 else getP r k := by
  unfold getP
  rw [List.find?_cons]
  by_cases h : p.1 = k
  · rw [decide_eq_true h, if_pos h]; rfl
  · rw [decide_eq_false h, if_neg h]
theorem getP_mem {ps : List (Int × α)} {k : Int} {v : α} (h : getP ps k = some v) : (k, v) ∈ ps := by
  induction ps with
  | nil => cases h
  | cons p r ih =>
    rw [getP_cons] at h
    split at h
    · rename_i e; cases h; subst e; exact List.mem_cons_self ..
    · exact List.mem_cons_of_mem _ (ih h)
theorem KS.get {ps : List (Int × α)} (h : KS ps) {p : Int × α} (hp : p ∈ ps) : getP ps p.1 = some p.2 := by
  induction ps with
  | nil => cases hp
  | cons q r ih =>
    rw [getP_cons]
    obtain ⟨h1, h2⟩ := List.pairwise_cons.1 h
    rcases List.mem_cons.1 hp with rfl | hp
    · rw [if_pos rfl]
    · rw [if_neg (by have := h1 p hp; omega), ih h2 hp]
theorem putP_mem {ps : List (Int × α)} {k : Int} {v : α} {p : Int × α} (h : p ∈ putP ps k v) : p = (k, v) ∨ p ∈ ps := by
  induction ps with
  | nil => simp [putP] at h; exact .inl h
  | cons q r ih =>
    unfold putP at h
    split at h
    · rcases List.mem_cons.1 h with h | h
      · exact .inl h
      · exact .inr h
    · split at h
      · rcases List.mem_cons.1 h with h | h
        · exact .inl h
        · exact .inr (List.mem_cons_of_mem _ h)
      · rcases List.mem_cons.1 h with h | h
        · exact .inr (h ▸ List.mem_cons_self ..)
        · rcases ih h with h | h
          · exact .inl h
          · exact .inr (List.mem_cons_of_mem _ h)
theorem KS.put {ps : List (Int × α)} (h : KS ps) (k : Int) (v : α) : KS (putP ps k v) := by
  induction ps with
  | nil => exact List.pairwise_singleton _ _
  | cons q r ih =>
    obtain ⟨h1, h2⟩ := List.pairwise_cons.1 h
    unfold putP
    split
    · rename_i e
      exact List.pairwise_cons.2 ⟨fun p hp => by
        rcases List.mem_cons.1 hp with rfl | hp
        · exact e
        · have := h1 p hp; exact Int.lt_trans e this, h⟩
    · split
      · rename_i e1 e2
        exact List.pairwise_cons.2 ⟨fun p hp => by have := h1 p hp; subst e2; exact this, h2⟩
      · rename_i e1 e2
        refine List.pairwise_cons.2 ⟨fun p hp => ?_, ih h2⟩
        rcases putP_mem hp with rfl | hp
        · show q.1 < k; omega
        · exact h1 p hp
theorem getP_put (ps : List (Int × α)) (h : KS ps) (k : Int) (v : α) (j : Int) : getP (putP ps k v) j = if j = k then some v else getP ps j := by
  induction ps with
  | nil => rw [putP, getP_cons, getP_nil]; dsimp only; by_cases e : k = j <;> simp [e, eq_comm]
  | cons q r ih =>
    obtain ⟨h1, h2⟩ := List.pairwise_cons.1 h
    unfold putP
    split
    · rw [getP_cons]; dsimp only
      by_cases e : k = j
      · rw [if_pos e, if_pos e.symm]
      · rw [if_neg e, if_neg (fun f => e f.symm)]
    · split
      · rename_i e1 e2
        rw [getP_cons, getP_cons]; dsimp only
        by_cases e : k = j
        · rw [if_pos e, if_pos e.symm]
        · rw [if_neg e, if_neg (fun f => e f.symm), if_neg (by omega)]
      · rename_i e1 e2
        rw [getP_cons, getP_cons, ih h2]
        by_cases e : q.1 = j
        · rw [if_pos e, if_pos e, if_neg (by omega)]
        · rw [if_neg e, if_neg e]
theorem KS.del {ps : List (Int × α)} (h : KS ps) (k : Int) : KS (delP ps k) := h.filter _
theorem getP_del (ps : List (Int × α)) (k j : Int) : getP (delP ps k) j = if j = k then none else getP ps j := by
  induction ps with
  | nil => simp [delP, getP_nil]
  | cons q r ih =>
    unfold delP at ih ⊢
    rw [List.filter_cons]
    by_cases e : q.1 = k
    · rw [if_neg (by simpa using e), ih, getP_cons]
      by_cases e2 : j = k
      · rw [if_pos e2, if_pos e2]
      · rw [if_neg e2, if_neg e2, if_neg (by omega)]
    · rw [if_pos (by simpa using e), getP_cons, ih, getP_cons]
      by_cases e2 : q.1 = j
      · rw [if_pos e2, if_pos e2, if_neg (by omega)]
      · rw [if_neg e2, if_neg e2]
theorem putP_len (ps : List (Int × α)) (k : Int) (v : α) : (putP ps k v).length ≤ ps.length + 1 := by
  induction ps with
  | nil => simp [putP]
  | cons q r ih =>
    unfold putP
    split
    · simp
    · split
      · simp
      · simp; exact ih
theorem mapV_len {β : Type} (f : α → β) (ps : List (Int × α)) : (mapV f ps).length = ps.length := by unfold mapV; simp
theorem KS.mapd {β : Type} {ps : List (Int × α)} (h : KS ps) (f : α → β) : KS (mapV f ps) := List.pairwise_map.2 h
theorem KS.of_map {β : Type} {ps : List (Int × α)} {f : α → β} (h : KS (mapV f ps)) : KS ps := by unfold KS mapV at h; rw [List.pairwise_map] at h; exact h
theorem getP_map {β : Type} (f : α → β) (ps : List (Int × α)) (k : Int) : getP (mapV f ps) k = (getP ps k).map f := by
  induction ps with
  | nil => rfl
  | cons q r ih =>
    have : mapV f (q :: r) = (q.1, f q.2) :: mapV f r := rfl
    rw [this, getP_cons, getP_cons, ih]
    dsimp only
    split <;> rfl
theorem putP_map {β : Type} (f : α → β) (ps : List (Int × α)) (k : Int) (v : α) : mapV f (putP ps k v) = putP (mapV f ps) k (f v) := by
  induction ps with
  | nil => rfl
  | cons q r ih =>
    have : mapV f (q :: r) = (q.1, f q.2) :: mapV f r := rfl
    rw [this]
    unfold putP
    dsimp only
    split
    · rfl
    · split
      · rfl
      · rw [← ih]; rfl
theorem delP_map {β : Type} (f : α → β) (ps : List (Int × α)) (k : Int) : mapV f (delP ps k) = delP (mapV f ps) k := by
  induction ps with
  | nil => rfl
  | cons q r ih =>
    have : mapV f (q :: r) = (q.1, f q.2) :: mapV f r := rfl
    rw [this]
    unfold delP at *
    rw [List.filter_cons, List.filter_cons]
    dsimp only
    split
    · rw [← ih]; rfl
    · exact ih
theorem mapV_mapV {β γ : Type} (f : α → β) (g : β → γ) (ps : List (Int × α)) : mapV g (mapV f ps) = mapV (fun x => g (f x)) ps := by unfold mapV; rw [List.map_map]; rfl
/-- A map sorted by keys is known by what it answers. -/
theorem KS.ext {a b : List (Int × α)} (ha : KS a) (hb : KS b) (h : ∀ k, getP a k = getP b k) : a = b := by
  induction a generalizing b with
  | nil =>
    cases b with
    | nil => rfl
    | cons q r => have := h q.1; rw [getP_nil, getP_cons, if_pos rfl] at this; cases this
  | cons p r ih =>
    cases b with
    | nil => have := h p.1; rw [getP_nil, getP_cons, if_pos rfl] at this; cases this
    | cons q t =>
      obtain ⟨a1, a2⟩ := List.pairwise_cons.1 ha
      obtain ⟨b1, b2⟩ := List.pairwise_cons.1 hb
      have hpq : p.1 = q.1 := by
        have h1 := h p.1
        rw [getP_cons, if_pos rfl, getP_cons] at h1
        split at h1
        · rename_i e; exact e.symm
        · have h2 := b1 _ (getP_mem h1.symm)
          have h3 := h q.1
          rw [getP_cons, getP_cons, if_pos rfl] at h3
          split at h3
          · rename_i e; exact e
          · have h4 := a1 _ (getP_mem h3)
            dsimp only at h2 h4
            omega
      have hv : p.2 = q.2 := by
        have h1 := h p.1
        rw [getP_cons, if_pos rfl, getP_cons, if_pos hpq.symm] at h1
        exact Option.some.inj h1
      have e : p = q := Prod.ext hpq hv
      subst e
      congr 1
      refine ih a2 b2 fun k => ?_
      have h1 := h k
      rw [getP_cons, getP_cons] at h1
      split at h1
      · rename_i e
        have g1 : getP r k = none := by
          cases hg : getP r k with
          | none => rfl
          | some v => have := a1 _ (getP_mem hg); dsimp only at this; omega
        have g2 : getP t k = none := by
          cases hg : getP t k with
          | none => rfl
          | some v => have := b1 _ (getP_mem hg); dsimp only at this; omega
        rw [g1, g2]
      · exact h1
end
theorem key_lit (k : Int) : WideAt.IsKeyLit (.int .i64 k) := trivial
theorem KS.rising {ps : List (Int × Int)} (h : KS ps) : (ps.map entP).Pairwise (fun p q => p.1.before q.1 = true) := by
  rw [List.pairwise_map]
  refine h.imp (fun {p q} hpq => ?_)
  show (Lit.before (.int .i64 p.1) (.int .i64 q.1)) = true
  simp [Lit.before]; omega
theorem KS.canon {ps : List (Int × Int)} (h : KS ps) : Canon (mD ps) := ⟨_, rfl, h.rising, fun p hp => by obtain ⟨q, _, rfl⟩ := List.mem_map.1 hp; exact key_lit _⟩
theorem mD_map (ps : List (Int × Int)) : IsMap (mD ps) := ⟨_, rfl⟩
theorem mD_has (ps : List (Int × Int)) (k : Int) : has (mD ps) (.int .i64 k) = (getP ps k).isSome := by
  unfold mD
  rw [has_eq]
  induction ps with
  | nil => rfl
  | cons q r ih =>
    rw [List.map_cons, List.any_cons, ih, getP_cons]
    by_cases e : q.1 = k
    · rw [if_pos e, show (entP q).1 = .int .i64 k by rw [← e]; rfl, WideAt.sameKey_self (key_lit k)]; rfl
    · rw [if_neg e]
      have : ((entP q).1).sameKey (.int .i64 k) = false := by
        rw [← Bool.not_eq_true]
        intro hs
        have := WideAt.sameKey_eq hs
        simp [entP] at this
        exact e this
      rw [this, Bool.false_or]
theorem mD_has_only (ps : List (Int × Int)) (key : Lit) (h : has (mD ps) key = true) : ∃ k, key = .int .i64 k := by
  unfold mD at h
  rw [has_eq, List.any_eq_true] at h
  obtain ⟨p, hp, hs⟩ := h
  obtain ⟨q, _, rfl⟩ := List.mem_map.1 hp
  exact ⟨q.1, (WideAt.sameKey_eq hs).symm⟩
theorem mD_at {ps : List (Int × Int)} (h : KS ps) {k v : Int} (hk : getP ps k = some v) (z : DataW Unit) : (mD ps).atKey (.int .i64 k) z = .lit (.int .i64 v) :=
  WideAt.atKey_mem z (key_lit k) (apart_of_rising h.rising) (List.mem_map.2 ⟨_, getP_mem hk, rfl⟩)
theorem mD_put {ps : List (Int × Int)} (h : KS ps) (k v : Int) (hc : Canon ((mD ps).put (.int .i64 k) (.lit (.int .i64 v)))) : (mD ps).put (.int .i64 k) (.lit (.int .i64 v)) = mD (putP ps k v) := by
  refine Maps.ext hc (h.put k v).canon (fun key => ?_) (fun key z hh => ?_)
  · by_cases e : key = .int .i64 k
    · subst e
      rw [has_put_same (mD_map ps) (key_lit k), mD_has, getP_put ps h, if_pos rfl]; rfl
    · rw [has_put_other e]
      rw [Bool.eq_iff_iff]
      constructor
      · intro hh
        obtain ⟨j, rfl⟩ := mD_has_only _ _ hh
        rw [mD_has] at hh ⊢
        rw [getP_put ps h, if_neg (fun f => e (by rw [f]))]; exact hh
      · intro hh
        obtain ⟨j, rfl⟩ := mD_has_only _ _ hh
        rw [mD_has] at hh ⊢
        rw [getP_put ps h, if_neg (fun f => e (by rw [f]))] at hh; exact hh
  · by_cases e : key = .int .i64 k
    · subst e
      rw [atKey_put_same (mD_map ps) (key_lit k), mD_at (h.put k v) (by rw [getP_put ps h, if_pos rfl])]
    · rw [has_put_other e] at hh
      obtain ⟨j, rfl⟩ := mD_has_only _ _ hh
      rw [mD_has] at hh
      obtain ⟨x, hx⟩ := Option.isSome_iff_exists.1 hh
      rw [atKey_put_other e, mD_at h hx, mD_at (h.put k v) (by rw [getP_put ps h, if_neg (fun f => e (by rw [f]))]; exact hx)]
theorem mD_del {ps : List (Int × Int)} (h : KS ps) (k : Int) (hc : Canon ((mD ps).del (.int .i64 k))) : (mD ps).del (.int .i64 k) = mD (delP ps k) := by
  refine Maps.ext hc (h.del k).canon (fun key => ?_) (fun key z hh => ?_)
  · by_cases e : key = .int .i64 k
    · subst e
      rw [has_del_same, mD_has, getP_del, if_pos rfl]; rfl
    · rw [has_del_other e]
      rw [Bool.eq_iff_iff]
      constructor
      · intro hh
        obtain ⟨j, rfl⟩ := mD_has_only _ _ hh
        rw [mD_has] at hh ⊢
        rw [getP_del, if_neg (fun f => e (by rw [f]))]; exact hh
      · intro hh
        obtain ⟨j, rfl⟩ := mD_has_only _ _ hh
        rw [mD_has] at hh ⊢
        rw [getP_del, if_neg (fun f => e (by rw [f]))] at hh; exact hh
  · by_cases e : key = .int .i64 k
    · subst e
      rw [has_del_same] at hh; cases hh
    · rw [has_del_other e] at hh
      obtain ⟨j, rfl⟩ := mD_has_only _ _ hh
      rw [mD_has] at hh
      obtain ⟨x, hx⟩ := Option.isSome_iff_exists.1 hh
      rw [atKey_del_other e, mD_at h hx, mD_at (h.del k) (by rw [getP_del, if_neg (fun f => e (by rw [f]))]; exact hx)]
theorem mD_size (ps : List (Int × Int)) : Maps.size (mD ps) = ps.length := by
  show (ps.map entP).length = _
  rw [List.length_map]
theorem KI : Keyed Try.prog 3 := int_keyed Try.underlying3
theorem key_of (k : Int) (hk : -9223372036854775808 ≤ k ∧ k ≤ 9223372036854775807) : keyOf Try.prog 3 (.int .i64 k) = some (.int .i64 k) := keyOf_int_mk Try.underlying3 (by simp [Lit.wf, IntKind.min, IntKind.max, IntKind.bits, IntKind.signed]; omega)
/-- How a pointer to a whole block reads: by the block's number. -/
def ptrR (v : Value) : Option (DataW Unit × List MemPlace) :=
  match v with
  | .pointer (some ⟨b, 0, none⟩) => some (.lit (.int .i64 (b : Int)), [])
  | _ => none
/-- nil reads as -1 -/
def ptrRn (v : Value) : Option (DataW Unit × List MemPlace) :=
  match v with
  | .pointer none => some (.lit (.int .i64 (-1)), [])
  | .pointer (some ⟨b, 0, none⟩) => some (.lit (.int .i64 (b : Int)), [])
  | _ => none
theorem ptrRn_inv {v : Value} {x : Int} {ps : List MemPlace} (h : ptrRn v = some (.lit (.int .i64 x), ps)) : (x = -1 ∧ v = .pointer none) ∨ ∃ b : Nat, x = (b : Int) ∧ v = .pointer (some ⟨b, 0, none⟩) := by
  unfold ptrRn at h
  split at h
  · simp at h; exact .inl ⟨h.1.symm, rfl⟩
  · simp at h; exact .inr ⟨_, h.1.symm, rfl⟩
  · cases h
/-- any number, as zero -/
def anyR (v : Value) : Option (DataW Unit × List MemPlace) :=
  match v with
  | .int .i64 _ => some (.lit (.int .i64 0), [])
  | _ => none
theorem anyR_inv {v : Value} {y : DataW Unit × List MemPlace} (h : anyR v = some y) : ∃ x, v = .int .i64 x := by
  unfold anyR at h
  split at h
  · exact ⟨_, rfl⟩
  · cases h
def intR (v : Value) : Option (DataW Unit × List MemPlace) :=
  match v with
  | .int .i64 x => some (.lit (.int .i64 x), [])
  | _ => none
theorem intR_inv {v : Value} {x : Int} {ps : List MemPlace} (h : intR v = some (.lit (.int .i64 x), ps)) : v = .int .i64 x := by
  unfold intR at h
  split at h
  · simp at h; rw [h.1]
  · cases h

end Go.Proofs.Ytieohjibccjliaa
