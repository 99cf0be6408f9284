/- An allocator: Load, plain; what is known on its way. -/
import Derived.Test.YtieohjibccjliaaAlC
set_option linter.unusedVariables false
set_option linter.unusedSimpArgs false
namespace Go.Proofs.Ytieohjibccjliaa
open Go.RowKit Go.Shelf Go.Maps
set_option maxRecDepth 100000

def loadS (f n : Int) : List Int → List Int → Option (List Int)
  | [], u => some u
  | y :: r, u => if y ∈ u ∨ ¬ (f ≤ y ∧ y < n) then none else loadS f n r (u ++ [y])
def loadL (f n : Int) : List Own → List Int → List (Int × Ch) → Option (List Int × List (Int × Ch))
  | [], u, c => some (u, c)
  | x :: r, u, c => if x.2.1 < 1 ∨ 65535 < x.2.1 then none else match loadS f n (x.1 :: x.2.2) u with
    | none => none
    | some u' => loadL f n r u' (putP c x.1 (x.1 :: x.2.2, x.2.1, true))
def LoadP (f n : Int) (w : World) (r : Option (List Int × List (Int × Ch))) (e : Ending) (w' : World) : Prop :=
  match r with
  | none => e = .returned (.tuple #[.pointer none, .int .i64 4]) ∧ Upd (fun _ => False) w w'
  | some (u, c) => ∃ b fr, e = .returned (.tuple #[.pointer (some ⟨b, 0, none⟩), .int .i64 0]) ∧ Al w w' b { n := n, free := fr, ch := c, wait := [] } ∧ SpOk n fr ∧ ∀ k, hasB fr k = (decide (f ≤ k) && decide (k < n) && !decide (k ∈ u))
/-- The map of what is used. -/
def UsedAt (w : World) (um : Nat) (u : List Int) : Prop := ∃ ps, KS ps ∧ (∀ k, getP ps k = if k ∈ u then some 1 else none) ∧ w.ownsMap (H := Unit) Try.prog 3 intR um 5000 (mD ps)
theorem UsedAt.upd {F : Nat → Prop} {w w' : World} {um : Nat} {u : List Int} (h : UsedAt w um u) (hu : Upd F w w') (hn : ¬ F um) : UsedAt w' um u := by
  obtain ⟨ps, h1, h2, h3⟩ := h
  exact ⟨ps, h1, h2, ownsMap_upd h3 hu hn⟩
theorem UsedAt.new {w : World} {um : Nat} (h : w.heap[um]? = some (.map #[] 0)) : UsedAt w um [] := ⟨[], List.Pairwise.nil, fun k => rfl, ownsMap_nil _ h⟩
theorem UsedAt.ne {w : World} {um : Nat} {u : List Int} (h : UsedAt w um u) {b : Nat} {cs : Array Value} {t : TypeId} {fr : Nat × Nat} (hb : w.heap[b]? = some (.cells cs t fr)) : b ≠ um := by
  obtain ⟨ps, h1, h2, h3⟩ := h
  exact ownsMap_ne h3 hb
theorem UsedAt.look {w : World} {um : Nat} {u : List Int} (h : UsedAt w um u) (y : Int) (hy : inI y) : (Instr.lookup 64 (.map (some um)) (.int .i64 y) false).run Try.prog w = .ok (.int .i64 (if y ∈ u then 1 else 0)) w := by
  obtain ⟨ps, h1, h2, h3⟩ := h
  obtain ⟨v, pl, hr, hv⟩ := World.ownsMap.lookup h3 KI Try.underlying64 (zero_int w) (show intR (.int .i64 0) = some (.lit (.int .i64 0), []) from rfl) (key_of y hy)
  rw [hr]
  congr 1
  by_cases hu : y ∈ u
  · rw [if_pos hu]
    rw [mD_at h1 (show getP ps y = some 1 by rw [h2, if_pos hu])] at hv
    exact intR_inv hv
  · rw [if_neg hu]
    have : (mD ps).atKey (.int .i64 y) (.lit (.int .i64 0)) = .lit (.int .i64 0) := atKey_of_not_has (by rw [mD_has, h2, if_neg hu]; rfl) _
    rw [this] at hv
    exact intR_inv hv
theorem UsedAt.add {w : World} {um : Nat} {u : List Int} {n : Int} (h : UsedAt w um u) (hn : n ≤ 4096) (hb : ∀ x ∈ u, 0 ≤ x ∧ x < n) (y : Int) (hy : 0 ≤ y ∧ y < n) :
    ∃ w', (Instr.mapUpdate 64 (.map (some um)) (.int .i64 y) (.int .i64 1)).run Try.prog w = .ok () w' ∧ UsedAt w' um (u ++ [y]) ∧ Upd (fun i => i = um) w w' := by
  obtain ⟨ps, h1, h2, h3⟩ := h
  have hI : inI y := by unfold inI; omega
  obtain ⟨w', q1, q2, q3⟩ := World.ownsMap.update h3 KI Try.underlying64 (by decide) (key_of y hI) (show intR (.int .i64 1) = some (.lit (.int .i64 1), []) from rfl)
  rw [mD_put h1 y 1 (q2.canon KI)] at q2
  have hg : ∀ k, getP (putP ps y 1) k = if k ∈ u ++ [y] then some 1 else none := fun k => by
    rw [getP_put ps h1, h2]
    by_cases e : k = y
    · subst e; simp
    · by_cases hu : k ∈ u
      · simp [e, hu]
      · simp [e, hu]
  refine ⟨w', q1, ⟨_, h1.put y 1, hg, ownsMap_tighten q2 ?_⟩, (Upd.refl _ w).grown q3 (fun i e _ => by cases e; rfl)⟩
  rw [mD_size]
  have := ksLen (putP ps y 1) 0 n (h1.put y 1) (fun x hx => by
    have h9 := (h1.put y 1).get hx
    rw [hg] at h9
    split at h9
    · rename_i hm
      rcases List.mem_append.1 hm with hm | hm
      · exact hb _ hm
      · simp at hm; rw [hm]; exact hy
    · cases h9) (by omega)
  omega
theorem AlAt.off {lo : Nat} {w w' : World} {b : Nat} {s : AlS} {h : AlB} (H : AlAt lo w b s h) {k : Nat} (hk : ∀ (i : Nat) cs t fr, w.heap[i]? = some (.cells cs t fr) → i ≠ k) (h1 : k ≠ h.bc) (h2 : k ≠ h.bw) (hu : Upd (fun i => i = k) w w') : AlAt lo w' b s h := by
  refine H.upd hu (hk _ _ _ _ H.obj) (hk _ _ _ _ H.set.set) (fun r hr e => ?_) h1.symm h2.symm (fun x hx => ?_)
  · rcases H.set.row with ⟨_, e2, _⟩ | ⟨r', off, cap, cur, e2, _, e3, _⟩
    · rw [e2] at hr; cases hr
    · rw [e2] at hr; cases hr; exact hk _ _ _ _ e3 e
  · obtain ⟨v1, h1, off, cap, cur, _, hrow, _⟩ := H.each x hx
    exact ⟨hk _ _ _ _ h1, hk _ _ _ _ hrow⟩
/-- A chain that is there already is laid into the map. -/
theorem AlAt.lay {lo : Nat} {w w' : World} {b : Nat} {s : AlS} {h : AlB} (H : AlAt lo w b s h) (ok : AlOk s) {p : Int} {k r : Nat} {c : Ch} (hu : Upd (fun i => i = h.bc) w w') (hk : ∀ x ∈ h.xs, x.2.1 ≠ k) (hlk : lo ≤ k) (hlr : lo ≤ r) (hc : ChAt w' (k, r, c)) {n : Nat}
    (ho : w'.ownsMap (H := Unit) Try.prog 3 ptrRn h.bc n (mD (putP (mapV blkI h.xs) p (k : Int)))) : AlAt lo w' b { s with ch := putP s.ch p c } { h with xs := putP h.xs p (k, r, c) } := by
  have hks := H.ks ok
  have hne : ∀ (i : Nat) (cs : Array Value) (t : TypeId) (fr : Nat × Nat), w.heap[i]? = some (.cells cs t fr) → i ≠ h.bc := fun i cs t fr hi e => ownsMap_ne H.chains hi e
  refine ⟨hu.heap H.obj (hne _ _ _ _ H.obj), H.set.upd hu (hne _ _ _ _ H.set.set) (fun x hx e => ?_), ?_, ownsMap_upd H.wait hu (fun e => H.maps e.symm), ?_, fun x hx => ?_, fun x hx y hy e => ?_, H.maps, ?_⟩
  · rcases H.set.row with ⟨_, e2, _⟩ | ⟨r, off, cap, cur, e2, _, e3, _⟩
    · rw [e2] at hx; cases hx
    · rw [e2] at hx; cases hx; exact hne _ _ _ _ e3 e
  · dsimp only
    rw [putP_map]
    refine ownsMap_tighten ho ?_
    rw [mD_size]
    have h1 : (putP (mapV blkI h.xs) p (blkI (k, r, c))).length ≤ (mapV blkI h.xs).length + 1 := putP_len _ _ _
    have h2 := ok.lens.1
    rw [H.ch, mapV_len] at h2
    rw [mapV_len] at h1
    omega
  · dsimp only; rw [putP_map, ← H.ch]
  · rcases mem_put hks hx with rfl | ⟨h1, h2⟩
    · exact hc
    · have hx0 := H.each x h1
      refine hx0.upd hu ?_ ?_
      · obtain ⟨v1, h3, _⟩ := hx0; exact hne _ _ _ _ h3
      · obtain ⟨v1, _, off, cap, cur, _, hrow, _⟩ := hx0; exact hne _ _ _ _ hrow
  · rcases mem_put hks hx with rfl | ⟨h1, h2⟩ <;> rcases mem_put hks hy with rfl | ⟨h3, h4⟩
    · rfl
    · exact absurd e.symm (hk y h3)
    · exact absurd e (hk x h1)
    · exact H.inj x h1 y h3 e
  · obtain ⟨l0, l1, l2, l3, l4, l5⟩ := H.low
    refine ⟨l0, l1, l2, l3, l4, fun x hx => ?_⟩
    rcases mem_put hks hx with rfl | ⟨h1, h2⟩
    · exact ⟨hlk, hlr⟩
    · exact l5 x h1
/-! ### Plain -/
theorem loadS_spec {f n : Int} : ∀ (l u u' : List Int), loadS f n l u = some u' → u' = u ++ l ∧ (∀ y ∈ l, f ≤ y ∧ y < n) ∧ (u.Nodup → u'.Nodup)
  | [], u, u', h => by
    unfold loadS at h; cases h
    exact ⟨by simp, fun y hy => (by cases hy), fun h => h⟩
  | y :: r, u, u', h => by
    unfold loadS at h
    split at h
    · cases h
    · rename_i hc
      obtain ⟨h1, h2, h3⟩ := loadS_spec r _ _ h
      refine ⟨by rw [h1]; simp, fun z hz => ?_, fun hn => h3 ?_⟩
      · rcases List.mem_cons.1 hz with rfl | hz
        · omega
        · exact h2 z hz
      · refine List.nodup_append.2 ⟨hn, by simp, fun a ha b hb e => ?_⟩
        simp only [List.mem_singleton] at hb
        subst hb; subst e
        exact hc (.inl ha)
theorem nodup_len : ∀ (n : Nat) (l : List Int), l.Nodup → (∀ y ∈ l, 0 ≤ y ∧ y < (n : Int)) → l.length ≤ n
  | 0, l, _, hb => by
    cases l with
    | nil => exact Nat.le_refl _
    | cons y r => have := hb y (List.mem_cons_self ..); omega
  | n + 1, l, hn, hb => by
    by_cases hm : (n : Int) ∈ l
    · have h1 := List.length_erase_of_mem hm
      have h2 := nodup_len n (l.erase (n : Int)) (hn.erase _) (fun y hy => by
        obtain ⟨h3, h4⟩ := hn.mem_erase_iff.1 hy
        have := hb y h4
        omega)
      omega
    · have := nodup_len n l hn (fun y hy => by
        have := hb y hy
        have : y ≠ (n : Int) := fun e => hm (e ▸ hy)
        omega)
      omega

end Go.Proofs.Ytieohjibccjliaa
