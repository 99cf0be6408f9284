/- Plain: each ruled sector is free, or waits, or is of a chain. -/
import Derived.Test.YtieohjibccjliaaAlC
set_option linter.unusedVariables false
set_option linter.unusedSimpArgs false
namespace Go.Proofs.Ytieohjibccjliaa
open Go.RowKit Go.Shelf Go.Maps

def flatC (ch : List (Int × Ch)) : List Int := ch.flatMap fun x => x.2.1
theorem flatC_cons (x : Int × Ch) (r : List (Int × Ch)) : flatC (x :: r) = x.2.1 ++ flatC r := by unfold flatC; rw [List.flatMap_cons]
theorem flatC_put_new {p : Int} {c : Ch} (k : Int) : ∀ {ch : List (Int × Ch)}, getP ch p = none → (flatC (putP ch p c)).count k = (flatC ch).count k + c.1.count k
  | [], _ => by
    have e : flatC (putP [] p c) = c.1 ++ [] := by rw [putP, flatC_cons]; rfl
    rw [e, List.append_nil]; simp [flatC]
  | x :: r, h => by
    rw [getP_cons] at h
    split at h
    · cases h
    · rename_i e
      unfold putP
      split
      · rw [flatC_cons, List.count_append]; dsimp only; omega
      · split
        · rename_i e2; exact absurd e2.symm e
        · rw [flatC_cons, flatC_cons, List.count_append, List.count_append, flatC_put_new k h]; omega
theorem flatC_put_same {p : Int} {c c' : Ch} (hc : c'.1 = c.1) : ∀ {ch : List (Int × Ch)}, KS ch → getP ch p = some c → flatC (putP ch p c') = flatC ch
  | [], _, h => by cases h
  | x :: r, hk, h => by
    obtain ⟨h1, h2⟩ := List.pairwise_cons.1 hk
    rw [getP_cons] at h
    split at h
    · rename_i e
      cases h
      unfold putP
      rw [if_neg (by omega), if_pos e.symm, flatC_cons, flatC_cons]
      dsimp only
      rw [hc]
    · rename_i e
      have hm := h1 _ (getP_mem h)
      dsimp only at hm
      unfold putP
      rw [if_neg (by omega), if_neg (fun f => e f.symm), flatC_cons, flatC_cons, flatC_put_same hc h2 h]
theorem flatC_del {p : Int} {c : Ch} (k : Int) : ∀ {ch : List (Int × Ch)}, KS ch → getP ch p = some c → (flatC ch).count k = (flatC (delP ch p)).count k + c.1.count k
  | [], _, h => by cases h
  | x :: r, hk, h => by
    obtain ⟨h1, h2⟩ := List.pairwise_cons.1 hk
    rw [getP_cons] at h
    split at h
    · rename_i e
      cases h
      have hd : delP (x :: r) p = r := by
        unfold delP
        rw [List.filter_cons, if_neg (by simpa using e), List.filter_eq_self.2 (fun y hy => by have := h1 y hy; simp; omega)]
      rw [hd, flatC_cons, List.count_append]; omega
    · rename_i e
      have hd : delP (x :: r) p = x :: delP r p := by
        unfold delP
        rw [List.filter_cons, if_pos (by simpa using e)]
      rw [hd, flatC_cons, flatC_cons, List.count_append, List.count_append, flatC_del k h2 h]; omega
theorem flatC_map (f : Ch → Ch) (hf : ∀ c, (f c).1 = c.1) (ch : List (Int × Ch)) : flatC (mapV f ch) = flatC ch := by
  induction ch with
  | nil => rfl
  | cons x r ih =>
    have : mapV f (x :: r) = (x.1, f x.2) :: mapV f r := rfl
    rw [this, flatC_cons, flatC_cons, ih]; dsimp only; rw [hf]
theorem mem_flatC {ch : List (Int × Ch)} {y : Int} : y ∈ flatC ch ↔ ∃ x ∈ ch, y ∈ x.2.1 := by unfold flatC; rw [List.mem_flatMap]
theorem waitF_get {ws : List (Int × Unit)} (hk : KS ws) (l : List Int) : KS (waitF ws l) ∧ ∀ k, (getP (waitF ws l) k).isSome = ((getP ws k).isSome || decide (k ∈ l)) := by
  induction l generalizing ws with
  | nil => exact ⟨hk, fun k => by unfold waitF; simp⟩
  | cons y r ih =>
    obtain ⟨i1, i2⟩ := ih (hk.put y ())
    have e : waitF ws (y :: r) = waitF (putP ws y ()) r := rfl
    rw [e]
    refine ⟨i1, fun k => ?_⟩
    rw [i2, getP_put ws hk]
    by_cases hky : k = y
    · subst hky; simp
    · rw [if_neg hky]
      congr 1
      simp [hky]
/-- Each ruled sector is just one of these. -/
def Full (f : Int) (s : AlS) : Prop := ∀ k, (hasB s.free k).toNat + (getP s.wait k).isSome.toNat + (flatC s.ch).count k = if f ≤ k ∧ k < s.n then 1 else 0
theorem Full.new {f n : Int} : Full f (newA f n) := by
  intro k
  unfold newA
  dsimp only
  have h1 : getP ([] : List (Int × Unit)) k = none := rfl
  have h2 : (flatC []).count k = 0 := rfl
  rw [h1, h2, hasB_cons, hasB_nil, Bool.or_false]
  by_cases h : f ≤ k ∧ k < n
  · rw [if_pos h, (inE_iff _ _).2 (by dsimp only; omega)]; rfl
  · rw [if_neg h]
    have : inE (f, n - f) k = false := by rw [← Bool.not_eq_true, inE_iff]; dsimp only; omega
    rw [this]; rfl
theorem sorted_count {t : List Int} (h : t.Pairwise (· < ·)) (k : Int) : t.count k = (decide (k ∈ t)).toNat := by
  induction t with
  | nil => rfl
  | cons x r ih =>
    obtain ⟨h1, h2⟩ := List.pairwise_cons.1 h
    rw [List.count_cons, ih h2]
    by_cases e : x = k
    · subst e
      rw [decide_eq_false (fun hm => by have := h1 _ hm; omega)]
      simp
    · have : (x == k) = false := by simpa using e
      rw [this]
      have : decide (k ∈ x :: r) = decide (k ∈ r) := by
        rw [Bool.eq_iff_iff, decide_eq_true_eq, decide_eq_true_eq, List.mem_cons]
        exact ⟨fun h => h.resolve_left (fun f => e f.symm), .inr⟩
      rw [this]; simp
theorem AlOk.head {s : AlS} (ok : AlOk s) {p : Int} {c : Ch} (h : getP s.ch p = some c) : p ∈ c.1 := by
  have := (ok.ch _ (getP_mem h)).2.1
  dsimp only at this
  exact List.mem_of_mem_head? (by rw [this]; rfl)
theorem Full.of_chain {f : Int} {s : AlS} (F : Full f s) {x : Int × Ch} (hx : x ∈ s.ch) {y : Int} (hy : y ∈ x.2.1) : hasB s.free y = false ∧ getP s.wait y = none ∧ f ≤ y ∧ y < s.n := by
  have h := F y
  have h1 : 0 < (flatC s.ch).count y := List.count_pos_iff.2 (mem_flatC.2 ⟨x, hx, hy⟩)
  split at h
  · rename_i hr
    refine ⟨?_, ?_, hr⟩
    · cases hb : hasB s.free y with
      | false => rfl
      | true => rw [hb] at h; simp at h; omega
    · cases hb : getP s.wait y with
      | none => rfl
      | some u => rw [hb] at h; simp at h; omega
  · omega
theorem Full.free_no_chain {f : Int} {s : AlS} (F : Full f s) {y : Int} (hy : hasB s.free y = true) : (f ≤ y ∧ y < s.n) ∧ getP s.wait y = none ∧ y ∉ flatC s.ch := by
  have h := F y
  rw [hy] at h
  split at h
  · rename_i hr
    refine ⟨hr, ?_, fun hm => ?_⟩
    · cases hb : getP s.wait y with
      | none => rfl
      | some u => rw [hb] at h; simp at h; omega
    · have := List.count_pos_iff.2 hm; simp at h; omega
  · simp at h
theorem Full.alloc {f : Int} {s : AlS} (F : Full f s) (ok : AlOk s) (k : Int) : Full f (allocA s k).2.2 := by
  unfold allocA
  by_cases hc : (takeA s.free k).2.1 = 0
  · rw [if_pos hc]
    obtain ⟨s1, s2, s3⟩ := takeA_spec ok.free k
    obtain ⟨t1, t2, t3, t4⟩ := s3 hc
    obtain ⟨l1, l2, l3⟩ := takenA_len ok.free k hc
    intro y
    dsimp only
    generalize takeA s.free k = r at *
    obtain ⟨t, c, f'⟩ := r
    dsimp only at *
    cases t with
    | nil => simp at l1; omega
    | cons x tl =>
      have hx : getP s.ch x = none := by
        cases hg : getP s.ch x with
        | none => rfl
        | some c => exact absurd (mem_flatC.2 ⟨_, getP_mem hg, ok.head hg⟩) (F.free_no_chain (t2 x (List.mem_cons_self ..))).2.2
      have h := F y
      rw [show (x :: tl).headD 0 = x from rfl, flatC_put_new y hx, t3 y, sorted_count t1 y, ← h]
      by_cases hy : y ∈ x :: tl
      · rw [t2 y hy, decide_eq_true hy]; simp [hy]; omega
      · rw [decide_eq_false hy]; simp [hy]
  · rw [if_neg hc]; exact F
theorem Full.hold {f : Int} {s : AlS} (F : Full f s) (ok : AlOk s) (p : Int) : Full f (holdA s p).2 := by
  unfold holdA
  split
  · rename_i c hg
    split
    · exact F
    · intro k
      have := F k
      dsimp only
      rw [flatC_put_same (c := c) (c' := (c.1, c.2.1 + 1, c.2.2)) rfl ok.ksc hg]
      exact this
  · exact F
theorem Full.drop {f : Int} {s : AlS} (F : Full f s) (ok : AlOk s) (p : Int) : Full f (dropA s p).2.2 := by
  unfold dropA
  split
  · rename_i c hg
    split
    · intro k
      have := F k
      dsimp only
      rw [flatC_put_same (c := c) (c' := (c.1, c.2.1 - 1, c.2.2)) rfl ok.ksc hg]
      exact this
    · intro k
      have h := F k
      have hd := flatC_del k ok.ksc hg
      have hbd := (ok.ch _ (getP_mem hg)).2.2.2.1
      dsimp only at hbd
      unfold goneA
      dsimp only
      have hcnt : c.1.count k = (decide (k ∈ c.1)).toNat := by
        by_cases hk : k ∈ c.1
        · have h1 : 0 < c.1.count k := List.count_pos_iff.2 hk
          rw [decide_eq_true hk]
          split at h
          · have : c.1.count k ≤ 1 := by omega
            have e : c.1.count k = 1 := by omega
            rw [e]; rfl
          · omega
        · rw [decide_eq_false hk, List.count_eq_zero_of_not_mem hk]; rfl
      have hno : k ∈ c.1 → hasB s.free k = false ∧ getP s.wait k = none := fun hk => by
        obtain ⟨h1, h2, _⟩ := F.of_chain (getP_mem hg) hk
        exact ⟨h1, h2⟩
      cases hsr : c.2.2 with
      | true =>
        rw [if_pos rfl, if_pos rfl, (waitF_get ok.ksw c.1).2 k, ← h, hd, hcnt]
        by_cases hk : k ∈ c.1
        · rw [(hno hk).1, (hno hk).2, decide_eq_true hk]; simp; omega
        · rw [decide_eq_false hk]; simp
      | false =>
        rw [if_neg Bool.false_ne_true, if_neg Bool.false_ne_true, (freeF_spec c.1 s.free ok.free hbd).2 k, ← h, hd, hcnt]
        by_cases hk : k ∈ c.1
        · rw [(hno hk).1, (hno hk).2, decide_eq_true hk]; simp; omega
        · rw [decide_eq_false hk]; simp
  · exact F
theorem mem_keys {ws : List (Int × Unit)} (hk : KS ws) (k : Int) : decide (k ∈ ws.map (·.1)) = (getP ws k).isSome := by
  rw [Bool.eq_iff_iff, decide_eq_true_eq, List.mem_map]
  constructor
  · rintro ⟨x, hx, rfl⟩; rw [hk.get hx]; rfl
  · intro h
    obtain ⟨u, hu⟩ := Option.isSome_iff_exists.1 h
    exact ⟨_, getP_mem hu, rfl⟩
theorem Full.commit {f : Int} {s : AlS} (F : Full f s) (ok : AlOk s) : Full f (commitA s) := by
  intro k
  have h := F k
  unfold commitA
  dsimp only
  have h1 : getP ([] : List (Int × Unit)) k = none := rfl
  rw [flatC_map _ (fun c => by rfl), h1, (freeF_spec _ s.free ok.free (fun y hy => by obtain ⟨x, hx, rfl⟩ := List.mem_map.1 hy; exact ok.wait x hx)).2 k, mem_keys ok.ksw, ← h]
  by_cases hw : (getP s.wait k).isSome = true
  · rw [hw]
    cases hb : hasB s.free k with
    | false => simp
    | true =>
      rw [hb, hw] at h
      split at h
      · simp at h; omega
      · simp at h
  · rw [Bool.not_eq_true] at hw
    rw [hw]; simp
/-- What counts tell. -/
theorem Full.counts {f : Int} {s : AlS} (F : Full f s) (ok : AlOk s) (hf : f ≤ s.n) : cntE s.free + (s.wait.length : Nat) + ((flatC s.ch).length : Nat) = s.n - f ∧ 0 ≤ cntE s.free := by
  have hp : (flatE s.free ++ s.wait.map (·.1) ++ flatC s.ch).Perm ((List.range (s.n - f).toNat).map fun (j : Nat) => f + (j : Int)) := by
    rw [List.perm_iff_count]
    intro k
    rw [List.count_append, List.count_append, sorted_count (flat_sorted _ ok.free), sorted_count (List.pairwise_map.2 ok.ksw), mem_keys ok.ksw]
    have hm : decide (k ∈ flatE s.free) = hasB s.free k := by
      rw [Bool.eq_iff_iff, decide_eq_true_eq]; exact mem_has ok.free k
    rw [hm, F k]
    have hs : ((List.range (s.n - f).toNat).map fun (j : Nat) => f + (j : Int)).Pairwise (· < ·) := List.pairwise_map.2 (List.pairwise_lt_range.imp (fun hab => by omega))
    rw [sorted_count hs]
    by_cases hk : f ≤ k ∧ k < s.n
    · rw [if_pos hk, decide_eq_true]; rfl
      exact List.mem_map.2 ⟨(k - f).toNat, List.mem_range.2 (by omega), by omega⟩
    · rw [if_neg hk, decide_eq_false]; rfl
      intro hm
      obtain ⟨j, hj, e⟩ := List.mem_map.1 hm
      have := List.mem_range.1 hj
      omega
  have h1 := hp.length_eq
  rw [List.length_append, List.length_append, List.length_map, List.length_map, List.length_range] at h1
  have h2 := flat_len ok.free
  have h3 := ok.free.cnt
  omega

end Go.Proofs.Ytieohjibccjliaa
