/- Plain: what is loaded of a list is that list. -/
import Derived.Test.YtieohjibccjliaaAlO
import Derived.Test.YtieohjibccjliaaAlL
set_option linter.unusedVariables false
set_option linter.unusedSimpArgs false
namespace Go.Proofs.Ytieohjibccjliaa
open Go.RowKit Go.Shelf Go.Maps

theorem loadS_ok {f n : Int} : ∀ (l u : List Int), (u ++ l).Nodup → (∀ y ∈ l, f ≤ y ∧ y < n) → loadS f n l u = some (u ++ l)
  | [], u, _, _ => by unfold loadS; rw [List.append_nil]
  | y :: r, u, hn, hb => by
    unfold loadS
    have h1 : y ∉ u := fun hm => by
      have := (List.nodup_append.1 hn).2.2 y hm y (List.mem_cons_self ..)
      exact this rfl
    rw [if_neg (by rintro (h | h); exact h1 h; exact h (hb y (List.mem_cons_self ..)))]
    rw [loadS_ok r (u ++ [y]) (by rw [List.append_assoc]; exact hn) (fun z hz => hb z (List.mem_cons_of_mem _ hz)), List.append_assoc]
    rfl
theorem putP_last {α : Type} (k : Int) (v : α) : ∀ (ps : List (Int × α)), (∀ x ∈ ps, x.1 < k) → putP ps k v = ps ++ [(k, v)]
  | [], _ => rfl
  | q :: r, h => by
    have := h q (List.mem_cons_self ..)
    unfold putP
    rw [if_neg (by omega), if_neg (by omega), putP_last k v r (fun x hx => h x (List.mem_cons_of_mem _ hx))]
    rfl
def ownOf (x : Int × Ch) : Own := (x.1, x.2.2.1, x.2.1.tail)
theorem listA_map (s : AlS) : listA s = s.ch.map ownOf := rfl
theorem flatC_append (a b : List (Int × Ch)) : flatC (a ++ b) = flatC a ++ flatC b := by unfold flatC; rw [List.flatMap_append]
theorem loadL_list {f n : Int} : ∀ (suf pre : List (Int × Ch)), KS (pre ++ suf) → (flatC (pre ++ suf)).Nodup → (∀ x ∈ suf, x.2.1.head? = some x.1 ∧ (1 ≤ x.2.2.1 ∧ x.2.2.1 ≤ 65535) ∧ x.2.2.2 = true ∧ ∀ y ∈ x.2.1, f ≤ y ∧ y < n) →
    loadL f n (suf.map ownOf) (flatC pre) pre = some (flatC (pre ++ suf), pre ++ suf)
  | [], pre, _, _, _ => by rw [List.append_nil]; rfl
  | x :: r, pre, hk, hn, hx => by
    obtain ⟨h1, h2, h3, h4⟩ := hx x (List.mem_cons_self ..)
    have hht := head_tail h1
    have e : x = (x.1, ((ownOf x).1 :: (ownOf x).2.2, (ownOf x).2.1, true)) := by
      unfold ownOf
      dsimp only
      rw [hht, ← h3]
    have hs : loadS f n ((ownOf x).1 :: (ownOf x).2.2) (flatC pre) = some (flatC pre ++ x.2.1) := by
      have : (ownOf x).1 :: (ownOf x).2.2 = x.2.1 := hht
      rw [this]
      refine loadS_ok _ _ ?_ h4
      rw [flatC_append, flatC_cons, ← List.append_assoc] at hn
      exact (List.nodup_append.1 hn).1
    rw [List.map_cons, loadL_ok (by show ¬ (x.2.2.1 < 1 ∨ 65535 < x.2.2.1); omega) hs]
    have hp : putP pre (ownOf x).1 ((ownOf x).1 :: (ownOf x).2.2, (ownOf x).2.1, true) = pre ++ [x] := by
      show putP pre x.1 _ = _
      rw [putP_last _ _ pre (fun z hz => (List.pairwise_append.1 hk).2.2 z hz x (List.mem_cons_self ..))]
      rw [← e]
    rw [hp]
    have hf : flatC pre ++ x.2.1 = flatC (pre ++ [x]) := by rw [flatC_append]; unfold flatC; simp
    rw [hf, loadL_list r (pre ++ [x]) (by rw [List.append_assoc]; exact hk) (by rw [List.append_assoc]; exact hn) (fun z hz => hx z (List.mem_cons_of_mem _ hz)), List.append_assoc]
    rfl
theorem Full.nodup {f : Int} {s : AlS} (F : Full f s) : (flatC s.ch).Nodup := by
  have key : ∀ l : List Int, (∀ y, l.count y ≤ 1) → l.Nodup := by
    intro l
    induction l with
    | nil => intro _; exact List.nodup_nil
    | cons y r ih =>
      intro h
      refine List.nodup_cons.2 ⟨fun hm => ?_, ih (fun z => by have := h z; rw [List.count_cons] at this; omega)⟩
      have := h y
      rw [List.count_cons_self] at this
      have := List.count_pos_iff.2 hm
      omega
  exact key _ F.count_le
/-- A list that is loaded behind a Commit. -/
theorem load_back {f : Int} {s : AlS} (F : Full f s) (ok : AlOk s) (hs : ∀ x ∈ s.ch, x.2.2.2 = true) : loadL f s.n (listA s) [] [] = some (flatC s.ch, s.ch) := by
  have := loadL_list (f := f) (n := s.n) s.ch [] (by simpa using ok.ksc) (by simpa using F.nodup) (fun x hx => by
    have h := ok.ch x hx
    exact ⟨h.2.1, h.2.2.1, hs x hx, fun y hy => (F.of_chain hx hy).2.2⟩)
  rw [List.nil_append] at this
  exact this
theorem free_back {f : Int} {s : AlS} (F : Full f s) (ok : AlOk s) (hw : s.wait = []) {fr : List Ex} (h1 : SpOk s.n fr) (h2 : ∀ k, hasB fr k = (decide (f ≤ k) && decide (k < s.n) && !decide (k ∈ flatC s.ch))) : fr = s.free := by
  refine SpOk.ext _ _ h1 ok.free fun k => ?_
  rw [h2]
  have h := F k
  rw [hw, getP_nil] at h
  by_cases hm : k ∈ flatC s.ch
  · have hc := List.count_pos_iff.2 hm
    rw [decide_eq_true hm]
    cases hb : hasB s.free k with
    | false => simp
    | true => rw [hb] at h; split at h <;> simp at h <;> omega
  · rw [decide_eq_false hm]
    rw [List.count_eq_zero_of_not_mem hm] at h
    by_cases hr : f ≤ k ∧ k < s.n
    · rw [if_pos hr] at h
      cases hb : hasB s.free k with
      | true => simp; exact hr
      | false => rw [hb] at h; simp at h
    · rw [if_neg hr] at h
      cases hb : hasB s.free k with
      | true => rw [hb] at h; simp at h
      | false =>
        rw [Bool.not_false, Bool.and_true, ← Bool.not_eq_true, Bool.and_eq_true, decide_eq_true_eq, decide_eq_true_eq]
        exact hr
theorem commit_sure (s : AlS) : ∀ x ∈ (commitA s).ch, x.2.2.2 = true := fun x hx => by
  unfold commitA mapV at hx
  obtain ⟨z, _, rfl⟩ := List.mem_map.1 hx
  rfl

end Go.Proofs.Ytieohjibccjliaa
