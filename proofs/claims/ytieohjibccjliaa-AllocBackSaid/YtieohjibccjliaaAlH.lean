/- AllocParts: plain. -/
import Derived.Test.YtieohjibccjliaaAlO
set_option linter.unusedVariables false
set_option linter.unusedSimpArgs false
namespace Go.Proofs.Ytieohjibccjliaa
open Go.RowKit Go.Shelf Go.Maps
set_option maxRecDepth 100000

/-- What was sure is waiting, or of a sure chain. -/
def SI (s : AlS) (pre : List Int) : Prop := ∀ y, 0 < pre.count y → (getP s.wait y).isSome = true ∨ ∃ x ∈ s.ch, x.2.2.2 = true ∧ y ∈ x.2.1
theorem SI.nil (s : AlS) : SI s [] := fun y h => by simp at h
theorem SI.free {f : Int} {s : AlS} {pre : List Int} (h : SI s pre) (F : Full f s) {y : Int} (hy : hasB s.free y = true) : pre.count y = 0 := by
  rcases Nat.eq_zero_or_pos (pre.count y) with e | e
  · exact e
  · obtain ⟨_, h1, h2⟩ := F.free_no_chain hy
    rcases h y e with h3 | ⟨x, hx, _, h4⟩
    · rw [h1] at h3; cases h3
    · exact absurd (mem_flatC.2 ⟨x, hx, h4⟩) h2
theorem mem_put_other {α : Type} {ps : List (Int × α)} (h : KS ps) {k : Int} {v : α} {x : Int × α} (hx : x ∈ ps) (hne : x.1 ≠ k) : x ∈ putP ps k v := by
  have : getP (putP ps k v) x.1 = some x.2 := by rw [getP_put ps h, if_neg hne, h.get hx]
  exact getP_mem this
theorem mem_put_self {α : Type} {ps : List (Int × α)} (h : KS ps) (k : Int) (v : α) : (k, v) ∈ putP ps k v := getP_mem (by rw [getP_put ps h, if_pos rfl])
theorem mem_del_other {α : Type} {ps : List (Int × α)} {k : Int} {x : Int × α} (hx : x ∈ ps) (hne : x.1 ≠ k) : x ∈ delP ps k := by
  unfold delP; exact List.mem_filter.2 ⟨hx, by simpa using hne⟩
theorem SI.alloc {f : Int} {s : AlS} {pre : List Int} (h : SI s pre) (F : Full f s) (ok : AlOk s) (k : Int) : SI (allocA s k).2.2 pre := by
  unfold allocA
  by_cases hc : (takeA s.free k).2.1 = 0
  · rw [if_pos hc]
    obtain ⟨s1, s2, s3⟩ := takeA_spec ok.free k
    obtain ⟨t1, t2, t3, t4⟩ := s3 hc
    obtain ⟨l1, l2, l3⟩ := takenA_len ok.free k hc
    intro y hy
    rcases h y hy with h1 | ⟨x, hx, h2, h3⟩
    · exact .inl h1
    · refine .inr ⟨x, mem_put_other ok.ksc hx (fun e => ?_), h2, h3⟩
      generalize takeA s.free k = r at *
      obtain ⟨t, c, f'⟩ := r
      dsimp only at *
      cases t with
      | nil => simp at l1; omega
      | cons z tl =>
        have hz := (F.free_no_chain (t2 z (List.mem_cons_self ..))).2.2
        apply hz
        have e2 : x.1 = z := e
        rw [← e2]
        exact mem_flatC.2 ⟨x, hx, ok.head (ok.ksc.get hx)⟩
  · rw [if_neg hc]; exact h
theorem SI.turn {s : AlS} {pre : List Int} (h : SI s pre) (ok : AlOk s) {p : Int} {c c' : Ch} (hg : getP s.ch p = some c) (h1 : c'.1 = c.1) (h2 : c'.2.2 = c.2.2) : SI { s with ch := putP s.ch p c' } pre := by
  intro y hy
  rcases h y hy with h3 | ⟨x, hx, h4, h5⟩
  · exact .inl h3
  · by_cases e : x.1 = p
    · have hxc : x.2 = c := by
        have := ok.ksc.get hx
        rw [e, hg] at this
        exact (Option.some.inj this).symm
      refine .inr ⟨(p, c'), mem_put_self ok.ksc p c', ?_, ?_⟩
      · dsimp only; rw [h2, ← hxc]; exact h4
      · dsimp only; rw [h1, ← hxc]; exact h5
    · exact .inr ⟨x, mem_put_other ok.ksc hx e, h4, h5⟩
theorem SI.hold {s : AlS} {pre : List Int} (h : SI s pre) (ok : AlOk s) (p : Int) : SI (holdA s p).2 pre := by
  unfold holdA
  split
  · rename_i c hg
    split
    · exact h
    · exact h.turn ok (c := c) (c' := (c.1, c.2.1 + 1, c.2.2)) hg rfl rfl
  · exact h
theorem SI.drop {s : AlS} {pre : List Int} (h : SI s pre) (ok : AlOk s) (p : Int) : SI (dropA s p).2.2 pre := by
  unfold dropA
  split
  · rename_i c hg
    split
    · exact h.turn ok (c := c) (c' := (c.1, c.2.1 - 1, c.2.2)) hg rfl rfl
    · intro y hy
      unfold goneA
      dsimp only
      rcases h y hy with h1 | ⟨x, hx, h2, h3⟩
      · left
        split
        · rw [(waitF_get ok.ksw c.1).2 y, h1]; rfl
        · exact h1
      · by_cases e : x.1 = p
        · have hxc : x.2 = c := by
            have := ok.ksc.get hx
            rw [e, hg] at this
            exact (Option.some.inj this).symm
          left
          rw [if_pos (by rw [← hxc]; exact h2), (waitF_get ok.ksw c.1).2 y, ← hxc, decide_eq_true h3]; simp
        · exact .inr ⟨x, mem_del_other hx e, h2, h3⟩
  · exact h
theorem SI.commit (s : AlS) : SI (commitA s) (flatC (commitA s).ch) := by
  intro y hy
  right
  obtain ⟨x, hx, h1⟩ := mem_flatC.1 (List.count_pos_iff.1 hy)
  refine ⟨x, hx, ?_, h1⟩
  unfold commitA mapV at hx
  obtain ⟨z, _, rfl⟩ := List.mem_map.1 hx
  rfl
/-- In the loop. -/
structure PW (w wr : World) (b F N B : Nat) (ad : Option Addr) (l : List AAct) (s : AlS) (pre : List Int) : Prop where
  al : Al w wr b s
  full : Full (F : Int) s
  n : s.n = (N : Int)
  acts : AActsAt wr w.heap.size ad l
  row : wr.heap[B]? = some (.cells (cntRow N pre).toArray 3 (0, 0))
  si : SI s pre
theorem PW.keeps {w wr w' : World} {b F N B : Nat} {ad : Option Addr} {l : List AAct} {s s' : AlS} {pre : List Int} (h : PW w wr b F N B ad l s pre) (hk : KeepsA wr w') (h1 : Al w w' b s') (h2 : Full (F : Int) s') (h3 : s'.n = s.n) (h4 : SI s' pre) (ha : AActsAt w w.heap.size ad l) : PW w w' b F N B ad l s' pre :=
  ⟨h1, h2, h3.trans h.n, ha.upd h1.upd (fun _ _ f => f), hk.cells _ _ _ _ (by decide) (by decide) (by decide) h.row, h4⟩
theorem PW.later {w wr w' : World} {b F N B : Nat} {ad : Option Addr} {l : List AAct} {s : AlS} {pre : List Int} (h : PW w wr b F N B ad l s pre) (hu : Upd (fun _ => False) wr w') : PW w w' b F N B ad l s pre :=
  ⟨h.al.later hu, h.full, h.n, h.acts.upd hu (fun _ _ f => f), hu.heap h.row (fun f => f), h.si⟩
/-- What a new chain is given. -/
theorem allocA_in {f : Int} {s : AlS} {pre : List Int} (F : Full f s) (ok : AlOk s) (h : SI s pre) (k : Int) {y : Int} (hy : y ∈ (allocA s k).1) : (allocA s k).2.1 = 0 ∧ f ≤ y ∧ y < s.n ∧ pre.count y = 0 := by
  unfold allocA at hy ⊢
  by_cases hc : (takeA s.free k).2.1 = 0
  · rw [if_pos hc] at hy ⊢
    have hb := ((takeA_spec ok.free k).2.2 hc).2.1 y hy
    obtain ⟨h1, _⟩ := F.free_no_chain hb
    exact ⟨rfl, h1.1, h1.2, h.free F hb⟩
  · rw [if_neg hc] at hy; cases hy
theorem allocA_n (s : AlS) (k : Int) : (allocA s k).2.2.n = s.n := by unfold allocA; split <;> rfl
theorem holdA_n (s : AlS) (p : Int) : (holdA s p).2.n = s.n := by unfold holdA; split <;> (try split) <;> rfl
theorem dropA_n (s : AlS) (p : Int) : (dropA s p).2.2.n = s.n := by unfold dropA; split <;> (try split) <;> rfl

end Go.Proofs.Ytieohjibccjliaa
