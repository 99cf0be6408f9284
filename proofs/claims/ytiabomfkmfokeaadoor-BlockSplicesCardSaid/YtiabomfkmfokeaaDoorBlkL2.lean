/- The walks of BlockBack and BlockSplices. -/
import Derived.Test.YtiabomfkmfokeaaDoorBlkA

set_option linter.unusedVariables false
set_option linter.unusedSimpArgs false
namespace Go.Proofs.YtiabomfkmfokeaaDoor
open Go.RowKit

set_option maxHeartbeats 1600000 in
set_option maxRecDepth 100000 in
theorem back_11 (p : Blk.Pt) (s : List UInt8) (at_ : Int) (w : World) (hp : p.s.length ≤ 3000) (hs : s.length ≤ 3000) (ha0 : 0 ≤ at_) (ha1 : at_ ≤ 255) (hm : Blk.may p = true) (q : Blk.Pt) (hq : takeI s = (q, 0)) (hqs : Blk.put q = (s, 0)) (hql : q.s.length ≤ 3000) :
    Calls Tryd.prog 5 #[ptV p, .string ⟨s.toArray⟩, .int .u8 at_] w (TrueR w) := by
  have h1 := fun w => block_Put p w (by omega)
  obtain ⟨t, ht⟩ : ∃ t, t = (Blk.put p).1 := ⟨_, rfl⟩
  have hput : Blk.put p = (t, 0) := by rw [ht, Blk.put_ok hm]
  have htl := Blk.put_len hm
  rw [← ht] at htl
  have h2 := fun w => block_Take t w (by omega)
  rw [ht, Blk.back hm, ← ht] at h2
  obtain ⟨k, hk⟩ : ∃ k : Nat, at_ % t.length = k := Int.eq_ofNat_of_zero_le (Int.emod_nonneg _ (by omega))
  have hkl : k < t.length := by have := Int.emod_lt_of_pos at_ (show (0 : Int) < t.length by omega); omega
  have htm : Int.tmod at_ t.length = k := by rw [Int.tmod_eq_emod_of_nonneg ha0, hk]
  have h3 := fun w => law_fails (t.take k) 10 w (by rw [List.length_take]; omega) (by rw [ht]; exact Blk.torn hm k (by rw [← ht]; exact hkl))
  have hex : (⟨t.toArray⟩ : ByteArray).extract 0 k = ⟨(t.take k).toArray⟩ := by have := ext_list t 0 k; simpa using this
  have ht0 : ((t.length : Int) == 0) = false := beq_eq_false_iff_ne.2 (by omega)
  rw [hput] at h1
  clear ht hput
  have h4 := fun w => block_Take s w (by omega)
  rw [hq] at h4
  have h5 := fun w => block_Put q w (by omega)
  rw [hqs] at h5
  clear hm hq hqs
  obtain ⟨cut, at0, n, l⟩ := p
  obtain ⟨cut2, at2, n2, l2⟩ := q
  unfold TakeR ptV at h4
  unfold TakeR ptV at h2
  unfold ptV at h1 h5 ⊢
  dsimp only at h1 h4 h2 h5 hp ⊢
  have H1 := Lib.hid h1
  have H2 := Lib.hid h2
  have H3 := Lib.hid h3
  have H4 := Lib.hid h4
  have H5 := Lib.hid h5
  clear h1 h2 h3 h4 h5
  go_enter Tryd.func5, Tryd.ntmps5
  go_wp2_with (fail)
  refine (H1.out _).mono ?_
  rintro e w1 ⟨rfl, u1⟩
  have hb := u1.heap (heap_alloc_new w _) (fun f => f)
  have hlb := lt_of_heap hb
  have c0 := cell_heap hb 0 (.bool cut) rfl
  have c1 := cell_heap hb 1 (.int .i64 at0) rfl
  have c2 := cell_heap hb 2 (.int .i64 n) rfl
  have c3 := cell_heap hb 3 (.string ⟨l.toArray⟩) rfl
  go_wp2_with (fail)
  refine (H2.out _).mono ?_
  rintro e w2 ⟨rfl, u2⟩
  have hb := u2.heap hb (fun f => f)
  have c0 := cell_heap hb 0 (.bool cut) rfl
  have c1 := cell_heap hb 1 (.int .i64 at0) rfl
  have c2 := cell_heap hb 2 (.int .i64 n) rfl
  have c3 := cell_heap hb 3 (.string ⟨l.toArray⟩) rfl
  have hlb := lt_of_heap hb
  go_wp2_with (fail)
  refine (H3.out _).mono ?_
  rintro e w3 ⟨rfl, u3⟩
  go_wp2_with (fail)
  refine (H4.out _).mono ?_
  rintro e w4 ⟨rfl, u4⟩
  go_wp2_with (fail)
  refine (H5.out _).mono ?_
  rintro e w5 ⟨rfl, u5⟩
  go_wp2_with (fail)
  refine (law_works _).mono ?_
  rintro e w6 ⟨rfl, u6⟩
  go_wp2
  go_ret
  exact ⟨rfl, by repeat (first | exact Upd.refl _ _ | refine Upd.alloc ?_ _ | refine Upd.drew ?_ | refine Upd.trans ?_ (by assumption) (fun _ _ f => f))⟩

set_option maxHeartbeats 1600000 in
set_option maxRecDepth 100000 in
theorem back_10 (p : Blk.Pt) (s : List UInt8) (at_ : Int) (w : World) (hp : p.s.length ≤ 3000) (hs : s.length ≤ 3000) (ha0 : 0 ≤ at_) (ha1 : at_ ≤ 255) (hm : Blk.may p = true) (f : Int) (hf0 : f ≠ 0) (hq : takeI s = (Blk.zero, f)) :
    Calls Tryd.prog 5 #[ptV p, .string ⟨s.toArray⟩, .int .u8 at_] w (TrueR w) := by
  have h1 := fun w => block_Put p w (by omega)
  obtain ⟨t, ht⟩ : ∃ t, t = (Blk.put p).1 := ⟨_, rfl⟩
  have hput : Blk.put p = (t, 0) := by rw [ht, Blk.put_ok hm]
  have htl := Blk.put_len hm
  rw [← ht] at htl
  have h2 := fun w => block_Take t w (by omega)
  rw [ht, Blk.back hm, ← ht] at h2
  obtain ⟨k, hk⟩ : ∃ k : Nat, at_ % t.length = k := Int.eq_ofNat_of_zero_le (Int.emod_nonneg _ (by omega))
  have hkl : k < t.length := by have := Int.emod_lt_of_pos at_ (show (0 : Int) < t.length by omega); omega
  have htm : Int.tmod at_ t.length = k := by rw [Int.tmod_eq_emod_of_nonneg ha0, hk]
  have h3 := fun w => law_fails (t.take k) 10 w (by rw [List.length_take]; omega) (by rw [ht]; exact Blk.torn hm k (by rw [← ht]; exact hkl))
  have hex : (⟨t.toArray⟩ : ByteArray).extract 0 k = ⟨(t.take k).toArray⟩ := by have := ext_list t 0 k; simpa using this
  have ht0 : ((t.length : Int) == 0) = false := beq_eq_false_iff_ne.2 (by omega)
  rw [hput] at h1
  clear ht hput
  have h4 := fun w => block_Take s w (by omega)
  rw [hq] at h4
  have h5 := fun w => law_fails s f w (by omega) hq
  have hfn : (f == 0) = false := beq_eq_false_iff_ne.2 hf0
  have hfn2 : (f != 0) = true := bne_iff_ne.2 hf0
  clear hm hq
  obtain ⟨cut, at0, n, l⟩ := p
  unfold TakeR ptV at h4
  unfold TakeR ptV at h2
  unfold ptV at h1 ⊢
  dsimp only at h1 h4 h2 hp ⊢
  have H1 := Lib.hid h1
  have H2 := Lib.hid h2
  have H3 := Lib.hid h3
  have H4 := Lib.hid h4
  have H5 := Lib.hid h5
  clear h1 h2 h3 h4 h5
  go_enter Tryd.func5, Tryd.ntmps5
  go_wp2_with (fail)
  refine (H1.out _).mono ?_
  rintro e w1 ⟨rfl, u1⟩
  have hb := u1.heap (heap_alloc_new w _) (fun f => f)
  have hlb := lt_of_heap hb
  have c0 := cell_heap hb 0 (.bool cut) rfl
  have c1 := cell_heap hb 1 (.int .i64 at0) rfl
  have c2 := cell_heap hb 2 (.int .i64 n) rfl
  have c3 := cell_heap hb 3 (.string ⟨l.toArray⟩) rfl
  go_wp2_with (fail)
  refine (H2.out _).mono ?_
  rintro e w2 ⟨rfl, u2⟩
  have hb := u2.heap hb (fun f => f)
  have c0 := cell_heap hb 0 (.bool cut) rfl
  have c1 := cell_heap hb 1 (.int .i64 at0) rfl
  have c2 := cell_heap hb 2 (.int .i64 n) rfl
  have c3 := cell_heap hb 3 (.string ⟨l.toArray⟩) rfl
  have hlb := lt_of_heap hb
  go_wp2_with (fail)
  refine (H3.out _).mono ?_
  rintro e w3 ⟨rfl, u3⟩
  go_wp2_with (fail)
  refine (H4.out _).mono ?_
  rintro e w4 ⟨rfl, u4⟩
  go_wp2_with (fail)
  refine (H5.out _).mono ?_
  rintro e w5 ⟨rfl, u5⟩
  go_wp2_with (fail)
  refine (law_works _).mono ?_
  rintro e w6 ⟨rfl, u6⟩
  go_wp2
  go_ret
  exact ⟨rfl, by repeat (first | exact Upd.refl _ _ | refine Upd.alloc ?_ _ | refine Upd.drew ?_ | refine Upd.trans ?_ (by assumption) (fun _ _ f => f))⟩

set_option maxHeartbeats 1600000 in
set_option maxRecDepth 100000 in
theorem back_01 (p : Blk.Pt) (s : List UInt8) (at_ : Int) (w : World) (hp : p.s.length ≤ 3000) (hs : s.length ≤ 3000) (ha0 : 0 ≤ at_) (ha1 : at_ ≤ 255) (hm : Blk.may p = false) (q : Blk.Pt) (hq : takeI s = (q, 0)) (hqs : Blk.put q = (s, 0)) (hql : q.s.length ≤ 3000) :
    Calls Tryd.prog 5 #[ptV p, .string ⟨s.toArray⟩, .int .u8 at_] w (TrueR w) := by
  have h1 := fun w => block_Put p w (by omega)
  rw [Blk.put_no hm] at h1
  have h4 := fun w => block_Take s w (by omega)
  rw [hq] at h4
  have h5 := fun w => block_Put q w (by omega)
  rw [hqs] at h5
  clear hm hq hqs
  obtain ⟨cut, at0, n, l⟩ := p
  obtain ⟨cut2, at2, n2, l2⟩ := q
  unfold TakeR ptV at h4
  unfold ptV at h1 h5 ⊢
  dsimp only at h1 h4 h5 hp ⊢
  have H1 := Lib.hid h1
  have H4 := Lib.hid h4
  have H5 := Lib.hid h5
  clear h1 h4 h5
  go_enter Tryd.func5, Tryd.ntmps5
  go_wp2_with (fail)
  refine (H1.out _).mono ?_
  rintro e w1 ⟨rfl, u1⟩
  go_wp2_with (fail)
  refine (H4.out _).mono ?_
  rintro e w4 ⟨rfl, u4⟩
  go_wp2_with (fail)
  refine (H5.out _).mono ?_
  rintro e w5 ⟨rfl, u5⟩
  go_wp2_with (fail)
  refine (law_works _).mono ?_
  rintro e w6 ⟨rfl, u6⟩
  go_wp2
  go_ret
  exact ⟨rfl, by repeat (first | exact Upd.refl _ _ | refine Upd.alloc ?_ _ | refine Upd.drew ?_ | refine Upd.trans ?_ (by assumption) (fun _ _ f => f))⟩

set_option maxHeartbeats 1600000 in
set_option maxRecDepth 100000 in
theorem back_00 (p : Blk.Pt) (s : List UInt8) (at_ : Int) (w : World) (hp : p.s.length ≤ 3000) (hs : s.length ≤ 3000) (ha0 : 0 ≤ at_) (ha1 : at_ ≤ 255) (hm : Blk.may p = false) (f : Int) (hf0 : f ≠ 0) (hq : takeI s = (Blk.zero, f)) :
    Calls Tryd.prog 5 #[ptV p, .string ⟨s.toArray⟩, .int .u8 at_] w (TrueR w) := by
  have h1 := fun w => block_Put p w (by omega)
  rw [Blk.put_no hm] at h1
  have h4 := fun w => block_Take s w (by omega)
  rw [hq] at h4
  have h5 := fun w => law_fails s f w (by omega) hq
  have hfn : (f == 0) = false := beq_eq_false_iff_ne.2 hf0
  have hfn2 : (f != 0) = true := bne_iff_ne.2 hf0
  clear hm hq
  obtain ⟨cut, at0, n, l⟩ := p
  unfold TakeR ptV at h4
  unfold ptV at h1 ⊢
  dsimp only at h1 h4 hp ⊢
  have H1 := Lib.hid h1
  have H4 := Lib.hid h4
  have H5 := Lib.hid h5
  clear h1 h4 h5
  go_enter Tryd.func5, Tryd.ntmps5
  go_wp2_with (fail)
  refine (H1.out _).mono ?_
  rintro e w1 ⟨rfl, u1⟩
  go_wp2_with (fail)
  refine (H4.out _).mono ?_
  rintro e w4 ⟨rfl, u4⟩
  go_wp2_with (fail)
  refine (H5.out _).mono ?_
  rintro e w5 ⟨rfl, u5⟩
  go_wp2_with (fail)
  refine (law_works _).mono ?_
  rintro e w6 ⟨rfl, u6⟩
  go_wp2
  go_ret
  exact ⟨rfl, by repeat (first | exact Upd.refl _ _ | refine Upd.alloc ?_ _ | refine Upd.drew ?_ | refine Upd.trans ?_ (by assumption) (fun _ _ f => f))⟩

theorem may_len {p : Blk.Pt} {s : List UInt8} (h : Blk.put p = (s, 0)) : p.s.length ≤ 64 := by
  cases hm : Blk.may p with
  | false => rw [Blk.put_no hm] at h; simp at h
  | true =>
    obtain ⟨cut, at_, n, l⟩ := p
    cases cut <;> simp [Blk.may] at hm <;> dsimp only <;> first | omega | (rw [hm.2.2.2]; simp)

set_option maxRecDepth 100000 in
theorem walk_BlockBack (p : Blk.Pt) (s : List UInt8) (at_ : Int) (w : World) (hp : p.s.length ≤ 9223372036854775807) (hs : s.length ≤ 9223372036854775807) (ha0 : 0 ≤ at_) (ha1 : at_ ≤ 255) :
    Calls Tryd.prog 5 #[ptV p, .string ⟨s.toArray⟩, .int .u8 at_] w (TrueR w) := by
  by_cases hl : 3000 < p.s.length ∨ 3000 < s.length
  · obtain ⟨cut, at0, n, t⟩ := p
    unfold ptV
    dsimp only at hp hl ⊢
    go_enter Tryd.func5, Tryd.ntmps5
    by_cases ha : 3000 < t.length
    · go_wp2_with (fail)
      refine (law_works _).mono ?_
      rintro e w1 ⟨rfl, u1⟩
      go_wp2
      go_ret
      exact ⟨rfl, by repeat (first | exact Upd.refl _ _ | refine Upd.alloc ?_ _ | refine Upd.drew ?_ | refine Upd.trans ?_ (by assumption) (fun _ _ f => f))⟩
    · have hb : 3000 < s.length := by omega
      go_wp2_with (fail)
      refine (law_works _).mono ?_
      rintro e w1 ⟨rfl, u1⟩
      go_wp2
      go_ret
      exact ⟨rfl, by repeat (first | exact Upd.refl _ _ | refine Upd.alloc ?_ _ | refine Upd.drew ?_ | refine Upd.trans ?_ (by assumption) (fun _ _ f => f))⟩
  · have hp2 : p.s.length ≤ 3000 := by omega
    have hs2 : s.length ≤ 3000 := by omega
    cases hm : Blk.may p with
    | true =>
      rcases Blk.read s with ⟨f, h1, h2⟩ | ⟨q, h1, h2⟩
      · exact back_10 p s at_ w hp2 hs2 ha0 ha1 hm f h2 h1
      · exact back_11 p s at_ w hp2 hs2 ha0 ha1 hm q h1 h2 (Nat.le_trans (may_len h2) (by decide))
    | false =>
      rcases Blk.read s with ⟨f, h1, h2⟩ | ⟨q, h1, h2⟩
      · exact back_00 p s at_ w hp2 hs2 ha0 ha1 hm f h2 h1
      · exact back_01 p s at_ w hp2 hs2 ha0 ha1 hm q h1 h2 (Nat.le_trans (may_len h2) (by decide))

/-- The answers of At, of two, and of five, calls. -/
def Good2 (W V r1 X r : List UInt8) : Prop := (X = W ∨ X = V) ∧ r = r1
def Good5 (W V l r1 r2 : List UInt8) (a : Int) (X : List UInt8) (f n : Int) (r : List UInt8) : Prop :=
  (X = W ∧ f = a ∧ n = l.length ∧ r = l) ∨ (X = W ∧ f = 0 ∧ n = a ∧ r = r1) ∨ (X = V ∧ f = 0 ∧ n = a ∧ r = r1) ∨ (X = W ∧ f = a + l.length ∧ n = 64 - (a + l.length) ∧ r = r2) ∨ (X = V ∧ f = a + l.length ∧ n = 64 - (a + l.length) ∧ r = r2)

set_option maxHeartbeats 1600000 in
set_option maxRecDepth 100000 in
theorem splices_no1 (v : List UInt8) (p : Blk.Pt) (w : World) (hv : v.length ≤ 3000) (hp : p.s.length ≤ 64) (hm : Blk.may p = false) (h0 : Blk.apply v p = []) :
    Calls Tryd.prog 7 #[.string ⟨v.toArray⟩, ptV p] w (TrueR w) := by
  have h1 := fun w => block_Put p w (by omega)
  obtain ⟨e0, he0⟩ : ∃ e0, e0 = (Blk.put p).2 := ⟨_, rfl⟩
  obtain ⟨t0, ht0⟩ : ∃ t0, t0 = (Blk.put p).1 := ⟨_, rfl⟩
  rw [← he0, ← ht0] at h1
  rw [Blk.put_no hm] at he0
  obtain rfl : e0 = 4 := he0
  obtain ⟨W, hW⟩ : ∃ W, W = Blk.apply v p := ⟨_, rfl⟩
  have hWl : W.length ≤ 64 := by rw [hW]; exact Blk.apply_length v p
  have h2 := fun w => block_Apply v p w (by omega) (by omega)
  have h3 := fun w => block_Trim W w (by omega)
  have h4 := fun w => block_Apply W p w (by omega) (by omega)
  rw [hW, Blk.apply_twice, ← hW] at h4
  rw [hW, Blk.apply_trim, ← hW] at h3
  rw [← hW] at h2
  obtain ⟨V, hV⟩ : ∃ V, V = v.take 64 := ⟨_, rfl⟩
  have hVl : V.length ≤ 64 := by rw [hV]; simp; omega
  have hex : (⟨v.toArray⟩ : ByteArray).extract 0 (min (v.length : Int) 64).toNat = ⟨V.toArray⟩ := by
    rw [show (min (v.length : Int) 64).toNat = min v.length 64 by omega]; have := ext_list v 0 (min v.length 64); rw [hV]; rw [show v.take 64 = v.take (min v.length 64) by rw [List.take_eq_take_iff]; omega]; simpa using this
  have hWe : W.isEmpty = true := by rw [hW, h0]; rfl
  have h6 := fun w => block_Trim V w (by omega)
  rw [hV, ← Blk.apply_no v p hm, ← hW, ← hV] at h6
  clear hm hW h0 hV ht0
  obtain ⟨cut, at_, n, l⟩ := p
  unfold ptV at h1 h2 h4 ⊢
  dsimp only at h1 h2 h4 hp ⊢
  have H1 := Lib.hid h1
  have H2 := Lib.hid h2
  have H3 := Lib.hid h3
  have H4 := Lib.hid h4
  have H6 := Lib.hid h6
  clear h1 h2 h3 h4 h6
  go_enter Tryd.func7, Tryd.ntmps7
  go_wp2_with (fail)
  refine (H1.out _).mono ?_
  rintro e w1 ⟨rfl, u1⟩
  have hb1 := u1.heap (heap_alloc_new w _) (fun f => f)
  have hlb1 := lt_of_heap hb1
  have c0 := cell_heap hb1 0 (.bool cut) rfl
  have c1 := cell_heap hb1 1 (.int .i64 at_) rfl
  have c2 := cell_heap hb1 2 (.int .i64 n) rfl
  have c3 := cell_heap hb1 3 (.string ⟨l.toArray⟩) rfl
  go_wp2_with (fail)
  refine (H2.out _).mono ?_
  rintro e w2 ⟨rfl, u2⟩
  clear c0 c1 c2 c3
  have hb2 := u2.heap hb1 (fun f => f)
  have hlb2 := lt_of_heap hb2
  have c0 := cell_heap hb2 0 (.bool cut) rfl
  have c1 := cell_heap hb2 1 (.int .i64 at_) rfl
  have c2 := cell_heap hb2 2 (.int .i64 n) rfl
  have c3 := cell_heap hb2 3 (.string ⟨l.toArray⟩) rfl
  go_wp2_with (fail)
  refine (H3.out _).mono ?_
  rintro e w3 ⟨rfl, rfl⟩
  go_wp2_with (fail)
  refine (H4.out _).mono ?_
  rintro e w4 ⟨rfl, u4⟩
  clear c0 c1 c2 c3
  have hb4 := u4.heap hb2 (fun f => f)
  have hlb4 := lt_of_heap hb4
  have c0 := cell_heap hb4 0 (.bool cut) rfl
  have c1 := cell_heap hb4 1 (.int .i64 at_) rfl
  have c2 := cell_heap hb4 2 (.int .i64 n) rfl
  have c3 := cell_heap hb4 3 (.string ⟨l.toArray⟩) rfl
  go_wp2_with (fail)
  refine (H6.out _).mono ?_
  rintro e w6 ⟨rfl, rfl⟩
  go_wp2_with (fail)
  refine (law_works _).mono ?_
  rintro e wz ⟨rfl, uz⟩
  go_wp2
  go_ret
  exact ⟨rfl, by repeat (first | exact Upd.refl _ _ | refine Upd.alloc ?_ _ | refine Upd.drew ?_ | refine Upd.trans ?_ (by assumption) (fun _ _ f => f))⟩

set_option maxHeartbeats 1600000 in
set_option maxRecDepth 100000 in
theorem splices_no0 (v : List UInt8) (p : Blk.Pt) (w : World) (hv : v.length ≤ 3000) (hp : p.s.length ≤ 64) (hm : Blk.may p = false) (h0 : Blk.apply v p ≠ []) :
    Calls Tryd.prog 7 #[.string ⟨v.toArray⟩, ptV p] w (TrueR w) := by
  have h1 := fun w => block_Put p w (by omega)
  obtain ⟨e0, he0⟩ : ∃ e0, e0 = (Blk.put p).2 := ⟨_, rfl⟩
  obtain ⟨t0, ht0⟩ : ∃ t0, t0 = (Blk.put p).1 := ⟨_, rfl⟩
  rw [← he0, ← ht0] at h1
  rw [Blk.put_no hm] at he0
  obtain rfl : e0 = 4 := he0
  obtain ⟨W, hW⟩ : ∃ W, W = Blk.apply v p := ⟨_, rfl⟩
  have hWl : W.length ≤ 64 := by rw [hW]; exact Blk.apply_length v p
  have h2 := fun w => block_Apply v p w (by omega) (by omega)
  have h3 := fun w => block_Trim W w (by omega)
  have h4 := fun w => block_Apply W p w (by omega) (by omega)
  rw [hW, Blk.apply_twice, ← hW] at h4
  rw [hW, Blk.apply_trim, ← hW] at h3
  rw [← hW] at h2
  obtain ⟨V, hV⟩ : ∃ V, V = v.take 64 := ⟨_, rfl⟩
  have hVl : V.length ≤ 64 := by rw [hV]; simp; omega
  have hex : (⟨v.toArray⟩ : ByteArray).extract 0 (min (v.length : Int) 64).toNat = ⟨V.toArray⟩ := by
    rw [show (min (v.length : Int) 64).toNat = min v.length 64 by omega]; have := ext_list v 0 (min v.length 64); rw [hV]; rw [show v.take 64 = v.take (min v.length 64) by rw [List.take_eq_take_iff]; omega]; simpa using this
  have hWe : W.isEmpty = false := by rw [hW]; simpa using h0
  have h5 := fun w => block_Check W w (by omega)
  rw [hW, Blk.apply_check _ _ h0, ← hW] at h5
  have h6 := fun w => block_Trim V w (by omega)
  rw [hV, ← Blk.apply_no v p hm, ← hW, ← hV] at h6
  clear hm hW h0 hV ht0
  obtain ⟨cut, at_, n, l⟩ := p
  unfold ptV at h1 h2 h4 ⊢
  dsimp only at h1 h2 h4 hp ⊢
  have H1 := Lib.hid h1
  have H2 := Lib.hid h2
  have H3 := Lib.hid h3
  have H4 := Lib.hid h4
  have H5 := Lib.hid h5
  have H6 := Lib.hid h6
  clear h1 h2 h3 h4 h5 h6
  go_enter Tryd.func7, Tryd.ntmps7
  go_wp2_with (fail)
  refine (H1.out _).mono ?_
  rintro e w1 ⟨rfl, u1⟩
  have hb1 := u1.heap (heap_alloc_new w _) (fun f => f)
  have hlb1 := lt_of_heap hb1
  have c0 := cell_heap hb1 0 (.bool cut) rfl
  have c1 := cell_heap hb1 1 (.int .i64 at_) rfl
  have c2 := cell_heap hb1 2 (.int .i64 n) rfl
  have c3 := cell_heap hb1 3 (.string ⟨l.toArray⟩) rfl
  go_wp2_with (fail)
  refine (H2.out _).mono ?_
  rintro e w2 ⟨rfl, u2⟩
  clear c0 c1 c2 c3
  have hb2 := u2.heap hb1 (fun f => f)
  have hlb2 := lt_of_heap hb2
  have c0 := cell_heap hb2 0 (.bool cut) rfl
  have c1 := cell_heap hb2 1 (.int .i64 at_) rfl
  have c2 := cell_heap hb2 2 (.int .i64 n) rfl
  have c3 := cell_heap hb2 3 (.string ⟨l.toArray⟩) rfl
  go_wp2_with (fail)
  refine (H3.out _).mono ?_
  rintro e w3 ⟨rfl, rfl⟩
  go_wp2_with (fail)
  refine (H4.out _).mono ?_
  rintro e w4 ⟨rfl, u4⟩
  clear c0 c1 c2 c3
  have hb4 := u4.heap hb2 (fun f => f)
  have hlb4 := lt_of_heap hb4
  have c0 := cell_heap hb4 0 (.bool cut) rfl
  have c1 := cell_heap hb4 1 (.int .i64 at_) rfl
  have c2 := cell_heap hb4 2 (.int .i64 n) rfl
  have c3 := cell_heap hb4 3 (.string ⟨l.toArray⟩) rfl
  go_wp2_with (fail)
  refine (H5.out _).mono ?_
  rintro e w5 ⟨rfl, rfl⟩
  go_wp2_with (fail)
  refine (H6.out _).mono ?_
  rintro e w6 ⟨rfl, rfl⟩
  go_wp2_with (fail)
  refine (law_works _).mono ?_
  rintro e wz ⟨rfl, uz⟩
  go_wp2
  go_ret
  exact ⟨rfl, by repeat (first | exact Upd.refl _ _ | refine Upd.alloc ?_ _ | refine Upd.drew ?_ | refine Upd.trans ?_ (by assumption) (fun _ _ f => f))⟩

set_option maxHeartbeats 1600000 in
set_option maxRecDepth 100000 in
theorem splices_cut1 (v : List UInt8) (p : Blk.Pt) (w : World) (hv : v.length ≤ 3000) (hp : p.s.length ≤ 64) (hm : Blk.may p = true) (hc : p.cut = true) (h0 : Blk.apply v p = []) :
    Calls Tryd.prog 7 #[.string ⟨v.toArray⟩, ptV p] w (TrueR w) := by
  have h1 := fun w => block_Put p w (by omega)
  obtain ⟨e0, he0⟩ : ∃ e0, e0 = (Blk.put p).2 := ⟨_, rfl⟩
  obtain ⟨t0, ht0⟩ : ∃ t0, t0 = (Blk.put p).1 := ⟨_, rfl⟩
  rw [← he0, ← ht0] at h1
  rw [Blk.put_ok hm] at he0
  obtain rfl : e0 = 0 := he0
  obtain ⟨W, hW⟩ : ∃ W, W = Blk.apply v p := ⟨_, rfl⟩
  have hWl : W.length ≤ 64 := by rw [hW]; exact Blk.apply_length v p
  have h2 := fun w => block_Apply v p w (by omega) (by omega)
  have h3 := fun w => block_Trim W w (by omega)
  have h4 := fun w => block_Apply W p w (by omega) (by omega)
  rw [hW, Blk.apply_twice, ← hW] at h4
  rw [hW, Blk.apply_trim, ← hW] at h3
  rw [← hW] at h2
  obtain ⟨V, hV⟩ : ∃ V, V = v.take 64 := ⟨_, rfl⟩
  have hVl : V.length ≤ 64 := by rw [hV]; simp; omega
  have hex : (⟨v.toArray⟩ : ByteArray).extract 0 (min (v.length : Int) 64).toNat = ⟨V.toArray⟩ := by
    rw [show (min (v.length : Int) 64).toNat = min v.length 64 by omega]; have := ext_list v 0 (min v.length 64); rw [hV]; rw [show v.take 64 = v.take (min v.length 64) by rw [List.take_eq_take_iff]; omega]; simpa using this
  have hWe : W.isEmpty = true := by rw [hW, h0]; rfl
  have hk := Blk.cut_keeps v p hm hc
  have hn : 0 ≤ p.n ∧ p.n < 64 := by unfold Blk.may at hm; rw [if_pos hc] at hm; simp at hm; omega
  have h6 := fun w => block_At W 0 p.n w (by omega) (by omega)
  have h7 := fun w => block_At V 0 p.n w (by omega) (by omega)
  obtain ⟨hk1, hk2⟩ := hk
  rw [← hW] at hk1 hk2
  rw [hk1, ← hV] at h6
  clear hk1
  generalize Blk.at_ V 0 p.n = r1 at h6 h7
  have h6' : ∀ (X : List UInt8) (r : List UInt8) (w : World), Good2 W V r1 X r → Calls Tryd.prog 21 #[.string ⟨X.toArray⟩, .int .i64 0, .int .i64 p.n] w (StrR r w) := by
    rintro X r w ⟨rfl | rfl, rfl⟩
    · exact h6 w
    · exact h7 w
  replace h6 := h6'
  clear h6' h7
  clear hm hW h0 hV ht0
  obtain ⟨cut, at_, n, l⟩ := p
  unfold ptV at h1 h2 h4 ⊢
  dsimp only at h1 h2 h4 h6 hp hn hc hk2 ⊢
  subst hc
  have H1 := Lib.hid h1
  have H2 := Lib.hid h2
  have H3 := Lib.hid h3
  have H4 := Lib.hid h4
  have H6 := Lib.hid h6
  clear h1 h2 h3 h4 h6
  go_enter Tryd.func7, Tryd.ntmps7
  go_wp2_with (fail)
  refine (H1.out _).mono ?_
  rintro e w1 ⟨rfl, u1⟩
  have hb1 := u1.heap (heap_alloc_new w _) (fun f => f)
  have hlb1 := lt_of_heap hb1
  have c0 := cell_heap hb1 0 (.bool true) rfl
  have c1 := cell_heap hb1 1 (.int .i64 at_) rfl
  have c2 := cell_heap hb1 2 (.int .i64 n) rfl
  have c3 := cell_heap hb1 3 (.string ⟨l.toArray⟩) rfl
  go_wp2_with (fail)
  refine (H2.out _).mono ?_
  rintro e w2 ⟨rfl, u2⟩
  clear c0 c1 c2 c3
  have hb2 := u2.heap hb1 (fun f => f)
  have hlb2 := lt_of_heap hb2
  have c0 := cell_heap hb2 0 (.bool true) rfl
  have c1 := cell_heap hb2 1 (.int .i64 at_) rfl
  have c2 := cell_heap hb2 2 (.int .i64 n) rfl
  have c3 := cell_heap hb2 3 (.string ⟨l.toArray⟩) rfl
  go_wp2_with (fail)
  refine (H3.out _).mono ?_
  rintro e w3 ⟨rfl, rfl⟩
  go_wp2_with (fail)
  refine (H4.out _).mono ?_
  rintro e w4 ⟨rfl, u4⟩
  clear c0 c1 c2 c3
  have hb4 := u4.heap hb2 (fun f => f)
  have hlb4 := lt_of_heap hb4
  have c0 := cell_heap hb4 0 (.bool true) rfl
  have c1 := cell_heap hb4 1 (.int .i64 at_) rfl
  have c2 := cell_heap hb4 2 (.int .i64 n) rfl
  have c3 := cell_heap hb4 3 (.string ⟨l.toArray⟩) rfl
  have hu0 : Upd (fun _ => False) w w4 := by repeat (first | exact Upd.refl _ _ | refine Upd.alloc ?_ _ | refine Upd.drew ?_ | refine Upd.trans ?_ (by assumption) (fun _ _ f => f))
  replace hu0 := hu0.drew
  go_wp2
  have HK := Lib.hid hk2
  clear hk2
  clear hn
  clear hex hb1 hb2 hb4 hlb1 hlb2 hlb4 hp hv hWl hVl u1 u2 u4 H1 H2 H3 H4 hWe
  rename_i k1 k2 k3 k4 k5 k6
  go_region_held3 (fun w' => w'.cell? ⟨w.heap.size, 0, none⟩ = some (.bool true) ∧ w'.cell? ⟨w.heap.size, 1, none⟩ = some (.int .i64 at_) ∧ w'.cell? ⟨w.heap.size, 2, none⟩ = some (.int .i64 n) ∧ w'.cell? ⟨w.heap.size, 3, none⟩ = some (.string ⟨l.toArray⟩) ∧ Upd (fun _ => False) w w')
      (first
        | exact ⟨c0, c1, c2, c3, hu0⟩
        | (have h := ‹_ ∧ _ ∧ _ ∧ _ ∧ Upd _ _ _›; exact ⟨u6.cell h.1 (fun f => f), u6.cell h.2.1 (fun f => f), u6.cell h.2.2.1 (fun f => f), u6.cell h.2.2.2.1 (fun f => f), h.2.2.2.2.trans u6 (fun _ _ f => f)⟩)
        | (have h := ‹_ ∧ _ ∧ _ ∧ _ ∧ Upd _ _ _›; exact ⟨uz.cell h.1 (fun f => f), uz.cell h.2.1 (fun f => f), uz.cell h.2.2.1 (fun f => f), uz.cell h.2.2.2.1 (fun f => f), h.2.2.2.2.trans uz (fun _ _ f => f)⟩))
      (first
        | (go_at_call 21; (try rw [hwrap]); refine (H6.out _ _ _ (by first | exact ⟨Or.inl rfl, rfl⟩ | exact ⟨Or.inr rfl, rfl⟩)).mono ?_; rintro e w6 ⟨rfl, u6⟩)
        | (go_at_call 9; refine (law_works _).mono ?_; rintro e wz ⟨rfl, uz⟩))
  have hS := ‹_ ∧ _ ∧ _ ∧ _ ∧ Upd _ _ _›
  go_wp2
  go_ret
  exact ⟨rfl, hS.2.2.2.2⟩

set_option maxHeartbeats 1600000 in
set_option maxRecDepth 100000 in
theorem splices_cut0 (v : List UInt8) (p : Blk.Pt) (w : World) (hv : v.length ≤ 3000) (hp : p.s.length ≤ 64) (hm : Blk.may p = true) (hc : p.cut = true) (h0 : Blk.apply v p ≠ []) :
    Calls Tryd.prog 7 #[.string ⟨v.toArray⟩, ptV p] w (TrueR w) := by
  have h1 := fun w => block_Put p w (by omega)
  obtain ⟨e0, he0⟩ : ∃ e0, e0 = (Blk.put p).2 := ⟨_, rfl⟩
  obtain ⟨t0, ht0⟩ : ∃ t0, t0 = (Blk.put p).1 := ⟨_, rfl⟩
  rw [← he0, ← ht0] at h1
  rw [Blk.put_ok hm] at he0
  obtain rfl : e0 = 0 := he0
  obtain ⟨W, hW⟩ : ∃ W, W = Blk.apply v p := ⟨_, rfl⟩
  have hWl : W.length ≤ 64 := by rw [hW]; exact Blk.apply_length v p
  have h2 := fun w => block_Apply v p w (by omega) (by omega)
  have h3 := fun w => block_Trim W w (by omega)
  have h4 := fun w => block_Apply W p w (by omega) (by omega)
  rw [hW, Blk.apply_twice, ← hW] at h4
  rw [hW, Blk.apply_trim, ← hW] at h3
  rw [← hW] at h2
  obtain ⟨V, hV⟩ : ∃ V, V = v.take 64 := ⟨_, rfl⟩
  have hVl : V.length ≤ 64 := by rw [hV]; simp; omega
  have hex : (⟨v.toArray⟩ : ByteArray).extract 0 (min (v.length : Int) 64).toNat = ⟨V.toArray⟩ := by
    rw [show (min (v.length : Int) 64).toNat = min v.length 64 by omega]; have := ext_list v 0 (min v.length 64); rw [hV]; rw [show v.take 64 = v.take (min v.length 64) by rw [List.take_eq_take_iff]; omega]; simpa using this
  have hWe : W.isEmpty = false := by rw [hW]; simpa using h0
  have h5 := fun w => block_Check W w (by omega)
  rw [hW, Blk.apply_check _ _ h0, ← hW] at h5
  have hk := Blk.cut_keeps v p hm hc
  have hn : 0 ≤ p.n ∧ p.n < 64 := by unfold Blk.may at hm; rw [if_pos hc] at hm; simp at hm; omega
  have h6 := fun w => block_At W 0 p.n w (by omega) (by omega)
  have h7 := fun w => block_At V 0 p.n w (by omega) (by omega)
  obtain ⟨hk1, hk2⟩ := hk
  rw [← hW] at hk1 hk2
  rw [hk1, ← hV] at h6
  clear hk1
  generalize Blk.at_ V 0 p.n = r1 at h6 h7
  have h6' : ∀ (X : List UInt8) (r : List UInt8) (w : World), Good2 W V r1 X r → Calls Tryd.prog 21 #[.string ⟨X.toArray⟩, .int .i64 0, .int .i64 p.n] w (StrR r w) := by
    rintro X r w ⟨rfl | rfl, rfl⟩
    · exact h6 w
    · exact h7 w
  replace h6 := h6'
  clear h6' h7
  clear hm hW h0 hV ht0
  obtain ⟨cut, at_, n, l⟩ := p
  unfold ptV at h1 h2 h4 ⊢
  dsimp only at h1 h2 h4 h6 hp hn hc hk2 ⊢
  subst hc
  have H1 := Lib.hid h1
  have H2 := Lib.hid h2
  have H3 := Lib.hid h3
  have H4 := Lib.hid h4
  have H5 := Lib.hid h5
  have H6 := Lib.hid h6
  clear h1 h2 h3 h4 h5 h6
  go_enter Tryd.func7, Tryd.ntmps7
  go_wp2_with (fail)
  refine (H1.out _).mono ?_
  rintro e w1 ⟨rfl, u1⟩
  have hb1 := u1.heap (heap_alloc_new w _) (fun f => f)
  have hlb1 := lt_of_heap hb1
  have c0 := cell_heap hb1 0 (.bool true) rfl
  have c1 := cell_heap hb1 1 (.int .i64 at_) rfl
  have c2 := cell_heap hb1 2 (.int .i64 n) rfl
  have c3 := cell_heap hb1 3 (.string ⟨l.toArray⟩) rfl
  go_wp2_with (fail)
  refine (H2.out _).mono ?_
  rintro e w2 ⟨rfl, u2⟩
  clear c0 c1 c2 c3
  have hb2 := u2.heap hb1 (fun f => f)
  have hlb2 := lt_of_heap hb2
  have c0 := cell_heap hb2 0 (.bool true) rfl
  have c1 := cell_heap hb2 1 (.int .i64 at_) rfl
  have c2 := cell_heap hb2 2 (.int .i64 n) rfl
  have c3 := cell_heap hb2 3 (.string ⟨l.toArray⟩) rfl
  go_wp2_with (fail)
  refine (H3.out _).mono ?_
  rintro e w3 ⟨rfl, rfl⟩
  go_wp2_with (fail)
  refine (H4.out _).mono ?_
  rintro e w4 ⟨rfl, u4⟩
  clear c0 c1 c2 c3
  have hb4 := u4.heap hb2 (fun f => f)
  have hlb4 := lt_of_heap hb4
  have c0 := cell_heap hb4 0 (.bool true) rfl
  have c1 := cell_heap hb4 1 (.int .i64 at_) rfl
  have c2 := cell_heap hb4 2 (.int .i64 n) rfl
  have c3 := cell_heap hb4 3 (.string ⟨l.toArray⟩) rfl
  go_wp2_with (fail)
  refine (H5.out _).mono ?_
  rintro e w5 ⟨rfl, rfl⟩
  have hu0 : Upd (fun _ => False) w w4 := by repeat (first | exact Upd.refl _ _ | refine Upd.alloc ?_ _ | refine Upd.drew ?_ | refine Upd.trans ?_ (by assumption) (fun _ _ f => f))
  replace hu0 := hu0.drew
  go_wp2
  have HK := Lib.hid hk2
  clear hk2
  clear hn
  clear hex hb1 hb2 hb4 hlb1 hlb2 hlb4 hp hv hWl hVl u1 u2 u4 H1 H2 H3 H4 hWe
  rename_i k1 k2 k3 k4 k5 k6
  go_region_held3 (fun w' => w'.cell? ⟨w.heap.size, 0, none⟩ = some (.bool true) ∧ w'.cell? ⟨w.heap.size, 1, none⟩ = some (.int .i64 at_) ∧ w'.cell? ⟨w.heap.size, 2, none⟩ = some (.int .i64 n) ∧ w'.cell? ⟨w.heap.size, 3, none⟩ = some (.string ⟨l.toArray⟩) ∧ Upd (fun _ => False) w w')
      (first
        | exact ⟨c0, c1, c2, c3, hu0⟩
        | (have h := ‹_ ∧ _ ∧ _ ∧ _ ∧ Upd _ _ _›; exact ⟨u6.cell h.1 (fun f => f), u6.cell h.2.1 (fun f => f), u6.cell h.2.2.1 (fun f => f), u6.cell h.2.2.2.1 (fun f => f), h.2.2.2.2.trans u6 (fun _ _ f => f)⟩)
        | (have h := ‹_ ∧ _ ∧ _ ∧ _ ∧ Upd _ _ _›; exact ⟨uz.cell h.1 (fun f => f), uz.cell h.2.1 (fun f => f), uz.cell h.2.2.1 (fun f => f), uz.cell h.2.2.2.1 (fun f => f), h.2.2.2.2.trans uz (fun _ _ f => f)⟩))
      (first
        | (go_at_call 21; (try rw [hwrap]); refine (H6.out _ _ _ (by first | exact ⟨Or.inl rfl, rfl⟩ | exact ⟨Or.inr rfl, rfl⟩)).mono ?_; rintro e w6 ⟨rfl, u6⟩)
        | (go_at_call 9; refine (law_works _).mono ?_; rintro e wz ⟨rfl, uz⟩))
  have hS := ‹_ ∧ _ ∧ _ ∧ _ ∧ Upd _ _ _›
  go_wp2
  go_ret
  exact ⟨rfl, hS.2.2.2.2⟩

set_option maxHeartbeats 1600000 in
set_option maxRecDepth 100000 in
theorem splices_splice1 (v : List UInt8) (p : Blk.Pt) (w : World) (hv : v.length ≤ 3000) (hp : p.s.length ≤ 64) (hm : Blk.may p = true) (hc : p.cut = false) (h0 : Blk.apply v p = []) :
    Calls Tryd.prog 7 #[.string ⟨v.toArray⟩, ptV p] w (TrueR w) := by
  have h1 := fun w => block_Put p w (by omega)
  obtain ⟨e0, he0⟩ : ∃ e0, e0 = (Blk.put p).2 := ⟨_, rfl⟩
  obtain ⟨t0, ht0⟩ : ∃ t0, t0 = (Blk.put p).1 := ⟨_, rfl⟩
  rw [← he0, ← ht0] at h1
  rw [Blk.put_ok hm] at he0
  obtain rfl : e0 = 0 := he0
  obtain ⟨W, hW⟩ : ∃ W, W = Blk.apply v p := ⟨_, rfl⟩
  have hWl : W.length ≤ 64 := by rw [hW]; exact Blk.apply_length v p
  have h2 := fun w => block_Apply v p w (by omega) (by omega)
  have h3 := fun w => block_Trim W w (by omega)
  have h4 := fun w => block_Apply W p w (by omega) (by omega)
  rw [hW, Blk.apply_twice, ← hW] at h4
  rw [hW, Blk.apply_trim, ← hW] at h3
  rw [← hW] at h2
  obtain ⟨V, hV⟩ : ∃ V, V = v.take 64 := ⟨_, rfl⟩
  have hVl : V.length ≤ 64 := by rw [hV]; simp; omega
  have hex : (⟨v.toArray⟩ : ByteArray).extract 0 (min (v.length : Int) 64).toNat = ⟨V.toArray⟩ := by
    rw [show (min (v.length : Int) 64).toNat = min v.length 64 by omega]; have := ext_list v 0 (min v.length 64); rw [hV]; rw [show v.take 64 = v.take (min v.length 64) by rw [List.take_eq_take_iff]; omega]; simpa using this
  have hWe : W.isEmpty = true := by rw [hW, h0]; rfl
  have hk := Blk.splice_keeps v p hm hc
  have hn : 0 < p.s.length ∧ p.s.length ≤ 64 ∧ 0 ≤ p.at_ ∧ p.at_ ≤ 64 - p.s.length := by
    unfold Blk.may at hm; rw [if_neg (by simp [hc])] at hm; simp at hm; omega
  obtain ⟨k1, k2, k3⟩ := hk
  have h6 := fun w => block_At W p.at_ p.s.length w (by omega) (by omega)
  rw [← hW] at k1 k2 k3
  rw [← hV] at k2 k3
  rw [k1] at h6
  have h7 := fun w => block_At W 0 p.at_ w (by omega) (by omega)
  rw [k2] at h7
  have h8 := fun w => block_At V 0 p.at_ w (by omega) (by omega)
  have h9 := fun w => block_At W (p.at_ + p.s.length) (64 - (p.at_ + p.s.length)) w (by omega) (by omega)
  rw [k3] at h9
  have h10 := fun w => block_At V (p.at_ + p.s.length) (64 - (p.at_ + p.s.length)) w (by omega) (by omega)
  clear k1 k2 k3
  generalize Blk.at_ V 0 p.at_ = r1 at h7 h8
  generalize Blk.at_ V (p.at_ + p.s.length) (64 - (p.at_ + p.s.length)) = r2 at h9 h10
  have h6' : ∀ (X : List UInt8) (f n : Int) (r : List UInt8) (w : World), Good5 W V p.s r1 r2 p.at_ X f n r → Calls Tryd.prog 21 #[.string ⟨X.toArray⟩, .int .i64 f, .int .i64 n] w (StrR r w) := by
    rintro X f n r w (⟨rfl, rfl, rfl, rfl⟩ | ⟨rfl, rfl, rfl, rfl⟩ | ⟨rfl, rfl, rfl, rfl⟩ | ⟨rfl, rfl, rfl, rfl⟩ | ⟨rfl, rfl, rfl, rfl⟩)
    · exact h6 w
    · exact h7 w
    · exact h8 w
    · exact h9 w
    · exact h10 w
  replace h6 := h6'
  clear h6' h7 h8 h9 h10
  clear hm hW h0 hV ht0
  obtain ⟨cut, at_, n, l⟩ := p
  unfold ptV at h1 h2 h4 ⊢
  dsimp only at h1 h2 h4 h6 hp hn hc ⊢
  subst hc
  have H1 := Lib.hid h1
  have H2 := Lib.hid h2
  have H3 := Lib.hid h3
  have H4 := Lib.hid h4
  have H6 := Lib.hid h6
  clear h1 h2 h3 h4 h6
  go_enter Tryd.func7, Tryd.ntmps7
  go_wp2_with (fail)
  refine (H1.out _).mono ?_
  rintro e w1 ⟨rfl, u1⟩
  have hb1 := u1.heap (heap_alloc_new w _) (fun f => f)
  have hlb1 := lt_of_heap hb1
  have c0 := cell_heap hb1 0 (.bool false) rfl
  have c1 := cell_heap hb1 1 (.int .i64 at_) rfl
  have c2 := cell_heap hb1 2 (.int .i64 n) rfl
  have c3 := cell_heap hb1 3 (.string ⟨l.toArray⟩) rfl
  go_wp2_with (fail)
  refine (H2.out _).mono ?_
  rintro e w2 ⟨rfl, u2⟩
  clear c0 c1 c2 c3
  have hb2 := u2.heap hb1 (fun f => f)
  have hlb2 := lt_of_heap hb2
  have c0 := cell_heap hb2 0 (.bool false) rfl
  have c1 := cell_heap hb2 1 (.int .i64 at_) rfl
  have c2 := cell_heap hb2 2 (.int .i64 n) rfl
  have c3 := cell_heap hb2 3 (.string ⟨l.toArray⟩) rfl
  go_wp2_with (fail)
  refine (H3.out _).mono ?_
  rintro e w3 ⟨rfl, rfl⟩
  go_wp2_with (fail)
  refine (H4.out _).mono ?_
  rintro e w4 ⟨rfl, u4⟩
  clear c0 c1 c2 c3
  have hb4 := u4.heap hb2 (fun f => f)
  have hlb4 := lt_of_heap hb4
  have c0 := cell_heap hb4 0 (.bool false) rfl
  have c1 := cell_heap hb4 1 (.int .i64 at_) rfl
  have c2 := cell_heap hb4 2 (.int .i64 n) rfl
  have c3 := cell_heap hb4 3 (.string ⟨l.toArray⟩) rfl
  have hu0 : Upd (fun _ => False) w w4 := by repeat (first | exact Upd.refl _ _ | refine Upd.alloc ?_ _ | refine Upd.drew ?_ | refine Upd.trans ?_ (by assumption) (fun _ _ f => f))
  replace hu0 := hu0.drew
  go_wp2
  obtain ⟨hn0, hn1, hn2, hn3⟩ := hn
  have hwrap : IntKind.i64.wrap (64 - (at_ + (l.length : Int))) = 64 - (at_ + l.length) := IntWalk.i64_in _ (by omega)
  clear hn0 hn1 hn2 hn3
  clear hex hb1 hb2 hb4 hlb1 hlb2 hlb4 hp hv hWl hVl u1 u2 u4 H1 H2 H3 H4 hWe
  rename_i k1 k2 k3 k4 k5 k6
  go_region_held3 (fun w' => w'.cell? ⟨w.heap.size, 0, none⟩ = some (.bool false) ∧ w'.cell? ⟨w.heap.size, 1, none⟩ = some (.int .i64 at_) ∧ w'.cell? ⟨w.heap.size, 2, none⟩ = some (.int .i64 n) ∧ w'.cell? ⟨w.heap.size, 3, none⟩ = some (.string ⟨l.toArray⟩) ∧ Upd (fun _ => False) w w')
      (first
        | exact ⟨c0, c1, c2, c3, hu0⟩
        | (have h := ‹_ ∧ _ ∧ _ ∧ _ ∧ Upd _ _ _›; exact ⟨u6.cell h.1 (fun f => f), u6.cell h.2.1 (fun f => f), u6.cell h.2.2.1 (fun f => f), u6.cell h.2.2.2.1 (fun f => f), h.2.2.2.2.trans u6 (fun _ _ f => f)⟩)
        | (have h := ‹_ ∧ _ ∧ _ ∧ _ ∧ Upd _ _ _›; exact ⟨uz.cell h.1 (fun f => f), uz.cell h.2.1 (fun f => f), uz.cell h.2.2.1 (fun f => f), uz.cell h.2.2.2.1 (fun f => f), h.2.2.2.2.trans uz (fun _ _ f => f)⟩))
      (first
        | (go_at_call 21; (try rw [hwrap]); refine (H6.out _ _ _ _ _ (by first | exact Or.inl ⟨rfl, rfl, rfl, rfl⟩ | exact Or.inr (Or.inl ⟨rfl, rfl, rfl, rfl⟩) | exact Or.inr (Or.inr (Or.inl ⟨rfl, rfl, rfl, rfl⟩)) | exact Or.inr (Or.inr (Or.inr (Or.inl ⟨rfl, rfl, rfl, rfl⟩))) | exact Or.inr (Or.inr (Or.inr (Or.inr ⟨rfl, rfl, rfl, rfl⟩))))).mono ?_; rintro e w6 ⟨rfl, u6⟩)
        | (go_at_call 9; refine (law_works _).mono ?_; rintro e wz ⟨rfl, uz⟩))
  have hS := ‹_ ∧ _ ∧ _ ∧ _ ∧ Upd _ _ _›
  go_wp2
  go_ret
  exact ⟨rfl, hS.2.2.2.2⟩

set_option maxHeartbeats 1600000 in
set_option maxRecDepth 100000 in
theorem splices_splice0 (v : List UInt8) (p : Blk.Pt) (w : World) (hv : v.length ≤ 3000) (hp : p.s.length ≤ 64) (hm : Blk.may p = true) (hc : p.cut = false) (h0 : Blk.apply v p ≠ []) :
    Calls Tryd.prog 7 #[.string ⟨v.toArray⟩, ptV p] w (TrueR w) := by
  have h1 := fun w => block_Put p w (by omega)
  obtain ⟨e0, he0⟩ : ∃ e0, e0 = (Blk.put p).2 := ⟨_, rfl⟩
  obtain ⟨t0, ht0⟩ : ∃ t0, t0 = (Blk.put p).1 := ⟨_, rfl⟩
  rw [← he0, ← ht0] at h1
  rw [Blk.put_ok hm] at he0
  obtain rfl : e0 = 0 := he0
  obtain ⟨W, hW⟩ : ∃ W, W = Blk.apply v p := ⟨_, rfl⟩
  have hWl : W.length ≤ 64 := by rw [hW]; exact Blk.apply_length v p
  have h2 := fun w => block_Apply v p w (by omega) (by omega)
  have h3 := fun w => block_Trim W w (by omega)
  have h4 := fun w => block_Apply W p w (by omega) (by omega)
  rw [hW, Blk.apply_twice, ← hW] at h4
  rw [hW, Blk.apply_trim, ← hW] at h3
  rw [← hW] at h2
  obtain ⟨V, hV⟩ : ∃ V, V = v.take 64 := ⟨_, rfl⟩
  have hVl : V.length ≤ 64 := by rw [hV]; simp; omega
  have hex : (⟨v.toArray⟩ : ByteArray).extract 0 (min (v.length : Int) 64).toNat = ⟨V.toArray⟩ := by
    rw [show (min (v.length : Int) 64).toNat = min v.length 64 by omega]; have := ext_list v 0 (min v.length 64); rw [hV]; rw [show v.take 64 = v.take (min v.length 64) by rw [List.take_eq_take_iff]; omega]; simpa using this
  have hWe : W.isEmpty = false := by rw [hW]; simpa using h0
  have h5 := fun w => block_Check W w (by omega)
  rw [hW, Blk.apply_check _ _ h0, ← hW] at h5
  have hk := Blk.splice_keeps v p hm hc
  have hn : 0 < p.s.length ∧ p.s.length ≤ 64 ∧ 0 ≤ p.at_ ∧ p.at_ ≤ 64 - p.s.length := by
    unfold Blk.may at hm; rw [if_neg (by simp [hc])] at hm; simp at hm; omega
  obtain ⟨k1, k2, k3⟩ := hk
  have h6 := fun w => block_At W p.at_ p.s.length w (by omega) (by omega)
  rw [← hW] at k1 k2 k3
  rw [← hV] at k2 k3
  rw [k1] at h6
  have h7 := fun w => block_At W 0 p.at_ w (by omega) (by omega)
  rw [k2] at h7
  have h8 := fun w => block_At V 0 p.at_ w (by omega) (by omega)
  have h9 := fun w => block_At W (p.at_ + p.s.length) (64 - (p.at_ + p.s.length)) w (by omega) (by omega)
  rw [k3] at h9
  have h10 := fun w => block_At V (p.at_ + p.s.length) (64 - (p.at_ + p.s.length)) w (by omega) (by omega)
  clear k1 k2 k3
  generalize Blk.at_ V 0 p.at_ = r1 at h7 h8
  generalize Blk.at_ V (p.at_ + p.s.length) (64 - (p.at_ + p.s.length)) = r2 at h9 h10
  have h6' : ∀ (X : List UInt8) (f n : Int) (r : List UInt8) (w : World), Good5 W V p.s r1 r2 p.at_ X f n r → Calls Tryd.prog 21 #[.string ⟨X.toArray⟩, .int .i64 f, .int .i64 n] w (StrR r w) := by
    rintro X f n r w (⟨rfl, rfl, rfl, rfl⟩ | ⟨rfl, rfl, rfl, rfl⟩ | ⟨rfl, rfl, rfl, rfl⟩ | ⟨rfl, rfl, rfl, rfl⟩ | ⟨rfl, rfl, rfl, rfl⟩)
    · exact h6 w
    · exact h7 w
    · exact h8 w
    · exact h9 w
    · exact h10 w
  replace h6 := h6'
  clear h6' h7 h8 h9 h10
  clear hm hW h0 hV ht0
  obtain ⟨cut, at_, n, l⟩ := p
  unfold ptV at h1 h2 h4 ⊢
  dsimp only at h1 h2 h4 h6 hp hn hc ⊢
  subst hc
  have H1 := Lib.hid h1
  have H2 := Lib.hid h2
  have H3 := Lib.hid h3
  have H4 := Lib.hid h4
  have H5 := Lib.hid h5
  have H6 := Lib.hid h6
  clear h1 h2 h3 h4 h5 h6
  go_enter Tryd.func7, Tryd.ntmps7
  go_wp2_with (fail)
  refine (H1.out _).mono ?_
  rintro e w1 ⟨rfl, u1⟩
  have hb1 := u1.heap (heap_alloc_new w _) (fun f => f)
  have hlb1 := lt_of_heap hb1
  have c0 := cell_heap hb1 0 (.bool false) rfl
  have c1 := cell_heap hb1 1 (.int .i64 at_) rfl
  have c2 := cell_heap hb1 2 (.int .i64 n) rfl
  have c3 := cell_heap hb1 3 (.string ⟨l.toArray⟩) rfl
  go_wp2_with (fail)
  refine (H2.out _).mono ?_
  rintro e w2 ⟨rfl, u2⟩
  clear c0 c1 c2 c3
  have hb2 := u2.heap hb1 (fun f => f)
  have hlb2 := lt_of_heap hb2
  have c0 := cell_heap hb2 0 (.bool false) rfl
  have c1 := cell_heap hb2 1 (.int .i64 at_) rfl
  have c2 := cell_heap hb2 2 (.int .i64 n) rfl
  have c3 := cell_heap hb2 3 (.string ⟨l.toArray⟩) rfl
  go_wp2_with (fail)
  refine (H3.out _).mono ?_
  rintro e w3 ⟨rfl, rfl⟩
  go_wp2_with (fail)
  refine (H4.out _).mono ?_
  rintro e w4 ⟨rfl, u4⟩
  clear c0 c1 c2 c3
  have hb4 := u4.heap hb2 (fun f => f)
  have hlb4 := lt_of_heap hb4
  have c0 := cell_heap hb4 0 (.bool false) rfl
  have c1 := cell_heap hb4 1 (.int .i64 at_) rfl
  have c2 := cell_heap hb4 2 (.int .i64 n) rfl
  have c3 := cell_heap hb4 3 (.string ⟨l.toArray⟩) rfl
  go_wp2_with (fail)
  refine (H5.out _).mono ?_
  rintro e w5 ⟨rfl, rfl⟩
  have hu0 : Upd (fun _ => False) w w4 := by repeat (first | exact Upd.refl _ _ | refine Upd.alloc ?_ _ | refine Upd.drew ?_ | refine Upd.trans ?_ (by assumption) (fun _ _ f => f))
  replace hu0 := hu0.drew
  go_wp2
  obtain ⟨hn0, hn1, hn2, hn3⟩ := hn
  have hwrap : IntKind.i64.wrap (64 - (at_ + (l.length : Int))) = 64 - (at_ + l.length) := IntWalk.i64_in _ (by omega)
  clear hn0 hn1 hn2 hn3
  clear hex hb1 hb2 hb4 hlb1 hlb2 hlb4 hp hv hWl hVl u1 u2 u4 H1 H2 H3 H4 hWe
  rename_i k1 k2 k3 k4 k5 k6
  go_region_held3 (fun w' => w'.cell? ⟨w.heap.size, 0, none⟩ = some (.bool false) ∧ w'.cell? ⟨w.heap.size, 1, none⟩ = some (.int .i64 at_) ∧ w'.cell? ⟨w.heap.size, 2, none⟩ = some (.int .i64 n) ∧ w'.cell? ⟨w.heap.size, 3, none⟩ = some (.string ⟨l.toArray⟩) ∧ Upd (fun _ => False) w w')
      (first
        | exact ⟨c0, c1, c2, c3, hu0⟩
        | (have h := ‹_ ∧ _ ∧ _ ∧ _ ∧ Upd _ _ _›; exact ⟨u6.cell h.1 (fun f => f), u6.cell h.2.1 (fun f => f), u6.cell h.2.2.1 (fun f => f), u6.cell h.2.2.2.1 (fun f => f), h.2.2.2.2.trans u6 (fun _ _ f => f)⟩)
        | (have h := ‹_ ∧ _ ∧ _ ∧ _ ∧ Upd _ _ _›; exact ⟨uz.cell h.1 (fun f => f), uz.cell h.2.1 (fun f => f), uz.cell h.2.2.1 (fun f => f), uz.cell h.2.2.2.1 (fun f => f), h.2.2.2.2.trans uz (fun _ _ f => f)⟩))
      (first
        | (go_at_call 21; (try rw [hwrap]); refine (H6.out _ _ _ _ _ (by first | exact Or.inl ⟨rfl, rfl, rfl, rfl⟩ | exact Or.inr (Or.inl ⟨rfl, rfl, rfl, rfl⟩) | exact Or.inr (Or.inr (Or.inl ⟨rfl, rfl, rfl, rfl⟩)) | exact Or.inr (Or.inr (Or.inr (Or.inl ⟨rfl, rfl, rfl, rfl⟩))) | exact Or.inr (Or.inr (Or.inr (Or.inr ⟨rfl, rfl, rfl, rfl⟩))))).mono ?_; rintro e w6 ⟨rfl, u6⟩)
        | (go_at_call 9; refine (law_works _).mono ?_; rintro e wz ⟨rfl, uz⟩))
  have hS := ‹_ ∧ _ ∧ _ ∧ _ ∧ Upd _ _ _›
  go_wp2
  go_ret
  exact ⟨rfl, hS.2.2.2.2⟩

set_option maxRecDepth 100000 in
theorem walk_BlockSplices (v : List UInt8) (p : Blk.Pt) (w : World) (hv : v.length ≤ 9223372036854775807) (hp : p.s.length ≤ 9223372036854775807) :
    Calls Tryd.prog 7 #[.string ⟨v.toArray⟩, ptV p] w (TrueR w) := by
  by_cases hl : 3000 < v.length ∨ 64 < p.s.length
  · obtain ⟨cut, at0, n, t⟩ := p
    unfold ptV
    dsimp only at hp hl ⊢
    go_enter Tryd.func7, Tryd.ntmps7
    by_cases ha : 3000 < v.length
    · go_wp2_with (fail)
      refine (law_works _).mono ?_
      rintro e w1 ⟨rfl, u1⟩
      go_wp2
      go_ret
      exact ⟨rfl, by repeat (first | exact Upd.refl _ _ | refine Upd.alloc ?_ _ | refine Upd.drew ?_ | refine Upd.trans ?_ (by assumption) (fun _ _ f => f))⟩
    · have hb : 64 < t.length := by omega
      go_wp2_with (fail)
      refine (law_works _).mono ?_
      rintro e w1 ⟨rfl, u1⟩
      go_wp2
      go_ret
      exact ⟨rfl, by repeat (first | exact Upd.refl _ _ | refine Upd.alloc ?_ _ | refine Upd.drew ?_ | refine Upd.trans ?_ (by assumption) (fun _ _ f => f))⟩
  · have hp2 : p.s.length ≤ 64 := by omega
    have hv2 : v.length ≤ 3000 := by omega
    by_cases h0 : Blk.apply v p = []
    · cases hm : Blk.may p with
      | false => exact splices_no1 v p w hv2 hp2 hm h0
      | true =>
        cases hc : p.cut with
        | true => exact splices_cut1 v p w hv2 hp2 hm hc h0
        | false => exact splices_splice1 v p w hv2 hp2 hm hc h0
    · cases hm : Blk.may p with
      | false => exact splices_no0 v p w hv2 hp2 hm h0
      | true =>
        cases hc : p.cut with
        | true => exact splices_cut0 v p w hv2 hp2 hm hc h0
        | false => exact splices_splice0 v p w hv2 hp2 hm hc h0

end Go.Proofs.YtiabomfkmfokeaaDoor
