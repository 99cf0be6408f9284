/- A set of sectors: Take of all. -/
import Derived.Test.YtieohjibccjliaaSpG
set_option linter.unusedVariables false
set_option linter.unusedSimpArgs false
namespace Go.Proofs.Ytieohjibccjliaa
open Go.RowKit Go.Shelf

theorem owns_later {w w' : World} {base base' : Nat} {v : Value} {k : Nat} {xs : List Value} (h : w.ownsRow base 3 1 v k xs) (hb : base' ≤ base) : w.ownsRow base' 3 1 v k xs := by
  refine ⟨h.1, ?_⟩
  rcases h.2 with hx | ⟨g, cap, cur, rfl, hg, rest⟩
  · exact .inl hx
  · exact .inr ⟨g, cap, cur, rfl, Nat.le_trans hb hg, rest⟩
set_option maxHeartbeats 1000000 in
set_option maxRecDepth 100000 in
theorem take_all {w : World} {b : Nat} {row : Option Nat} {n : Int} {v : Value} {l : List Ex} (h : SpAt w b row n v l) (hok : SpOk n l) (hk : 1 ≤ cntE l) :
    Calls Try.prog 34 #[.pointer (some ⟨b, 0, none⟩), .int .i64 (cntE l)] w (TakeP w b row n (flatE l, 0, [])) := by
  obtain ⟨k, hkk⟩ : ∃ k, k = cntE l := ⟨_, rfl⟩
  rw [← hkk] at hk ⊢
  have hne : l ≠ [] := by rintro rfl; unfold cntE at hkk; simp at hkk; omega
  obtain ⟨m, hm⟩ : ∃ m, l.length = m + 1 := ⟨l.length - 1, by have := List.length_pos_iff.2 hne; omega⟩
  have u1 : Upd (fun _ => False) w (w.alloc (.cells #[.int .i64 k] 3)) := (Upd.refl _ _).alloc _
  have h1 := h.upd u1 (fun f => f) (fun _ _ f => f)
  have HC := Lib.hid (sp_Count h1 hok)
  rw [← hkk] at HC
  have HI := fun w' (hu : Upd (fun _ => False) (w.alloc (.cells #[.int .i64 k] 3)) w') => Lib.hid (sp_is (h1.upd hu (fun f => f) (fun _ _ f => f)))
  rw [decide_eq_true (show 0 < n by have := hok.1; omega)] at HI
  have ck := cell_heap (heap_alloc_new w (.cells #[.int .i64 k] 3)) 0 _ rfl
  obtain ⟨r, off, cap, rfl, rfl, zA, zB, zf⟩ := h.row.get 0 (by omega)
  clear zA zB zf
  rw [hm] at h h1
  have HU1 := Lib.hid u1
  have HS := Lib.hid h
  have HO := Lib.hid hok
  have HM := Lib.hid hm
  have HNB := Lib.hid h.neb
  have hk3 : ¬ (k < 1) := by omega
  have hk4 : ¬ (k < k) := by omega
  have HE := fun W => Lib.hid (callsIn_wide.1 (each_in 1 b W))
  clear h h1 hok u1 hm hkk hne
  go_enter Try.func34, Try.ntmps34
  go_wp2_with (fail)
  refine HC.out.mono ?_
  rintro e w1 ⟨rfl, u2⟩
  have ck1 := u2.cell ck (fun f => f)
  have u3 := HU1.out.trans u2 (fun _ _ f => f)
  have u4 := u3.alloc (.cells #[.pointer (some ⟨b, 0, none⟩)] 62)
  have h4 := HS.out.upd u4 (fun f => f) (fun _ _ f => f)
  have cp := cell_heap (heap_alloc_new w1 (.cells #[.pointer (some ⟨b, 0, none⟩)] 62)) 0 _ rfl
  have HCo := Lib.hid (callsIn_wide.1 (collect_in 4 (by omega) w1.heap.size b (some r) n _ l HO.out _ cp h4))
  have HU4 := Lib.hid u4
  have H4 := Lib.hid h4
  clear u4 h4 cp u3
  go_wp2_with (first | (go_at_call 52; refine (HI _ u2).out.mono ?_; rintro e w' ⟨rfl, rfl⟩) | (go_at_call 55; refine (HE _).out.mono ?_; rintro e w' ⟨rfl, rfl⟩))
  refine HCo.out.mono ?_
  rintro e w3 ⟨vt, rfl, k1, k2⟩
  obtain ⟨adt, cpt, rfl⟩ := own_form k1
  have u5 : Upd (fun _ => False) (w1.alloc (.cells #[.pointer (some ⟨b, 0, none⟩)] 62)) w3 := Upd.none_of_below k2
  have h5 := H4.out.upd u5 (fun f => f) (fun _ _ f => f)
  have hrow5 := h5.row
  rw [← HM.out] at hrow5
  obtain ⟨cur, q1, q2, q3, q4, q5⟩ := hrow5.open
  rw [HM.out] at q3
  obtain ⟨vs, hvl, hcl⟩ := run_clearN (P := Try.prog) w3 93 99 (.int .i64 0) (.int .i64 0) Try.underlying93 (fun w => Try.zeroValue99 w) ⟨rfl, rfl⟩ r off m cap (fun j hj => by rw [cell_heap q1 _ _ (Array.getElem?_eq_getElem (by omega))]; rfl) (fun j hj => free_heap q1 _)
  have c5 : w3.cell? ⟨b, 1, none⟩ = some (.slice (some ⟨r, off, none⟩) (m + 1) cap) := cell_heap h5.set 1 _ rfl
  have u6 : Upd (fun k => k = r) w3 (w3.setCells r off vs) := upd_setCells (F := fun k => k = r) r (fun _ => rfl) _ _ _ (Upd.refl _ _)
  have hb6 := u6.heap h5.set (fun e => HNB.out (by rw [e]))
  have hown : (w3.setCells r off vs).ownsRow w.heap.size 3 1 (.slice adt (flatE l).length cpt) (flatE l).length ((flatE l).map (Value.int .i64)) := by
    refine owns_later (w' := w3) (u6.owns k1 (fun g hg e => ?_)) (by rw [World.size_alloc]; have := HU1.out.size; have := u2.size; omega)
    subst e
    exact owns_ne k1 q1 (by decide) hg
  obtain ⟨W6, hW6⟩ : ∃ W6, W6 = w3.setCells r off vs := ⟨_, rfl⟩
  rw [← hW6] at hcl u6 hb6 hown
  have c6 : W6.cell? ⟨b, 1, none⟩ = some (.slice (some ⟨r, off, none⟩) (m + 1) cap) := cell_heap hb6 1 _ rfl
  have f6 := free_heap hb6 1
  have HW := Lib.hid (((HU4.out.trans u5 (fun _ _ f => f)).mono (fun _ _ f => f.elim) : Upd (fun k => k = b ∨ some r = some k) w w3).trans u6 (fun _ _ e => Or.inr (by rw [e])))
  have HB6 := Lib.hid hb6
  have HOW := Lib.hid hown
  have u7 : Upd (fun k => k = b) W6 (W6.setCell ⟨b, 1, none⟩ (.slice none 0 0)) := (Upd.refl (fun k => k = b) W6).setCell (p := ⟨b, 1, none⟩) (fun _ => rfl) _
  have HU7 := Lib.hid u7
  clear hW6 q1 q2 q3 q4 q5 hrow5 h5 u5 u6 hb6 hown k1 k2 u7 hvl
  go_wp2
  go_ret2
  refine ⟨_, rfl, HU7.out.owns HOW.out (fun g hg e => ?_), .slice none 0 0, none, SpAt.store HB6.out (.inl ⟨rfl, rfl, rfl⟩), fun r e => (by cases e), HW.out.trans HU7.out (fun _ _ e => Or.inl e)⟩
  subst e
  exact owns_ne HOW.out HB6.out (by decide) hg

end Go.Proofs.Ytieohjibccjliaa
