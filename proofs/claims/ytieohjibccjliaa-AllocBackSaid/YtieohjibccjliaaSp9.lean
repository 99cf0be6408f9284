/- A set of sectors: Fill: words. -/
import Derived.Test.YtieohjibccjliaaSp8
set_option linter.unusedVariables false
set_option linter.unusedSimpArgs false
namespace Go.Proofs.Ytieohjibccjliaa
open Go.RowKit Go.Shelf

set_option maxRecDepth 100000
/-- What Fill leaves: the spans are l'. -/
def FillP (w : World) (b : Nat) (row : Option Nat) (n : Int) (l' : List Ex) (e : Ending) (w' : World) : Prop :=
  e = .returned (.int .i64 0) ∧ ∃ v' row', SpAt w' b row' n v' l' ∧ (row' = row ∨ ∃ x, row' = some x ∧ w.heap.size ≤ x) ∧ Upd (fun k => k = b ∨ row = some k) w w'
/-- The second number of a span is stored. -/
theorem RowAt.setN {w : World} {r off cap : Nat} {p q : List Ex} {z : Ex} (h : RowAt w (.slice (some ⟨r, off, none⟩) (p ++ z :: q).length cap) (some r) (p ++ z :: q)) (m : Int) :
    RowAt (w.setCell ⟨r, off + p.length * 2 + 1, none⟩ (.int .i64 m)) (.slice (some ⟨r, off, none⟩) (p ++ z :: q).length cap) (some r) (p ++ (z.1, m) :: q) := by
  rcases h with ⟨e, _⟩ | ⟨r', off', cap', cur, e1, e2, h3, h4, h5, h6, h7⟩
  · cases e
  cases e1
  simp only [Value.slice.injEq, Option.some.injEq, Addr.mk.injEq] at e2
  obtain ⟨⟨_, rfl, _⟩, _, rfl⟩ := e2
  have hlen : (p ++ (z.1, m) :: q).length = (p ++ z :: q).length := by simp
  refine .inr ⟨r, off, cap, _, rfl, by rw [hlen], heap_setCell_eq h3 _, by simpa using h4, by rw [hlen]; exact h5, h6, fun j x hx => ?_⟩
  have hj := (List.getElem?_eq_some_iff.1 hx).1
  rw [hlen] at hj
  by_cases e : j = p.length
  · subst e
    rw [List.getElem?_append_right (Nat.le_refl _), Nat.sub_self, List.getElem?_cons_zero, Option.some.injEq] at hx
    subst hx
    have := h7 p.length z (by rw [List.getElem?_append_right (Nat.le_refl _), Nat.sub_self, List.getElem?_cons_zero])
    refine ⟨by rw [Array.getElem?_setIfInBounds_ne (by omega)]; exact this.1, ?_⟩
    rw [show off + 2 * p.length + 1 = off + p.length * 2 + 1 by omega]
    simp only [List.length_append, List.length_cons] at h5
    simp [Array.getElem?_setIfInBounds]
    omega
  · have hx' : (p ++ z :: q)[j]? = some x := by
      by_cases hlt : j < p.length
      · rw [List.getElem?_append_left hlt] at hx ⊢; exact hx
      · rw [List.getElem?_append_right (by omega)] at hx ⊢
        obtain ⟨d, hd⟩ : ∃ d, j - p.length = d + 1 := ⟨j - p.length - 1, by omega⟩
        rw [hd, List.getElem?_cons_succ] at hx ⊢
        exact hx
    have := h7 j x hx'
    exact ⟨by rw [Array.getElem?_setIfInBounds_ne (by omega)]; exact this.1, by rw [Array.getElem?_setIfInBounds_ne (by omega)]; exact this.2⟩
theorem RowAt.at {w : World} {r off cap : Nat} {l : List Ex} (h : RowAt w (.slice (some ⟨r, off, none⟩) l.length cap) (some r) l) (j : Nat) (x : Ex) (hj : l[j]? = some x) : w.cell? ⟨r, off + j * 2, none⟩ = some (.int .i64 x.1) ∧ w.cell? ⟨r, off + j * 2 + 1, none⟩ = some (.int .i64 x.2) ∧ w.frozen? ⟨r, off + j * 2 + 1, none⟩ = false := by
  have hl := (List.getElem?_eq_some_iff.1 hj).1
  have hx : l[j] = x := (List.getElem?_eq_some_iff.1 hj).2
  obtain ⟨r', off', cap', e1, e2, cA, cB, hf⟩ := h.get j hl
  cases e1
  simp only [Value.slice.injEq, Option.some.injEq, Addr.mk.injEq] at e2
  obtain ⟨⟨_, rfl, _⟩, _, rfl⟩ := e2
  rw [hx, Nat.mul_comm] at cA cB
  exact ⟨cA, cB, hf _⟩
theorem SpAt.neb {w : World} {b : Nat} {row : Option Nat} {n : Int} {v : Value} {l : List Ex} (h : SpAt w b row n v l) : row ≠ some b := h.row.ne h.set (by decide)
/-- The set's row is stored. -/
theorem RowAt.form3 {w : World} {v : Value} {row : Option Nat} {l : List Ex} (h : RowAt w v row l) : ∃ ad len cap, v = .slice ad len cap := by
  obtain ⟨ad, cap, e, _⟩ := h.form
  exact ⟨ad, _, cap, e⟩
theorem SpAt.store {w : World} {b : Nat} {row' : Option Nat} {n : Int} {v v' : Value} {l : List Ex} (h : w.heap[b]? = some (.cells #[.int .i64 n, v] 95 (0, 0))) (hr : RowAt w v' row' l) : SpAt (w.setCell ⟨b, 1, none⟩ v') b row' n v' l := by
  refine ⟨by rw [heap_setCell_eq h]; rfl, hr.upd ((Upd.refl (fun k => k = b) w).setCell (p := ⟨b, 1, none⟩) (fun _ => rfl) _) (fun x e f => ?_)⟩
  subst f
  exact hr.ne h (by decide) e
theorem fill_down {w : World} {b : Nat} {row : Option Nat} {n : Int} {v : Value} {l : List Ex} (h : SpAt w b row n v l) (hn : 1 ≤ n ∧ n ≤ 4096) (f t : Int) (h1 : f < 0 ∨ t < f ∨ n < t) :
    Calls Try.prog 53 #[.pointer (some ⟨b, 0, none⟩), .int .i64 f, .int .i64 t] w fun e w' => e = .returned (.int .i64 2) ∧ w = w' := by
  have HI := Lib.hid (sp_is h)
  rw [decide_eq_true (show 0 < n by omega)] at HI
  have c0 : w.cell? ⟨b, 0, none⟩ = some (.int .i64 n) := cell_heap h.set 0 _ rfl
  clear h
  by_cases a1 : f < 0
  · clear h1
    go_enter Try.func53, Try.ntmps53
    go_wp2_with (go_at_call 52; refine HI.out.mono ?_; rintro e w' ⟨rfl, rfl⟩)
    go_ret
    exact ⟨rfl, rfl⟩
  · by_cases a2 : t < f
    · clear h1
      go_enter Try.func53, Try.ntmps53
      go_wp2_with (go_at_call 52; refine HI.out.mono ?_; rintro e w' ⟨rfl, rfl⟩)
      go_ret
      exact ⟨rfl, rfl⟩
    · have a3 : n < t := by omega
      clear h1
      go_enter Try.func53, Try.ntmps53
      go_wp2_with (go_at_call 52; refine HI.out.mono ?_; rintro e w' ⟨rfl, rfl⟩)
      go_ret
      exact ⟨rfl, rfl⟩
theorem fill_none {w : World} {b : Nat} {row : Option Nat} {n : Int} {v : Value} {l : List Ex} (h : SpAt w b row n v l) (hn : 1 ≤ n ∧ n ≤ 4096) (f : Int) (h1 : 0 ≤ f ∧ f ≤ n) :
    Calls Try.prog 53 #[.pointer (some ⟨b, 0, none⟩), .int .i64 f, .int .i64 f] w fun e w' => e = .returned (.int .i64 0) ∧ w = w' := by
  have HI := Lib.hid (sp_is h)
  rw [decide_eq_true (show 0 < n by omega)] at HI
  have c0 : w.cell? ⟨b, 0, none⟩ = some (.int .i64 n) := cell_heap h.set 0 _ rfl
  have p1 : ¬ (f < 0) := by omega
  have p3 : ¬ (n < f) := by omega
  clear h h1
  go_enter Try.func53, Try.ntmps53
  go_wp2_with (go_at_call 52; refine HI.out.mono ?_; rintro e w' ⟨rfl, rfl⟩)
  go_ret
  exact ⟨rfl, rfl⟩
theorem fill_zero {w : World} {p : Option Addr} (h : NoSp w p) (f t : Int) :
    Calls Try.prog 53 #[.pointer p, .int .i64 f, .int .i64 t] w fun e w' => e = .returned (.int .i64 1) ∧ w = w' := by
  have HI : Hid (Calls Try.prog 52 #[.pointer p] w fun e w' => e = .returned (.bool false) ∧ w = w') := by
    rcases h with rfl | ⟨b, v, fr, rfl, hb⟩
    · exact Lib.hid (nosp_is w)
    · have c0 := cell_heap hb 0 _ rfl
      refine Lib.hid ?_
      clear hb
      go_enter Try.func52, Try.ntmps52
      go_wp2
      go_ret
      exact ⟨rfl, rfl⟩
  clear h
  go_enter Try.func53, Try.ntmps53
  go_wp2_with (go_at_call 52; refine HI.out.mono ?_; rintro e w' ⟨rfl, rfl⟩)
  go_ret
  exact ⟨rfl, rfl⟩
/-- The next span begins below the end: ErrThere. -/
theorem fill_there {w : World} {b : Nat} {row : Option Nat} {n : Int} {v : Value} {l : List Ex} (h : SpAt w b row n v l) (hok : SpOk n l) (f t : Int) (h1 : 0 ≤ f ∧ f < t ∧ t ≤ n) {y : Ex} (hy : l[findN l f]? = some y) (hyt : y.1 < t) :
    Calls Try.prog 53 #[.pointer (some ⟨b, 0, none⟩), .int .i64 f, .int .i64 t] w fun e w' => e = .returned (.int .i64 6) ∧ Upd (fun _ => False) w w' := by
  have HI := Lib.hid (sp_is h)
  rw [decide_eq_true (show 0 < n by have := hok.1; omega)] at HI
  have HF := Lib.hid (sp_find h hok f (by have := hok.1; omega))
  obtain ⟨i, hi⟩ : ∃ i, i = findN l f := ⟨_, rfl⟩
  rw [← hi] at HF hy
  have hil := (List.getElem?_eq_some_iff.1 hy).1
  have hye : l[i] = y := (List.getElem?_eq_some_iff.1 hy).2
  obtain ⟨r, off, cap, rfl, rfl, cA, cB, hfr⟩ := h.row.get i hil
  rw [hye, Nat.mul_comm] at cA
  have c0 : w.cell? ⟨b, 0, none⟩ = some (.int .i64 n) := cell_heap h.set 0 _ rfl
  have c1 : w.cell? ⟨b, 1, none⟩ = some _ := cell_heap h.set 1 _ rfl
  have hn := hok.1
  have hlen := hok.len
  obtain ⟨N, hN⟩ : ∃ N, N = l.length := ⟨_, rfl⟩
  rw [← hN] at c1
  have hil2 : i < N := by omega
  have hd : decide ((i : Int) < (N : Int)) = true := decide_eq_true (by omega)
  obtain ⟨y1, y2⟩ := y
  dsimp only at *
  have CC := Lib.hid (show ∀ w', Upd (fun _ => False) w w' → w'.cell? ⟨r, off + i * 2, none⟩ = some (.int .i64 y1) ∧ w'.cell? ⟨b, 1, none⟩ = some (.slice (some ⟨r, off, none⟩) N cap) from fun w' hu => ⟨hu.cell cA (fun f => f), hu.cell c1 (fun f => f)⟩)
  clear cA cB hfr h hok c1 hN hil hye hy hi hlen
  have p1 : ¬ (f < 0) := by omega
  have p2 : ¬ (t < f) := by omega
  have p3 : ¬ (n < t) := by omega
  have p4 : ¬ (f = t) := by omega
  clear h1
  go_enter Try.func53, Try.ntmps53
  go_wp2_with (go_at_call 52; refine HI.out.mono ?_; rintro e w' ⟨rfl, rfl⟩)
  refine HF.out.mono ?_
  rintro e w1 ⟨rfl, u1⟩
  obtain ⟨d1, d4⟩ := CC.out _ u1
  go_wp2
  go_ret
  exact ⟨rfl, u1⟩

end Go.Proofs.Ytieohjibccjliaa
