/- Superblocks: Take, of the code and of the reference. -/
import Derived.Test.YtocioaondjgceaaGreatDoorSup2
import Derived.Outline
set_option linter.unusedVariables false
set_option linter.unusedSimpArgs false
namespace Go.Proofs.YtocioaondjgceaaGreatDoor
open Go.RowKit

theorem rU64_len (l : List UInt8) (e : Int) : (rU64 l e).2.1.length ≤ l.length := fx_len _ _ _
theorem rU16_len (l : List UInt8) (e : Int) : (rU16 l e).2.1.length ≤ l.length := fx_len _ _ _
/-- What the four reads find. -/
theorem sup_reads (x : List UInt8) : ∃ (c r t n : Nat) (L1 L2 L3 L4 : List UInt8) (e1 e2 e3 e4 : Int), rU64 x 0 = (c, L1, e1) ∧ rU16 L1 e1 = (r, L2, e2) ∧ rU16 L2 e2 = (t, L3, e3) ∧ rU16 L3 e3 = (n, L4, e4) ∧
    L1.length ≤ x.length ∧ L2.length ≤ x.length ∧ L3.length ≤ x.length ∧ L4.length ≤ x.length ∧ c < Two64 ∧ r < Two16 ∧ t < Two16 ∧ n < Two16 ∧
    ((x.length = 14 ∧ e4 = 0 ∧ L4 = [] ∧ ∀ g, Sp.of g x = ⟨g, c, r, t, n⟩) ∨ (x.length ≠ 14 ∧ (e4 ≠ 0 ∨ (e4 = 0 ∧ L4 ≠ [])))) := by
  rcases h1 : rU64 x 0 with ⟨c, L1, e1⟩
  rcases h2 : rU16 L1 e1 with ⟨r, L2, e2⟩
  rcases h3 : rU16 L2 e2 with ⟨t, L3, e3⟩
  rcases h4 : rU16 L3 e3 with ⟨n, L4, e4⟩
  have q1 : L1.length ≤ x.length := by have := rU64_len x 0; rw [h1] at this; exact this
  have q2 : L2.length ≤ L1.length := by have := rU16_len L1 e1; rw [h2] at this; exact this
  have q3 : L3.length ≤ L2.length := by have := rU16_len L2 e2; rw [h3] at this; exact this
  have q4 : L4.length ≤ L3.length := by have := rU16_len L3 e3; rw [h4] at this; exact this
  have b1 := rU64_lt x 0
  have b2 := rU16_lt L1 e1
  have b3 := rU16_lt L2 e2
  have b4 := rU16_lt L3 e3
  rw [h1] at b1
  rw [h2] at b2
  rw [h3] at b3
  rw [h4] at b4
  refine ⟨c, r, t, n, L1, L2, L3, L4, e1, e2, e3, e4, rfl, h2, h3, h4, q1, by omega, by omega, by omega, b1, b2, b3, b4, ?_⟩
  clear q1 q2 q3 q4 b1 b2 b3 b4
  by_cases h8 : x.length < 8
  · right
    have a1 : rU64 x 0 = (0, [], 10) := by unfold rU64; rw [show (8 : Int) = ((8 : Nat) : Int) from rfl, fx_torn _ 8 h8]; rfl
    rw [a1, Prod.mk.injEq, Prod.mk.injEq] at h1
    obtain ⟨rfl, rfl, rfl⟩ := h1
    rw [rU16_err _ _ (by decide), Prod.mk.injEq, Prod.mk.injEq] at h2
    obtain ⟨rfl, rfl, rfl⟩ := h2
    rw [rU16_err _ _ (by decide), Prod.mk.injEq, Prod.mk.injEq] at h3
    obtain ⟨rfl, rfl, rfl⟩ := h3
    rw [rU16_err _ _ (by decide), Prod.mk.injEq, Prod.mk.injEq] at h4
    obtain ⟨rfl, rfl, rfl⟩ := h4
    exact ⟨by omega, Or.inl (by decide)⟩
  · rw [rU64_ok x (by omega), Prod.mk.injEq, Prod.mk.injEq] at h1
    obtain ⟨rfl, rfl, rfl⟩ := h1
    by_cases h10 : x.length < 10
    · right
      rw [rU16_short (x.drop 8) (by rw [List.length_drop]; omega), Prod.mk.injEq, Prod.mk.injEq] at h2
      obtain ⟨rfl, rfl, rfl⟩ := h2
      rw [rU16_err _ _ (by decide), Prod.mk.injEq, Prod.mk.injEq] at h3
      obtain ⟨rfl, rfl, rfl⟩ := h3
      rw [rU16_err _ _ (by decide), Prod.mk.injEq, Prod.mk.injEq] at h4
      obtain ⟨rfl, rfl, rfl⟩ := h4
      exact ⟨by omega, Or.inl (by decide)⟩
    · rw [rU16_ok (x.drop 8) (by rw [List.length_drop]; omega), List.drop_drop, Prod.mk.injEq, Prod.mk.injEq] at h2
      obtain ⟨rfl, rfl, rfl⟩ := h2
      by_cases h12 : x.length < 12
      · right
        rw [rU16_short _ (by rw [List.length_drop]; omega), Prod.mk.injEq, Prod.mk.injEq] at h3
        obtain ⟨rfl, rfl, rfl⟩ := h3
        rw [rU16_err _ _ (by decide), Prod.mk.injEq, Prod.mk.injEq] at h4
        obtain ⟨rfl, rfl, rfl⟩ := h4
        exact ⟨by omega, Or.inl (by decide)⟩
      · rw [rU16_ok _ (by rw [List.length_drop]; omega), List.drop_drop, Prod.mk.injEq, Prod.mk.injEq] at h3
        obtain ⟨rfl, rfl, rfl⟩ := h3
        by_cases h14 : x.length < 14
        · right
          rw [rU16_short _ (by rw [List.length_drop]; omega), Prod.mk.injEq, Prod.mk.injEq] at h4
          obtain ⟨rfl, rfl, rfl⟩ := h4
          exact ⟨by omega, Or.inl (by decide)⟩
        · rw [rU16_ok _ (by rw [List.length_drop]; omega), List.drop_drop, Prod.mk.injEq, Prod.mk.injEq] at h4
          obtain ⟨rfl, rfl, rfl⟩ := h4
          by_cases h : x.length = 14
          · left
            exact ⟨h, rfl, List.drop_eq_nil_of_le (by omega), fun g => rfl⟩
          · right
            refine ⟨h, Or.inr ⟨rfl, fun e => ?_⟩⟩
            have := congrArg List.length e
            rw [List.length_drop] at this
            simp at this
            omega

theorem set5 {w : World} {b : Nat} {t : TypeId} {a0 a1 a2 a3 a4 : Value} (h : w.heap[b]? = some (.cells #[a0, a1, a2, a3, a4] t (0, 0))) (v0 v1 v2 v3 v4 : Value) :
    (((((w.setCell ⟨b, 0, none⟩ v0).setCell ⟨b, 1, none⟩ v1).setCell ⟨b, 2, none⟩ v2).setCell ⟨b, 3, none⟩ v3).setCell ⟨b, 4, none⟩ v4).heap[b]? = some (.cells #[v0, v1, v2, v3, v4] t (0, 0)) :=
  heap_setCell_eq (heap_setCell_eq (heap_setCell_eq (heap_setCell_eq (heap_setCell_eq h v0) v1) v2) v3) v4
theorem set3 {w : World} {b : Nat} {t : TypeId} {a0 a1 a2 a3 a4 : Value} (h : w.heap[b]? = some (.cells #[a0, a1, a2, a3, a4] t (0, 0))) (v2 v3 v4 : Value) :
    (((w.setCell ⟨b, 2, none⟩ v2).setCell ⟨b, 3, none⟩ v3).setCell ⟨b, 4, none⟩ v4).heap[b]? = some (.cells #[a0, a1, v2, v3, v4] t (0, 0)) :=
  heap_setCell_eq (heap_setCell_eq (heap_setCell_eq h v2) v3) v4
theorem upd5 {w w' : World} {b : Nat} (hb : ¬ b < w.heap.size) (h : Upd (fun _ => False) w w') (v0 v1 v2 v3 v4 : Value) :
    Upd (fun _ => False) w (((((w'.setCell ⟨b, 0, none⟩ v0).setCell ⟨b, 1, none⟩ v1).setCell ⟨b, 2, none⟩ v2).setCell ⟨b, 3, none⟩ v3).setCell ⟨b, 4, none⟩ v4) :=
  ((((h.setCell (p := ⟨b, 0, none⟩) (fun k => hb k) v0).setCell (p := ⟨b, 1, none⟩) (fun k => hb k) v1).setCell (p := ⟨b, 2, none⟩) (fun k => hb k) v2).setCell (p := ⟨b, 3, none⟩) (fun k => hb k) v3).setCell (p := ⟨b, 4, none⟩) (fun k => hb k) v4

def zeroC : Array Value := #[.int .u64 0, .int .u64 0, .int .i64 0, .int .i64 0, .int .i64 0]

set_option maxHeartbeats 3200000 in
set_option maxRecDepth 100000 in
theorem sup_Take (s : List UInt8) (w : World) (hs : s.length ≤ 1000000) :
    Calls Tryz.prog 27 #[.string ⟨s.toArray⟩] w (SupE (Sp.take s) w) := by
  have hU := fun w => sl_Unstamp s w hs
  simp only [unstamp_eq] at hU
  have hb := heap_alloc_new w (.cells zeroC 25)
  have hu := (Upd.refl (fun _ => False) w).alloc (.cells zeroC 25)
  unfold zeroC at hb hu
  unfold Sp.take
  rcases told_stamped s with ⟨e, he, h⟩ | ⟨g, i, x, h, hg, hi, hx, _⟩
  · rw [h] at hU ⊢
    rw [if_pos he]
    have he2 : (e != 0) = true := bne_iff_ne.2 he
    have HU := Lib.hid hU
    clear hU h he
    go_enter Tryz.func27, Tryz.ntmps27
    go_wp2_with (fail)
    refine (HU.out _).mono ?_
    rintro e' w1 ⟨rfl, u1⟩
    have hb1 := u1.heap hb (fun f => f)
    have c0 := cell_heap hb1 0 (.int .u64 0) rfl
    have c1 := cell_heap hb1 1 (.int .u64 0) rfl
    have c2 := cell_heap hb1 2 (.int .i64 0) rfl
    have c3 := cell_heap hb1 3 (.int .i64 0) rfl
    have c4 := cell_heap hb1 4 (.int .i64 0) rfl
    have f := free_heap hb1
    go_wp2
    have z := set5 hb1 (.int .u64 0) (.int .u64 0) (.int .i64 0) (.int .i64 0) (.int .i64 0)
    have z0 := cell_heap z 0 _ rfl
    have z1 := cell_heap z 1 _ rfl
    have z2 := cell_heap z 2 _ rfl
    have z3 := cell_heap z 3 _ rfl
    have z4 := cell_heap z 4 _ rfl
    refine bodyPost_ret (v := .tuple #[supV Sp.zero, .int .i64 e]) (by simp [results, Tryz.results27, go_sem, supV, Sp.zero, z0, z1, z2, z3, z4]) rfl ⟨rfl, ?_⟩
    exact upd5 (Nat.lt_irrefl _) (hu.trans u1 (fun _ _ f => f)) _ _ _ _ _
  · rw [h] at hU ⊢
    rw [if_neg (by simp)]
    dsimp only
    obtain ⟨c, r, t, n, L1, L2, L3, L4, e1, e2, e3, e4, r1, r2, r3, r4, l1, l2, l3, l4, b1, b2, b3, b4, hall⟩ := sup_reads x
    have k1 := fun w b => Reader_U64 b x 0 w (by omega)
    have k2 := fun w b => Reader_U16 b L1 e1 w (by omega)
    have k3 := fun w b => Reader_U16 b L2 e2 w (by omega)
    have k4 := fun w b => Reader_U16 b L3 e3 w (by omega)
    rw [r1] at k1
    rw [r2] at k2
    rw [r3] at k3
    rw [r4] at k4
    dsimp only at k1 k2 k3 k4
    have k5 := fun w => sup_may ⟨g, c, r, t, n⟩ w hg
    unfold supV at k5
    dsimp only at k5
    unfold Two16 at b2 b3 b4
    obtain ⟨M, hM⟩ : ∃ M, M = Sp.may ⟨g, c, r, t, n⟩ := ⟨_, rfl⟩
    rw [← hM] at k5
    have HU := Lib.hid hU
    have K1 := Lib.hid k1
    have K2 := Lib.hid k2
    have K3 := Lib.hid k3
    have K4 := Lib.hid k4
    have K5 := Lib.hid k5
    have HM := Lib.hid hM
    have HA := Lib.hid hall
    have ei : ((i : Int) != 0) = decide (i ≠ 0) := by rw [Bool.eq_iff_iff]; simp
    have bad : s.length ≠ 128 ∨ i ≠ 0 ∨ x.length ≠ 14 ∨ M = false → Hid (Sp.fin s.length i x (Sp.of g x) = (Sp.zero, 4)) := fun hh => by
      unfold Hid Sp.fin
      rw [if_pos]
      rcases hh with a | a | a | a
      · exact Or.inl a
      · exact Or.inr (Or.inl a)
      · exact Or.inr (Or.inr (Or.inl a))
      · by_cases h14 : x.length = 14
        · rcases HA.out with b | b
          · right; right; right; rw [b.2.2.2 g, ← HM.out]; exact a
          · exact absurd h14 b.1
        · exact Or.inr (Or.inr (Or.inl h14))
    have good : s.length = 128 → i = 0 → e4 = 0 → L4 = [] → M = true → Hid (Sp.fin s.length i x (Sp.of g x) = (⟨g, c, r, t, n⟩, 0)) := fun a1 a2 a3 a4 a5 => by
      unfold Hid Sp.fin
      rcases HA.out with b | b
      · rw [if_neg, b.2.2.2 g]
        rintro (q | q | q | q)
        · exact q a1
        · exact q a2
        · exact q b.1
        · rw [b.2.2.2 g, ← HM.out, a5] at q; cases q
      · rcases b.2 with q | q
        · exact absurd a3 q
        · exact absurd a4 q.2
    have bad14 : x.length ≠ 14 → Hid (Sp.fin s.length i x (Sp.of g x) = (Sp.zero, 4)) := fun h => bad (Or.inr (Or.inr (Or.inl h)))
    have bad4 : e4 ≠ 0 ∨ L4 ≠ [] → Hid (Sp.fin s.length i x (Sp.of g x) = (Sp.zero, 4)) := fun h => bad14 (fun h14 => by
      rcases HA.out with b | b
      · rcases h with q | q
        · exact q b.2.1
        · exact q b.2.2.1
      · exact b.1 h14)
    have BAD := Lib.hid bad
    have BAD4 := Lib.hid bad4
    have GOOD := Lib.hid good
    clear hU k1 k2 k3 k4 k5 hM hall bad good bad14 bad4 r1 r2 r3 r4 h
    obtain ⟨res, hres⟩ : ∃ res, res = Sp.fin s.length i x (Sp.of g x) := ⟨_, rfl⟩
    rw [← hres]
    have HR := Lib.hid hres
    clear hres
    go_enter Tryz.func27, Tryz.ntmps27
    go_wp2_with (fail)
    refine (HU.out _).mono ?_
    rintro e' w1 ⟨rfl, u1⟩
    have hb1 := u1.heap hb (fun f => f)
    go_wp2_with (fail)
    refine (codec_New _ _).mono ?_
    rintro e' w2 ⟨rfl, d2, u2⟩
    have hb2 := u2.heap hb1 (fun f => f)
    have n1 := lt_of_heap hb1
    go_wp2_with (fail)
    refine (K1.out _ _ d2).mono ?_
    rintro e' w3 ⟨rfl, d3, u3⟩
    have hb3 := u3.heap hb2 (fun f => by omega)
    have n3 := lt_of_heap d3
    have hx := heap_alloc_new w3 (.cells #[.int .u64 g, .int .u64 c, .int .i64 0, .int .i64 0, .int .i64 0] 25)
    have hb3 := heap_alloc_lt hb3 (.cells #[.int .u64 g, .int .u64 c, .int .i64 0, .int .i64 0, .int .i64 0] 25)
    have d3 : Rd (w3.alloc (.cells #[.int .u64 g, .int .u64 c, .int .i64 0, .int .i64 0, .int .i64 0] 25)) w1.heap.size L1 e1 := heap_alloc_lt d3 _
    go_wp2_with (fail)
    refine (K2.out _ _ d3).mono ?_
    rintro e' w4 ⟨rfl, d4, u4⟩
    have hx4 := u4.heap hx (fun f => by omega)
    have hb4 := u4.heap hb3 (fun f => by omega)
    go_wp2_with (fail)
    refine (K3.out _ _ d4).mono ?_
    rintro e' w5 ⟨rfl, d5, u5⟩
    have hx5 := u5.heap hx4 (fun f => by omega)
    have hb5 := u5.heap hb4 (fun f => by omega)
    go_wp2_with (fail)
    refine (K4.out _ _ d5).mono ?_
    rintro e' w6 ⟨rfl, d6, u6⟩
    have hx6 := u6.heap hx5 (fun f => by omega)
    have hb6 := u6.heap hb5 (fun f => by omega)
    have uu : Upd (fun _ => False) w w6 := (((((((hu.trans u1 (fun _ _ f => f)).trans u2 (fun _ _ f => f)).trans u3 (fun i hi f => by omega)).alloc _).trans u4 (fun i hi f => by omega)).trans u5 (fun i hi f => by omega)).trans u6 (fun i hi f => by omega))
    have y0 := cell_heap hx6 0 (.int .u64 g) rfl
    have y1 := cell_heap hx6 1 (.int .u64 c) rfl
    have y2 := cell_heap hx6 2 (.int .i64 0) rfl
    have y3 := cell_heap hx6 3 (.int .i64 0) rfl
    have y4 := cell_heap hx6 4 (.int .i64 0) rfl
    have yf := free_heap hx6
    have c0 := cell_heap hb6 0 (.int .u64 0) rfl
    have c1 := cell_heap hb6 1 (.int .u64 0) rfl
    have c2 := cell_heap hb6 2 (.int .i64 0) rfl
    have c3 := cell_heap hb6 3 (.int .i64 0) rfl
    have c4 := cell_heap hb6 4 (.int .i64 0) rfl
    have cf := free_heap hb6
    have nx : w.heap.size ≠ w3.heap.size := by omega
    have nr : w1.heap.size ≠ w3.heap.size := by omega
    have d7 := heap_setCell_ne (heap_setCell_ne (heap_setCell_ne d6 ⟨w3.heap.size, 2, none⟩ (.int .i64 r) nr) ⟨w3.heap.size, 3, none⟩ (.int .i64 t) nr) ⟨w3.heap.size, 4, none⟩ (.int .i64 n) nr
    have hb7 := heap_setCell_ne (heap_setCell_ne (heap_setCell_ne hb6 ⟨w3.heap.size, 2, none⟩ (.int .i64 r) nx) ⟨w3.heap.size, 3, none⟩ (.int .i64 t) nx) ⟨w3.heap.size, 4, none⟩ (.int .i64 n) nx
    have U7 := ((uu.setCell (p := ⟨w3.heap.size, 2, none⟩) (fun (h : w3.heap.size < w.heap.size) => by omega) (.int .i64 r)).setCell (p := ⟨w3.heap.size, 3, none⟩) (fun (h : w3.heap.size < w.heap.size) => by omega) (.int .i64 t)).setCell (p := ⟨w3.heap.size, 4, none⟩) (fun (h : w3.heap.size < w.heap.size) => by omega) (.int .i64 n)
    have hx7 := set3 hx6 (.int .i64 r) (.int .i64 t) (.int .i64 n)
    have v0 := cell_heap hx7 0 (.int .u64 g) rfl
    have v1 := cell_heap hx7 1 (.int .u64 c) rfl
    have v2 := cell_heap hx7 2 (.int .i64 r) rfl
    have v3 := cell_heap hx7 3 (.int .i64 t) rfl
    have v4 := cell_heap hx7 4 (.int .i64 n) rfl
    go_wp2_with (first
      | (go_at_call 54; refine (Reader_Err _ _ _ _ d7).mono ?_; rintro e' w7 ⟨rfl, rfl⟩)
      | (go_at_call 55; refine (Reader_Rest _ _ _ _ d7).mono ?_; rintro e' w7 ⟨rfl, rfl⟩)
      | (go_at_call 45; refine (K5.out _).mono ?_; rintro e' w8 ⟨rfl, u8⟩; have hx8 := u8.heap hx7 (fun f => f); have hb8 := u8.heap hb7 (fun f => f); have p0 := cell_heap hx8 0 (.int .u64 g) rfl; have p1 := cell_heap hx8 1 (.int .u64 c) rfl; have p2 := cell_heap hx8 2 (.int .i64 r) rfl; have p3 := cell_heap hx8 3 (.int .i64 t) rfl; have p4 := cell_heap hx8 4 (.int .i64 n) rfl; have o0 := cell_heap hb8 0 (.int .u64 0) rfl; have o1 := cell_heap hb8 1 (.int .u64 0) rfl; have o2 := cell_heap hb8 2 (.int .i64 0) rfl; have o3 := cell_heap hb8 3 (.int .i64 0) rfl; have o4 := cell_heap hb8 4 (.int .i64 0) rfl; have of := free_heap hb8))
    · obtain rfl := HR.out.trans ((BAD.out (Or.inr (Or.inr (Or.inr (by simpa using ‹(!M) = true›))))).out)
      have z := set5 hb8 (.int .u64 0) (.int .u64 0) (.int .i64 0) (.int .i64 0) (.int .i64 0)
      have z0 := cell_heap z 0 _ rfl
      have z1 := cell_heap z 1 _ rfl
      have z2 := cell_heap z 2 _ rfl
      have z3 := cell_heap z 3 _ rfl
      have z4 := cell_heap z 4 _ rfl
      refine bodyPost_ret (v := .tuple #[supV Sp.zero, .int .i64 4]) (by simp [results, Tryz.results27, go_sem, supV, Sp.zero, z0, z1, z2, z3, z4]) rfl ⟨rfl, ?_⟩
      exact upd5 (Nat.lt_irrefl _) (U7.trans u8 (fun _ _ f => f)) _ _ _ _ _
    · obtain rfl := HR.out.trans ((GOOD.out (by omega) ‹i = 0› ‹e4 = 0› ‹L4 = []› (by simpa using ‹(!M) = false›)).out)
      have z := set5 hb8 (.int .u64 g) (.int .u64 c) (.int .i64 r) (.int .i64 t) (.int .i64 n)
      have z0 := cell_heap z 0 _ rfl
      have z1 := cell_heap z 1 _ rfl
      have z2 := cell_heap z 2 _ rfl
      have z3 := cell_heap z 3 _ rfl
      have z4 := cell_heap z 4 _ rfl
      refine bodyPost_ret (v := .tuple #[supV ⟨g, c, r, t, n⟩, .int .i64 0]) (by simp [results, Tryz.results27, go_sem, supV, Sp.zero, z0, z1, z2, z3, z4]) rfl ⟨rfl, ?_⟩
      exact upd5 (Nat.lt_irrefl _) (U7.trans u8 (fun _ _ f => f)) _ _ _ _ _
    · obtain rfl := HR.out.trans ((BAD4.out (Or.inr ‹¬L4 = []›)).out)
      have z := set5 hb7 (.int .u64 0) (.int .u64 0) (.int .i64 0) (.int .i64 0) (.int .i64 0)
      have z0 := cell_heap z 0 _ rfl
      have z1 := cell_heap z 1 _ rfl
      have z2 := cell_heap z 2 _ rfl
      have z3 := cell_heap z 3 _ rfl
      have z4 := cell_heap z 4 _ rfl
      refine bodyPost_ret (v := .tuple #[supV Sp.zero, .int .i64 4]) (by simp [results, Tryz.results27, go_sem, supV, Sp.zero, z0, z1, z2, z3, z4]) rfl ⟨rfl, ?_⟩
      exact upd5 (Nat.lt_irrefl _) U7 _ _ _ _ _
    · obtain rfl := HR.out.trans ((BAD4.out (Or.inl ‹¬e4 = 0›)).out)
      have z := set5 hb7 (.int .u64 0) (.int .u64 0) (.int .i64 0) (.int .i64 0) (.int .i64 0)
      have z0 := cell_heap z 0 _ rfl
      have z1 := cell_heap z 1 _ rfl
      have z2 := cell_heap z 2 _ rfl
      have z3 := cell_heap z 3 _ rfl
      have z4 := cell_heap z 4 _ rfl
      refine bodyPost_ret (v := .tuple #[supV Sp.zero, .int .i64 4]) (by simp [results, Tryz.results27, go_sem, supV, Sp.zero, z0, z1, z2, z3, z4]) rfl ⟨rfl, ?_⟩
      exact upd5 (Nat.lt_irrefl _) U7 _ _ _ _ _
    · obtain rfl := HR.out.trans ((BAD.out (Or.inr (Or.inl ‹¬i = 0›))).out)
      have z := set5 hb7 (.int .u64 0) (.int .u64 0) (.int .i64 0) (.int .i64 0) (.int .i64 0)
      have z0 := cell_heap z 0 _ rfl
      have z1 := cell_heap z 1 _ rfl
      have z2 := cell_heap z 2 _ rfl
      have z3 := cell_heap z 3 _ rfl
      have z4 := cell_heap z 4 _ rfl
      refine bodyPost_ret (v := .tuple #[supV Sp.zero, .int .i64 4]) (by simp [results, Tryz.results27, go_sem, supV, Sp.zero, z0, z1, z2, z3, z4]) rfl ⟨rfl, ?_⟩
      exact upd5 (Nat.lt_irrefl _) U7 _ _ _ _ _
    · obtain rfl := HR.out.trans ((BAD.out (Or.inl (by omega))).out)
      have z := set5 hb7 (.int .u64 0) (.int .u64 0) (.int .i64 0) (.int .i64 0) (.int .i64 0)
      have z0 := cell_heap z 0 _ rfl
      have z1 := cell_heap z 1 _ rfl
      have z2 := cell_heap z 2 _ rfl
      have z3 := cell_heap z 3 _ rfl
      have z4 := cell_heap z 4 _ rfl
      refine bodyPost_ret (v := .tuple #[supV Sp.zero, .int .i64 4]) (by simp [results, Tryz.results27, go_sem, supV, Sp.zero, z0, z1, z2, z3, z4]) rfl ⟨rfl, ?_⟩
      exact upd5 (Nat.lt_irrefl _) U7 _ _ _ _ _

end Go.Proofs.YtocioaondjgceaaGreatDoor
