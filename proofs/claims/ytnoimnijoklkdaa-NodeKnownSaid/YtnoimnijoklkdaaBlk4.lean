/- The contracts of block.Take. -/
import Derived.Test.YtnoimnijoklkdaaBlk3
set_option linter.unusedVariables false
set_option linter.unusedSimpArgs false
namespace Go.Proofs.Ytnoimnijoklkdaa
open Go.RowKit

def finR (p : Blk.Pt) (l : List UInt8) (e : Int) : Blk.Pt × Int := if e ≠ 0 then (Blk.zero, 10) else if l.length ≠ 0 ∨ Blk.may p = false then (Blk.zero, 4) else (p, 0)
def takeR (l : List UInt8) : Blk.Pt × Int :=
  let q := rU8 l 0
  if q.2.2 ≠ 0 then (Blk.zero, 10)
  else if q.1 = 2 then (let q2 := rU8 q.2.1 q.2.2; finR ⟨true, 0, q2.1, []⟩ q2.2.1 q2.2.2)
  else if q.1 = 1 then (let q2 := rU8 q.2.1 q.2.2; let q3 := rText q2.2.1 q2.2.2; finR ⟨false, q2.1, 0, q3.1⟩ q3.2.1 q3.2.2)
  else (Blk.zero, 4)

theorem rText_le (l : List UInt8) (e : Int) : (rText l e).1.length ≤ l.length := by
  have h1 : (rText l e).1.length ≤ (rU16 l e).2.1.length := by
    unfold rText fx
    split
    · simp
    · split
      · simp
      · simp; omega
  exact Nat.le_trans h1 (fx_len _ _ _)

/-- What Take hands back. -/
def TakeR (res : Blk.Pt × Int) (w : World) (e : Ending) (w' : World) : Prop := e = .returned (.tuple #[ptV res.1, .int .i64 res.2]) ∧ Upd (fun _ => False) w w'
theorem TakeR.zero {res : Blk.Pt × Int} {w w' : World} {n : Int} (h : res = (Blk.zero, n)) (hu : Upd (fun _ => False) w w') : TakeR res w (.returned (.tuple #[.agg #[.bool false, .int .i64 0, .int .i64 0, .string ⟨#[]⟩], .int .i64 n])) w' := by
  subst h; exact ⟨rfl, hu⟩
theorem TakeR.one {res : Blk.Pt × Int} {w w' : World} {c : Bool} {a n : Int} {l : List UInt8} (h : res = (⟨c, a, n, l⟩, 0)) (hu : Upd (fun _ => False) w w') : TakeR res w (.returned (.tuple #[.agg #[.bool c, .int .i64 a, .int .i64 n, .string ⟨l.toArray⟩], .int .i64 0])) w' := by
  subst h; exact ⟨rfl, hu⟩

set_option maxHeartbeats 3200000 in
set_option maxRecDepth 100000 in
theorem block_TakeR (l : List UInt8) (w : World) (hl : l.length ≤ 1000000000) :
    Calls Try.prog 103 #[.string ⟨l.toArray⟩] w (TakeR (takeR l) w) := by
  obtain ⟨res, hres⟩ : ∃ res, res = takeR l := ⟨_, rfl⟩
  rw [← hres]
  unfold takeR at hres
  go_enter Try.func103, Try.ntmps103
  have HR := Lib.hid hres
  clear hres
  go_wp2_with (fail)
  refine (codec_New l _).mono ?_
  rintro e w1 ⟨rfl, hR, hu⟩
  have hr := hu.heap (heap_alloc_new w _) (by simp)
  have hlr := lt_of_heap hr
  have hlb := lt_of_heap hR
  simp only [World.size_alloc] at hR hlb
  go_wp2_with (fail)
  have hU8 := Reader_U8 _ l 0 _ (by omega) (heap_alloc_lt hR (.cells #[.bool false, .int .i64 0, .int .i64 0, .string ⟨#[]⟩] 156))
  have hq := rU8_lt l 0
  have hq1 := fx_len l 0 1
  change (rU8 l 0).2.1.length ≤ l.length at hq1
  generalize hq0 : rU8 l 0 = q at hq hq1 hU8
  have HQ := Lib.hid hq0
  clear hq0
  obtain ⟨k, l1, e1⟩ := q
  dsimp only at hq hq1 hU8
  refine hU8.mono ?_
  clear hU8
  rintro e w2 ⟨rfl, hR2, hu2⟩
  have hp2 := hu2.heap (heap_alloc_new w1 _) (by omega)
  have hr2 := hu2.heap (heap_alloc_lt hr _) (by simp)
  have hul := ((((Upd.refl (fun _ => False) w).alloc _).trans hu (fun _ _ h => h)).alloc (.cells #[.bool false, .int .i64 0, .int .i64 0, .string ⟨#[]⟩] 156)).trans hu2 (fun i hi h => by omega)
  have hlr2 := lt_of_heap hr2
  have hlb2 := lt_of_heap hR2
  have hlp2 := lt_of_heap hp2
  clear hu hu2 hr hR
  go_wp2_with (fail)
  refine (Reader_Err _ _ _ _ hR2).mono ?_
  rintro e w3 ⟨rfl, rfl⟩
  have g0 : w2.cell? ⟨w.heap.size, 0, none⟩ = some (.bool false) := cell_heap hr2 0 _ rfl
  have g1 : w2.cell? ⟨w.heap.size, 1, none⟩ = some (.int .i64 0) := cell_heap hr2 1 _ rfl
  have g2 : w2.cell? ⟨w.heap.size, 2, none⟩ = some (.int .i64 0) := cell_heap hr2 2 _ rfl
  have g3 : w2.cell? ⟨w.heap.size, 3, none⟩ = some (.string ⟨#[]⟩) := cell_heap hr2 3 _ rfl
  have gf0 : w2.frozen? ⟨w.heap.size, 0, none⟩ = false := free_heap hr2 0
  have gf1 : w2.frozen? ⟨w.heap.size, 1, none⟩ = false := free_heap hr2 1
  have gf2 : w2.frozen? ⟨w.heap.size, 2, none⟩ = false := free_heap hr2 2
  have gf3 : w2.frozen? ⟨w.heap.size, 3, none⟩ = false := free_heap hr2 3
  by_cases he : e1 = 0
  · subst he
    have hz : (0 != (0 : Int)) = false := rfl
    have HR1 := HR.out
    rw [HQ.out] at HR1
    simp only [ne_eq, not_true_eq_false, if_false] at HR1
    clear HR HQ
    by_cases hk2 : k = 2
    · subst hk2
      have hk : ((2 : Int) == 2) = true := rfl
      simp only [if_true] at HR1
      have hU8 := Reader_U8 _ l1 0 _ (by omega) hR2
      have hqb := rU8_lt l1 0
      have hqc := fx_len l1 0 1
      change (rU8 l1 0).2.1.length ≤ l1.length at hqc
      generalize hq0 : rU8 l1 0 = q at hU8 HR1 hqb hqc
      obtain ⟨n, l2, e2⟩ := q
      dsimp only at hU8 HR1 hqb hqc
      unfold Two8 at hqb
      have HR := Lib.hid HR1
      clear HR1 hq0
      go_wp2_with (fail)
      refine hU8.mono ?_
      clear hU8
      rintro e w3 ⟨rfl, hR3, hu3⟩
      have hp3 := hu3.heap hp2 (by omega)
      have hr3 := hu3.heap hr2 (by omega)
      have hul3 := hul.trans hu3 (fun i hi h => by omega)
      clear hp2 hr2 hul hu3 hR2 g0 g1 g2 g3 gf0 gf1 gf2 gf3
      have hlp3 := lt_of_heap hp3
      have hlr3 := lt_of_heap hr3
      have hlb3 := lt_of_heap hR3
      have g0 : w3.cell? ⟨w1.heap.size, 0, none⟩ = some (.bool false) := cell_heap hp3 0 _ rfl
      have g1 : w3.cell? ⟨w1.heap.size, 1, none⟩ = some (.int .i64 0) := cell_heap hp3 1 _ rfl
      have g2 : w3.cell? ⟨w1.heap.size, 2, none⟩ = some (.int .i64 0) := cell_heap hp3 2 _ rfl
      have g3 : w3.cell? ⟨w1.heap.size, 3, none⟩ = some (.string ⟨#[]⟩) := cell_heap hp3 3 _ rfl
      have gf0 : w3.frozen? ⟨w1.heap.size, 0, none⟩ = false := free_heap hp3 0
      have gf1 : w3.frozen? ⟨w1.heap.size, 1, none⟩ = false := free_heap hp3 1
      have gf2 : w3.frozen? ⟨w1.heap.size, 2, none⟩ = false := free_heap hp3 2
      have gf3 : w3.frozen? ⟨w1.heap.size, 3, none⟩ = false := free_heap hp3 3
      go_upto_region 12 with (fail)
      have hp4 := (heap_setCell_eq (i := 3) (heap_setCell_eq (i := 2) (heap_setCell_eq (i := 1) (heap_setCell_eq (i := 0) hp3 (.bool true)) (.int .i64 0)) (.int .i64 n)) (.string ⟨#[]⟩))
      have hr4 := (heap_setCell_ne (heap_setCell_ne (heap_setCell_ne (heap_setCell_ne hr3 ⟨w1.heap.size, 0, none⟩ (.bool true) (by simp; omega)) ⟨w1.heap.size, 1, none⟩ (.int .i64 0) (by simp; omega)) ⟨w1.heap.size, 2, none⟩ (.int .i64 n) (by simp; omega)) ⟨w1.heap.size, 3, none⟩ (.string ⟨#[]⟩) (by simp; omega))
      have hR4 : Rd _ _ l2 e2 := (heap_setCell_ne (heap_setCell_ne (heap_setCell_ne (heap_setCell_ne hR3 ⟨w1.heap.size, 0, none⟩ (.bool true) (by simp; omega)) ⟨w1.heap.size, 1, none⟩ (.int .i64 0) (by simp; omega)) ⟨w1.heap.size, 2, none⟩ (.int .i64 n) (by simp; omega)) ⟨w1.heap.size, 3, none⟩ (.string ⟨#[]⟩) (by simp; omega))
      have hu4 := (Upd.setCell (p := ⟨w1.heap.size, 3, none⟩) (Upd.setCell (p := ⟨w1.heap.size, 2, none⟩) (Upd.setCell (p := ⟨w1.heap.size, 1, none⟩) (Upd.setCell (p := ⟨w1.heap.size, 0, none⟩) hul3 (fun h => by simp at h; omega) (.bool true)) (fun h => by simp at h; omega) (.int .i64 0)) (fun h => by simp at h; omega) (.int .i64 n)) (fun h => by simp at h; omega) (.string ⟨#[]⟩))
      generalize ((((w3.setCell ⟨w1.heap.size, 0, none⟩ (.bool true)).setCell ⟨w1.heap.size, 1, none⟩ (.int .i64 0)).setCell ⟨w1.heap.size, 2, none⟩ (.int .i64 n)).setCell ⟨w1.heap.size, 3, none⟩ (.string ⟨#[]⟩)) = w4 at hp4 hr4 hR4 hu4 ⊢
      replace hp4 : w4.heap[w1.heap.size]? = some (.cells #[.bool true, .int .i64 0, .int .i64 n, .string ⟨#[]⟩] 156 (0, 0)) := hp4
      clear hp3 hr3 hR3 hul3 g0 g1 g2 g3 gf0 gf1 gf2 gf3
      have hlr4 := lt_of_heap hr4
      have hlb4 := lt_of_heap hR4
      have hlp4 := lt_of_heap hp4
      go_wp2_with (fail)
      refine (Reader_Err _ _ _ _ hR4).mono ?_
      rintro e w9 ⟨rfl, rfl⟩
      have g0 : w4.cell? ⟨w.heap.size, 0, none⟩ = some (.bool false) := cell_heap hr4 0 _ rfl
      have g1 : w4.cell? ⟨w.heap.size, 1, none⟩ = some (.int .i64 0) := cell_heap hr4 1 _ rfl
      have g2 : w4.cell? ⟨w.heap.size, 2, none⟩ = some (.int .i64 0) := cell_heap hr4 2 _ rfl
      have g3 : w4.cell? ⟨w.heap.size, 3, none⟩ = some (.string ⟨#[]⟩) := cell_heap hr4 3 _ rfl
      have gf0 : w4.frozen? ⟨w.heap.size, 0, none⟩ = false := free_heap hr4 0
      have gf1 : w4.frozen? ⟨w.heap.size, 1, none⟩ = false := free_heap hr4 1
      have gf2 : w4.frozen? ⟨w.heap.size, 2, none⟩ = false := free_heap hr4 2
      have gf3 : w4.frozen? ⟨w.heap.size, 3, none⟩ = false := free_heap hr4 3
      by_cases hE : e2 = 0
      · subst hE
        have hz2 : (0 != (0 : Int)) = false := rfl
        go_wp2_with (fail)
        refine (Reader_Rest _ _ _ _ hR4).mono ?_
        rintro e w9 ⟨rfl, rfl⟩
        by_cases hL : l2.length = 0
        · obtain rfl : l2 = [] := List.eq_nil_of_length_eq_zero hL
          clear hL
          have k0 : w4.cell? ⟨w1.heap.size, 0, none⟩ = some (.bool true) := cell_heap hp4 0 _ rfl
          have k1 : w4.cell? ⟨w1.heap.size, 1, none⟩ = some (.int .i64 0) := cell_heap hp4 1 _ rfl
          have k2 : w4.cell? ⟨w1.heap.size, 2, none⟩ = some (.int .i64 n) := cell_heap hp4 2 _ rfl
          have k3 : w4.cell? ⟨w1.heap.size, 3, none⟩ = some (.string ⟨#[]⟩) := cell_heap hp4 3 _ rfl
          have hM := may_any ⟨true, 0, (n : Int), []⟩ w4 (by simp; try omega)
          go_wp2_with (fail)
          refine hM.mono ?_
          clear hM
          rintro e w5 ⟨rfl, hu5⟩
          have hr5 := hu5.heap hr4 (fun f => f)
          have hp5 := hu5.heap hp4 (fun f => f)
          have hu6 := hu4.trans hu5 (fun _ _ f => f)
          clear g0 g1 g2 g3 gf0 gf1 gf2 gf3 k0 k1 k2 k3 hr4 hp4 hu4 hu5
          have hlr5 := lt_of_heap hr5
          have hlp5 := lt_of_heap hp5
          have g0 : w5.cell? ⟨w.heap.size, 0, none⟩ = some (.bool false) := cell_heap hr5 0 _ rfl
          have g1 : w5.cell? ⟨w.heap.size, 1, none⟩ = some (.int .i64 0) := cell_heap hr5 1 _ rfl
          have g2 : w5.cell? ⟨w.heap.size, 2, none⟩ = some (.int .i64 0) := cell_heap hr5 2 _ rfl
          have g3 : w5.cell? ⟨w.heap.size, 3, none⟩ = some (.string ⟨#[]⟩) := cell_heap hr5 3 _ rfl
          have gf0 : w5.frozen? ⟨w.heap.size, 0, none⟩ = false := free_heap hr5 0
          have gf1 : w5.frozen? ⟨w.heap.size, 1, none⟩ = false := free_heap hr5 1
          have gf2 : w5.frozen? ⟨w.heap.size, 2, none⟩ = false := free_heap hr5 2
          have gf3 : w5.frozen? ⟨w.heap.size, 3, none⟩ = false := free_heap hr5 3
          have k0 : w5.cell? ⟨w1.heap.size, 0, none⟩ = some (.bool true) := cell_heap hp5 0 _ rfl
          have k1 : w5.cell? ⟨w1.heap.size, 1, none⟩ = some (.int .i64 0) := cell_heap hp5 1 _ rfl
          have k2 : w5.cell? ⟨w1.heap.size, 2, none⟩ = some (.int .i64 n) := cell_heap hp5 2 _ rfl
          have k3 : w5.cell? ⟨w1.heap.size, 3, none⟩ = some (.string ⟨#[]⟩) := cell_heap hp5 3 _ rfl
          cases hm : Blk.may ⟨true, 0, (n : Int), []⟩ with
          | false =>
            have HR2 : Hid (res = (Blk.zero, 4)) := by have := HR.out; rw [finR, if_neg (by simp), if_pos (Or.inr hm)] at this; exact this
            clear hm
            go_wp2
            refine bodyPost_ret (v := .tuple #[.agg #[.bool false, .int .i64 0, .int .i64 0, .string ⟨#[]⟩], .int .i64 4]) ?_ rfl (TakeR.zero HR2.out ?_)
            · simp [results, Try.results103, go_sem, g0, g1, g2, g3]
            · repeat (refine Upd.setCell ?_ (fun h => by simp at h) _)
              exact hu6
          | true =>
            have HR2 : Hid (res = (⟨true, 0, (n : Int), []⟩, 0)) := by have := HR.out; rw [finR, if_neg (by simp), if_neg (by rw [hm]; simp)] at this; exact this
            clear hm
            go_wp2
            refine bodyPost_ret (v := .tuple #[.agg #[.bool true, .int .i64 0, .int .i64 n, .string ⟨#[]⟩], .int .i64 0]) ?_ rfl (TakeR.one HR2.out ?_)
            · simp [results, Try.results103, go_sem, g0, g1, g2, g3, k0, k1, k2, k3]
            · repeat (refine Upd.setCell ?_ (fun h => by simp at h) _)
              exact hu6
        · have HR2 : Hid (res = (Blk.zero, 4)) := by have := HR.out; rw [finR, if_neg (by simp), if_pos (Or.inl hL)] at this; exact this
          have hi : l2.isEmpty = false := by cases l2 <;> simp at hL ⊢
          clear hL
          go_wp2
          refine bodyPost_ret (v := .tuple #[.agg #[.bool false, .int .i64 0, .int .i64 0, .string ⟨#[]⟩], .int .i64 4]) ?_ rfl (TakeR.zero HR2.out ?_)
          · simp [results, Try.results103, go_sem, g0, g1, g2, g3]
          · repeat (refine Upd.setCell ?_ (fun h => by simp at h) _)
            exact hu4
      · have hz2 : (e2 != 0) = true := by simp [hE]
        have HR2 : Hid (res = (Blk.zero, 10)) := by have := HR.out; rw [finR, if_pos hE] at this; exact this
        go_wp2
        refine bodyPost_ret (v := .tuple #[.agg #[.bool false, .int .i64 0, .int .i64 0, .string ⟨#[]⟩], .int .i64 10]) ?_ rfl (TakeR.zero HR2.out ?_)
        · simp [results, Try.results103, go_sem, g0, g1, g2, g3]
        · repeat (refine Upd.setCell ?_ (fun h => by simp at h) _)
          exact hu4
    · have hk : ((k : Int) == 2) = false := beq_eq_false_iff_ne.2 (by omega)
      rw [if_neg hk2] at HR1
      clear hk2
      by_cases hk1 : k = 1
      · subst hk1
        have hk3 : ((1 : Int) == 1) = true := rfl
        have hk4 : ((1 : Int) == 2) = false := rfl
        rw [if_pos rfl] at HR1
        have hU8 := Reader_U8 _ l1 0 _ (by omega) hR2
        have hqb := rU8_lt l1 0
        have hqc := fx_len l1 0 1
        change (rU8 l1 0).2.1.length ≤ l1.length at hqc
        generalize hq0 : rU8 l1 0 = q at hU8 HR1 hqb hqc
        obtain ⟨n, l2, e2⟩ := q
        dsimp only at hU8 HR1 hqb hqc
        unfold Two8 at hqb
        have HR := Lib.hid HR1
        clear HR1 hq0
        go_wp2_with (fail)
        refine hU8.mono ?_
        clear hU8
        rintro e w3 ⟨rfl, hR3, hu3⟩
        have hp3 := hu3.heap hp2 (by omega)
        have hr3 := hu3.heap hr2 (by omega)
        have hul3 := hul.trans hu3 (fun i hi h => by omega)
        clear hp2 hr2 hul hu3 hR2 g0 g1 g2 g3 gf0 gf1 gf2 gf3
        have hlp3 := lt_of_heap hp3
        have hlr3 := lt_of_heap hr3
        have hlb3 := lt_of_heap hR3
        have g0 : w3.cell? ⟨w1.heap.size, 0, none⟩ = some (.bool false) := cell_heap hp3 0 _ rfl
        have g1 : w3.cell? ⟨w1.heap.size, 1, none⟩ = some (.int .i64 0) := cell_heap hp3 1 _ rfl
        have g2 : w3.cell? ⟨w1.heap.size, 2, none⟩ = some (.int .i64 0) := cell_heap hp3 2 _ rfl
        have g3 : w3.cell? ⟨w1.heap.size, 3, none⟩ = some (.string ⟨#[]⟩) := cell_heap hp3 3 _ rfl
        have gf0 : w3.frozen? ⟨w1.heap.size, 0, none⟩ = false := free_heap hp3 0
        have gf1 : w3.frozen? ⟨w1.heap.size, 1, none⟩ = false := free_heap hp3 1
        have gf2 : w3.frozen? ⟨w1.heap.size, 2, none⟩ = false := free_heap hp3 2
        have gf3 : w3.frozen? ⟨w1.heap.size, 3, none⟩ = false := free_heap hp3 3
        go_upto_region 11 with (fail)
        have hp4 := (heap_setCell_eq (i := 1) hp3 (.int .i64 n))
        have hr4 := (heap_setCell_ne hr3 ⟨w1.heap.size, 1, none⟩ (.int .i64 n) (by simp; omega))
        have hR4 : Rd _ _ l2 e2 := (heap_setCell_ne hR3 ⟨w1.heap.size, 1, none⟩ (.int .i64 n) (by simp; omega))
        have hu4 := (Upd.setCell (p := ⟨w1.heap.size, 1, none⟩) hul3 (fun h => by simp at h; omega) (.int .i64 n))
        generalize (w3.setCell ⟨w1.heap.size, 1, none⟩ (.int .i64 n)) = w4 at hp4 hr4 hR4 hu4 ⊢
        replace hp4 : w4.heap[w1.heap.size]? = some (.cells #[.bool false, .int .i64 n, .int .i64 0, .string ⟨#[]⟩] 156 (0, 0)) := hp4
        clear hp3 hr3 hR3 hul3 g0 g1 g2 g3 gf0 gf1 gf2 gf3
        have hlr4 := lt_of_heap hr4
        have hlb4 := lt_of_heap hR4
        have hlp4 := lt_of_heap hp4
        have hTx := Reader_Text _ l2 e2 w4 (by omega) hR4
        have hTl := rText_le l2 e2
        have HR1 := HR.out
        clear HR
        generalize hq0 : rText l2 e2 = q at hTx HR1 hTl
        obtain ⟨s, l3, e3⟩ := q
        dsimp only at hTx HR1 hTl
        have HR := Lib.hid HR1
        clear HR1 hq0
        go_wp2_with (fail)
        refine hTx.mono ?_
        clear hTx
        rintro e w5 ⟨rfl, hR5, hu5⟩
        have hp5 := hu5.heap hp4 (by omega)
        have hr5 := hu5.heap hr4 (by omega)
        have hul5 := hu4.trans hu5 (fun i hi h => by omega)
        clear hp4 hr4 hu4 hu5 hR4
        have hlp5 := lt_of_heap hp5
        have hlr5 := lt_of_heap hr5
        have hlb5 := lt_of_heap hR5
        have g0 : w5.cell? ⟨w1.heap.size, 0, none⟩ = some (.bool false) := cell_heap hp5 0 _ rfl
        have g1 : w5.cell? ⟨w1.heap.size, 1, none⟩ = some (.int .i64 n) := cell_heap hp5 1 _ rfl
        have g2 : w5.cell? ⟨w1.heap.size, 2, none⟩ = some (.int .i64 0) := cell_heap hp5 2 _ rfl
        have g3 : w5.cell? ⟨w1.heap.size, 3, none⟩ = some (.string ⟨#[]⟩) := cell_heap hp5 3 _ rfl
        have gf0 : w5.frozen? ⟨w1.heap.size, 0, none⟩ = false := free_heap hp5 0
        have gf1 : w5.frozen? ⟨w1.heap.size, 1, none⟩ = false := free_heap hp5 1
        have gf2 : w5.frozen? ⟨w1.heap.size, 2, none⟩ = false := free_heap hp5 2
        have gf3 : w5.frozen? ⟨w1.heap.size, 3, none⟩ = false := free_heap hp5 3
        go_upto_region 12 with (fail)
        have hp4 := (heap_setCell_eq (i := 3) hp5 (.string ⟨s.toArray⟩))
        have hr4 := (heap_setCell_ne hr5 ⟨w1.heap.size, 3, none⟩ (.string ⟨s.toArray⟩) (by simp; omega))
        have hR4 : Rd _ _ l3 e3 := (heap_setCell_ne hR5 ⟨w1.heap.size, 3, none⟩ (.string ⟨s.toArray⟩) (by simp; omega))
        have hu4 := (Upd.setCell (p := ⟨w1.heap.size, 3, none⟩) hul5 (fun h => by simp at h; omega) (.string ⟨s.toArray⟩))
        generalize (w5.setCell ⟨w1.heap.size, 3, none⟩ (.string ⟨s.toArray⟩)) = w4 at hp4 hr4 hR4 hu4 ⊢
        replace hp4 : w4.heap[w1.heap.size]? = some (.cells #[.bool false, .int .i64 n, .int .i64 0, .string ⟨s.toArray⟩] 156 (0, 0)) := hp4
        clear hp5 hr5 hR5 hul5 g0 g1 g2 g3 gf0 gf1 gf2 gf3
        have hlr4 := lt_of_heap hr4
        have hlb4 := lt_of_heap hR4
        have hlp4 := lt_of_heap hp4
        go_wp2_with (fail)
        refine (Reader_Err _ _ _ _ hR4).mono ?_
        rintro e w9 ⟨rfl, rfl⟩
        have g0 : w4.cell? ⟨w.heap.size, 0, none⟩ = some (.bool false) := cell_heap hr4 0 _ rfl
        have g1 : w4.cell? ⟨w.heap.size, 1, none⟩ = some (.int .i64 0) := cell_heap hr4 1 _ rfl
        have g2 : w4.cell? ⟨w.heap.size, 2, none⟩ = some (.int .i64 0) := cell_heap hr4 2 _ rfl
        have g3 : w4.cell? ⟨w.heap.size, 3, none⟩ = some (.string ⟨#[]⟩) := cell_heap hr4 3 _ rfl
        have gf0 : w4.frozen? ⟨w.heap.size, 0, none⟩ = false := free_heap hr4 0
        have gf1 : w4.frozen? ⟨w.heap.size, 1, none⟩ = false := free_heap hr4 1
        have gf2 : w4.frozen? ⟨w.heap.size, 2, none⟩ = false := free_heap hr4 2
        have gf3 : w4.frozen? ⟨w.heap.size, 3, none⟩ = false := free_heap hr4 3
        by_cases hE : e3 = 0
        · subst hE
          have hz2 : (0 != (0 : Int)) = false := rfl
          go_wp2_with (fail)
          refine (Reader_Rest _ _ _ _ hR4).mono ?_
          rintro e w9 ⟨rfl, rfl⟩
          by_cases hL : l3.length = 0
          · obtain rfl : l3 = [] := List.eq_nil_of_length_eq_zero hL
            clear hL
            have k0 : w4.cell? ⟨w1.heap.size, 0, none⟩ = some (.bool false) := cell_heap hp4 0 _ rfl
            have k1 : w4.cell? ⟨w1.heap.size, 1, none⟩ = some (.int .i64 n) := cell_heap hp4 1 _ rfl
            have k2 : w4.cell? ⟨w1.heap.size, 2, none⟩ = some (.int .i64 0) := cell_heap hp4 2 _ rfl
            have k3 : w4.cell? ⟨w1.heap.size, 3, none⟩ = some (.string ⟨s.toArray⟩) := cell_heap hp4 3 _ rfl
            have hM := may_any ⟨false, (n : Int), 0, s⟩ w4 (by simp; omega)
            go_wp2_with (fail)
            refine hM.mono ?_
            clear hM
            rintro e w6 ⟨rfl, hu5⟩
            have hr5 := hu5.heap hr4 (fun f => f)
            have hp5 := hu5.heap hp4 (fun f => f)
            have hu6 := hu4.trans hu5 (fun _ _ f => f)
            clear g0 g1 g2 g3 gf0 gf1 gf2 gf3 k0 k1 k2 k3 hr4 hp4 hu4 hu5
            have hlr5 := lt_of_heap hr5
            have hlp5 := lt_of_heap hp5
            have g0 : w6.cell? ⟨w.heap.size, 0, none⟩ = some (.bool false) := cell_heap hr5 0 _ rfl
            have g1 : w6.cell? ⟨w.heap.size, 1, none⟩ = some (.int .i64 0) := cell_heap hr5 1 _ rfl
            have g2 : w6.cell? ⟨w.heap.size, 2, none⟩ = some (.int .i64 0) := cell_heap hr5 2 _ rfl
            have g3 : w6.cell? ⟨w.heap.size, 3, none⟩ = some (.string ⟨#[]⟩) := cell_heap hr5 3 _ rfl
            have gf0 : w6.frozen? ⟨w.heap.size, 0, none⟩ = false := free_heap hr5 0
            have gf1 : w6.frozen? ⟨w.heap.size, 1, none⟩ = false := free_heap hr5 1
            have gf2 : w6.frozen? ⟨w.heap.size, 2, none⟩ = false := free_heap hr5 2
            have gf3 : w6.frozen? ⟨w.heap.size, 3, none⟩ = false := free_heap hr5 3
            have k0 : w6.cell? ⟨w1.heap.size, 0, none⟩ = some (.bool false) := cell_heap hp5 0 _ rfl
            have k1 : w6.cell? ⟨w1.heap.size, 1, none⟩ = some (.int .i64 n) := cell_heap hp5 1 _ rfl
            have k2 : w6.cell? ⟨w1.heap.size, 2, none⟩ = some (.int .i64 0) := cell_heap hp5 2 _ rfl
            have k3 : w6.cell? ⟨w1.heap.size, 3, none⟩ = some (.string ⟨s.toArray⟩) := cell_heap hp5 3 _ rfl
            cases hm : Blk.may ⟨false, (n : Int), 0, s⟩ with
            | false =>
              have HR2 : Hid (res = (Blk.zero, 4)) := by have := HR.out; rw [finR, if_neg (by simp), if_pos (Or.inr hm)] at this; exact this
              clear hm
              go_wp2
              refine bodyPost_ret (v := .tuple #[.agg #[.bool false, .int .i64 0, .int .i64 0, .string ⟨#[]⟩], .int .i64 4]) ?_ rfl (TakeR.zero HR2.out ?_)
              · simp [results, Try.results103, go_sem, g0, g1, g2, g3]
              · repeat (refine Upd.setCell ?_ (fun h => by simp at h) _)
                exact hu6
            | true =>
              have HR2 : Hid (res = (⟨false, (n : Int), 0, s⟩, 0)) := by have := HR.out; rw [finR, if_neg (by simp), if_neg (by rw [hm]; simp)] at this; exact this
              clear hm
              go_wp2
              refine bodyPost_ret (v := .tuple #[.agg #[.bool false, .int .i64 n, .int .i64 0, .string ⟨s.toArray⟩], .int .i64 0]) ?_ rfl (TakeR.one HR2.out ?_)
              · simp [results, Try.results103, go_sem, g0, g1, g2, g3, k0, k1, k2, k3]
              · repeat (refine Upd.setCell ?_ (fun h => by simp at h) _)
                exact hu6
          · have HR2 : Hid (res = (Blk.zero, 4)) := by have := HR.out; rw [finR, if_neg (by simp), if_pos (Or.inl hL)] at this; exact this
            have hi : l3.isEmpty = false := by cases l3 <;> simp at hL ⊢
            clear hL
            go_wp2
            refine bodyPost_ret (v := .tuple #[.agg #[.bool false, .int .i64 0, .int .i64 0, .string ⟨#[]⟩], .int .i64 4]) ?_ rfl (TakeR.zero HR2.out ?_)
            · simp [results, Try.results103, go_sem, g0, g1, g2, g3]
            · repeat (refine Upd.setCell ?_ (fun h => by simp at h) _)
              exact hu4
        · have hz2 : (e3 != 0) = true := by simp [hE]
          have HR2 : Hid (res = (Blk.zero, 10)) := by have := HR.out; rw [finR, if_pos hE] at this; exact this
          go_wp2
          refine bodyPost_ret (v := .tuple #[.agg #[.bool false, .int .i64 0, .int .i64 0, .string ⟨#[]⟩], .int .i64 10]) ?_ rfl (TakeR.zero HR2.out ?_)
          · simp [results, Try.results103, go_sem, g0, g1, g2, g3]
          · repeat (refine Upd.setCell ?_ (fun h => by simp at h) _)
            exact hu4
      · have hk3 : ((k : Int) == 1) = false := beq_eq_false_iff_ne.2 (by omega)
        rw [if_neg hk1] at HR1
        have HR := Lib.hid HR1
        clear HR1 hk1
        go_wp2
        refine bodyPost_ret (v := .tuple #[.agg #[.bool false, .int .i64 0, .int .i64 0, .string ⟨#[]⟩], .int .i64 4]) ?_ rfl (TakeR.zero HR.out ?_)
        · simp [results, Try.results103, go_sem, g0, g1, g2, g3]
        · repeat (refine Upd.setCell ?_ (fun h => by simp at h) _)
          exact hul
  · have hz : (e1 != 0) = true := by simp [he]
    have HR2 : Hid (res = (Blk.zero, 10)) := by have := HR.out; rw [HQ.out] at this; rw [if_pos he] at this; exact this
    go_wp2
    refine bodyPost_ret (v := .tuple #[.agg #[.bool false, .int .i64 0, .int .i64 0, .string ⟨#[]⟩], .int .i64 10]) ?_ rfl (TakeR.zero HR2.out ?_)
    · simp [results, Try.results103, go_sem, g0, g1, g2, g3]
    · repeat (refine Upd.setCell ?_ (fun h => by simp at h) _)
      exact hul

end Go.Proofs.Ytnoimnijoklkdaa
