/- The contracts of the reference's Put and Take. -/
import Derived.Test.YtiabomfkmfokeaaDoorBlk4
set_option linter.unusedVariables false
set_option linter.unusedSimpArgs false
namespace Go.Proofs.YtiabomfkmfokeaaDoor
open Go.RowKit

set_option maxHeartbeats 800000 in
set_option maxRecDepth 100000 in
theorem ref_Put (p : Blk.Pt) (w : World) (hl : p.s.length ≤ 1000000000) :
    Calls Tryd.prog 11 #[ptV p] w fun e w' => e = .returned (.tuple #[.string ⟨(Blk.put p).1.toArray⟩, .int .i64 (Blk.put p).2]) ∧ Upd (fun _ => False) w w' := by
  have hM := fun w => May_any p w hl
  cases hm : Blk.may p with
  | false =>
    rw [hm] at hM
    have hp : Blk.put p = ([], 4) := by unfold Blk.put; rw [if_pos hm]
    rw [hp]
    have HM := Lib.hid hM
    clear hM hp hm
    obtain ⟨cut, at_, n, s⟩ := p
    unfold ptV
    dsimp only at hl ⊢
    go_enter Tryd.func11, Tryd.ntmps11
    go_wp2_with (go_at_call 30; refine (HM.out _).mono ?_; rintro e w' ⟨rfl, hu⟩)
    go_ret2
    exact ⟨rfl, ((Upd.refl _ _).alloc _).trans hu (fun _ _ h => h)⟩
  | true =>
    rw [hm] at hM
    obtain ⟨cut, at_, n, s⟩ := p
    dsimp only at hl
    cases cut with
    | true =>
      have hp : Blk.put ⟨true, at_, n, s⟩ = ([2, UInt8.ofNat n.toNat], 0) := by simp [Blk.put, hm]
      have hn : 0 ≤ n ∧ n < 64 := by simp [Blk.may] at hm; omega
      rw [hp]
      have HM := Lib.hid hM
      clear hM hp hm
      obtain ⟨hn0, hn1⟩ := hn
      obtain ⟨m, rfl⟩ := Int.eq_ofNat_of_zero_le hn0
      have e1 : IntKind.u8.wrap (m : Int) = (m : Int) := IntWalk.u8_in _ (by omega)
      unfold ptV
      dsimp only
      go_enter Tryd.func11, Tryd.ntmps11
      go_wp2_with (fail)
      refine (HM.out _).mono ?_
      rintro e w1 ⟨rfl, hu⟩
      have hb := hu.heap (heap_alloc_new w _) (by simp)
      have hlb := lt_of_heap hb
      have c0 : w1.cell? ⟨w.heap.size, 0, none⟩ = some (.bool true) := cell_heap hb 0 _ rfl
      have c2 : w1.cell? ⟨w.heap.size, 2, none⟩ = some (.int .i64 m) := cell_heap hb 2 _ rfl
      have hm8 : (m : Int) = ((UInt8.ofNat m).toNat : Int) := by simp; omega
      have hown := World.ownsRow_lit (base := 0) (e := 5) (size := 1) w1 #[.int .u8 2, .int .u8 m] 2 (Nat.zero_le _) (by decide) rfl
      have hconv := run_conv_row (P := Tryd.prog) (w1.alloc (.cells #[.int .u8 2, .int .u8 m] 5)) 48 5 9 Tryd.underlying48 Tryd.underlying5 Tryd.underlying9 _ [2, UInt8.ofNat m] 2 rfl (by
        have : bytesV [2, UInt8.ofNat m] = (#[.int .u8 2, .int .u8 m] : Array Value).toList := by simp [bytesV]; omega
        rw [this]; exact hown)
      clear hown hm8
      go_wp2
      go_ret2
      exact ⟨by simp, (((Upd.refl _ _).alloc _).trans hu (fun _ _ h => h)).alloc _⟩
    | false =>
      have hp : Blk.put ⟨false, at_, n, s⟩ = ([1, UInt8.ofNat at_.toNat, 0, UInt8.ofNat s.length] ++ s, 0) := by simp [Blk.put, hm]
      have hn : 0 ≤ at_ ∧ at_ < 64 ∧ s.length ≤ 64 := by simp [Blk.may] at hm; omega
      rw [hp]
      have HM := Lib.hid hM
      clear hM hp hm
      obtain ⟨hn0, hn1, hs⟩ := hn
      obtain ⟨m, rfl⟩ := Int.eq_ofNat_of_zero_le hn0
      have e1 : IntKind.u8.wrap (m : Int) = (m : Int) := IntWalk.u8_in _ (by omega)
      have e2 : IntKind.u8.wrap (s.length : Int) = (s.length : Int) := IntWalk.u8_in _ (by omega)
      unfold ptV
      dsimp only
      go_enter Tryd.func11, Tryd.ntmps11
      go_wp2_with (fail)
      refine (HM.out _).mono ?_
      rintro e w1 ⟨rfl, hu⟩
      have hb := hu.heap (heap_alloc_new w _) (by simp)
      have hlb := lt_of_heap hb
      have c0 : w1.cell? ⟨w.heap.size, 0, none⟩ = some (.bool false) := cell_heap hb 0 _ rfl
      have c1 : w1.cell? ⟨w.heap.size, 1, none⟩ = some (.int .i64 m) := cell_heap hb 1 _ rfl
      have c3 : w1.cell? ⟨w.heap.size, 3, none⟩ = some (.string ⟨s.toArray⟩) := cell_heap hb 3 _ rfl
      have hown := World.ownsRow_lit (base := 0) (e := 5) (size := 1) w1 #[.int .u8 1, .int .u8 m, .int .u8 0, .int .u8 s.length] 4 (Nat.zero_le _) (by decide) rfl
      have hconv := run_conv_row (P := Tryd.prog) (w1.alloc (.cells #[.int .u8 1, .int .u8 m, .int .u8 0, .int .u8 s.length] 5)) 48 5 9 Tryd.underlying48 Tryd.underlying5 Tryd.underlying9 _ [1, UInt8.ofNat m, 0, UInt8.ofNat s.length] 4 rfl (by
        have : bytesV [1, UInt8.ofNat m, 0, UInt8.ofNat s.length] = (#[.int .u8 1, .int .u8 m, .int .u8 0, .int .u8 s.length] : Array Value).toList := by simp [bytesV]; omega
        rw [this]; exact hown)
      clear hown
      go_wp2
      go_ret2
      refine ⟨?_, (((Upd.refl _ _).alloc _).trans hu (fun _ _ h => h)).alloc _⟩
      have : (⟨#[1, UInt8.ofNat m, 0, UInt8.ofNat s.length]⟩ : ByteArray) ++ ⟨s.toArray⟩ = ⟨([1, UInt8.ofNat m, 0, UInt8.ofNat s.length] ++ s).toArray⟩ := append_list [1, UInt8.ofNat m, 0, UInt8.ofNat s.length] s
      simp only [Int.toNat_natCast]
      show Ending.returned (.tuple #[.string ((⟨#[1, UInt8.ofNat m, 0, UInt8.ofNat s.length]⟩ : ByteArray) ++ ⟨s.toArray⟩), .int .i64 0]) = _
      rw [this]; rfl

/-- Take, by places. -/
def takeI (l : List UInt8) : Blk.Pt × Int :=
  if l.length = 0 then (Blk.zero, 10)
  else if (l.getD 0 0).toNat ≠ 1 ∧ (l.getD 0 0).toNat ≠ 2 then (Blk.zero, 4)
  else if (l.getD 0 0).toNat = 2 then (if l.length < 2 then (Blk.zero, 10) else Blk.fin ⟨true, 0, (l.getD 1 0).toNat, []⟩ (decide (2 < l.length)))
  else if l.length < 4 then (Blk.zero, 10)
  else if l.length < 4 + 256 * (l.getD 2 0).toNat + (l.getD 3 0).toNat then (Blk.zero, 10)
  else Blk.fin ⟨false, (l.getD 1 0).toNat, 0, (l.drop 4).take (256 * (l.getD 2 0).toNat + (l.getD 3 0).toNat)⟩ (decide (4 + 256 * (l.getD 2 0).toNat + (l.getD 3 0).toNat < l.length))

theorem byte_getD (l : List UInt8) (i : Nat) : ∀ h, (((⟨l.toArray⟩ : ByteArray)[i]'h).toNat : Int) = (((l.getD i 0).toNat : Nat) : Int) := fun h => by
  have hi : i < l.length := by rw [← size_list]; exact h
  simp [List.getD, hi]; rfl

set_option maxHeartbeats 3200000 in
set_option maxRecDepth 100000 in
theorem ref_TakeI (l : List UInt8) (w : World) (hl : l.length ≤ 1000000000) :
    Calls Tryd.prog 13 #[.string ⟨l.toArray⟩] w (TakeR (takeI l) w) := by
  obtain ⟨res, hres⟩ : ∃ res, res = takeI l := ⟨_, rfl⟩
  rw [← hres]
  unfold takeI at hres
  have b0 := byte_getD l 0
  have b1 := byte_getD l 1
  have b2 := byte_getD l 2
  have b3 := byte_getD l 3
  have q0 := UInt8.toNat_lt (l.getD 0 0)
  have q1 := UInt8.toNat_lt (l.getD 1 0)
  have q2 := UInt8.toNat_lt (l.getD 2 0)
  have q3 := UInt8.toNat_lt (l.getD 3 0)
  generalize (l.getD 0 0).toNat = k at *
  generalize (l.getD 1 0).toNat = a at *
  generalize (l.getD 2 0).toNat = h at *
  generalize (l.getD 3 0).toNat = m at *
  by_cases hl0 : l.length = 0
  · rw [if_pos hl0] at hres
    have HR := Lib.hid hres
    have hl1 : ((l.length : Int) == 0) = true := beq_iff_eq.2 (by omega)
    clear hres b0 b1 b2 b3
    go_enter Tryd.func13, Tryd.ntmps13
    go_wp2
    refine bodyPost_ret (v := .tuple #[.agg #[.bool false, .int .i64 0, .int .i64 0, .string ⟨#[]⟩], .int .i64 10]) ?_ rfl (TakeR.zero HR.out ?_)
    · simp [results, Tryd.results13, go_sem]
    · repeat (first | (refine Upd.setCell ?_ (fun h => by first | (simp at h; done) | (simp at h; omega)) _) | (refine Upd.alloc ?_ _) | (refine Upd.drewN ?_ _))
      exact Upd.refl _ _
  · rw [if_neg hl0] at hres
    have hl1 : ((l.length : Int) == 0) = false := beq_eq_false_iff_ne.2 (by omega)
    have hl2 : 0 < l.length := by omega
    clear hl0
    by_cases hk : k ≠ 1 ∧ k ≠ 2
    · rw [if_pos hk] at hres
      have HR := Lib.hid hres
      have hk1 : ((k : Int) != 1) = true := by rw [bne_iff_ne]; omega
      have hk2 : ((k : Int) != 2) = true := by rw [bne_iff_ne]; omega
      clear hres hk b1 b2 b3
      go_enter Tryd.func13, Tryd.ntmps13
      go_wp2
      refine bodyPost_ret (v := .tuple #[.agg #[.bool false, .int .i64 0, .int .i64 0, .string ⟨#[]⟩], .int .i64 4]) ?_ rfl (TakeR.zero HR.out ?_)
      · simp [results, Tryd.results13, go_sem]
      · repeat (first | (refine Upd.setCell ?_ (fun h => by first | (simp at h; done) | (simp at h; omega)) _) | (refine Upd.alloc ?_ _) | (refine Upd.drewN ?_ _))
        exact Upd.refl _ _
    · rw [if_neg hk] at hres
      by_cases hk2 : k = 2
      · subst hk2
        rw [if_pos rfl] at hres
        clear hk
        by_cases hl3 : l.length < 2
        · rw [if_pos hl3] at hres
          have HR := Lib.hid hres
          clear hres b1 b2 b3
          go_enter Tryd.func13, Tryd.ntmps13
          go_wp2
          refine bodyPost_ret (v := .tuple #[.agg #[.bool false, .int .i64 0, .int .i64 0, .string ⟨#[]⟩], .int .i64 10]) ?_ rfl (TakeR.zero HR.out ?_)
          · simp [results, Tryd.results13, go_sem]
          · repeat (first | (refine Upd.setCell ?_ (fun h => by first | (simp at h; done) | (simp at h; omega)) _) | (refine Upd.alloc ?_ _) | (refine Upd.drewN ?_ _))
            exact Upd.refl _ _
        · rw [if_neg hl3] at hres
          have HR := Lib.hid hres
          have hl4 : 1 < l.length := by omega
          clear hres b2 b3 hl3
          go_enter Tryd.func13, Tryd.ntmps13
          by_cases hov : 2 < l.length
          · have HR2 : Hid (res = (Blk.zero, 4)) := by have := HR.out; rw [Blk.fin, if_pos (Or.inl (by simpa using hov))] at this; exact this
            have hov' : ((2 : Int) < (l.length : Int)) = True := by simp; omega
            go_wp2
            refine bodyPost_ret (v := .tuple #[.agg #[.bool false, .int .i64 0, .int .i64 0, .string ⟨#[]⟩], .int .i64 4]) ?_ rfl (TakeR.zero HR2.out ?_)
            · simp [results, Tryd.results13, go_sem]
            · repeat (first | (refine Upd.setCell ?_ (fun h => by first | (simp at h; done) | (simp at h; omega)) _) | (refine Upd.alloc ?_ _) | (refine Upd.drewN ?_ _))
              exact Upd.refl _ _
          · have hM := fun w => May_any ⟨true, 0, (a : Int), []⟩ w (by simp)
            have hov2 := hov
            go_wp2_with (fail)
            refine (hM _).mono ?_
            clear hM
            rintro e w5 ⟨rfl, hu5⟩
            have hr5 := hu5.heap (heap_alloc_lt (heap_alloc_new w _) _) (fun f => f)
            have hp5 := hu5.heap (heap_alloc_new _ _) (fun f => f)
            have hu6 := (((Upd.refl (fun _ => False) w).alloc _).alloc _).trans hu5 (fun _ _ f => f)
            simp only [World.size_alloc] at hp5
            clear hu5
            have hlr5 := lt_of_heap hr5
            have hlp5 := lt_of_heap hp5
            have g0 : w5.cell? ⟨w.heap.size, 0, none⟩ = some (.bool false) := cell_heap hr5 0 _ rfl
            have g1 : w5.cell? ⟨w.heap.size, 1, none⟩ = some (.int .i64 0) := cell_heap hr5 1 _ rfl
            have g2 : w5.cell? ⟨w.heap.size, 2, none⟩ = some (.int .i64 0) := cell_heap hr5 2 _ rfl
            have g3 : w5.cell? ⟨w.heap.size, 3, none⟩ = some (.string ⟨#[]⟩) := cell_heap hr5 3 _ rfl
            have k0 : w5.cell? ⟨w.heap.size + 1, 0, none⟩ = some (.bool true) := cell_heap hp5 0 _ rfl
            have k1 : w5.cell? ⟨w.heap.size + 1, 1, none⟩ = some (.int .i64 0) := cell_heap hp5 1 _ rfl
            have k2 : w5.cell? ⟨w.heap.size + 1, 2, none⟩ = some (.int .i64 a) := cell_heap hp5 2 _ rfl
            have k3 : w5.cell? ⟨w.heap.size + 1, 3, none⟩ = some (.string ⟨#[]⟩) := cell_heap hp5 3 _ rfl
            have gf0 : w5.frozen? ⟨w.heap.size, 0, none⟩ = false := free_heap hr5 0
            have gf1 : w5.frozen? ⟨w.heap.size, 1, none⟩ = false := free_heap hr5 1
            have gf2 : w5.frozen? ⟨w.heap.size, 2, none⟩ = false := free_heap hr5 2
            have gf3 : w5.frozen? ⟨w.heap.size, 3, none⟩ = false := free_heap hr5 3
            cases hm : Blk.may ⟨true, 0, (a : Int), []⟩ with
            | false =>
              have HR2 : Hid (res = (Blk.zero, 4)) := by have := HR.out; rw [Blk.fin, if_pos (Or.inr hm)] at this; exact this
              clear hm
              go_wp2
              refine bodyPost_ret (v := .tuple #[.agg #[.bool false, .int .i64 0, .int .i64 0, .string ⟨#[]⟩], .int .i64 4]) ?_ rfl (TakeR.zero HR2.out ?_)
              · simp [results, Tryd.results13, go_sem, g0, g1, g2, g3]
              · repeat (first | (refine Upd.setCell ?_ (fun h => by first | (simp at h; done) | (simp at h; omega)) _) | (refine Upd.alloc ?_ _) | (refine Upd.drewN ?_ _))
                exact hu6
            | true =>
              have HR2 : Hid (res = (⟨true, 0, (a : Int), []⟩, 0)) := by have := HR.out; rw [Blk.fin, if_neg (by rw [hm]; simpa using hov)] at this; exact this
              clear hm
              go_wp2
              refine bodyPost_ret (v := .tuple #[.agg #[.bool true, .int .i64 0, .int .i64 a, .string ⟨#[]⟩], .int .i64 0]) ?_ rfl (TakeR.one HR2.out ?_)
              · simp [results, Tryd.results13, go_sem, g0, g1, g2, g3, k0, k1, k2, k3]
              · repeat (refine Upd.setCell ?_ (fun h => by first | (simp at h; done) | (simp at h; omega)) _)
                exact hu6
      · obtain rfl : k = 1 := by omega
        rw [if_neg (by decide)] at hres
        clear hk hk2
        by_cases hl3 : l.length < 4
        · rw [if_pos hl3] at hres
          have HR := Lib.hid hres
          clear hres b1 b2 b3
          go_enter Tryd.func13, Tryd.ntmps13
          go_wp2
          refine bodyPost_ret (v := .tuple #[.agg #[.bool false, .int .i64 0, .int .i64 0, .string ⟨#[]⟩], .int .i64 10]) ?_ rfl (TakeR.zero HR.out ?_)
          · simp [results, Tryd.results13, go_sem]
          · repeat (first | (refine Upd.setCell ?_ (fun h => by first | (simp at h; done) | (simp at h; omega)) _) | (refine Upd.alloc ?_ _) | (refine Upd.drewN ?_ _))
            exact Upd.refl _ _
        · rw [if_neg hl3] at hres
          have hl4 : 3 < l.length := by omega
          clear hl3
          have e1 : IntKind.i64.wrap (256 * (h : Int)) = 256 * (h : Int) := IntWalk.i64_in _ (by omega)
          have e2 : IntKind.i64.wrap (4 + 256 * (h : Int)) = 4 + 256 * (h : Int) := IntWalk.i64_in _ (by omega)
          have e3 : IntKind.i64.wrap (4 + 256 * (h : Int) + (m : Int)) = 4 + 256 * (h : Int) + (m : Int) := IntWalk.i64_in _ (by omega)
          have e4 : (2 : Int) < (l.length : Int) := by omega
          have e5 : (3 : Int) < (l.length : Int) := by omega
          by_cases hl5 : l.length < 4 + 256 * h + m
          · rw [if_pos hl5] at hres
            have HR := Lib.hid hres
            clear hres
            have hl6 : (l.length : Int) < 4 + 256 * (h : Int) + (m : Int) := by omega
            go_enter Tryd.func13, Tryd.ntmps13
            go_wp2
            go_quiet (fail)
            clear b0 b1 b2 b3 e1 e2 e3
            go_wp2
            refine bodyPost_ret (v := .tuple #[.agg #[.bool false, .int .i64 0, .int .i64 0, .string ⟨#[]⟩], .int .i64 10]) ?_ rfl (TakeR.zero HR.out ?_)
            · simp [results, Tryd.results13, go_sem]
            · repeat (first | (refine Upd.setCell ?_ (fun h => by first | (simp at h; done) | (simp at h; omega)) _) | (refine Upd.alloc ?_ _) | (refine Upd.drewN ?_ _))
              exact Upd.refl _ _
          · rw [if_neg hl5] at hres
            have HR := Lib.hid hres
            clear hres
            have hl6 : ¬ (l.length : Int) < 4 + 256 * (h : Int) + (m : Int) := by omega
            go_enter Tryd.func13, Tryd.ntmps13
            go_wp2
            go_quiet (fail)
            clear b0 b2 b3 e1 e2 e3
            have x1 : (⟨l.toArray⟩ : ByteArray).extract 4 (4 + 256 * (h : Int) + (m : Int)).toNat = ⟨((l.drop 4).take (256 * h + m)).toArray⟩ := by
              rw [ext_list]; congr 3; omega
            by_cases hov : 4 + 256 * h + m < l.length
            · have HR2 : Hid (res = (Blk.zero, 4)) := by have := HR.out; rw [Blk.fin, if_pos (Or.inl (by simpa using hov))] at this; exact this
              have hov' : (4 + 256 * (h : Int) + (m : Int) < (l.length : Int)) = True := by simp; omega
              go_wp2
              refine bodyPost_ret (v := .tuple #[.agg #[.bool false, .int .i64 0, .int .i64 0, .string ⟨#[]⟩], .int .i64 4]) ?_ rfl (TakeR.zero HR2.out ?_)
              · simp [results, Tryd.results13, go_sem]
              · repeat (first | (refine Upd.setCell ?_ (fun h => by first | (simp at h; done) | (simp at h; omega)) _) | (refine Upd.alloc ?_ _) | (refine Upd.drewN ?_ _))
                exact Upd.refl _ _
            · have hM := fun w => May_any ⟨false, (a : Int), 0, (l.drop 4).take (256 * h + m)⟩ w (by simp; omega)
              have hov2 := hov
              go_wp2_with (fail)
              refine (hM _).mono ?_
              clear hM
              rintro e w5 ⟨rfl, hu5⟩
              have hr5 := hu5.heap (heap_setCell_ne (heap_setCell_ne (heap_drewN (heap_alloc_lt (heap_alloc_new w _) _) _) ⟨w.heap.size + 1, 1, none⟩ _ (by simp)) ⟨w.heap.size + 1, 3, none⟩ _ (by simp)) (fun f => f)
              have hp5 := hu5.heap (heap_setCell_eq (i := 3) (heap_setCell_eq (i := 1) (heap_drewN (heap_alloc_new2 w _ _) _) _) _) (fun f => f)
              have hu6 := (Upd.setCell (p := ⟨w.heap.size + 1, 3, none⟩) (Upd.setCell (p := ⟨w.heap.size + 1, 1, none⟩) ((((Upd.refl (fun _ => False) w).alloc _).alloc _).drewN _) (fun h => by simp at h; omega) _) (fun h => by simp at h; omega) _).trans hu5 (fun _ _ f => f)
              replace hp5 : w5.heap[w.heap.size + 1]? = some (.cells #[.bool false, .int .i64 a, .int .i64 0, .string ⟨((l.drop 4).take (256 * h + m)).toArray⟩] 30 (0, 0)) := hp5
              clear hu5
              have hlr5 := lt_of_heap hr5
              have hlp5 := lt_of_heap hp5
              have g0 : w5.cell? ⟨w.heap.size, 0, none⟩ = some (.bool false) := cell_heap hr5 0 _ rfl
              have g1 : w5.cell? ⟨w.heap.size, 1, none⟩ = some (.int .i64 0) := cell_heap hr5 1 _ rfl
              have g2 : w5.cell? ⟨w.heap.size, 2, none⟩ = some (.int .i64 0) := cell_heap hr5 2 _ rfl
              have g3 : w5.cell? ⟨w.heap.size, 3, none⟩ = some (.string ⟨#[]⟩) := cell_heap hr5 3 _ rfl
              have k0 : w5.cell? ⟨w.heap.size + 1, 0, none⟩ = some (.bool false) := cell_heap hp5 0 _ rfl
              have k1 : w5.cell? ⟨w.heap.size + 1, 1, none⟩ = some (.int .i64 a) := cell_heap hp5 1 _ rfl
              have k2 : w5.cell? ⟨w.heap.size + 1, 2, none⟩ = some (.int .i64 0) := cell_heap hp5 2 _ rfl
              have k3 : w5.cell? ⟨w.heap.size + 1, 3, none⟩ = some (.string ⟨((l.drop 4).take (256 * h + m)).toArray⟩) := cell_heap hp5 3 _ rfl
              have gf0 : w5.frozen? ⟨w.heap.size, 0, none⟩ = false := free_heap hr5 0
              have gf1 : w5.frozen? ⟨w.heap.size, 1, none⟩ = false := free_heap hr5 1
              have gf2 : w5.frozen? ⟨w.heap.size, 2, none⟩ = false := free_heap hr5 2
              have gf3 : w5.frozen? ⟨w.heap.size, 3, none⟩ = false := free_heap hr5 3
              cases hm : Blk.may ⟨false, (a : Int), 0, (l.drop 4).take (256 * h + m)⟩ with
              | false =>
                have HR2 : Hid (res = (Blk.zero, 4)) := by have := HR.out; rw [Blk.fin, if_pos (Or.inr hm)] at this; exact this
                clear hm
                go_wp2
                refine bodyPost_ret (v := .tuple #[.agg #[.bool false, .int .i64 0, .int .i64 0, .string ⟨#[]⟩], .int .i64 4]) ?_ rfl (TakeR.zero HR2.out ?_)
                · simp [results, Tryd.results13, go_sem, g0, g1, g2, g3]
                · repeat (first | (refine Upd.setCell ?_ (fun h => by first | (simp at h; done) | (simp at h; omega)) _) | (refine Upd.alloc ?_ _) | (refine Upd.drewN ?_ _))
                  exact hu6
              | true =>
                have HR2 : Hid (res = (⟨false, (a : Int), 0, (l.drop 4).take (256 * h + m)⟩, 0)) := by have := HR.out; rw [Blk.fin, if_neg (by rw [hm]; simpa using hov)] at this; exact this
                clear hm
                go_wp2
                refine bodyPost_ret (v := .tuple #[.agg #[.bool false, .int .i64 a, .int .i64 0, .string ⟨((l.drop 4).take (256 * h + m)).toArray⟩], .int .i64 0]) ?_ rfl (TakeR.one HR2.out ?_)
                · simp [results, Tryd.results13, go_sem, g0, g1, g2, g3, k0, k1, k2, k3]
                · repeat (refine Upd.setCell ?_ (fun h => by first | (simp at h; done) | (simp at h; omega)) _)
                  exact hu6

end Go.Proofs.YtiabomfkmfokeaaDoor
