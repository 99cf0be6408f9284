/- rillbedref24.Take for the printer. -/
import Derived.Test.YtlhjhkmmgkfmpaaPxRTk1
import Derived.Test.YtlhjhkmmgkfmpaaPxTake
import Derived.Outline
set_option linter.unusedVariables false
set_option linter.unusedSimpArgs false
namespace Go.Proofs.Ytlhjhkmmgkfmpaa.Px
open Go.RowKit Go.Shelf Go.Proofs.YtlhjhkmmgkfmpaaW.PrintWords Go.Proofs.YtlhjhkmmgkfmpaaW.PrintLast

def rsnap (l : List UInt8) (t : Bool) : S68 × List UInt8 × Bool :=
  let a := nm l t 2
  let b := tk a.2.1 a.2.2 a.1
  let c := nm b.2.1 b.2.2 2
  let d := nm c.2.1 c.2.2 8
  let f := nm d.2.1 d.2.2 8
  (⟨⟨b.1.toArray⟩, (c.1 : Nat), (d.1 : Nat), (f.1 : Nat)⟩, f.2.1, f.2.2)
def rref (l : List UInt8) (t : Bool) : S69 × List UInt8 × Bool :=
  let a := nm l t 2
  let b := nm a.2.1 a.2.2 2
  (⟨(a.1 : Nat), (b.1 : Nat)⟩, b.2.1, b.2.2)
def rS : Nat → List UInt8 → Bool → List S68 × List UInt8 × Bool
  | 0, l, t => ([], l, t)
  | n + 1, l, t => if t = true then ([], l, t) else ((rsnap l t).1 :: (rS n (rsnap l t).2.1 (rsnap l t).2.2).1, (rS n (rsnap l t).2.1 (rsnap l t).2.2).2)
def rR : Nat → List UInt8 → Bool → List S69 × List UInt8 × Bool
  | 0, l, t => ([], l, t)
  | n + 1, l, t => if t = true then ([], l, t) else ((rref l t).1 :: (rR n (rref l t).2.1 (rref l t).2.2).1, (rR n (rref l t).2.1 (rref l t).2.2).2)
theorem rS_torn (n : Nat) (l : List UInt8) : rS n l true = ([], l, true) := by cases n <;> simp [rS]
theorem rR_torn (n : Nat) (l : List UInt8) : rR n l true = ([], l, true) := by cases n <;> simp [rR]
theorem rsnap_le (l : List UInt8) (t : Bool) : (rsnap l t).2.1.length ≤ l.length := by
  unfold rsnap
  exact Nat.le_trans (nm_le _ _ _) (Nat.le_trans (nm_le _ _ _) (Nat.le_trans (nm_le _ _ _) (Nat.le_trans (tk_len _ _ _).2 (nm_le _ _ _))))
theorem rref_le (l : List UInt8) (t : Bool) : (rref l t).2.1.length ≤ l.length := by
  unfold rref
  exact Nat.le_trans (nm_le _ _ _) (nm_le _ _ _)
theorem rS_len : ∀ (n : Nat) (l : List UInt8) (t : Bool), (rS n l t).1.length ≤ n ∧ (rS n l t).2.1.length ≤ l.length
  | 0, _, _ => ⟨Nat.le_refl _, Nat.le_refl _⟩
  | n + 1, l, t => by
    unfold rS
    have := rS_len n (rsnap l t).2.1 (rsnap l t).2.2
    have := rsnap_le l t
    split
    · exact ⟨Nat.zero_le _, Nat.le_refl _⟩
    · exact ⟨by simp; omega, by dsimp only; omega⟩
theorem rR_len : ∀ (n : Nat) (l : List UInt8) (t : Bool), (rR n l t).1.length ≤ n ∧ (rR n l t).2.1.length ≤ l.length
  | 0, _, _ => ⟨Nat.le_refl _, Nat.le_refl _⟩
  | n + 1, l, t => by
    unfold rR
    have := rR_len n (rref l t).2.1 (rref l t).2.2
    have := rref_le l t
    split
    · exact ⟨Nat.zero_le _, Nat.le_refl _⟩
    · exact ⟨by simp; omega, by dsimp only; omega⟩
def rtkP (s : List UInt8) : (Int × List S68 × List S69) × Int :=
  let a := nm s false 8
  let b := nm a.2.1 a.2.2 1
  let c := rS b.1 b.2.1 b.2.2
  let d := nm c.2.1 c.2.2 2
  let f := rR d.1 d.2.1 d.2.2
  if f.2.2 = true then ((0, [], []), 10) else if f.2.1 ≠ [] ∨ chk (R1 c.1) (R2 f.1) ≠ 0 then ((0, [], []), 4) else ((((a.1 : Nat) : Int), c.1, f.1), 0)

set_option maxHeartbeats 8000000 in
set_option maxRecDepth 100000 in
theorem rtake_walk (s : List UInt8) (w : World) (hs : s.length ≤ 1000000) :
    Calls Try.prog 18 #[.string ⟨s.toArray⟩] w (fun e w' => ∃ v1 v2 : Value, e = .returned (.tuple #[.agg #[.int .u64 (rtkP s).1.1, v1, v2], .int .i64 (rtkP s).2]) ∧ Kd.R k68 68 w' w.heap.size (fun _ => True) v1 (rtkP s).1.2.1 ∧ Kd.R k69 69 w' w.heap.size (fun _ => True) v2 (rtkP s).1.2.2 ∧ Upd (fun _ => False) w w') := by
  have hu37 := Try.underlying37
  have hu68 := Try.underlying68
  have hu69 := Try.underlying69
  have hT : rtkP s = (let a := nm s false 8; let b := nm a.2.1 a.2.2 1; let c := rS b.1 b.2.1 b.2.2; let d := nm c.2.1 c.2.2 2; let f := rR d.1 d.2.1 d.2.2
    if f.2.2 = true then ((0, [], []), 10) else if f.2.1 ≠ [] ∨ chk (R1 c.1) (R2 f.1) ≠ 0 then ((0, [], []), 4) else ((((a.1 : Nat) : Int), c.1, f.1), 0) : (Int × List S68 × List S69) × Int) := rfl
  generalize rtkP s = T at *
  have q1 := nm_le s false 8
  have h1 := fun br w h => rnum br 8 s false w (by omega) (by omega) h
  generalize nm s false 8 = x1 at *
  obtain ⟨wt, L1, e1⟩ := x1
  dsimp only at h1 q1 hT
  have q2 := nm_le L1 e1 1
  have b2 := nm_lt1 L1 e1
  have h2 := fun br w h => rnum br 1 L1 e1 w (by omega) (by omega) h
  generalize nm L1 e1 1 = x2 at *
  obtain ⟨n, L2, e2⟩ := x2
  dsimp only at h2 q2 b2 hT
  have q3 := rS_len n L2 e2
  have hS3 : rS n L2 e2 = rS n L2 e2 := rfl
  generalize hx3 : rS n L2 e2 = x3 at q3 hT
  obtain ⟨xs, L3, e3⟩ := x3
  dsimp only at q3 hT
  have q4 := nm_le L3 e3 2
  have b4 := nm_lt2 L3 e3
  have h4 := fun br w h => rnum br 2 L3 e3 w (by omega) (by omega) h
  generalize nm L3 e3 2 = x4 at *
  obtain ⟨m, L4, e4⟩ := x4
  dsimp only at h4 q4 b4 hT
  have q5 := rR_len m L4 e4
  generalize hx5 : rR m L4 e4 = x5 at q5 hT
  obtain ⟨ys, L5, e5⟩ := x5
  dsimp only at q5 hT
  have H1 := Lib.hid h1
  have H2 := Lib.hid h2
  have H4 := Lib.hid h4
  have HX3 := Lib.hid hx3
  have HX5 := Lib.hid hx5
  have HTT := Lib.hid hT
  have w8 : wrap64 (n : Int) = (n : Int) := by unfold wrap64; omega
  have w16 : wrap64 (m : Int) = (m : Int) := by unfold wrap64; omega
  clear h1 h2 h4 hT hx3 hx5 hS3
  have hA := heap_alloc_new w (.cells #[.int .u64 0, .slice none 0 0, .slice none 0 0] 37)
  have uA := (Upd.refl (fun _ => False) w).alloc (.cells #[.int .u64 0, .slice none 0 0, .slice none 0 0] 37)
  obtain ⟨wA, hwA⟩ : ∃ wA, wA = w.alloc (.cells #[.int .u64 0, .slice none 0 0, .slice none 0 0] 37) := ⟨_, rfl⟩
  have hRB : Rr (wA.alloc (.cells #[.string ⟨s.toArray⟩, .bool false] 87)) wA.heap.size s false := heap_alloc_new _ _
  have hsA : wA.heap.size = w.heap.size + 1 := by rw [hwA]; show (w.heap.push _).size = _; exact Array.size_push _
  rw [hsA] at hRB
  rw [← hwA] at hA uA
  have hAB := heap_alloc_lt hA (.cells #[.string ⟨s.toArray⟩, .bool false] 87)
  have lA := lt_of_heap hA
  clear lA
  have lA : w.heap.size < w.heap.size + 1 := by omega
  have UB := Lib.hid (uA.alloc (.cells #[.string ⟨s.toArray⟩, .bool false] 87))
  have lB := lt_of_heap hRB
  clear hA uA hsA
  go_enter Try.func18, Try.ntmps18
  go_wp2_with (fail)
  rw [← hwA]
  generalize wA.alloc (.cells #[.string ⟨s.toArray⟩, .bool false] 87) = wB at *
  generalize hbr : w.heap.size + 1 = br at *
  refine (H1.out br _ hRB).mono ?_
  rintro e wD ⟨rfl, hRD, uD⟩
  have nA : w.heap.size ≠ br := by omega
  clear hbr
  have hAD := uD.heap hAB nA
  have UD : Upd (fun _ => False) w wD := UB.out.trans uD (fun i hi f => absurd f (by show ¬ i = br; omega))
  have lD := lt_of_heap hRD
  have hAE := heap_alloc_lt hAD (.cells #[.int .u64 wt, .slice none 0 0, .slice none 0 0] 37)
  have hRE : Rr (wD.alloc (.cells #[.int .u64 wt, .slice none 0 0, .slice none 0 0] 37)) br L1 e1 := heap_alloc_lt hRD _
  have hBE := heap_alloc_new wD (.cells #[.int .u64 wt, .slice none 0 0, .slice none 0 0] 37)
  have UE := Lib.hid (UD.alloc (.cells #[.int .u64 wt, .slice none 0 0, .slice none 0 0] 37))
  clear hRB hRD uD hAD hAB UD hwA UB
  go_wp2_with (fail)
  generalize hwE : wD.alloc (.cells #[.int .u64 wt, .slice none 0 0, .slice none 0 0] 37) = wE at *
  generalize wD.heap.size = bt at *
  refine (H2.out br _ hRE).mono ?_
  rintro e wF ⟨rfl, hRF, uF⟩
  have nt : bt ≠ br := by omega
  have HRF := Lib.hid hRF
  have HBF := Lib.hid (uF.heap hBE nt)
  have HAF := Lib.hid (uF.heap hAE nA)
  have UF : Hid (Upd (fun _ => False) w wF) := UE.out.trans uF (fun i hi f => absurd f (by show ¬ i = br; omega))
  have LL : Hid (w.heap.size < br ∧ br < bt ∧ bt < wF.heap.size) := Lib.hid ⟨by omega, by omega, lt_of_heap HBF.out⟩
  clear hRE hAE hBE UE hRF uF lA lB lD nA nt hwE
  have HQ := Lib.hid (And.intro q1 (And.intro q2 (And.intro q3 (And.intro q4 (And.intro q5 (And.intro b2 (And.intro b4 hs)))))))
  clear q1 q2 q3 q4 q5 b2 b4 hs
  have HR1 := HRF
  have HBq1 := HBF
  have HX1 := HX3
  have LL1 := LL
--LOOPS
  go_upto_block 0 with (fail)
  rw [w8]
  clear w8
  go_cut [] (fun W => ∃ v, Kd.R k68 68 W wF.heap.size (fun _ => True) v xs ∧ Rr W br L3 e3 ∧ W.heap[bt]? = some (.cells #[.int .u64 wt, v, .slice none 0 0] 37 (0, 0)) ∧ Upd (fun k => k = br ∨ k = bt) wF W)
  case first =>
    go_wp2
    go_loopg [7] n (fun g v7 wr => ∃ (i : Nat) (v : Value) (qs : List S68) (li : List UInt8) (ti : Bool), v7 = .int .i64 i ∧ i + g = n ∧ Hid (Kd.R k68 68 wr wF.heap.size (fun _ => True) v qs) ∧ Hid (Rr wr br li ti) ∧ Hid (wr.heap[bt]? = some (.cells #[.int .u64 wt, v, .slice none 0 0] 37 (0, 0))) ∧ Hid (Upd (fun k => k = br ∨ k = bt) wF wr) ∧ Hid ((xs, L3, e3) = (qs ++ (rS g li ti).1, (rS g li ti).2)) ∧ li.length ≤ 1000000 ∧ qs.length = i)
    case atStart => exact ⟨0, .slice none 0 0, [], L2, e2, rfl, by omega, Lib.hid (Kd.R_nil _ _ _ _ _), HR1, HBq1, Lib.hid (Upd.refl _ _), Lib.hid (by rw [← HX1.out]; rfl), by have := HQ.out; omega, rfl⟩
    case round =>
      obtain ⟨i, v, qs, li, ti, rfl, hig, HK, HRi, HBi, HU, HE, hli, hqi⟩ := hrel
      have r1 := cell_heap HRi.out 1 (.bool ti) rfl
      have bq := cell_heap HBi.out 1 v rfl
      have fq := free_heap HBi.out 1
      cases gk with
      | zero =>
        obtain rfl : i = n := by omega
        have hlt : decide ((i : Int) < (i : Int)) = false := decide_eq_false (by omega)
        go_wp2
        go_meet
        case rel =>
          have he := HE.out
          simp only [rS, List.append_nil, Prod.mk.injEq] at he
          obtain ⟨rfl, rfl, rfl⟩ := he
          exact ⟨v, HK.out, HRi.out, HBi.out, HU.out⟩
      | succ g =>
        have hlt : decide ((i : Int) < (n : Int)) = true := decide_eq_true (by omega)
        cases ti with
        | true =>
          go_wp2
          go_meet
          case rel =>
            have he := HE.out
            rw [rS_torn] at he
            simp only [List.append_nil, Prod.mk.injEq] at he
            obtain ⟨rfl, rfl, rfl⟩ := he
            exact ⟨v, HK.out, HRi.out, HBi.out, HU.out⟩
        | false =>
          have hi1 : wrap64 ((i : Int) + 1) = (i : Int) + 1 := by have := HQ.out; unfold wrap64; omega
          have he := HE.out
          have hsp : rS (g + 1) li false = ((rsnap li false).1 :: (rS g (rsnap li false).2.1 (rsnap li false).2.2).1, (rS g (rsnap li false).2.1 (rsnap li false).2.2).2) := by simp [rS]
          rw [hsp] at he
          have hle := rsnap_le li false
          unfold rsnap at he hle
          dsimp only at he hle
          have hp := heap_alloc_new wr (.cells #[.string ⟨#[]⟩, .int .i64 0, .int .u64 0, .int .u64 0] 68)
          have hR : Rr (wr.alloc (.cells #[.string ⟨#[]⟩, .int .i64 0, .int .u64 0, .int .u64 0] 68)) br li false := heap_alloc_lt HRi.out _
          have hu := (Upd.refl (fun k => k = br) wr).alloc (.cells #[.string ⟨#[]⟩, .int .i64 0, .int .u64 0, .int .u64 0] 68)
          have lbr := lt_of_heap HRi.out
          have np : wr.heap.size ≠ br := by omega
          have NP := Lib.hid np
          have NLB := Lib.hid lbr
          have HE := Lib.hid he
          clear hsp np lbr hle he
          have hq := nm_le li false 2
          have hb := nm_lt2 li false
          have hc := fun w h => rnum br 2 li false w (by omega) (by omega) h
          have he := HE.out
          clear HE
          generalize nm li false 2 = y at hq hb hc he
          obtain ⟨n1, M1, t1⟩ := y
          dsimp only at hq hb hc he
          have HE := Lib.hid he
          have hl2 := Nat.le_trans hq hli
          have HC := Lib.hid hc
          have HB1 := Lib.hid hb
          have hw1 : wrap64 (n1 : Int) = (n1 : Int) := by unfold wrap64; omega
          clear hc hq hli hb he
          have hli := hl2
          clear hl2
          go_wp2_with (fail)
          refine (HC.out _ hR).mono ?_
          rintro e w1 ⟨rfl, hR, u1⟩
          have hp := u1.heap hp NP.out
          clear HC
          have hu := hu.trans u1 (fun _ _ f => f)
          clear u1
          have hq := (tk_len M1 t1 n1).2
          have hc := fun w h => rtake br n1 M1 t1 w (by omega) (by have := HB1.out; omega) h
          have he := HE.out
          clear HE
          generalize tk M1 t1 n1 = y at hq hc he
          obtain ⟨n2, M2, t2⟩ := y
          dsimp only at hq hc he
          have HE := Lib.hid he
          have hl2 := Nat.le_trans hq hli
          have HC := Lib.hid hc
          clear hc hq hli he
          have hli := hl2
          clear hl2
          go_wp2_with (fail)
          refine (HC.out _ hR).mono ?_
          rintro e w2 ⟨rfl, hR, u2⟩
          have hp := u2.heap hp NP.out
          clear HC
          have hu := hu.trans u2 (fun _ _ f => f)
          clear u2
          have cc := cell_heap hp 0 (.string ⟨#[]⟩) rfl
          have ff := free_heap hp 0
          have hp2 := heap_setCell_eq (i := 0) hp (.string ⟨n2.toArray⟩)
          have hR2 : Rr (w2.setCell ⟨wr.heap.size, 0, none⟩ (.string ⟨n2.toArray⟩)) br M2 t2 := heap_setCell_ne hR _ _ (Ne.symm NP.out)
          have hu2 := hu.setCell (p := ⟨wr.heap.size, 0, none⟩) (fun h => absurd h (Nat.lt_irrefl _)) (.string ⟨n2.toArray⟩)
          clear hp hR hu
          have hp := hp2
          have hR := hR2
          have hu := hu2
          clear hp2 hR2 hu2
          have hq := nm_le M2 t2 2
          have hb := nm_lt2 M2 t2
          have hc := fun w h => rnum br 2 M2 t2 w (by omega) (by omega) h
          have he := HE.out
          clear HE
          generalize nm M2 t2 2 = y at hq hb hc he
          obtain ⟨n3, M3, t3⟩ := y
          dsimp only at hq hb hc he
          have HE := Lib.hid he
          have hl2 := Nat.le_trans hq hli
          have HC := Lib.hid hc
          have HB3 := Lib.hid hb
          have hw3 : wrap64 (n3 : Int) = (n3 : Int) := by unfold wrap64; omega
          clear hc hq hli hb he
          have hli := hl2
          clear hl2
          go_wp2_with (fail)
          refine (HC.out _ hR).mono ?_
          rintro e w3 ⟨rfl, hR, u3⟩
          have hp := u3.heap hp NP.out
          clear HC
          have hu := hu.trans u3 (fun _ _ f => f)
          clear u3
          have cc := cell_heap hp 1 (.int .i64 0) rfl
          have ff := free_heap hp 1
          have hp2 := heap_setCell_eq (i := 1) hp (.int .i64 (n3 : Nat))
          have hR2 : Rr (w3.setCell ⟨wr.heap.size, 1, none⟩ (.int .i64 (n3 : Nat))) br M3 t3 := heap_setCell_ne hR _ _ (Ne.symm NP.out)
          have hu2 := hu.setCell (p := ⟨wr.heap.size, 1, none⟩) (fun h => absurd h (Nat.lt_irrefl _)) (.int .i64 (n3 : Nat))
          clear hp hR hu
          have hp := hp2
          have hR := hR2
          have hu := hu2
          clear hp2 hR2 hu2
          have hq := nm_le M3 t3 8
          have hb := True.intro
          have hc := fun w h => rnum br 8 M3 t3 w (by omega) (by omega) h
          have he := HE.out
          clear HE
          generalize nm M3 t3 8 = y at hq hb hc he
          obtain ⟨n4, M4, t4⟩ := y
          dsimp only at hq hb hc he
          have HE := Lib.hid he
          have hl2 := Nat.le_trans hq hli
          have HC := Lib.hid hc
          skip
          skip
          clear hc hq hli hb he
          have hli := hl2
          clear hl2
          go_wp2_with (fail)
          refine (HC.out _ hR).mono ?_
          rintro e w4 ⟨rfl, hR, u4⟩
          have hp := u4.heap hp NP.out
          clear HC
          have hu := hu.trans u4 (fun _ _ f => f)
          clear u4
          have cc := cell_heap hp 2 (.int .u64 0) rfl
          have ff := free_heap hp 2
          have hp2 := heap_setCell_eq (i := 2) hp (.int .u64 (n4 : Nat))
          have hR2 : Rr (w4.setCell ⟨wr.heap.size, 2, none⟩ (.int .u64 (n4 : Nat))) br M4 t4 := heap_setCell_ne hR _ _ (Ne.symm NP.out)
          have hu2 := hu.setCell (p := ⟨wr.heap.size, 2, none⟩) (fun h => absurd h (Nat.lt_irrefl _)) (.int .u64 (n4 : Nat))
          clear hp hR hu
          have hp := hp2
          have hR := hR2
          have hu := hu2
          clear hp2 hR2 hu2
          have hq := nm_le M4 t4 8
          have hb := True.intro
          have hc := fun w h => rnum br 8 M4 t4 w (by omega) (by omega) h
          have he := HE.out
          clear HE
          generalize nm M4 t4 8 = y at hq hb hc he
          obtain ⟨n5, M5, t5⟩ := y
          dsimp only at hq hb hc he
          have HE := Lib.hid he
          have hl2 := Nat.le_trans hq hli
          have HC := Lib.hid hc
          skip
          skip
          clear hc hq hli hb he
          have hli := hl2
          clear hl2
          go_wp2_with (fail)
          refine (HC.out _ hR).mono ?_
          rintro e w5 ⟨rfl, hR, u5⟩
          have hp := u5.heap hp NP.out
          clear HC
          have hu := hu.trans u5 (fun _ _ f => f)
          clear u5
          have cc := cell_heap hp 3 (.int .u64 0) rfl
          have ff := free_heap hp 3
          have hp2 := heap_setCell_eq (i := 3) hp (.int .u64 (n5 : Nat))
          have hR2 : Rr (w5.setCell ⟨wr.heap.size, 3, none⟩ (.int .u64 (n5 : Nat))) br M5 t5 := heap_setCell_ne hR _ _ (Ne.symm NP.out)
          have hu2 := hu.setCell (p := ⟨wr.heap.size, 3, none⟩) (fun h => absurd h (Nat.lt_irrefl _)) (.int .u64 (n5 : Nat))
          clear hp hR hu
          have hp := hp2
          have hR := hR2
          have hu := hu2
          clear hp2 hR2 hu2
          -- the append
          have nb : bt ≠ br := by have := LL.out; omega
          have lbt := lt_of_heap HBi.out
          have hbt := hu.heap HBi.out nb
          have bq := cell_heap hbt 1 v rfl
          have fq := free_heap hbt 1
          have hK2 : Kd.R k68 68 (w5.setCell ⟨wr.heap.size, 3, none⟩ (.int .u64 (n5 : Nat))) wF.heap.size (fun _ => True) v qs := Kd.R_mono (Kd.R_move (Kd.R_bound HK.out) (fun k hk => hu.block k hk.2.2.1 (by show ¬ k = br; have := hk.2.1; have := LL1.out; omega))) (fun _ _ => trivial)
          have x0 := cell_heap hp 0 (.string ⟨n2.toArray⟩) rfl
          have x1 := cell_heap hp 1 (.int .i64 (n3 : Nat)) rfl
          have x2 := cell_heap hp 2 (.int .u64 (n4 : Nat)) rfl
          have x3 := cell_heap hp 3 (.int .u64 (n5 : Nat)) rfl
          have hsz := HU.out.size
          have hsz2 := hu.size
          have HR2 := Lib.hid hR
          have HK2 := Lib.hid hK2
          have HU2 := Lib.hid hu
          have HBT := Lib.hid hbt
          have HEE := HE
          clear hR hK2 hu hp hbt
          generalize hWL : w5.setCell ⟨wr.heap.size, 3, none⟩ (.int .u64 (n5 : Nat)) = wL at *
          go_wp2_with (at_builtin; refine Kd.R_append k68 (w0 := wL) wF.heap.size rfl (.tmp 52) (.tmp 54) 34 68 (.agg #[.string ⟨#[]⟩, .int .i64 0, .int .u64 0, .int .u64 0]) 40 rfl Try.underlying34 info68 rfl (by decide) (by omega) _ qs (⟨⟨n2.toArray⟩, (n3 : Nat), (n4 : Nat), (n5 : Nat)⟩ : S68) [.string ⟨n2.toArray⟩, .int .i64 (n3 : Nat), .int .u64 (n4 : Nat), .int .u64 (n5 : Nat)] (fun _ => True) (fun _ => False) rfl rfl (k68_mkM _ _ _ (⟨⟨n2.toArray⟩, (n3 : Nat), (n4 : Nat), (n5 : Nat)⟩ : S68)) (fun _ hk => hk.elim) (fun _ _ => trivial) HK2.out (Below.refl _ _) (by omega) (by have := HQ.out; omega) ?_; intro v2 w3 hK3 hb3 hg3 hat3; have hbt3 := (hb3.block bt (by have := LL1.out; omega)).trans HBT.out; have bq3 := cell_heap hbt3 1 v rfl; have fq3 := free_heap hbt3 1; obtain ⟨A3, c3, rfl⟩ := Kd.R_slice hK3)
          have lw3 := hb3.size
          go_roundg g
          case measure => omega
          case rel =>
            refine ⟨i + 1, _, qs ++ [(⟨⟨n2.toArray⟩, (n3 : Nat), (n4 : Nat), (n5 : Nat)⟩ : S68)], M5, t5, by go_num, by omega, Lib.hid ?_, Lib.hid ?_, Lib.hid (heap_setCell_eq (i := 1) hbt3 _), Lib.hid ?_, Lib.hid ?_, hli, by simp; omega⟩
            · rw [show (qs ++ [(⟨⟨n2.toArray⟩, (n3 : Nat), (n4 : Nat), (n5 : Nat)⟩ : S68)]).length = i + 1 by simp; omega] at hK3
              exact Kd.R_mono (Kd.R_far (p := ⟨bt, 1, none⟩) (Kd.R_bound hK3) (fun k hk => by show k ≠ bt; have := hk.2.1; have := LL1.out; omega) _) (fun _ _ => trivial)
            · exact heap_setCell_ne ((hb3.block br (by have := LL1.out; omega)).trans HR2.out) _ _ (by show br ≠ bt; have := LL1.out; omega)
            · exact ((HU.out.trans HU2.out (fun _ _ f => .inl f)).trans (Upd.of_below hb3) (fun k hk h => absurd hk (by omega))).setCell (fun _ => .inr rfl) _
            · rw [HEE.out]; simp
  case rest =>
    obtain ⟨v1, hK, hR, hB, hU⟩ := hcut
    have HK1 := Lib.hid hK
    have UG : Hid (Upd (fun _ => False) w wc) := UF.out.trans hU (fun i hi f => absurd f (by have := LL.out; omega))
    have HAG := Lib.hid (hU.heap HAF.out (by have := LL.out; omega))
    have HBG := Lib.hid hB
    have LG : Hid (bt < wc.heap.size) := Lib.hid (lt_of_heap hB)
    have LWF := Lib.hid hU.size
    have hH4 := H4.out br wc hR
    have HH4 := Lib.hid hH4
    clear hK hR hB hU hH4
    go_wp2_with (fail)
    refine HH4.out.mono ?_
    rintro e wG ⟨rfl, hR2, uG⟩
    have HR2' := Lib.hid hR2
    have HBq2 := Lib.hid (uG.heap HBG.out (by have := LL.out; omega))
    have HAH := Lib.hid (uG.heap HAG.out (by have := LL.out; omega))
    have UH : Hid (Upd (fun _ => False) w wG) := UG.out.trans uG (fun i hi f => absurd f (by have := LL.out; show ¬ i = br; omega))
    have HK2' : Hid (Kd.R k68 68 wG wF.heap.size (fun _ => True) v1 xs) := Lib.hid (Kd.R_mono (Kd.R_move (Kd.R_bound HK1.out) (fun k hk => uG.block k hk.2.2.1 (by show ¬ k = br; have := hk.2.1; have := LL.out; omega))) (fun _ _ => trivial))
    have LWG : Hid (wF.heap.size ≤ wG.heap.size) := Lib.hid (by have := LWF.out; have := uG.size; omega)
    have LL2 : Hid (w.heap.size < br ∧ br < bt ∧ bt < wG.heap.size) := Lib.hid (by have := LL.out; have := LWG.out; omega)
    obtain ⟨Q1, D1, rfl⟩ := Kd.R_slice HK2'.out
    have HR2 := HR2'
    have HX2 := HX5
    clear hR2 uG HK1 HBG HAG UG LG
    go_upto_block 2 with (fail)
    rw [w16]
    clear w16
    go_cut [] (fun W => ∃ v, Kd.R k69 69 W wG.heap.size (fun _ => True) v ys ∧ Rr W br L5 e5 ∧ W.heap[bt]? = some (.cells #[.int .u64 wt, .slice Q1 xs.length D1, v] 37 (0, 0)) ∧ Upd (fun k => k = br ∨ k = bt) wG W)
    case first =>
      go_wp2
      go_loopg [10] m (fun g v7 wr => ∃ (i : Nat) (v : Value) (qs : List S69) (li : List UInt8) (ti : Bool), v7 = .int .i64 i ∧ i + g = m ∧ Hid (Kd.R k69 69 wr wG.heap.size (fun _ => True) v qs) ∧ Hid (Rr wr br li ti) ∧ Hid (wr.heap[bt]? = some (.cells #[.int .u64 wt, .slice Q1 xs.length D1, v] 37 (0, 0))) ∧ Hid (Upd (fun k => k = br ∨ k = bt) wG wr) ∧ Hid ((ys, L5, e5) = (qs ++ (rR g li ti).1, (rR g li ti).2)) ∧ li.length ≤ 1000000 ∧ qs.length = i)
      case atStart => exact ⟨0, .slice none 0 0, [], L4, e4, rfl, by omega, Lib.hid (Kd.R_nil _ _ _ _ _), HR2, HBq2, Lib.hid (Upd.refl _ _), Lib.hid (by rw [← HX2.out]; rfl), by have := HQ.out; omega, rfl⟩
      case round =>
        obtain ⟨i, v, qs, li, ti, rfl, hig, HK, HRi, HBi, HU, HE, hli, hqi⟩ := hrel
        have r1 := cell_heap HRi.out 1 (.bool ti) rfl
        have bq := cell_heap HBi.out 2 v rfl
        have fq := free_heap HBi.out 2
        cases gk with
        | zero =>
          obtain rfl : i = m := by omega
          have hlt : decide ((i : Int) < (i : Int)) = false := decide_eq_false (by omega)
          go_wp2
          go_meet
          case rel =>
            have he := HE.out
            simp only [rR, List.append_nil, Prod.mk.injEq] at he
            obtain ⟨rfl, rfl, rfl⟩ := he
            exact ⟨v, HK.out, HRi.out, HBi.out, HU.out⟩
        | succ g =>
          have hlt : decide ((i : Int) < (m : Int)) = true := decide_eq_true (by omega)
          cases ti with
          | true =>
            go_wp2
            go_meet
            case rel =>
              have he := HE.out
              rw [rR_torn] at he
              simp only [List.append_nil, Prod.mk.injEq] at he
              obtain ⟨rfl, rfl, rfl⟩ := he
              exact ⟨v, HK.out, HRi.out, HBi.out, HU.out⟩
          | false =>
            have hi1 : wrap64 ((i : Int) + 1) = (i : Int) + 1 := by have := HQ.out; unfold wrap64; omega
            have he := HE.out
            have hsp : rR (g + 1) li false = ((rref li false).1 :: (rR g (rref li false).2.1 (rref li false).2.2).1, (rR g (rref li false).2.1 (rref li false).2.2).2) := by simp [rR]
            rw [hsp] at he
            have hle := rref_le li false
            unfold rref at he hle
            dsimp only at he hle
            have hp := heap_alloc_new wr (.cells #[.int .i64 0, .int .i64 0] 69)
            have hR : Rr (wr.alloc (.cells #[.int .i64 0, .int .i64 0] 69)) br li false := heap_alloc_lt HRi.out _
            have hu := (Upd.refl (fun k => k = br) wr).alloc (.cells #[.int .i64 0, .int .i64 0] 69)
            have lbr := lt_of_heap HRi.out
            have np : wr.heap.size ≠ br := by omega
            have NP := Lib.hid np
            have NLB := Lib.hid lbr
            have HE := Lib.hid he
            clear hsp np lbr hle he
            have hq := nm_le li false 2
            have hb := nm_lt2 li false
            have hc := fun w h => rnum br 2 li false w (by omega) (by omega) h
            have he := HE.out
            clear HE
            generalize nm li false 2 = y at hq hb hc he
            obtain ⟨n1, M1, t1⟩ := y
            dsimp only at hq hb hc he
            have HE := Lib.hid he
            have hl2 := Nat.le_trans hq hli
            have HC := Lib.hid hc
            have HB1 := Lib.hid hb
            have hw1 : wrap64 (n1 : Int) = (n1 : Int) := by unfold wrap64; omega
            clear hc hq hli hb he
            have hli := hl2
            clear hl2
            go_wp2_with (fail)
            refine (HC.out _ hR).mono ?_
            rintro e w1 ⟨rfl, hR, u1⟩
            have hp := u1.heap hp NP.out
            clear HC
            have hu := hu.trans u1 (fun _ _ f => f)
            clear u1
            have cc := cell_heap hp 0 (.int .i64 0) rfl
            have ff := free_heap hp 0
            have hp2 := heap_setCell_eq (i := 0) hp (.int .i64 (n1 : Nat))
            have hR2 : Rr (w1.setCell ⟨wr.heap.size, 0, none⟩ (.int .i64 (n1 : Nat))) br M1 t1 := heap_setCell_ne hR _ _ (Ne.symm NP.out)
            have hu2 := hu.setCell (p := ⟨wr.heap.size, 0, none⟩) (fun h => absurd h (Nat.lt_irrefl _)) (.int .i64 (n1 : Nat))
            clear hp hR hu
            have hp := hp2
            have hR := hR2
            have hu := hu2
            clear hp2 hR2 hu2
            have hq := nm_le M1 t1 2
            have hb := nm_lt2 M1 t1
            have hc := fun w h => rnum br 2 M1 t1 w (by omega) (by omega) h
            have he := HE.out
            clear HE
            generalize nm M1 t1 2 = y at hq hb hc he
            obtain ⟨n2, M2, t2⟩ := y
            dsimp only at hq hb hc he
            have HE := Lib.hid he
            have hl2 := Nat.le_trans hq hli
            have HC := Lib.hid hc
            have HB2 := Lib.hid hb
            have hw2 : wrap64 (n2 : Int) = (n2 : Int) := by unfold wrap64; omega
            clear hc hq hli hb he
            have hli := hl2
            clear hl2
            go_wp2_with (fail)
            refine (HC.out _ hR).mono ?_
            rintro e w2 ⟨rfl, hR, u2⟩
            have hp := u2.heap hp NP.out
            clear HC
            have hu := hu.trans u2 (fun _ _ f => f)
            clear u2
            have cc := cell_heap hp 1 (.int .i64 0) rfl
            have ff := free_heap hp 1
            have hp2 := heap_setCell_eq (i := 1) hp (.int .i64 (n2 : Nat))
            have hR2 : Rr (w2.setCell ⟨wr.heap.size, 1, none⟩ (.int .i64 (n2 : Nat))) br M2 t2 := heap_setCell_ne hR _ _ (Ne.symm NP.out)
            have hu2 := hu.setCell (p := ⟨wr.heap.size, 1, none⟩) (fun h => absurd h (Nat.lt_irrefl _)) (.int .i64 (n2 : Nat))
            clear hp hR hu
            have hp := hp2
            have hR := hR2
            have hu := hu2
            clear hp2 hR2 hu2
            -- the append
            have nb : bt ≠ br := by have := LL.out; omega
            have lbt := lt_of_heap HBi.out
            have hbt := hu.heap HBi.out nb
            have bq := cell_heap hbt 2 v rfl
            have fq := free_heap hbt 2
            have hK2 : Kd.R k69 69 (w2.setCell ⟨wr.heap.size, 1, none⟩ (.int .i64 (n2 : Nat))) wG.heap.size (fun _ => True) v qs := Kd.R_mono (Kd.R_move (Kd.R_bound HK.out) (fun k hk => hu.block k hk.2.2.1 (by show ¬ k = br; have := hk.2.1; have := LL2.out; omega))) (fun _ _ => trivial)
            have x0 := cell_heap hp 0 (.int .i64 (n1 : Nat)) rfl
            have x1 := cell_heap hp 1 (.int .i64 (n2 : Nat)) rfl
            have hsz := HU.out.size
            have hsz2 := hu.size
            have HR2 := Lib.hid hR
            have HK2 := Lib.hid hK2
            have HU2 := Lib.hid hu
            have HBT := Lib.hid hbt
            have HEE := HE
            clear hR hK2 hu hp hbt
            generalize hWL : w2.setCell ⟨wr.heap.size, 1, none⟩ (.int .i64 (n2 : Nat)) = wL at *
            go_wp2_with (at_builtin; refine Kd.R_append k69 (w0 := wL) wG.heap.size rfl (.tmp 82) (.tmp 84) 35 69 (.agg #[.int .i64 0, .int .i64 0]) 16 rfl Try.underlying35 info69 rfl (by decide) (by omega) _ qs (⟨(n1 : Nat), (n2 : Nat)⟩ : S69) [.int .i64 (n1 : Nat), .int .i64 (n2 : Nat)] (fun _ => True) (fun _ => False) rfl rfl (k69_mkM _ _ _ (⟨(n1 : Nat), (n2 : Nat)⟩ : S69)) (fun _ hk => hk.elim) (fun _ _ => trivial) HK2.out (Below.refl _ _) (by omega) (by have := HQ.out; omega) ?_; intro v2 w3 hK3 hb3 hg3 hat3; have hbt3 := (hb3.block bt (by have := LL2.out; omega)).trans HBT.out; have bq3 := cell_heap hbt3 2 v rfl; have fq3 := free_heap hbt3 2; obtain ⟨A3, c3, rfl⟩ := Kd.R_slice hK3)
            have lw3 := hb3.size
            go_roundg g
            case measure => omega
            case rel =>
              refine ⟨i + 1, _, qs ++ [(⟨(n1 : Nat), (n2 : Nat)⟩ : S69)], M2, t2, by go_num, by omega, Lib.hid ?_, Lib.hid ?_, Lib.hid (heap_setCell_eq (i := 2) hbt3 _), Lib.hid ?_, Lib.hid ?_, hli, by simp; omega⟩
              · rw [show (qs ++ [(⟨(n1 : Nat), (n2 : Nat)⟩ : S69)]).length = i + 1 by simp; omega] at hK3
                exact Kd.R_mono (Kd.R_far (p := ⟨bt, 2, none⟩) (Kd.R_bound hK3) (fun k hk => by show k ≠ bt; have := hk.2.1; have := LL2.out; omega) _) (fun _ _ => trivial)
              · exact heap_setCell_ne ((hb3.block br (by have := LL2.out; omega)).trans HR2.out) _ _ (by show br ≠ bt; have := LL2.out; omega)
              · exact ((HU.out.trans HU2.out (fun _ _ f => .inl f)).trans (Upd.of_below hb3) (fun k hk h => absurd hk (by omega))).setCell (fun _ => .inr rfl) _
              · rw [HEE.out]; simp
--LOOPSend
    case rest =>
      obtain ⟨v2, hK, hR, hB, hU⟩ := hcut
      obtain ⟨Q2, D2, rfl⟩ := Kd.R_slice hK
      have HW2 := Lib.hid hK
      have UG : Hid (Upd (fun _ => False) w wc) := UH.out.trans hU (fun i hi f => absurd f (by have := LL.out; omega))
      have HAG := Lib.hid (hU.heap HAH.out (by have := LL.out; omega))
      have HB := Lib.hid hB
      have HW1 : Hid (Kd.R k68 68 wc wF.heap.size (fun _ => True) (.slice Q1 xs.length D1) xs) := Lib.hid (Kd.R_mono (Kd.R_move (Kd.R_bound HK2'.out) (fun k hk => hU.block k hk.2.2.1 (by show ¬ (k = br ∨ k = bt); have := hk.2.1; have := LL.out; omega))) (fun _ _ => trivial))
      have S1 : Hid (w.heap.size < wF.heap.size) := Lib.hid (by have := LL.out; omega)
      have S2 : Hid (w.heap.size < wG.heap.size) := Lib.hid (by have := LL2.out; omega)
      have r0 := cell_heap hR 0 (.string ⟨L5.toArray⟩) rfl
      have r1 := cell_heap hR 1 (.bool e5) rfl
      clear hK hU hB hR HK2' HAH UH HH4 HR1 HR2 HRF HBF HAF
      cases e5 with
      | true =>
        have hTe := HTT.out
        rw [if_pos rfl] at hTe
        have g0 := cell_heap HAG.out 0 (.int .u64 0) rfl
        have g1 := cell_heap HAG.out 1 (.slice none 0 0) rfl
        have g2 := cell_heap HAG.out 2 (.slice none 0 0) rfl
        have k0 := free_heap HAG.out 0
        have k1 := free_heap HAG.out 1
        have k2 := free_heap HAG.out 2
        go_wp2
        have z := set3T HAG.out (.int .u64 0) (.slice none 0 0) (.slice none 0 0)
        have z0 := cell_heap z 0 _ rfl
        have z1 := cell_heap z 1 _ rfl
        have z2 := cell_heap z 2 _ rfl
        refine bodyPost_ret (v := .tuple #[.agg #[.int .u64 0, .slice none 0 0, .slice none 0 0], .int .i64 10]) ?_ rfl ?_
        · simp [results, Try.results18, go_sem, z0, z1, z2]
        · try rw [hTe]
          exact ⟨.slice none 0 0, .slice none 0 0, rfl, Kd.R_nil _ _ _ _ _, Kd.R_nil _ _ _ _ _, upd3T UG.out (Nat.lt_irrefl _) _ _ _⟩
      | false =>
        have hTe := HTT.out
        rw [if_neg (by simp)] at hTe
        by_cases hL : L5 = []
        · subst hL
          have hl2 : decide ((0 : Int) < ((⟨([] : List UInt8).toArray⟩ : ByteArray).size : Int)) = false := by decide
          obtain ⟨B1, C1, hBD1, hBl1, hBC1⟩ := Kd.R_reads HW1.out
          injection hBD1 with hq1 hq2 hq3
          subst hq1 hq3
          obtain ⟨B2, C2, hBD2, hBl2, hBC2⟩ := Kd.R_reads HW2.out
          injection hBD2 with hq1 hq2 hq3
          subst hq1 hq3
          have hC := ref_check_walk wt Q1 D1 xs Q2 D2 ys wc hBC1 hBC2
          have m0 := cell_heap HB.out 0 (.int .u64 wt) rfl
          have m1 := cell_heap HB.out 1 (.slice Q1 xs.length D1) rfl
          have m2 := cell_heap HB.out 2 (.slice Q2 ys.length D2) rfl
          obtain ⟨z, hz⟩ : ∃ z, chk (R1 xs) (R2 ys) = z := ⟨_, rfl⟩
          rw [hz] at hC hTe
          have HC := Lib.hid hC
          clear hC hBC1 hBC2
          by_cases hzz : z = 0
          · subst hzz
            rw [if_neg (by simp)] at hTe
            go_wp2_with (fail)
            refine HC.out.mono ?_
            rintro e wH ⟨rfl, hu⟩
            have hbH := hu.heap HB.out (fun f => f)
            have m0 := cell_heap hbH 0 (.int .u64 wt) rfl
            have m1 := cell_heap hbH 1 (.slice Q1 xs.length D1) rfl
            have m2 := cell_heap hbH 2 (.slice Q2 ys.length D2) rfl
            have hAH := hu.heap HAG.out (fun f => f)
            have g0 := cell_heap hAH 0 (.int .u64 0) rfl
            have g1 := cell_heap hAH 1 (.slice none 0 0) rfl
            have g2 := cell_heap hAH 2 (.slice none 0 0) rfl
            have k0 := free_heap hAH 0
            have k1 := free_heap hAH 1
            have k2 := free_heap hAH 2
            have HAH := Lib.hid hAH
            have HUH := Lib.hid hu
            clear hbH hAH hu
            go_wp2
            have z := set3T HAH.out (.int .u64 wt) (.slice Q1 xs.length D1) (.slice Q2 ys.length D2)
            have z0 := cell_heap z 0 _ rfl
            have z1 := cell_heap z 1 _ rfl
            have z2 := cell_heap z 2 _ rfl
            refine bodyPost_ret (v := .tuple #[.agg #[.int .u64 wt, .slice Q1 xs.length D1, .slice Q2 ys.length D2], .int .i64 0]) ?_ rfl ?_
            · simp [results, Try.results18, go_sem, z0, z1, z2]
            · try rw [hTe]
              exact ⟨_, _, rfl, Kd.R_lower (R_set3 (R_none HW1.out HUH.out) S1.out _ _ _) (Nat.le_of_lt S1.out), Kd.R_lower (R_set3 (R_none HW2.out HUH.out) S2.out _ _ _) (Nat.le_of_lt S2.out), upd3T (UG.out.trans HUH.out (fun _ _ f => f)) (Nat.lt_irrefl _) _ _ _⟩
          · have hzb : (z != 0) = true := by simp [hzz]
            rw [if_pos (.inr hzz)] at hTe
            go_wp2_with (fail)
            refine HC.out.mono ?_
            rintro e wH ⟨rfl, hu⟩
            have hAH := hu.heap HAG.out (fun f => f)
            have g0 := cell_heap hAH 0 (.int .u64 0) rfl
            have g1 := cell_heap hAH 1 (.slice none 0 0) rfl
            have g2 := cell_heap hAH 2 (.slice none 0 0) rfl
            have k0 := free_heap hAH 0
            have k1 := free_heap hAH 1
            have k2 := free_heap hAH 2
            have HAH := Lib.hid hAH
            have HUH := Lib.hid hu
            clear hAH hu
            go_wp2
            have z := set3T HAH.out (.int .u64 0) (.slice none 0 0) (.slice none 0 0)
            have z0 := cell_heap z 0 _ rfl
            have z1 := cell_heap z 1 _ rfl
            have z2 := cell_heap z 2 _ rfl
            refine bodyPost_ret (v := .tuple #[.agg #[.int .u64 0, .slice none 0 0, .slice none 0 0], .int .i64 4]) ?_ rfl ?_
            · simp [results, Try.results18, go_sem, z0, z1, z2]
            · try rw [hTe]
              exact ⟨.slice none 0 0, .slice none 0 0, rfl, Kd.R_nil _ _ _ _ _, Kd.R_nil _ _ _ _ _, upd3T (UG.out.trans HUH.out (fun _ _ f => f)) (Nat.lt_irrefl _) _ _ _⟩
        · obtain ⟨ln, hln⟩ : ∃ ln, L5.length = ln + 1 := by
            cases L5 with
            | nil => exact absurd rfl hL
            | cons x L => exact ⟨L.length, rfl⟩
          have hz : (L5.toArray).size = ln + 1 := by rw [List.size_toArray, hln]
          have hsz : (⟨L5.toArray⟩ : ByteArray).size = ln + 1 := by rw [size_list, hln]
          have hl2 : decide ((0 : Int) < ((ln + 1 : Nat) : Int)) = true := decide_eq_true (by omega)
          have hl3 : decide ((0 : Int) < (ln : Int) + 1) = true := decide_eq_true (by omega)
          rw [if_pos (.inl hL)] at hTe
          clear hL hln
          have g0 := cell_heap HAG.out 0 (.int .u64 0) rfl
          have g1 := cell_heap HAG.out 1 (.slice none 0 0) rfl
          have g2 := cell_heap HAG.out 2 (.slice none 0 0) rfl
          have k0 := free_heap HAG.out 0
          have k1 := free_heap HAG.out 1
          have k2 := free_heap HAG.out 2
          go_wp2
          have z := set3T HAG.out (.int .u64 0) (.slice none 0 0) (.slice none 0 0)
          have z0 := cell_heap z 0 _ rfl
          have z1 := cell_heap z 1 _ rfl
          have z2 := cell_heap z 2 _ rfl
          refine bodyPost_ret (v := .tuple #[.agg #[.int .u64 0, .slice none 0 0, .slice none 0 0], .int .i64 4]) ?_ rfl ?_
          · simp [results, Try.results18, go_sem, z0, z1, z2]
          · try rw [hTe]
            exact ⟨.slice none 0 0, .slice none 0 0, rfl, Kd.R_nil _ _ _ _ _, Kd.R_nil _ _ _ _ _, upd3T UG.out (Nat.lt_irrefl _) _ _ _⟩

def rillbedref24_Take.f (a0 : ByteArray) : Option (Int × List S68 × List S69 × Int) :=
  if a0.size ≤ 1000000 then some ((rtkP a0.data.toList).1.1, (rtkP a0.data.toList).1.2.1, (rtkP a0.data.toList).1.2.2, (rtkP a0.data.toList).2) else none
theorem rillbedref24_Take.calls (a0 : ByteArray) (r1 : Int) (r2 : List S68) (r3 : List S69) (r4 : Int) (w : World) (h : rillbedref24_Take.f a0 = some (r1, r2, r3, r4)) :
    Calls Try.prog 18 #[.string a0] w fun e w' => ∃ v1_ v2_ : Value, e = .returned (.tuple #[.agg #[.int .u64 r1, v1_, v2_], .int .i64 r4]) ∧ Kd.R k68 68 w' w.heap.size (fun _ => True) v1_ r2 ∧ Kd.R k69 69 w' w.heap.size (fun _ => True) v2_ r3 ∧ Below w.heap.size w w' := by
  unfold rillbedref24_Take.f at h
  split at h
  · rename_i hc
    simp only [Option.some.injEq, Prod.mk.injEq] at h
    obtain ⟨rfl, rfl, rfl, rfl⟩ := h
    have := rtake_walk a0.data.toList w (by rw [← Lib.size_eq]; exact hc)
    exact this.mono fun e w' ⟨v1, v2, he, k1, k2, hu⟩ => ⟨v1, v2, he, k1, k2, hu.below (Nat.le_refl _) (fun _ f => f.elim)⟩
  · cases h

end Go.Proofs.Ytlhjhkmmgkfmpaa.Px
