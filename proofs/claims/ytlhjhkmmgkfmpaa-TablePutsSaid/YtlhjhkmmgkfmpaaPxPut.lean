/- table.Put for the printer: plain. -/
import Derived.Test.YtlhjhkmmgkfmpaaPxChk
import Derived.Test.YtlhjhkmmgkfmpaaCodecP
set_option linter.unusedVariables false
set_option linter.unusedSimpArgs false
namespace Go.Proofs.Ytlhjhkmmgkfmpaa.Px
open Go.RowKit Go.Shelf Go.Proofs.YtlhjhkmmgkfmpaaW.PrintWords Go.Proofs.YtlhjhkmmgkfmpaaW.PrintLast

def snapTx (x : S53) : List UInt8 := be 2 x.f0.size ++ x.f0.data.toList ++ be 2 x.f1.toNat ++ be 8 x.f2.toNat ++ be 8 x.f3.toNat
def refTx (x : S65) : List UInt8 := be 2 x.f0.toNat ++ be 2 x.f1.toNat
def putT (a : Int) (l1 : List S53) (l2 : List S65) : List UInt8 := be 8 a.toNat ++ be 1 l1.length ++ l1.flatMap snapTx ++ be 2 l2.length ++ l2.flatMap refTx
def in64 (n : Int) : Prop := 0 ≤ n ∧ n < 18446744073709551616
instance (n : Int) : Decidable (in64 n) := inferInstanceAs (Decidable (_ ∧ _))
def okNums (a : Int) (l1 : List S53) : Prop := in64 a ∧ ∀ x ∈ l1, in64 x.f2 ∧ in64 x.f3
instance (a : Int) (l1 : List S53) : Decidable (okNums a l1) := inferInstanceAs (Decidable (_ ∧ _))

theorem chk_zero {l1 : List S53} {l2 : List S65} (h : chk (P1 l1) (P2 l2) = 0) : l1.length ≤ 6 ∧ l2.length ≤ 4096 ∧ (∀ x ∈ l1, nameB x.f0 = true ∧ smallB x.f1 = true) ∧ (∀ x ∈ l2, smallB x.f0 = true ∧ smallB x.f1 = true) := by
  unfold chk at h
  rw [P1_len, P2_len] at h
  split at h
  · cases h
  · split at h
    · cases h
    · split at h
      · cases h
      · rename_i h1 h2 h3
        refine ⟨by omega, by omega, fun x hx => ?_, fun x hx => ?_⟩
        · obtain ⟨i, hi, rfl⟩ := List.getElem_of_mem hx
          have := Bool.eq_false_iff.2 (fun hb => h2 (any_of_bad hi hb))
          unfold snapBad at this
          rw [P1_get] at this
          have e : rd_T53 l1 (i : Int) = l1[i] := by unfold rd_T53; rw [Int.toNat_natCast, List.getD_eq_getElem?_getD, List.getElem?_eq_getElem hi]; rfl
          rw [e] at this
          simp only [Bool.or_eq_false_iff, Bool.not_eq_false'] at this
          exact ⟨this.1, this.2.1⟩
        · obtain ⟨i, hi, rfl⟩ := List.getElem_of_mem hx
          have := Bool.eq_false_iff.2 (fun hb => h3 (any_of_bad hi hb))
          unfold refBad at this
          rw [P2_get] at this
          have e : rd_T65 l2 (i : Int) = l2[i] := by unfold rd_T65; rw [Int.toNat_natCast, List.getD_eq_getElem?_getD, List.getElem?_eq_getElem hi]; rfl
          rw [e] at this
          simp only [Bool.or_eq_false_iff, Bool.not_eq_false'] at this
          exact ⟨this.1, this.2.1⟩
theorem name_short {s : ByteArray} (h : nameB s = true) : 1 ≤ s.size ∧ s.size ≤ 16 := by
  unfold nameB at h
  simp only [Bool.and_eq_true, Bool.not_eq_true', decide_eq_false_iff_not, decide_eq_true_eq] at h
  obtain ⟨⟨⟨⟨h1, h2⟩, _⟩, _⟩, _⟩ := h
  refine ⟨?_, by omega⟩
  rcases Nat.eq_zero_or_pos s.size with h0 | h0
  · exfalso; apply h1; rw [Lib.toList_data]; exact List.length_eq_zero_iff.1 (by rw [← Lib.size_eq]; exact h0)
  · exact h0
theorem small_rng {n : Int} (h : smallB n = true) : 1 ≤ n ∧ n ≤ 65535 := by
  unfold smallB at h
  simpa using h
theorem snapTx_len (x : S53) : (snapTx x).length = x.f0.size + 20 := by
  unfold snapTx
  simp only [List.length_append, be_len, ← Lib.size_eq]
  omega
theorem refTx_len (x : S65) : (refTx x).length = 4 := by unfold refTx; simp only [List.length_append, be_len]
theorem flat_len {α : Type} (f : α → List UInt8) (c : Nat) : ∀ (l : List α), (∀ x ∈ l, (f x).length ≤ c) → (l.flatMap f).length ≤ l.length * c
  | [], _ => by simp
  | x :: l, h => by
    have h1 := h x List.mem_cons_self
    have h2 := flat_len f c l (fun y hy => h y (List.mem_cons_of_mem _ hy))
    rw [List.flatMap_cons, List.length_append, List.length_cons, Nat.add_mul]
    omega
theorem flat_take {α : Type} (f : α → List UInt8) (l : List α) (i : Nat) (h : i < l.length) : (l.take (i + 1)).flatMap f = (l.take i).flatMap f ++ f l[i] := by
  rw [List.take_add_one, List.getElem?_eq_getElem h, List.flatMap_append]
  simp only [Option.toList, List.flatMap_cons, List.flatMap_nil, List.append_nil]

/-- A writer, and another block beside it. -/
def WkX (w0 w : World) (b : Nat) (bs : List UInt8) (x : Nat) (cs : Array Value) (t : TypeId) : Prop := Wk w0 w b bs ∧ w.heap[x]? = some (.cells cs t (0, 0))
theorem WkX.step {w0 w : World} {b : Nat} {bs bs' : List UInt8} {x : Nat} {cs : Array Value} {t : TypeId} (h : WkX w0 w b bs x cs t) (ht : 5 ≠ t) (hx : x ≠ b) {f : FuncId} {args : Array Value}
    (hc : ∀ r, Wr w b r bs 0 → Calls Try.prog f args w fun e w' => e = .returned (.tuple #[]) ∧ ∃ r', Wr w' b r' bs' 0 ∧ Newer w r r' ∧ Upd (WF b r) w w') :
    Calls Try.prog f args w fun e w' => e = .returned (.tuple #[]) ∧ WkX w0 w' b bs' x cs t := by
  obtain ⟨⟨r, h1, h2, h3⟩, hh⟩ := h
  refine (hc r h1).mono ?_
  rintro e w' ⟨rfl, r', k1, k2, k3⟩
  refine ⟨rfl, Wk.next r r' h2 h3 k1 k2 k3, k3.heap hh (fun f => ?_)⟩
  rcases f with f | f
  · exact hx f
  · obtain ⟨v, _, ho, rfl⟩ := h1
    exact owns_ne ho hh ht f.symm

set_option maxHeartbeats 8000000 in
set_option maxRecDepth 100000 in
theorem put_walk (a0 : Int) (A1 : Option Addr) (c1 : Nat) (l1 : List S53) (A2 : Option Addr) (c2 : Nat) (l2 : List S65) (w : World) (hr1 : Kd.C k53 w A1 l1.length l1) (hk1 : l1.length ≤ c1) (hr2 : Kd.C k65 w A2 l2.length l2) (hk2 : l2.length ≤ c2)
    (hn : okNums a0 l1) (hz : chk (P1 l1) (P2 l2) = 0) :
    Calls Try.prog 8 #[.agg #[.int .u64 a0, .slice A1 l1.length c1, .slice A2 l2.length c2]] w (fun e w' => e = .returned (.tuple #[.string ⟨(putT a0 l1 l2).toArray⟩, .int .i64 0]) ∧ Upd (fun _ => False) w w') := by
  have hu53 := Try.underlying53
  have hu65 := Try.underlying65
  have hu26 := Try.underlying26
  obtain ⟨⟨hn0, hn1⟩, hnx⟩ := hn
  obtain ⟨hl1, hl2, hx1, hx2⟩ := chk_zero hz
  obtain ⟨a, rfl⟩ := Int.eq_ofNat_of_zero_le hn0
  have hb := heap_alloc_new w (.cells #[.int .u64 a, .slice A1 l1.length c1, .slice A2 l2.length c2] 26)
  have u0 := (Upd.refl (fun _ => False) w).alloc (.cells #[.int .u64 a, .slice A1 l1.length c1, .slice A2 l2.length c2] 26)
  have d0 := cell_heap hb 0 (.int .u64 a) rfl
  have d1 := cell_heap hb 1 (.slice A1 l1.length c1) rfl
  have d2 := cell_heap hb 2 (.slice A2 l2.length c2) rfl
  have hC := fun w' (hu : Upd (fun _ => False) w w') => check_walk a A1 c1 l1 A2 c2 l2 w' (Kd.C_below hr1 (hu.below (Nat.le_refl _) (fun _ f => f.elim))) (Kd.C_below hr2 (hu.below (Nat.le_refl _) (fun _ f => f.elim)))
  rw [hz] at hC
  have HC := Lib.hid hC
  have hT : putT (a : Int) l1 l2 = be 8 a ++ be 1 l1.length ++ l1.flatMap snapTx ++ be 2 l2.length ++ l2.flatMap refTx := by unfold putT; rw [Int.toNat_natCast]
  obtain ⟨T, hTe⟩ : ∃ T, putT (a : Int) l1 l2 = T := ⟨_, rfl⟩
  rw [hTe] at hT ⊢
  have HT := Lib.hid hT
  have e1 : IntKind.u8.wrap (l1.length : Int) = (l1.length : Int) := IntWalk.u8_in _ (by omega)
  have e2 : IntKind.u16.wrap (l2.length : Int) = (l2.length : Int) := IntWalk.u16_in _ (by omega)
  clear hC hT hTe
  go_enter Try.func8, Try.ntmps8
  go_wp2_with (fail)
  refine (HC.out _ u0).mono ?_
  rintro e w1 ⟨rfl, u1⟩
  have hb1 := u1.heap hb (fun f => f)
  have d0 := cell_heap hb1 0 (.int .u64 a) rfl
  have d1 := cell_heap hb1 1 (.slice A1 l1.length c1) rfl
  have d2 := cell_heap hb1 2 (.slice A2 l2.length c2) rfl
  have U1 := Lib.hid (u0.trans u1 (fun _ _ f => f))
  have lb := lt_of_heap hb1
  have hbW := heap_alloc_lt hb1 (.cells #[.slice none 0 0, .int .i64 0] 59)
  have g0 := cell_heap hbW 0 (.int .u64 a) rfl
  have k0 := Wk.new w1
  have nb : w.heap.size ≠ w1.heap.size := by omega
  go_wp2_with (fail)
  refine (Wk_U64 k0 _ a rfl (by unfold Two64; omega) (by simp)).mono ?_
  rintro e w2 ⟨rfl, k1⟩
  have d1 := cell_heap (k1.heap hbW nb) 1 (.slice A1 l1.length c1) rfl
  go_wp2_with (fail)
  refine (Wk_U8 k1 _ l1.length rfl (by unfold Two8; omega) (by simp [be_len])).mono ?_
  rintro e w3 ⟨rfl, k2⟩
  have d1 := cell_heap (k2.heap hbW nb) 1 (.slice A1 l1.length c1) rfl
  obtain ⟨WB, hWB⟩ : ∃ WB, WB = w1.alloc (.cells #[.slice none 0 0, .int .i64 0] 59) := ⟨_, rfl⟩
  rw [← hWB] at k2 hbW
  have U2 := Lib.hid ((U1.out.alloc (.cells #[.slice none 0 0, .int .i64 0] 59)))
  rw [← hWB] at U2
  rw [List.nil_append] at k2
  have K2 := Lib.hid k2
  have HBW := Lib.hid hbW
  have HR1 := Lib.hid hr1
  have HR2 := Lib.hid hr2
  have HNX := Lib.hid hnx
  have HX1 := Lib.hid hx1
  have HX2 := Lib.hid hx2
  generalize hB : w1.heap.size = B at *
  have NB := Lib.hid nb
  have LB := Lib.hid lb
  clear k0 k1 k2 hbW hb hb1 u0 u1 g0 hWB hr1 hr2 hnx hx1 hx2 nb lb
  generalize hn1e : l1.length = n1 at *
  generalize hn2e : l2.length = n2 at *
  have HN1 := Lib.hid hn1e
  have HN2 := Lib.hid hn2e
  clear hn1e hn2e
  go_wp2
  go_loopg [26] n1 (fun g v26 wr => ∃ i : Nat, v26 = .int .i64 i ∧ i + g = n1 ∧ Hid (Wk WB wr B (be 8 a ++ be 1 n1 ++ (l1.take i).flatMap snapTx)))
  case atStart => exact ⟨0, rfl, by omega, by simpa using K2⟩
  case round =>
    clear d1
    obtain ⟨i, rfl, hig, HK⟩ := hrel
    cases gk with
    | zero =>
      obtain rfl : i = n1 := by omega
      have hfull : l1.take i = l1 := List.take_of_length_le (by rw [HN1.out]; exact Nat.le_refl _)
      rw [hfull] at HK
      have hlen := flat_len snapTx 36 l1 (fun z hz => by rw [snapTx_len]; have := name_short (HX1.out z hz).1; omega)
      have q7 : (be 8 a ++ be 1 i ++ l1.flatMap snapTx).length ≤ 1000 := by
        have := HN1.out
        simp only [List.length_append, be_len]; omega
      have d2 := cell_heap (HK.out.heap HBW.out NB.out) 2 (.slice A2 n2 c2) rfl
      clear hfull hlen
      generalize hQ : be 8 a ++ be 1 i ++ l1.flatMap snapTx = QL at *
      go_wp2_with (fail)
      refine (Wk_U16 HK.out _ n2 rfl (by unfold Two16; omega) (by omega)).mono ?_
      rintro e w4 ⟨rfl, k4⟩
      have d2 := cell_heap (k4.heap HBW.out NB.out) 2 (.slice A2 n2 c2) rfl
      have K4 := Lib.hid k4
      have HQ := Lib.hid hQ
      clear k4 hQ HK
      go_wp2
      go_loopg [52] n2 (fun g v52 wr => ∃ i : Nat, v52 = .int .i64 i ∧ i + g = n2 ∧ Hid (Wk WB wr B (QL ++ be 2 n2 ++ (l2.take i).flatMap refTx)))
      case atStart => exact ⟨0, rfl, by omega, by simpa using K4⟩
      case round =>
        clear d2 K4
        obtain ⟨j, rfl, hjg, HK⟩ := hrel
        cases gk with
        | zero =>
          obtain rfl : j = n2 := by omega
          have hfull : l2.take j = l2 := List.take_of_length_le (by rw [HN2.out]; exact Nat.le_refl _)
          rw [hfull] at HK
          have hlen := flat_len refTx 4 l2 (fun z hz => by rw [refTx_len]; exact Nat.le_refl _)
          have q8 : (QL ++ be 2 j ++ l2.flatMap refTx).length ≤ 20000 := by
            have := HN2.out
            simp only [List.length_append, be_len]; omega
          have hTT : T = QL ++ be 2 j ++ l2.flatMap refTx := by
            rw [HT.out, ← HQ.out]
          rw [← hTT] at HK q8
          have UT : Hid (Upd (fun _ => False) w wr) := U2.out.trans HK.out.upd (fun j hj f => absurd f (by have := LB.out; omega))
          clear hfull hlen hTT
          go_wp2_with (fail)
          refine (Wk_Bytes HK.out (by omega)).mono ?_
          rintro e w5 ⟨rfl, hw⟩
          go_wp2
          go_ret2
          exact ⟨rfl, hw ▸ UT.out⟩
        | succ g =>
          have hj : j < n2 := by omega
          have hltp : (j : Int) < (n2 : Int) := by omega
          have h0j : (0 : Int) ≤ (j : Int) := by omega
          have hH := HR2.out
          obtain ⟨ad, rfl, y0, y1⟩ := at_T65 hH (j : Int) h0j hltp
          have UW : Hid (Upd (fun _ => False) w wr) := U2.out.trans HK.out.upd (fun j hj f => absurd f (by have := LB.out; omega))
          replace y0 := UW.out.cell y0 (fun f => f)
          replace y1 := UW.out.cell y1 (fun f => f)
          have hil : j < l2.length := by rw [HN2.out]; exact hj
          obtain ⟨x, hx⟩ : ∃ x, rd_T65 l2 (j : Int) = x := ⟨_, rfl⟩
          have hxi : x = l2[j] := by rw [← hx]; unfold rd_T65; rw [Int.toNat_natCast, List.getD_eq_getElem?_getD, List.getElem?_eq_getElem hil]; rfl
          have hxm : x ∈ l2 := by rw [hxi]; exact List.getElem_mem _
          obtain ⟨q1, q2⟩ := HX2.out x hxm
          have q5 := small_rng q1
          have q6 := small_rng q2
          rw [hx] at y0 y1
          simp only [Int.toNat_natCast] at y0 y1
          have hft := flat_take refTx l2 j hil
          rw [← hxi] at hft
          have hlen := flat_len refTx 4 (l2.take j) (fun z hz => by rw [refTx_len]; exact Nat.le_refl _)
          have hti : (l2.take j).length ≤ 4096 := by rw [List.length_take]; omega
          have hlen2 : ((l2.take j).flatMap refTx).length ≤ 16384 := by omega
          have HFT := Lib.hid hft
          clear hft hlen hti hH hx hxi hxm q1 q2
          obtain ⟨v1, v2⟩ := x
          dsimp only at y0 y1 q5 q6
          obtain ⟨v1, rfl⟩ := Int.eq_ofNat_of_zero_le (show 0 ≤ v1 by omega)
          obtain ⟨v2, rfl⟩ := Int.eq_ofNat_of_zero_le (show 0 ≤ v2 by omega)
          have hst : refTx ⟨(v1 : Int), (v2 : Int)⟩ = be 2 v1 ++ be 2 v2 := by unfold refTx; simp only [Int.toNat_natCast]
          rw [hst] at HFT
          have e3 : IntKind.u16.wrap (v1 : Int) = (v1 : Int) := IntWalk.u16_in _ (by omega)
          have e4 : IntKind.u16.wrap (v2 : Int) = (v2 : Int) := IntWalk.u16_in _ (by omega)
          generalize (l2.take j).flatMap refTx = FL at *
          have hbx := heap_alloc_new wr (.cells #[.int .i64 v1, .int .i64 v2] 65)
          have ux := (Upd.refl (fun _ => False) wr).alloc (.cells #[.int .i64 v1, .int .i64 v2] 65)
          have kx : WkX WB _ B _ wr.heap.size _ _ := ⟨HK.out.other ux, hbx⟩
          have lB : B < wr.heap.size := by obtain ⟨r, ⟨v, hv, _⟩, _⟩ := HK.out; exact lt_of_heap hv
          have z0 := cell_heap hbx 0 (.int .i64 v1) rfl
          have hne : wr.heap.size ≠ B := by omega
          have NE := Lib.hid hne
          have q9 : (QL ++ be 2 n2 ++ FL).length ≤ 18000 := by simp only [List.length_append, be_len]; omega
          generalize hPL : QL ++ be 2 n2 ++ FL = PL at *
          have HPL := Lib.hid hPL
          clear hPL hst hbx ux hne lB
          go_wp2_with (fail)
          refine (kx.step (by decide) NE.out (fun r h => Writer_U16 B r PL v1 v1 _ rfl (by unfold Two16; omega) (by omega) h)).mono ?_
          rintro e w5 ⟨rfl, kx⟩
          have z1 := cell_heap kx.2 1 (.int .i64 v2) rfl
          go_wp2_with (fail)
          refine (kx.step (by decide) NE.out (fun r h => Writer_U16 B r _ v2 v2 _ rfl (by unfold Two16; omega) (by simp only [List.length_append, be_len]; omega) h)).mono ?_
          rintro e w6 ⟨rfl, kx⟩
          have K7 := Lib.hid kx.1
          clear kx z0 z1
          go_wp2
          go_roundg g
          case measure => omega
          case rel =>
            refine ⟨j + 1, by go_num, by omega, ?_⟩
            rw [HFT.out]
            have e : QL ++ be 2 n2 ++ (FL ++ (be 2 v1 ++ be 2 v2)) = PL ++ be 2 v1 ++ be 2 v2 := by rw [← HPL.out]; simp only [List.append_assoc]
            rw [e]
            exact K7
    | succ g =>
      have hi : i < n1 := by omega
      have hltp : (i : Int) < (n1 : Int) := by omega
      have h0i : (0 : Int) ≤ (i : Int) := by omega
      have hH := HR1.out
      obtain ⟨ad, rfl, y0, y1, y2, y3⟩ := at_T53 hH (i : Int) h0i hltp
      have UW : Hid (Upd (fun _ => False) w wr) := U2.out.trans HK.out.upd (fun j hj f => absurd f (by have := LB.out; omega))
      replace y0 := UW.out.cell y0 (fun f => f)
      replace y1 := UW.out.cell y1 (fun f => f)
      replace y2 := UW.out.cell y2 (fun f => f)
      replace y3 := UW.out.cell y3 (fun f => f)
      have hil : i < l1.length := by rw [HN1.out]; exact hi
      obtain ⟨x, hx⟩ : ∃ x, rd_T53 l1 (i : Int) = x := ⟨_, rfl⟩
      have hxi : x = l1[i] := by rw [← hx]; unfold rd_T53; rw [Int.toNat_natCast, List.getD_eq_getElem?_getD, List.getElem?_eq_getElem hil]; rfl
      have hxm : x ∈ l1 := by rw [hxi]; exact List.getElem_mem _
      obtain ⟨q1, q2⟩ := HX1.out x hxm
      obtain ⟨q3, q4⟩ := HNX.out x hxm
      have q5 := name_short q1
      have q6 := small_rng q2
      rw [hx] at y0 y1 y2 y3
      simp only [Int.toNat_natCast] at y0 y1 y2 y3
      have hft := flat_take snapTx l1 i hil
      rw [← hxi] at hft
      have hlen := flat_len snapTx 36 (l1.take i) (fun z hz => by rw [snapTx_len]; have := name_short (HX1.out z (List.mem_of_mem_take hz)).1; omega)
      have hti : (l1.take i).length ≤ 6 := by rw [List.length_take]; omega
      have hlen2 : ((l1.take i).flatMap snapTx).length ≤ 216 := by omega
      have HFT := Lib.hid hft
      clear hft hlen hti hH hx hxi hxm q1 q2
      obtain ⟨s, v1, v2, v3⟩ := x
      dsimp only at y0 y1 y2 y3 q3 q4 q5 q6
      obtain ⟨sl, hsl⟩ : ∃ sl, sl = s.data.toList := ⟨_, rfl⟩
      have hsb : s = ⟨sl.toArray⟩ := by rw [hsl]
      have hss : s.size = sl.length := by rw [hsl, Lib.size_eq]
      have hst : snapTx ⟨s, v1, v2, v3⟩ = be 2 sl.length ++ sl ++ be 2 v1.toNat ++ be 8 v2.toNat ++ be 8 v3.toNat := by unfold snapTx; rw [hsl, Lib.size_eq]
      obtain ⟨n, rfl⟩ := Int.eq_ofNat_of_zero_le (show 0 ≤ v1 by omega)
      obtain ⟨v2, rfl⟩ := Int.eq_ofNat_of_zero_le q3.1
      obtain ⟨v3, rfl⟩ := Int.eq_ofNat_of_zero_le q4.1
      have q3 := q3.2
      have q4 := q4.2
      simp only [Int.toNat_natCast] at hst
      rw [hst] at HFT
      have e3 : IntKind.u16.wrap (n : Int) = (n : Int) := IntWalk.u16_in _ (by omega)
      rw [hss] at q5
      rw [hsb] at y0
      clear hst hsl hss hsb
      generalize hF : (l1.take i).flatMap snapTx = FL at *
      have HF := Lib.hid hF
      clear hF
      have hbx := heap_alloc_new wr (.cells #[.string ⟨sl.toArray⟩, .int .i64 n, .int .u64 v2, .int .u64 v3] 53)
      have ux := (Upd.refl (fun _ => False) wr).alloc (.cells #[.string ⟨sl.toArray⟩, .int .i64 n, .int .u64 v2, .int .u64 v3] 53)
      have kx : WkX WB _ B _ wr.heap.size _ _ := ⟨HK.out.other ux, hbx⟩
      have lB : B < wr.heap.size := by obtain ⟨r, ⟨v, hv, _⟩, _⟩ := HK.out; exact lt_of_heap hv
      have z0 := cell_heap hbx 0 (.string ⟨sl.toArray⟩) rfl
      have hne : wr.heap.size ≠ B := by omega
      have NE := Lib.hid hne
      have q7 : (be 8 a ++ be 1 n1 ++ FL).length ≤ 1000 := by simp only [List.length_append, be_len]; omega
      generalize hPL : be 8 a ++ be 1 n1 ++ FL = PL at *
      have HPL := Lib.hid hPL
      clear hPL
      clear hbx ux hne lB
      go_wp2_with (fail)
      refine (kx.step (by decide) NE.out (fun r h => Writer_Text B r PL sl _ (by omega) (by omega) h)).mono ?_
      rintro e w4 ⟨rfl, kx⟩
      have z1 := cell_heap kx.2 1 (.int .i64 n) rfl
      go_wp2_with (fail)
      refine (kx.step (by decide) NE.out (fun r h => Writer_U16 B r _ n n _ rfl (by unfold Two16; omega) (by simp only [List.length_append, be_len]; omega) h)).mono ?_
      rintro e w5 ⟨rfl, kx⟩
      have z2 := cell_heap kx.2 2 (.int .u64 v2) rfl
      go_wp2_with (fail)
      refine (kx.step (by decide) NE.out (fun r h => Writer_U64 B r _ v2 v2 _ rfl (by unfold Two64; omega) (by simp only [List.length_append, be_len]; omega) h)).mono ?_
      rintro e w6 ⟨rfl, kx⟩
      have z3 := cell_heap kx.2 3 (.int .u64 v3) rfl
      go_wp2_with (fail)
      refine (kx.step (by decide) NE.out (fun r h => Writer_U64 B r _ v3 v3 _ rfl (by unfold Two64; omega) (by simp only [List.length_append, be_len]; omega) h)).mono ?_
      rintro e w7 ⟨rfl, kx⟩
      have K7 := Lib.hid kx.1
      clear kx z0 z1 z2 z3
      go_wp2
      go_roundg g
      case measure => omega
      case rel =>
        refine ⟨i + 1, by go_num, by omega, ?_⟩
        rw [HFT.out]
        have e : be 8 a ++ be 1 n1 ++ (FL ++ (be 2 sl.length ++ sl ++ be 2 n ++ be 8 v2 ++ be 8 v3)) = PL ++ be 2 sl.length ++ sl ++ be 2 n ++ be 8 v2 ++ be 8 v3 := by rw [← HPL.out]; simp only [List.append_assoc]
        rw [e]
        exact K7

set_option maxHeartbeats 4000000 in
set_option maxRecDepth 100000 in
theorem put_none (a0 : Int) (A1 : Option Addr) (c1 : Nat) (l1 : List S53) (A2 : Option Addr) (c2 : Nat) (l2 : List S65) (w : World) (hr1 : Kd.C k53 w A1 l1.length l1) (hr2 : Kd.C k65 w A2 l2.length l2) (hz : chk (P1 l1) (P2 l2) ≠ 0) :
    Calls Try.prog 8 #[.agg #[.int .u64 a0, .slice A1 l1.length c1, .slice A2 l2.length c2]] w (fun e w' => e = .returned (.tuple #[.string ⟨#[]⟩, .int .i64 (chk (P1 l1) (P2 l2))]) ∧ Upd (fun _ => False) w w') := by
  have hu26 := Try.underlying26
  have hb := heap_alloc_new w (.cells #[.int .u64 a0, .slice A1 l1.length c1, .slice A2 l2.length c2] 26)
  have u0 := (Upd.refl (fun _ => False) w).alloc (.cells #[.int .u64 a0, .slice A1 l1.length c1, .slice A2 l2.length c2] 26)
  have d0 := cell_heap hb 0 (.int .u64 a0) rfl
  have d1 := cell_heap hb 1 (.slice A1 l1.length c1) rfl
  have d2 := cell_heap hb 2 (.slice A2 l2.length c2) rfl
  have hC := check_walk a0 A1 c1 l1 A2 c2 l2 _ (Kd.C_below hr1 (u0.below (Nat.le_refl _) (fun _ f => f.elim))) (Kd.C_below hr2 (u0.below (Nat.le_refl _) (fun _ f => f.elim)))
  have HC := Lib.hid hC
  clear hC
  generalize chk (P1 l1) (P2 l2) = z at *
  have hz1 : (z != 0) = true := by simpa using hz
  go_enter Try.func8, Try.ntmps8
  go_wp2_with (fail)
  refine (HC.out).mono ?_
  rintro e w1 ⟨rfl, u1⟩
  go_wp2
  go_ret2
  exact ⟨rfl, u0.trans u1 (fun _ _ f => f)⟩

def table_Put.f (a0 : Int) (l1 : List S53) (l2 : List S65) : Option (ByteArray × Int) :=
  if okNums a0 l1 then (if chk (P1 l1) (P2 l2) = 0 then some (⟨(putT a0 l1 l2).toArray⟩, 0) else some (⟨#[]⟩, chk (P1 l1) (P2 l2))) else none
theorem table_Put.calls (a0_0 : Int) (A0_1 : Option Addr) (c0_1 : Nat) (l0_1 : List S53) (A0_2 : Option Addr) (c0_2 : Nat) (l0_2 : List S65) (r1 : ByteArray) (r2 : Int) (w : World) (hr0_1 : Kd.C k53 w A0_1 l0_1.length l0_1) (hc0_1 : l0_1.length ≤ c0_1) (hr0_2 : Kd.C k65 w A0_2 l0_2.length l0_2) (hc0_2 : l0_2.length ≤ c0_2) (h : table_Put.f a0_0 l0_1 l0_2 = some (r1, r2)) :
    Calls Try.prog 8 #[.agg #[.int .u64 a0_0, .slice A0_1 l0_1.length c0_1, .slice A0_2 l0_2.length c0_2]] w fun e w' => e = .returned (.tuple #[.string r1, .int .i64 r2]) ∧ Below w.heap.size w w' := by
  unfold table_Put.f at h
  split at h
  · rename_i hn
    split at h
    · rename_i hz
      obtain ⟨rfl, rfl⟩ := Prod.mk.inj (Option.some.inj h)
      exact (put_walk a0_0 A0_1 c0_1 l0_1 A0_2 c0_2 l0_2 w hr0_1 hc0_1 hr0_2 hc0_2 hn hz).mono fun e w' ⟨he, hu⟩ => ⟨he, hu.below (Nat.le_refl _) (fun _ f => f.elim)⟩
    · rename_i hz
      obtain ⟨rfl, rfl⟩ := Prod.mk.inj (Option.some.inj h)
      exact (put_none a0_0 A0_1 c0_1 l0_1 A0_2 c0_2 l0_2 w hr0_1 hr0_2 hz).mono fun e w' ⟨he, hu⟩ => ⟨he, hu.below (Nat.le_refl _) (fun _ f => f.elim)⟩
  · cases h

end Go.Proofs.Ytlhjhkmmgkfmpaa.Px
