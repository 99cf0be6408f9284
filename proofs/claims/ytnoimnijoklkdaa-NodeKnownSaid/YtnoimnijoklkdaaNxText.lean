/- node.text for the printer: a node's text. -/
import Derived.Test.YtnoimnijoklkdaaPx0
import Derived.Test.YtnoimnijoklkdaaPx7
import Derived.Test.YtnoimnijoklkdaaNxChk
import Derived.Test.YtnoimnijoklkdaaPxMPut
set_option linter.unusedVariables false
set_option linter.unusedSimpArgs false
namespace Go.Proofs.Ytnoimnijoklkdaa.Px
open Go.RowKit Go.Proofs.YtnoimnijoklkdaaW.PrintWords Go.Proofs.YtnoimnijoklkdaaW.PrintLast

def entTx (x : S75) : List UInt8 := tx x.f0 ++ tx x.f1
def msgTx (m : S59) : List UInt8 := be 2 (putM m.f0 m.f1 m.f2 m.f3).length ++ putM m.f0 m.f1 m.f2 m.f3
def kidTx (k : Int) : List UInt8 := be 2 k.toNat
def textN (lf : Bool) (es : List S75) (ps : List ByteArray) (ks : List Int) (bs : List S59) : List UInt8 :=
  if lf = true then be 1 1 ++ be 2 es.length ++ es.flatMap entTx
  else be 1 2 ++ be 1 ks.length ++ ks.flatMap kidTx ++ ps.flatMap tx ++ be 2 bs.length ++ bs.flatMap msgTx
def textR (lf : Bool) (es : List S75) (ps : List ByteArray) (ks : List Int) (bs : List S59) : List UInt8 × Int :=
  if chkN lf es ps ks bs ≠ 0 ∨ ks.any farB = true then ([], 4) else (textN lf es ps ks bs, 0)

theorem flat_len {α : Type} (f : α → List UInt8) (c : Nat) : ∀ (l : List α), (∀ x ∈ l, (f x).length ≤ c) → (l.flatMap f).length ≤ l.length * c
  | [], _ => by simp
  | x :: l, h => by
    have h1 := h x List.mem_cons_self
    have h2 := flat_len f c l (fun y hy => h y (List.mem_cons_of_mem _ hy))
    rw [List.flatMap_cons, List.length_append, List.length_cons, Nat.add_mul]
    omega
theorem flat_take {α : Type} (f : α → List UInt8) (l : List α) (i : Nat) (h : i < l.length) : (l.take (i + 1)).flatMap f = (l.take i).flatMap f ++ f l[i] := by
  rw [List.take_add_one, List.getElem?_eq_getElem h, List.flatMap_append]
  simp only [Option.toList, List.flatMap_cons, List.flatMap_nil, List.append_nil]
/-- A writer, and another block beside it. -/
def WkX (w0 w : World) (b : Nat) (bs : List UInt8) (x : Nat) (cs : Array Value) (t : TypeId) : Prop := Wk w0 w b bs ∧ w.heap[x]? = some (.cells cs t (0, 0))
theorem WkX.step {w0 w : World} {b : Nat} {bs bs' : List UInt8} {x : Nat} {cs : Array Value} {t : TypeId} (h : WkX w0 w b bs x cs t) (ht : 5 ≠ t) (hx : x ≠ b) {f : FuncId} {args : Array Value}
    (hc : ∀ r, Wr w b r bs 0 → Calls Try.prog f args w fun e w' => e = .returned (.tuple #[]) ∧ ∃ r', Wr w' b r' bs' 0 ∧ Newer w r r' ∧ Upd (WF b r) w w') :
    Calls Try.prog f args w fun e w' => e = .returned (.tuple #[]) ∧ WkX w0 w' b bs' x cs t := by
  obtain ⟨⟨r, h1, h2, h3⟩, hh⟩ := h
  refine (hc r h1).mono ?_
  rintro e w' ⟨rfl, r', k1, k2, k3⟩
  refine ⟨rfl, Wk.next r r' h2 h3 k1 k2 k3, k3.heap hh (fun f => ?_)⟩
  rcases f with f | f
  · exact hx f
  · obtain ⟨v, _, ho, rfl⟩ := h1
    exact owns_ne ho hh ht f.symm
theorem WkX.text {w0 w : World} {b : Nat} {bs : List UInt8} {x : Nat} {cs : Array Value} {t : TypeId} (h : WkX w0 w b bs x cs t) (ht : 5 ≠ t) (hx : x ≠ b) (s : ByteArray) (hb : bs.length ≤ 900000000) (hl : s.size ≤ 65535) :
    Calls Try.prog 72 #[.pointer (some ⟨b, 0, none⟩), .string s] w fun e w' => e = .returned (.tuple #[]) ∧ WkX w0 w' b (bs ++ tx s) x cs t := by
  have := h.step ht hx (f := 72) (args := #[.pointer (some ⟨b, 0, none⟩), .string s]) (bs' := bs ++ tx s) (fun r hr => by
    have := Writer_Text b r bs s.data.toList w hb (by rw [← Lib.size_eq]; exact hl) hr
    rw [mk_ba, ← Lib.size_eq, List.append_assoc] at this
    exact this)
  exact this

theorem runE_zero {l : List S75} (h : runE l = 0) : ∀ x ∈ l, x.f0.size ≤ 108 ∧ x.f1.size ≤ 64 := by
  intro x hx
  obtain ⟨i, hi, rfl⟩ := List.getElem_of_mem hx
  unfold runE at h
  split at h
  · cases h
  · rename_i hb
    have hf : entBad l i = false := by
      cases hb2 : entBad l i
      · rfl
      · exact absurd (any_of_bad hi hb2) hb
    have e : rd_T75 l (i : Int) = l[i] := by unfold rd_T75; rw [Int.toNat_natCast, List.getD_eq_getElem?_getD, List.getElem?_eq_getElem hi]; rfl
    unfold entBad at hf
    rw [e] at hf
    simp only [Bool.or_eq_false_iff, decide_eq_false_iff_not] at hf
    omega
theorem chk_leaf {es : List S75} {ps : List ByteArray} {ks : List Int} {bs : List S59} (h : chkN true es ps ks bs = 0) : ps = [] ∧ ks = [] ∧ bs = [] ∧ runE es = 0 := by
  unfold chkN at h
  rw [if_pos rfl] at h
  split at h
  · cases h
  · exact ⟨List.length_eq_zero_iff.1 (by omega), List.length_eq_zero_iff.1 (by omega), List.length_eq_zero_iff.1 (by omega), h⟩
theorem chk_inner {es : List S75} {ps : List ByteArray} {ks : List Int} {bs : List S59} (h : chkN false es ps ks bs = 0) :
    es = [] ∧ 1 ≤ ks.length ∧ ks.length ≤ 8 ∧ ps.length + 1 = ks.length ∧ (∀ k ∈ ks, 1 ≤ k) ∧ (∀ i, i < ps.length → pivBad ps i = false) ∧ (∀ p ∈ ps, p.size ≤ 108) ∧ ∀ m ∈ bs, mayB m.f0 m.f1 m.f2 m.f3 = true := by
  unfold chkN at h
  rw [if_neg (by decide)] at h
  split at h
  · cases h
  · rename_i h1
    split at h
    · cases h
    · rename_i h2
      split at h
      · cases h
      · rename_i h3
        have hp : ∀ i, i < ps.length → pivBad ps i = false := fun i hi => by
          cases hb : pivBad ps i
          · rfl
          · exact absurd (any_of_bad hi hb) h2
        have n1 : ¬ 0 < es.length := fun e => h1 (.inl e)
        have n2 : ¬ ks.length < 1 := fun e => h1 (.inr (.inl e))
        have n3 : ¬ 8 < ks.length := fun e => h1 (.inr (.inr (.inl e)))
        have n4 : ¬ (ps.length + 1 ≠ ks.length) := fun e => h1 (.inr (.inr (.inr (.inl e))))
        have n5 : ¬ ks.any (fun k => decide (k < 1)) = true := fun e => h1 (.inr (.inr (.inr (.inr e))))
        refine ⟨List.length_eq_zero_iff.1 (by omega), by omega, by omega, by omega, fun k hk => ?_, hp, fun p hpm => ?_, fun m hm => ?_⟩
        · rcases Int.lt_or_le k 1 with hlt | hge
          · exact absurd (List.any_eq_true.2 ⟨k, hk, decide_eq_true hlt⟩) n5
          · exact hge
        · obtain ⟨i, hi, rfl⟩ := List.getElem_of_mem hpm
          have hf := hp i hi
          have e : rdS ps i = ps[i] := by unfold rdS rdOf; rw [Int.toNat_natCast, List.getD_eq_getElem?_getD, List.getElem?_eq_getElem hi]; rfl
          unfold pivBad at hf
          rw [e] at hf
          simp only [Bool.or_eq_false_iff, decide_eq_false_iff_not] at hf
          omega
        · cases hb : mayB m.f0 m.f1 m.f2 m.f3
          · exact absurd (List.any_eq_true.2 ⟨m, hm, by unfold msgBad; rw [hb]; rfl⟩) h3
          · rfl

theorem putM_len {m : S59} (h : mayB m.f0 m.f1 m.f2 m.f3 = true) (hv : m.f3.size ≤ 60000) : (putM m.f0 m.f1 m.f2 m.f3).length ≤ 60200 := by
  obtain ⟨h1, h2, h3, h4, h5⟩ := mayB_op h
  unfold putM
  rw [List.length_append, List.length_append, be_len, tx_len]
  split
  · rename_i h6
    have := h5 h6
    rw [tx_len]; omega
  · split
    · simp; omega
    · rw [tx_len]; omega

set_option maxHeartbeats 8000000 in
set_option maxRecDepth 100000 in
theorem text_walk (lf : Bool) (A1 : Option Addr) (c1 : Nat) (l1 : List S75) (A2 : Option Addr) (c2 : Nat) (l2 : List ByteArray) (A3 : Option Addr) (c3 : Nat) (l3 : List Int) (A4 : Option Addr) (c4 : Nat) (l4 : List S59) (w : World)
    (hr1 : Kd.C k75 w A1 l1.length l1) (hc1 : l1.length ≤ c1) (hr2 : Kd.C Kd.string w A2 l2.length l2) (hr3 : Kd.C (Kd.int .i64) w A3 l3.length l3) (hr4 : Kd.C k59 w A4 l4.length l4) (hk : okSz l1 l2 l3 l4) :
    Calls Try.prog 40 #[.agg #[.bool lf, .slice A1 l1.length c1, .slice A2 l2.length c2, .slice A3 l3.length c3, .slice A4 l4.length c4]] w (fun e w' => e = .returned (.tuple #[.string ⟨(textR lf l1 l2 l3 l4).1.toArray⟩, .int .i64 (textR lf l1 l2 l3 l4).2]) ∧ Upd (fun _ => False) w w') := by
  obtain ⟨k1, k2, k3, k4, k5⟩ := hk
  have hun := Try.underlying28
  have hum := Try.underlying59
  have hue := Try.underlying75
  have hb := heap_alloc_new w (.cells #[.bool lf, .slice A1 l1.length c1, .slice A2 l2.length c2, .slice A3 l3.length c3, .slice A4 l4.length c4] 28)
  have u0 := (Upd.refl (fun _ => False) w).alloc (.cells #[.bool lf, .slice A1 l1.length c1, .slice A2 l2.length c2, .slice A3 l3.length c3, .slice A4 l4.length c4] 28)
  have d0 := cell_heap hb 0 (.bool lf) rfl
  have d1 := cell_heap hb 1 (.slice A1 l1.length c1) rfl
  have d2 := cell_heap hb 2 (.slice A2 l2.length c2) rfl
  have d3 := cell_heap hb 3 (.slice A3 l3.length c3) rfl
  have d4 := cell_heap hb 4 (.slice A4 l4.length c4) rfl
  have HChk := Lib.hid (check_walk lf A1 c1 l1 A2 c2 l2 A3 c3 l3 A4 c4 l4 _ (upd_C hr1 u0) hc1 (upd_C hr2 u0) (upd_C hr3 u0) (upd_C hr4 u0) k5 (by omega) (by omega) (by omega) (by omega))
  have HCon := Lib.hid (fun w h => contains_int A3 c3 l3 w h (by omega))
  have HR1 := Lib.hid hr1
  have HR2 := Lib.hid hr2
  have HR3 := Lib.hid hr3
  have HR4 := Lib.hid hr4
  have U0 := Lib.hid u0
  obtain ⟨RT, hRT⟩ : ∃ RT, RT = textR lf l1 l2 l3 l4 := ⟨_, rfl⟩
  rw [← hRT]
  unfold textR at hRT
  have HRT := Lib.hid hRT
  clear hRT hr1 hr2 hr3 hr4
  go_enter Try.func40, Try.ntmps40
  go_wp2_with (fail)
  refine HChk.out.mono ?_
  rintro e w1 ⟨rfl, u1⟩
  clear d0 d1 d2 d3 d4
  have hb1 := u1.heap hb (fun f => f)
  have U1 := Lib.hid (U0.out.trans u1 (fun _ _ f => f))
  clear hb u0 u1 HChk
  by_cases q1 : chkN lf l1 l2 l3 l4 = 0
  · have d3 := cell_heap hb1 3 (.slice A3 l3.length c3) rfl
    have q1b : (chkN lf l1 l2 l3 l4 != 0) = false := by simp [q1]
    have HQ1 := Lib.hid q1
    have HQE := Lib.hid (fun (hl : lf = true) => chk_leaf (by rw [← hl]; exact q1))
    have HQI := Lib.hid (fun (hl : lf = false) => chk_inner (by rw [← hl]; exact q1))
    generalize chkN lf l1 l2 l3 l4 = CH at *
    clear q1
    go_wp2_with (fail)
    refine (HCon.out _ (upd_C HR3.out U1.out)).mono ?_
    rintro e w2 ⟨rfl, u2⟩
    have HB2 := Lib.hid (u2.heap hb1 (fun f => f))
    have U2 := Lib.hid (U1.out.trans u2 (fun _ _ f => f))
    clear u2 hb1 d3
    cases q2 : l3.any farB with
    | true =>
      replace HRT := Lib.hid (HRT.out.trans (if_pos (.inr q2)))
      go_wp2
      go_ret2
      exact ⟨by rw [HRT.out]; rfl, U2.out⟩
    | false =>
      replace HRT := Lib.hid (HRT.out.trans (if_neg (by rw [q2, HQ1.out]; simp)))
      have hbW := heap_alloc_lt HB2.out (.cells #[.slice none 0 0, .int .i64 0] 118)
      have k0 := Wk.new w2
      have lb := lt_of_heap HB2.out
      have NB := Lib.hid (show w.heap.size ≠ w2.heap.size by omega)
      have LB := Lib.hid lb
      have d0 := cell_heap hbW 0 (.bool lf) rfl
      cases lf with
      | true =>
        replace HRT := Lib.hid (HRT.out.trans (congrArg (fun z => (z, (0 : Int))) (if_pos rfl)))
        have e1 : IntKind.u16.wrap (l1.length : Int) = (l1.length : Int) := IntWalk.u16_in _ (by omega)
        have HE := Lib.hid (runE_zero (HQE.out rfl).2.2.2)
        clear HQE HQI HQ1 HR2 HR3 HR4 k5 HCon q2
        go_wp2_with (fail)
        refine (Wk_U8 k0 _ 1 rfl (by unfold Two8; omega) (by simp)).mono ?_
        rintro e w3 ⟨rfl, k1⟩
        rw [List.nil_append] at k1
        have d1 := cell_heap (k1.heap hbW NB.out) 1 (.slice A1 l1.length c1) rfl
        go_wp2_with (fail)
        refine (Wk_U16 k1 _ l1.length rfl (by unfold Two16; omega) (by rw [be_len]; omega)).mono ?_
        rintro e w4 ⟨rfl, k2⟩
        have d1 := cell_heap (k2.heap hbW NB.out) 1 (.slice A1 l1.length c1) rfl
        obtain ⟨WB, hWB⟩ : ∃ WB, WB = w2.alloc (.cells #[.slice none 0 0, .int .i64 0] 118) := ⟨_, rfl⟩
        have U3 := Lib.hid (U2.out.alloc (.cells #[.slice none 0 0, .int .i64 0] 118))
        rw [← hWB] at k2 hbW U3
        have K2 := Lib.hid k2
        obtain ⟨PRE, hPRE⟩ : ∃ PRE, PRE = be 1 1 ++ be 2 l1.length := ⟨_, rfl⟩
        have hPL : PRE.length ≤ 10 := by rw [hPRE, List.length_append, be_len, be_len]; omega
        rw [← hPRE] at K2
        have HPRE := Lib.hid hPRE
        have HBW := Lib.hid hbW
        generalize hB : w2.heap.size = B at *
        clear k0 k1 k2 hbW lb d0 e1 hWB hPRE HB2 U2 hB
        generalize hn1e : l1.length = n1 at *
        have HN1 := Lib.hid hn1e
        clear hn1e
        go_wp2
        go_loopg [34] n1 (fun g v34 wr => ∃ i : Nat, v34 = .int .i64 i ∧ i + g = n1 ∧ Hid (Wk WB wr B (PRE ++ (l1.take i).flatMap entTx)))
        case atStart => exact ⟨0, rfl, by omega, by simpa using K2⟩
        case round =>
          clear d1 K2
          obtain ⟨i, rfl, hig, HK⟩ := hrel
          have hlen := flat_len entTx 176 (l1.take i) (fun z hz => by
            have := HE.out z (List.mem_of_mem_take hz)
            unfold entTx
            rw [List.length_append, tx_len, tx_len]; omega)
          have hti : (l1.take i).length ≤ 5000 := by rw [List.length_take, HN1.out]; omega
          have hlen2 : (PRE ++ (l1.take i).flatMap entTx).length ≤ 880010 := by rw [List.length_append]; omega
          have UW : Hid (Upd (fun _ => False) w wr) := Lib.hid (U3.out.trans HK.out.upd (fun j hj f => absurd f (by have := LB.out; omega)))
          clear hlen hti
          cases gk with
          | zero =>
            obtain rfl : i = n1 := by omega
            have hfull : l1.take i = l1 := List.take_of_length_le (by rw [HN1.out]; exact Nat.le_refl _)
            rw [hfull] at HK hlen2
            have HF := Lib.hid (show RT = (PRE ++ l1.flatMap entTx, 0) by rw [HRT.out, HPRE.out])
            clear hfull
            generalize PRE ++ l1.flatMap entTx = OUT at *
            go_wp2_with (fail)
            refine (Wk_Bytes HK.out (by omega)).mono ?_
            rintro e w5 ⟨rfl, hw⟩
            go_wp2
            go_ret2
            exact ⟨by rw [HF.out]; rfl, hw ▸ UW.out⟩
          | succ g =>
            have hi : i < n1 := by omega
            have hlt : decide ((i : Int) < (n1 : Int)) = true := decide_eq_true (by omega)
            have hltp : (i : Int) < (n1 : Int) := by omega
            have h0i : (0 : Int) ≤ (i : Int) := by omega
            obtain ⟨ad, rfl, y0, y1⟩ := at_T75 HR1.out (i : Int) h0i hltp
            replace y0 := UW.out.cell y0 (fun f => f)
            replace y1 := UW.out.cell y1 (fun f => f)
            have hil : i < l1.length := by rw [HN1.out]; exact hi
            obtain ⟨x, hx⟩ : ∃ x, rd_T75 l1 (i : Int) = x := ⟨_, rfl⟩
            have hxi : x = l1[i] := by rw [← hx]; unfold rd_T75; rw [Int.toNat_natCast, List.getD_eq_getElem?_getD, List.getElem?_eq_getElem hil]; rfl
            have hxm := HE.out x (by rw [hxi]; exact List.getElem_mem _)
            rw [hx] at y0 y1
            simp only [Int.toNat_natCast] at y0 y1
            have hft := flat_take entTx l1 i hil
            rw [← hxi] at hft
            have HFT := Lib.hid hft
            clear hft hxi hx
            obtain ⟨s0, s1⟩ := x
            dsimp only at y0 y1 hxm
            generalize (l1.take i).flatMap entTx = FL at *
            have hbx := heap_alloc_new wr (.cells #[.string s0, .string s1] 75)
            have kx : WkX WB _ B _ wr.heap.size _ _ := ⟨HK.out.other ((Upd.refl (fun _ => False) wr).alloc (.cells #[.string s0, .string s1] 75)), hbx⟩
            have lB : B < wr.heap.size := by obtain ⟨r, ⟨v, hv, _⟩, _⟩ := HK.out; exact lt_of_heap hv
            have z0 := cell_heap hbx 0 (.string s0) rfl
            have NE := Lib.hid (show wr.heap.size ≠ B by omega)
            generalize hPL2 : PRE ++ FL = PL at *
            have HPL2 := Lib.hid hPL2
            clear hPL2 hbx lB
            go_wp2_with (fail)
            refine (kx.text (by decide) NE.out s0 (by omega) (by omega)).mono ?_
            rintro e w5 ⟨rfl, kx⟩
            have z1 := cell_heap kx.2 1 (.string s1) rfl
            go_wp2_with (fail)
            refine (kx.text (by decide) NE.out s1 (by rw [List.length_append, tx_len]; omega) (by omega)).mono ?_
            rintro e w6 ⟨rfl, kx⟩
            have K7 := Lib.hid kx.1
            clear kx z0 z1
            go_wp2
            go_roundg g
            case measure => omega
            case rel =>
              refine ⟨i + 1, by go_num, by omega, ?_⟩
              rw [HFT.out]
              have e : PRE ++ (FL ++ entTx ⟨s0, s1⟩) = PL ++ tx s0 ++ tx s1 := by rw [← HPL2.out]; unfold entTx; simp only [List.append_assoc]
              rw [e]
              exact K7
      | false =>
        replace HRT := Lib.hid (HRT.out.trans (congrArg (fun z => (z, (0 : Int))) (if_neg (by decide))))
        obtain ⟨_, hk1, hk8, hpk, hkp, _, hpm, hmm⟩ := HQI.out rfl
        have e1 : IntKind.u8.wrap (l3.length : Int) = (l3.length : Int) := IntWalk.u8_in _ (by omega)
        have e2 : IntKind.u16.wrap (l4.length : Int) = (l4.length : Int) := IntWalk.u16_in _ (by omega)
        have hkr : ∀ k ∈ l3, 1 ≤ k ∧ k ≤ 65535 := fun k hk => ⟨hkp k hk, by
          rcases Int.lt_or_le 65535 k with h | h
          · exact absurd (List.any_eq_true.2 ⟨k, hk, (decide_eq_true h : farB k = true)⟩ : l3.any farB = true) (by rw [q2]; decide)
          · exact h⟩
        have HKR := Lib.hid hkr
        have HPM := Lib.hid hpm
        have HMM := Lib.hid (fun m hm => (⟨hmm m hm, k5 m hm⟩ : mayB m.f0 m.f1 m.f2 m.f3 = true ∧ m.f3.size ≤ 60000))
        clear HQE HQI HQ1 HCon q2 HR1 hkp hpm hmm k5 hkr
        go_wp2_with (fail)
        refine (Wk_U8 k0 _ 2 rfl (by unfold Two8; omega) (by simp)).mono ?_
        rintro e w3 ⟨rfl, k1⟩
        rw [List.nil_append] at k1
        have d3 := cell_heap (k1.heap hbW NB.out) 3 (.slice A3 l3.length c3) rfl
        go_wp2_with (fail)
        refine (Wk_U8 k1 _ l3.length rfl (by unfold Two8; omega) (by rw [be_len]; omega)).mono ?_
        rintro e w4 ⟨rfl, k2⟩
        have d3 := cell_heap (k2.heap hbW NB.out) 3 (.slice A3 l3.length c3) rfl
        obtain ⟨WB, hWB⟩ : ∃ WB, WB = w2.alloc (.cells #[.slice none 0 0, .int .i64 0] 118) := ⟨_, rfl⟩
        have U3 := Lib.hid (U2.out.alloc (.cells #[.slice none 0 0, .int .i64 0] 118))
        rw [← hWB] at k2 hbW U3
        have K2 := Lib.hid k2
        obtain ⟨PRE, hPRE⟩ : ∃ PRE, PRE = be 1 2 ++ be 1 l3.length := ⟨_, rfl⟩
        have hPL : PRE.length ≤ 10 := by rw [hPRE, List.length_append, be_len, be_len]; omega
        rw [← hPRE] at K2
        have HRT2 := Lib.hid (show RT = (PRE ++ l3.flatMap kidTx ++ l2.flatMap tx ++ be 2 l4.length ++ l4.flatMap msgTx, 0) by rw [HRT.out, hPRE])
        have HBW := Lib.hid hbW
        generalize hB : w2.heap.size = B at *
        clear k0 k1 k2 hbW lb d0 e1 hWB hPRE HB2 U2 hB HRT
        generalize hn3e : l3.length = n3 at *
        generalize hn2e : l2.length = n2 at *
        generalize hn4e : l4.length = n4 at *
        have HN3 := Lib.hid hn3e
        have HN2 := Lib.hid hn2e
        have HN4 := Lib.hid hn4e
        clear hn3e hn2e hn4e
        go_wp2
        go_loopg [57] n3 (fun g v57 wr => ∃ i : Nat, v57 = .int .i64 i ∧ i + g = n3 ∧ Hid (Wk WB wr B (PRE ++ (l3.take i).flatMap kidTx)))
        case atStart => exact ⟨0, rfl, by omega, by simpa using K2⟩
        case round =>
          clear d3 K2
          obtain ⟨i, rfl, hig, HK⟩ := hrel
          have hlen := flat_len kidTx 2 (l3.take i) (fun z hz => by unfold kidTx; rw [be_len]; exact Nat.le_refl _)
          have hti : (l3.take i).length ≤ 8 := by rw [List.length_take, HN3.out]; omega
          have hlen2 : (PRE ++ (l3.take i).flatMap kidTx).length ≤ 100 := by rw [List.length_append]; omega
          have UW : Hid (Upd (fun _ => False) w wr) := Lib.hid (U3.out.trans HK.out.upd (fun j hj f => absurd f (by have := LB.out; omega)))
          clear hlen hti
          cases gk with
          | zero =>
            obtain rfl : i = n3 := by omega
            have hfull : l3.take i = l3 := List.take_of_length_le (by rw [HN3.out]; exact Nat.le_refl _)
            rw [hfull] at HK hlen2
            have d2 := cell_heap (HK.out.heap HBW.out NB.out) 2 (.slice A2 n2 c2) rfl
            clear hfull hPL
            generalize PRE ++ l3.flatMap kidTx = PRE3 at *
            go_wp2
            go_loopg [68] n2 (fun g v68 wr => ∃ i : Nat, v68 = .int .i64 i ∧ i + g = n2 ∧ Hid (Wk WB wr B (PRE3 ++ (l2.take i).flatMap tx)))
            case atStart => exact ⟨0, rfl, by omega, by simpa using HK⟩
            case round =>
              clear d2 HK UW
              obtain ⟨j, rfl, hjg, HK⟩ := hrel
              have hlen := flat_len tx 110 (l2.take j) (fun z hz => by
                have := HPM.out z (List.mem_of_mem_take hz)
                rw [tx_len]; omega)
              have hti : (l2.take j).length ≤ 8 := by rw [List.length_take, HN2.out]; omega
              have hlen3 : (PRE3 ++ (l2.take j).flatMap tx).length ≤ 2000 := by rw [List.length_append]; omega
              have UW : Hid (Upd (fun _ => False) w wr) := Lib.hid (U3.out.trans HK.out.upd (fun j hj f => absurd f (by have := LB.out; omega)))
              clear hlen hti
              cases gk with
              | zero =>
                obtain rfl : j = n2 := by omega
                have hfull : l2.take j = l2 := List.take_of_length_le (by rw [HN2.out]; exact Nat.le_refl _)
                rw [hfull] at HK hlen3
                have d4 := cell_heap (HK.out.heap HBW.out NB.out) 4 (.slice A4 n4 c4) rfl
                clear hfull hlen2
                generalize PRE3 ++ l2.flatMap tx = PRE4 at *
                go_wp2_with (fail)
                refine (Wk_U16 HK.out _ n4 rfl (by unfold Two16; omega) (by omega)).mono ?_
                rintro e w5 ⟨rfl, k5⟩
                have d4 := cell_heap (k5.heap HBW.out NB.out) 4 (.slice A4 n4 c4) rfl
                have K5 := Lib.hid k5
                have hlen5 : (PRE4 ++ be 2 n4).length ≤ 2010 := by rw [List.length_append, be_len]; omega
                clear k5 HK UW hlen3
                generalize PRE4 ++ be 2 n4 = PRE5 at *
                go_wp2
                go_loopg [83] n4 (fun g v83 wr => ∃ i : Nat, v83 = .int .i64 i ∧ i + g = n4 ∧ Hid (Wk WB wr B (PRE5 ++ (l4.take i).flatMap msgTx)))
                case atStart => exact ⟨0, rfl, by omega, by simpa using K5⟩
                case round =>
                  clear d4 K5
                  obtain ⟨p, rfl, hpg, HK⟩ := hrel
                  have hlen := flat_len msgTx 60210 (l4.take p) (fun z hz => by
                    have := HMM.out z (List.mem_of_mem_take hz)
                    have := putM_len this.1 this.2
                    unfold msgTx
                    rw [List.length_append, be_len]; omega)
                  have hti : (l4.take p).length ≤ 5000 := by rw [List.length_take, HN4.out]; omega
                  have hlen6 : (PRE5 ++ (l4.take p).flatMap msgTx).length ≤ 301100000 := by rw [List.length_append]; omega
                  have UW : Hid (Upd (fun _ => False) w wr) := Lib.hid (U3.out.trans HK.out.upd (fun j hj f => absurd f (by have := LB.out; omega)))
                  clear hlen hti
                  cases gk with
                  | zero =>
                    obtain rfl : p = n4 := by omega
                    have hfull : l4.take p = l4 := List.take_of_length_le (by rw [HN4.out]; exact Nat.le_refl _)
                    rw [hfull] at HK hlen6
                    clear hfull
                    generalize PRE5 ++ l4.flatMap msgTx = OUT at *
                    go_wp2_with (fail)
                    refine (Wk_Bytes HK.out (by omega)).mono ?_
                    rintro e w6 ⟨rfl, hw⟩
                    go_wp2
                    go_ret2
                    exact ⟨by rw [HRT2.out]; rfl, hw ▸ UW.out⟩
                  | succ g =>
                    have hi : p < n4 := by omega
                    have hlt : decide ((p : Int) < (n4 : Int)) = true := decide_eq_true (by omega)
                    have hltp : (p : Int) < (n4 : Int) := by omega
                    have h0i : (0 : Int) ≤ (p : Int) := by omega
                    obtain ⟨ad, rfl, y0, y1, y2, y3⟩ := at_T59 HR4.out (p : Int) h0i hltp
                    replace y0 := UW.out.cell y0 (fun f => f)
                    replace y1 := UW.out.cell y1 (fun f => f)
                    replace y2 := UW.out.cell y2 (fun f => f)
                    replace y3 := UW.out.cell y3 (fun f => f)
                    have hil : p < l4.length := by rw [HN4.out]; exact hi
                    obtain ⟨x, hx⟩ : ∃ x, rd_T59 l4 (p : Int) = x := ⟨_, rfl⟩
                    have hxi : x = l4[p] := by rw [← hx, rd59_get l4 p hil]
                    have hxm := HMM.out x (by rw [hxi]; exact List.getElem_mem _)
                    have hpl := putM_len hxm.1 hxm.2
                    rw [hx] at y0 y1 y2 y3
                    simp only [Int.toNat_natCast] at y0 y1 y2 y3
                    have hft := flat_take msgTx l4 p hil
                    rw [← hxi] at hft
                    have hmt : msgTx x = be 2 (putM x.f0 x.f1 x.f2 x.f3).length ++ putM x.f0 x.f1 x.f2 x.f3 := rfl
                    rw [hmt] at hft
                    have HFT := Lib.hid hft
                    have HMP := Lib.hid (fun w => mput_yes x.f0 x.f1 x.f2 x.f3 w hxm.2 hxm.1)
                    clear hft hxi hx hmt hxm
                    generalize putM x.f0 x.f1 x.f2 x.f3 = PM at *
                    generalize (l4.take p).flatMap msgTx = FL at *
                    have ux := (Upd.refl (fun _ => False) wr).alloc (.cells #[.int .i64 x.f0, .string x.f1, .string x.f2, .string x.f3] 59)
                    have kx := HK.out.other ux
                    have KX := Lib.hid kx
                    generalize hPL2 : PRE5 ++ FL = PL at *
                    have HPL2 := Lib.hid hPL2
                    clear hPL2 ux kx HK
                    go_wp2_with (fail)
                    refine (HMP.out _).mono ?_
                    rintro e w6 ⟨rfl, u6⟩
                    have K6 := Lib.hid (KX.out.other u6)
                    clear u6 KX
                    go_wp2_with (fail)
                    refine (Wk_Text K6.out PM (by omega) (by omega)).mono ?_
                    rintro e w7 ⟨rfl, k7⟩
                    have K7 := Lib.hid k7
                    clear k7
                    go_wp2
                    go_roundg g
                    case measure => omega
                    case rel =>
                      refine ⟨p + 1, by go_num, by omega, ?_⟩
                      rw [HFT.out]
                      have e : PRE5 ++ (FL ++ (be 2 PM.length ++ PM)) = PL ++ be 2 PM.length ++ PM := by rw [← HPL2.out]; simp only [List.append_assoc]
                      rw [e]
                      exact K7
              | succ g =>
                have hi : j < n2 := by omega
                have hlt : decide ((j : Int) < (n2 : Int)) = true := decide_eq_true (by omega)
                have hltp : (j : Int) < (n2 : Int) := by omega
                have h0i : (0 : Int) ≤ (j : Int) := by omega
                obtain ⟨ad, rfl, y0⟩ := Kd.at_string HR2.out (j : Int) h0i hltp
                replace y0 := UW.out.cell y0 (fun f => f)
                have hil : j < l2.length := by rw [HN2.out]; exact hi
                obtain ⟨x, hx⟩ : ∃ x, rdOf ByteArray.empty l2 (j : Int) = x := ⟨_, rfl⟩
                have hxi : x = l2[j] := by rw [← hx]; unfold rdOf; rw [Int.toNat_natCast, List.getD_eq_getElem?_getD, List.getElem?_eq_getElem hil]; rfl
                have hxm := HPM.out x (by rw [hxi]; exact List.getElem_mem _)
                rw [hx] at y0
                simp only [Int.toNat_natCast] at y0
                have hft := flat_take tx l2 j hil
                rw [← hxi] at hft
                have HFT := Lib.hid hft
                clear hft hxi hx
                generalize (l2.take j).flatMap tx = FL at *
                generalize hPL2 : PRE3 ++ FL = PL at *
                have HPL2 := Lib.hid hPL2
                clear hPL2
                go_wp2_with (fail)
                refine (Wk_TextB HK.out x (by omega) (by omega)).mono ?_
                rintro e w5 ⟨rfl, k7⟩
                have K7 := Lib.hid k7
                clear k7
                go_wp2
                go_roundg g
                case measure => omega
                case rel =>
                  refine ⟨j + 1, by go_num, by omega, ?_⟩
                  rw [HFT.out]
                  have e : PRE3 ++ (FL ++ tx x) = PL ++ tx x := by rw [← HPL2.out, List.append_assoc]
                  rw [e]
                  exact K7
          | succ g =>
            have hi : i < n3 := by omega
            have hlt : decide ((i : Int) < (n3 : Int)) = true := decide_eq_true (by omega)
            have hltp : (i : Int) < (n3 : Int) := by omega
            have h0i : (0 : Int) ≤ (i : Int) := by omega
            obtain ⟨ad, rfl, y0⟩ := Kd.at_int HR3.out (i : Int) h0i hltp
            replace y0 := UW.out.cell y0 (fun f => f)
            have hil : i < l3.length := by rw [HN3.out]; exact hi
            obtain ⟨x, hx⟩ : ∃ x, rd l3 (i : Int) = x := ⟨_, rfl⟩
            have hxi : x = l3[i] := by rw [← hx, rdI_get l3 i hil]
            have hxm := HKR.out x (by rw [hxi]; exact List.getElem_mem _)
            rw [hx] at y0
            simp only [Int.toNat_natCast] at y0
            have hft := flat_take kidTx l3 i hil
            rw [← hxi] at hft
            obtain ⟨x, rfl⟩ := Int.eq_ofNat_of_zero_le (show 0 ≤ x by omega)
            have e3 : IntKind.u16.wrap (x : Int) = (x : Int) := IntWalk.u16_in _ (by omega)
            have hkt : kidTx (x : Int) = be 2 x := by unfold kidTx; rw [Int.toNat_natCast]
            rw [hkt] at hft
            have HFT := Lib.hid hft
            clear hft hxi hx hkt
            generalize (l3.take i).flatMap kidTx = FL at *
            generalize hPL2 : PRE ++ FL = PL at *
            have HPL2 := Lib.hid hPL2
            clear hPL2
            go_wp2_with (fail)
            refine (Wk_U16 HK.out _ x rfl (by unfold Two16; omega) (by omega)).mono ?_
            rintro e w5 ⟨rfl, k7⟩
            have K7 := Lib.hid k7
            clear k7
            go_wp2
            go_roundg g
            case measure => omega
            case rel =>
              refine ⟨i + 1, by go_num, by omega, ?_⟩
              rw [HFT.out]
              have e : PRE ++ (FL ++ be 2 x) = PL ++ be 2 x := by rw [← HPL2.out, List.append_assoc]
              rw [e]
              exact K7
  · have q1b : (chkN lf l1 l2 l3 l4 != 0) = true := by simp [q1]
    replace HRT := Lib.hid (HRT.out.trans (if_pos (.inl q1)))
    generalize chkN lf l1 l2 l3 l4 = CH at *
    clear q1
    go_wp2
    go_ret2
    exact ⟨by rw [HRT.out]; rfl, U1.out⟩

def node_text.f (lf : Bool) (es : List S75) (ps : List ByteArray) (ks : List Int) (bs : List S59) : Option (ByteArray × Int) :=
  if okSz es ps ks bs then some (⟨(textR lf es ps ks bs).1.toArray⟩, (textR lf es ps ks bs).2) else none
theorem node_text.calls (a0_0 : Bool) (A0_1 : Option Addr) (c0_1 : Nat) (l0_1 : List S75) (A0_2 : Option Addr) (c0_2 : Nat) (l0_2 : List ByteArray) (A0_3 : Option Addr) (c0_3 : Nat) (l0_3 : List Int) (A0_4 : Option Addr) (c0_4 : Nat) (l0_4 : List S59) (r1 : ByteArray) (r2 : Int) (w : World)
    (hr0_1 : Kd.C k75 w A0_1 l0_1.length l0_1) (hc0_1 : l0_1.length ≤ c0_1) (hr0_2 : Kd.C Kd.string w A0_2 l0_2.length l0_2) (hc0_2 : l0_2.length ≤ c0_2) (hr0_3 : Kd.C (Kd.int .i64) w A0_3 l0_3.length l0_3) (hc0_3 : l0_3.length ≤ c0_3) (hr0_4 : Kd.C k59 w A0_4 l0_4.length l0_4) (hc0_4 : l0_4.length ≤ c0_4) (h : node_text.f a0_0 l0_1 l0_2 l0_3 l0_4 = some (r1, r2)) :
    Calls Try.prog 40 #[.agg #[.bool a0_0, .slice A0_1 l0_1.length c0_1, .slice A0_2 l0_2.length c0_2, .slice A0_3 l0_3.length c0_3, .slice A0_4 l0_4.length c0_4]] w fun e w' => e = .returned (.tuple #[.string r1, .int .i64 r2]) ∧ Below w.heap.size w w' := by
  unfold node_text.f at h
  split at h
  · rename_i hk
    obtain ⟨rfl, rfl⟩ := Prod.mk.inj (Option.some.inj h)
    exact (text_walk a0_0 A0_1 c0_1 l0_1 A0_2 c0_2 l0_2 A0_3 c0_3 l0_3 A0_4 c0_4 l0_4 w hr0_1 hc0_1 hr0_2 hr0_3 hr0_4 hk).mono fun e w' ⟨he, hu⟩ => ⟨he, hu.below (Nat.le_refl _) (fun _ f => f.elim)⟩
  · cases h
end Go.Proofs.Ytnoimnijoklkdaa.Px
