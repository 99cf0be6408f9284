/- message.may for the printer: which messages may be. -/
import Derived.Test.YtnoimnijoklkdaaPx0
import Derived.Test.YtnoimnijoklkdaaPx5
import Derived.Test.YtnoimnijoklkdaaPx6
import Derived.Test.YtnoimnijoklkdaaPx9
import Derived.Test.YtnoimnijoklkdaaNd2
import Derived.Test.YtnoimnijoklkdaaBlk4
import Derived.Laws.EntriesVeiled
set_option linter.unusedVariables false
set_option linter.unusedSimpArgs false
namespace Go.Proofs.Ytnoimnijoklkdaa.Px
open Go.RowKit Go.Proofs.YtnoimnijoklkdaaW.PrintWords Go.Proofs.YtnoimnijoklkdaaW.PrintLast

def keyB (s : ByteArray) : Bool := decide (1 ≤ s.size ∧ s.size ≤ 108)
def mayV (k v : ByteArray) : Bool := if bt k 0 = 109 then metaE v.data.toList == 0 else if bt k 0 = 100 then Blk.check v.data.toList == 0 else decide (v.size ≤ 64)
def mayP (k v : ByteArray) : Bool := if bt k 0 = 109 then chgE v.data.toList == 0 else if bt k 0 = 100 then (takeR v.data.toList).2 == 0 else false
def mayB (op : Int) (k t v : ByteArray) : Bool :=
  if keyB k = false then false
  else if op = 1 then decide (t.size = 0) && mayV k v
  else if op = 4 then decide (t.size = 0) && mayP k v
  else if op = 2 then decide (t.size = 0) && decide (v.size = 0)
  else if op = 3 then decide (v.size = 0) && (keyB t && Op.bytesLess k.toList t.toList)
  else false

theorem upd_of_below {w w' : World} (h : Below w.heap.size w w') : Upd (fun _ => False) w w' := (Upd.of_below h).mono fun i hi f => absurd f (Nat.not_le.2 hi)
theorem mk_ba (s : ByteArray) : (⟨s.data.toList.toArray⟩ : ByteArray) = s := by cases s; rfl

theorem clo_meta (v : ByteArray) (w : World) :
    Calls Try.prog 96 #[.string v] w fun e w' => e = .returned (.bool (metaE v.data.toList == 0)) ∧ Upd (fun _ => False) w w' := by
  obtain ⟨x, y, z, t, he⟩ := meta_eq 20 (by omega) v.data.toList
  rw [mk_ba] at he
  have hM := fun w => meta_Take.calls 20 v _ _ _ _ _ w he
  generalize metaE v.data.toList = E at *
  have HM := Lib.hid hM
  have hu := Try.underlying145
  clear hM he
  go_enter Try.func96, Try.ntmps96
  go_wp2_with (fail)
  refine (HM.out _).mono ?_
  rintro e w1 ⟨rfl, hb⟩
  have h1 := upd_of_below hb
  go_wp2
  go_ret
  exact ⟨rfl, by first | exact h1 | exact h1.alloc _⟩
theorem clo_chg (v : ByteArray) (w : World) :
    Calls Try.prog 98 #[.string v] w fun e w' => e = .returned (.bool (chgE v.data.toList == 0)) ∧ Upd (fun _ => False) w w' := by
  obtain ⟨x, y, z, t, he⟩ := chg_eq 20 (by omega) v.data.toList
  rw [mk_ba] at he
  have hM := fun w => meta_TakeChange.calls 20 v _ _ _ _ _ w he
  generalize chgE v.data.toList = E at *
  have HM := Lib.hid hM
  have hu := Try.underlying151
  have hu2 := Try.underlying149
  clear hM he
  go_enter Try.func98, Try.ntmps98
  go_wp2_with (fail)
  refine (HM.out _).mono ?_
  rintro e w1 ⟨rfl, hb⟩
  have h1 := upd_of_below hb
  go_wp2
  go_ret
  exact ⟨rfl, by first | exact h1 | exact h1.alloc _⟩
theorem clo_block (v : ByteArray) (w : World) (hv : v.size ≤ 1000000000) :
    Calls Try.prog 100 #[.string v] w fun e w' => e = .returned (.bool (Blk.check v.data.toList == 0)) ∧ Upd (fun _ => False) w w' := by
  have hM := fun w => block_Check v.data.toList w (by rw [← Lib.size_eq]; exact hv)
  rw [mk_ba] at hM
  generalize Blk.check v.data.toList = E at *
  have HM := Lib.hid hM
  clear hM
  go_enter Try.func100, Try.ntmps100
  go_wp2_with (fail)
  refine (HM.out _).mono ?_
  rintro e w1 ⟨rfl, rfl⟩
  go_wp2
  go_ret
  exact ⟨rfl, Upd.refl _ _⟩
theorem clo_patch (v : ByteArray) (w : World) (hv : v.size ≤ 1000000000) :
    Calls Try.prog 102 #[.string v] w fun e w' => e = .returned (.bool ((takeR v.data.toList).2 == 0)) ∧ Upd (fun _ => False) w w' := by
  have hM := fun w => block_TakeR v.data.toList w (by rw [← Lib.size_eq]; exact hv)
  rw [mk_ba] at hM
  generalize takeR v.data.toList = E at *
  obtain ⟨p, c⟩ := E
  have HM := Lib.hid hM
  have hu := Try.underlying156
  clear hM
  go_enter Try.func102, Try.ntmps102
  go_wp2_with (fail)
  refine (HM.out _).mono ?_
  rintro e w1 ⟨rfl, h1⟩
  unfold ptV
  go_wp2
  go_ret
  exact ⟨rfl, by first | exact h1 | exact h1.alloc _⟩
theorem clo_short (v : ByteArray) (w : World) :
    Calls Try.prog 104 #[.string v] w fun e w' => e = .returned (.bool (decide (v.size ≤ 64))) ∧ Upd (fun _ => False) w w' := by
  have hd : decide ((v.size : Int) ≤ 64) = decide (v.size ≤ 64) := by rw [Bool.eq_iff_iff]; simp; omega
  by_cases h : v.size ≤ 64
  · have h1 : decide ((v.size : Int) ≤ 64) = true := decide_eq_true (by omega)
    rw [← hd, h1]
    go_enter Try.func104, Try.ntmps104
    go_wp2
    go_ret
    exact ⟨rfl, Upd.refl _ _⟩
  · have h1 : decide ((v.size : Int) ≤ 64) = false := decide_eq_false (by omega)
    rw [← hd, h1]
    go_enter Try.func104, Try.ntmps104
    go_wp2
    go_ret
    exact ⟨rfl, Upd.refl _ _⟩
theorem clo_none (v : ByteArray) (w : World) :
    Calls Try.prog 105 #[.string v] w fun e w' => e = .returned (.bool false) ∧ Upd (fun _ => False) w w' := by
  go_enter Try.func105, Try.ntmps105
  go_wp2
  go_ret
  exact ⟨rfl, Upd.refl _ _⟩

def fnV (k : ByteArray) : Value := if bt k 0 = 109 then .func (.func 96) #[] #[] else if bt k 0 = 100 then .func (.func 100) #[] #[] else .func (.func 104) #[] #[]
def fnP (k : ByteArray) : Value := if bt k 0 = 109 then .func (.func 98) #[] #[] else if bt k 0 = 100 then .func (.func 102) #[] #[] else .func (.func 105) #[] #[]
set_option maxRecDepth 100000 in
theorem rules_walk (k : ByteArray) (hk : 0 < k.size) (w : World) :
    Calls Try.prog 85 #[.string k] w fun e w' => e = .returned (.agg #[fnV k, fnP k]) ∧ Upd (fun _ => False) w w' := by
  have hb := bt_at k 0 hk
  have hu := Try.underlying134
  have h0 : decide ((0 : Int) < (k.size : Int)) = true := decide_eq_true (by omega)
  have h1 : decide (0 < k.size) = true := decide_eq_true hk
  unfold fnV fnP
  have hb' : ((k[0]'hk).toNat : Int) = bt k 0 := hb
  generalize bt k 0 = B at *
  clear hb
  by_cases c1 : B = 109
  · subst c1
    have e1 : ((109 : Int) == 109) = true := rfl
    go_enter Try.func85, Try.ntmps85
    go_wp2
    refine bodyPost_ret (v := .agg #[.func (.func 96) #[] #[], .func (.func 98) #[] #[]]) ?_ rfl ⟨rfl, ?_⟩
    · simp [results, Try.results85, go_sem, hu]
    · repeat (refine Upd.setCell ?_ (fun h => by simp at h) _)
      exact (Upd.refl _ _).alloc _
  · by_cases c2 : B = 100
    · subst c2
      have e1 : ((100 : Int) == 109) = false := rfl
      have e2 : ((100 : Int) == 100) = true := rfl
      go_enter Try.func85, Try.ntmps85
      go_wp2
      refine bodyPost_ret (v := .agg #[.func (.func 100) #[] #[], .func (.func 102) #[] #[]]) ?_ rfl ⟨rfl, ?_⟩
      · simp [results, Try.results85, go_sem, hu]
      · repeat (refine Upd.setCell ?_ (fun h => by simp at h) _)
        exact (Upd.refl _ _).alloc _
    · have e1 : (B == 109) = false := by simpa using c1
      have e2 : (B == 100) = false := by simpa using c2
      rw [if_neg c1, if_neg c2, if_neg c1, if_neg c2]
      go_enter Try.func85, Try.ntmps85
      go_wp2
      refine bodyPost_ret (v := .agg #[.func (.func 104) #[] #[], .func (.func 105) #[] #[]]) ?_ rfl ⟨rfl, ?_⟩
      · simp [results, Try.results85, go_sem, hu]
      · repeat (refine Upd.setCell ?_ (fun h => by simp at h) _)
        exact (Upd.refl _ _).alloc _

theorem value_call (k v : ByteArray) (hv : v.size ≤ 1000000000) : ∃ g, (g = 96 ∨ g = 100 ∨ g = 104) ∧ fnV k = .func (.func g) #[] #[] ∧ ∀ w, Calls Try.prog g #[.string v] w fun e w' => e = .returned (.bool (mayV k v)) ∧ Upd (fun _ => False) w w' := by
  unfold fnV mayV
  split
  · exact ⟨_, Or.inl rfl, rfl, clo_meta v⟩
  · split
    · exact ⟨_, Or.inr (Or.inl rfl), rfl, fun w => clo_block v w hv⟩
    · exact ⟨_, Or.inr (Or.inr rfl), rfl, clo_short v⟩
theorem patch_call (k v : ByteArray) (hv : v.size ≤ 1000000000) : ∃ g, (g = 98 ∨ g = 102 ∨ g = 105) ∧ fnP k = .func (.func g) #[] #[] ∧ ∀ w, Calls Try.prog g #[.string v] w fun e w' => e = .returned (.bool (mayP k v)) ∧ Upd (fun _ => False) w w' := by
  unfold fnP mayP
  split
  · exact ⟨_, Or.inl rfl, rfl, clo_chg v⟩
  · split
    · exact ⟨_, Or.inr (Or.inl rfl), rfl, fun w => clo_patch v w hv⟩
    · exact ⟨_, Or.inr (Or.inr rfl), rfl, clo_none v⟩
theorem key_walk (s : ByteArray) (w : World) : Calls Try.prog 84 #[.string s] w fun e w' => e = .returned (.bool (keyB s)) ∧ Upd (fun _ => False) w w' := by
  have h : message_key.f s = some (keyB s) := by
    unfold message_key.f keyB
    have hz : s.toList = [] ↔ s.size = 0 := by rw [Lib.toList_data, Lib.size_eq]; exact List.length_eq_zero_iff.symm
    by_cases h1 : s.size = 0
    · rw [if_pos (hz.2 h1)]
      simp [h1]
    · rw [if_neg (fun e => h1 (hz.1 e))]
      congr 1
      rw [Bool.eq_iff_iff]
      simp only [decide_eq_true_eq]
      omega
  exact (message_key.calls s _ w h).mono fun e w' ⟨he, hd⟩ => ⟨he, upd_of_below hd.below⟩

theorem emptyb (s : ByteArray) : (s.toList == ([] : List UInt8)) = decide (s.size = 0) := by
  rw [Bool.eq_iff_iff]
  simp only [beq_iff_eq, decide_eq_true_eq]
  rw [Lib.toList_data, Lib.size_eq]; exact List.length_eq_zero_iff.symm

set_option maxHeartbeats 4000000 in
set_option maxRecDepth 100000 in
theorem may_walk (op : Int) (k t v : ByteArray) (w : World) (hv : v.size ≤ 1000000000) :
    Calls Try.prog 61 #[.agg #[.int .i64 op, .string k, .string t, .string v]] w fun e w' => e = .returned (.bool (mayB op k t v)) ∧ Upd (fun _ => False) w w' := by
  have hum := Try.underlying59
  have hu := Try.underlying134
  obtain ⟨w0, hw0⟩ : ∃ w0, w0 = w.alloc (.cells #[.int .i64 op, .string k, .string t, .string v] 59) := ⟨_, rfl⟩
  have hB := heap_alloc_new w (.cells #[.int .i64 op, .string k, .string t, .string v] 59)
  have hu0 := (Upd.refl (fun _ => False) w).alloc (.cells #[.int .i64 op, .string k, .string t, .string v] 59)
  have hk := fun w => key_walk k w
  have ht := fun w => key_walk t w
  have HT := Lib.hid ht
  have HK := Lib.hid hk
  clear hk ht
  rw [← hw0] at hB hu0
  have d0 := cell_heap hB 0 (.int .i64 op) rfl
  have d1 := cell_heap hB 1 (.string k) rfl
  have UU := Lib.hid hu0
  have HB := Lib.hid hB
  clear hu0 hB d0 d1
  have HM : Hid (mayB op k t v = if keyB k = false then false else if op = 1 then decide (t.size = 0) && mayV k v else if op = 4 then decide (t.size = 0) && mayP k v
    else if op = 2 then decide (t.size = 0) && decide (v.size = 0) else if op = 3 then decide (v.size = 0) && (keyB t && Op.bytesLess k.toList t.toList) else false) := Lib.hid rfl
  generalize mayB op k t v = M at *
  cases ck : keyB k with
  | false =>
    rw [ck] at HK
    replace HM := Lib.hid (HM.out.trans (if_pos ck))
    go_enter Try.func61, Try.ntmps61
    go_wp2_with (fail)
    refine (HK.out _).mono ?_
    rw [← hw0]
    rintro e w1 ⟨rfl, u1⟩
    go_wp2
    go_ret
    exact ⟨by rw [HM.out]; rfl, UU.out.trans u1 (fun _ _ f => f)⟩
  | true =>
    rw [ck] at HK
    replace HM := Lib.hid (HM.out.trans (if_neg (by rw [ck]; decide)))
    have hkp : 0 < k.size := by
      unfold keyB at ck
      simp only [decide_eq_true_eq] at ck
      exact ck.1
    obtain ⟨g1, hd1, hg1, hc1⟩ := value_call k v hv
    obtain ⟨g2, hd2, hg2, hc2⟩ := patch_call k v hv
    have HR := Lib.hid (fun w => rules_walk k hkp w)
    rw [hg1, hg2] at HR
    have HV := Lib.hid hc1
    have HP := Lib.hid hc2
    have HD1 := Lib.hid hd1
    have HD2 := Lib.hid hd2
    clear hc1 hc2 hg1 hg2 hd1 hd2
    generalize mayV k v = mv at *
    generalize mayP k v = mp at *
    go_enter Try.func61, Try.ntmps61
    go_wp2_with (fail)
    refine (HK.out _).mono ?_
    rw [← hw0]
    rintro e w1 ⟨rfl, u1⟩
    have hB1 := u1.heap HB.out (fun f => f)
    have d1 := cell_heap hB1 1 (.string k) rfl
    go_wp2_with (fail)
    refine (HR.out _).mono ?_
    rintro e w2 ⟨rfl, u2⟩
    have hB3 := heap_alloc_lt (u2.heap hB1 (fun f => f)) (.cells #[.func (.func g1) #[] #[], .func (.func g2) #[] #[]] 134)
    have hr3 := heap_alloc_new w2 (.cells #[.func (.func g1) #[] #[], .func (.func g2) #[] #[]] 134)
    have u3 := ((UU.out.trans u1 (fun _ _ f => f)).trans u2 (fun _ _ f => f)).alloc (.cells #[.func (.func g1) #[] #[], .func (.func g2) #[] #[]] 134)
    obtain ⟨w3, hw3⟩ : ∃ w3, w3 = w2.alloc (.cells #[.func (.func g1) #[] #[], .func (.func g2) #[] #[]] 134) := ⟨_, rfl⟩
    go_upto_region 4 with (fail)
    rw [← hw3] at hr3 hB3 u3 ⊢
    have d0 := cell_heap hB3 0 (.int .i64 op) rfl
    have d1 := cell_heap hB3 1 (.string k) rfl
    have d2 := cell_heap hB3 2 (.string t) rfl
    have d3 := cell_heap hB3 3 (.string v) rfl
    have r0 := cell_heap hr3 0 (.func (.func g1) #[] #[]) rfl
    have r1 := cell_heap hr3 1 (.func (.func g2) #[] #[]) rfl
    have U := Lib.hid u3
    have et := emptyb t
    have ev := emptyb v
    generalize hT : decide (t.size = 0) = bT at *
    generalize hV : decide (v.size = 0) = bV at *
    have HB3 := Lib.hid hB3
    clear hT hV hr3 hB3 u3 hw3 hB1 HB UU hw0 HR HK u1 u2
    by_cases c1 : op = 1
    · subst c1
      replace HM := Lib.hid (HM.out.trans (if_pos rfl))
      have o1 : ((1 : Int) == 1) = true := rfl
      cases bT with
      | false =>
        go_wp2
        go_ret
        exact ⟨by rw [HM.out]; rfl, U.out⟩
      | true =>
        rcases HD1.out with rfl | rfl | rfl
        all_goals
          go_wp2_with (fail)
          refine (HV.out _).mono ?_
          rintro e w4 ⟨rfl, u4⟩
          go_wp2
          go_ret
          exact ⟨by rw [HM.out, Bool.true_and]; rfl, U.out.trans u4 (fun _ _ f => f)⟩
    have o1 : (op == 1) = false := by simpa using c1
    replace HM := Lib.hid (HM.out.trans (if_neg c1))
    clear c1
    by_cases c2 : op = 4
    · subst c2
      replace HM := Lib.hid (HM.out.trans (if_pos rfl))
      have o2 : ((4 : Int) == 4) = true := rfl
      cases bT with
      | false =>
        go_wp2
        go_ret
        exact ⟨by rw [HM.out]; rfl, U.out⟩
      | true =>
        rcases HD2.out with rfl | rfl | rfl
        all_goals
          go_wp2_with (fail)
          refine (HP.out _).mono ?_
          rintro e w4 ⟨rfl, u4⟩
          go_wp2
          go_ret
          exact ⟨by rw [HM.out, Bool.true_and]; rfl, U.out.trans u4 (fun _ _ f => f)⟩
    have o2 : (op == 4) = false := by simpa using c2
    replace HM := Lib.hid (HM.out.trans (if_neg c2))
    clear c2
    by_cases c3 : op = 2
    · subst c3
      replace HM := Lib.hid (HM.out.trans (if_pos rfl))
      have o3 : ((2 : Int) == 2) = true := rfl
      cases bT with
      | false =>
        go_wp2
        go_ret
        exact ⟨by rw [HM.out]; rfl, U.out⟩
      | true =>
        cases bV with
        | false =>
          go_wp2
          go_ret
          exact ⟨by rw [HM.out]; rfl, U.out⟩
        | true =>
          go_wp2
          go_ret
          exact ⟨by rw [HM.out]; rfl, U.out⟩
    have o3 : (op == 2) = false := by simpa using c3
    replace HM := Lib.hid (HM.out.trans (if_neg c3))
    clear c3
    by_cases c4 : op = 3
    · subst c4
      replace HM := Lib.hid (HM.out.trans (if_pos rfl))
      have o4 : ((3 : Int) == 3) = true := rfl
      cases bV with
      | false =>
        go_wp2
        go_ret
        exact ⟨by rw [HM.out]; rfl, U.out⟩
      | true =>
        go_wp2_with (fail)
        refine (HT.out _).mono ?_
        rintro e w4 ⟨rfl, u4⟩
        have hB4 := u4.heap HB3.out (fun f => f)
        have d1 := cell_heap hB4 1 (.string k) rfl
        have d2 := cell_heap hB4 2 (.string t) rfl
        have u5 := Lib.hid (U.out.trans u4 (fun _ _ f => f))
        clear u4 hB4
        cases kt : keyB t with
        | false =>
          go_wp2
          go_ret
          exact ⟨by rw [HM.out, kt]; rfl, u5.out⟩
        | true =>
          go_wp2
          go_ret
          exact ⟨by rw [HM.out, kt]; rfl, u5.out⟩
    have o4 : (op == 3) = false := by simpa using c4
    replace HM := Lib.hid (HM.out.trans (if_neg c4))
    go_wp2
    go_ret
    exact ⟨by rw [HM.out]; rfl, U.out⟩

def message_may.f (op : Int) (k t v : ByteArray) : Option Bool := if v.size ≤ 1000000000 then some (mayB op k t v) else none
theorem message_may.calls (a0_0 : Int) (a0_1 a0_2 a0_3 : ByteArray) (r : Bool) (w : World) (h : message_may.f a0_0 a0_1 a0_2 a0_3 = some r) :
    Calls Try.prog 61 #[.agg #[.int .i64 a0_0, .string a0_1, .string a0_2, .string a0_3]] w fun e w' => e = .returned (.bool r) ∧ Below w.heap.size w w' := by
  unfold message_may.f at h
  split at h
  · rename_i hv
    obtain rfl := Option.some.inj h
    exact (may_walk a0_0 a0_1 a0_2 a0_3 w hv).mono fun e w' ⟨he, hu⟩ => ⟨he, hu.below (Nat.le_refl _) (fun _ f => f.elim)⟩
  · cases h
end Go.Proofs.Ytnoimnijoklkdaa.Px
