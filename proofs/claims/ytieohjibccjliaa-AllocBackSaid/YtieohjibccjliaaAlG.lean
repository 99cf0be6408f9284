/- Rows of counts; whole. -/
import Derived.Test.YtieohjibccjliaaAlE
import Derived.Test.YtieohjibccjliaaAlF
set_option linter.unusedVariables false
set_option linter.unusedSimpArgs false
namespace Go.Proofs.Ytieohjibccjliaa
open Go.RowKit Go.Shelf Go.Maps
set_option maxRecDepth 100000

theorem run_make_rowI {P : Program} (t e : TypeId) (i : TypeInfo) (z : Value) (ht : P.underlying t = some (.slice e)) (hi : P.info? e = some i) (hz : i.zero = some z)
    (kl kc : IntKind) (n c : Nat) (hnc : n ≤ c) (hbytes : i.bytes * c ≤ 281474976710656) (h63 : c ≤ 9223372036854775807) (w : World) :
    (Instr.makeSlice t (.int kl (n : Int)) (.int kc (c : Int))).run P w = .ok (.slice (some ⟨w.heap.size, 0, none⟩) n c) (w.alloc (.cells (madeCells z.cells (c * i.size)) e)) := by
  have hb : (i.bytes : Int) * (c : Int) ≤ 281474976710656 := by
    have h : ((i.bytes * c : Nat) : Int) ≤ 281474976710656 := by omega
    rwa [Int.natCast_mul] at h
  have hr := run_make (P := P) w t e i z ht hi hz kl kc n c (by omega) (by omega) hb (by omega)
  simp only [Int.toNat_natCast] at hr
  exact hr
/-- A row that counts, for each sector, how often it stands in a list. -/
def cntRow (n : Nat) (pre : List Int) : List Value := (List.range n).map fun (j : Nat) => Value.int .i64 ((pre.count (j : Int) : Nat) : Int)
theorem make_counts (n : Nat) (hn : n ≤ 1000000) (w : World) : (Instr.makeSlice 26 (.int .i64 (n : Int)) (.int .i64 (n : Int))).run Try.prog w = .ok (.slice (some ⟨w.heap.size, 0, none⟩) n n) (w.alloc (.cells (cntRow n []).toArray 3)) := by
  obtain ⟨i0, hi, hq0, hq1, hq2⟩ := info_parts Try.infoI
  have := run_make_rowI (P := Try.prog) 26 3 i0 _ Try.underlying26 hi hq0 .i64 .i64 n n (Nat.le_refl _) (by rw [hq2]; omega) (by omega) w
  rw [this]
  have e : madeCells (Value.int .i64 0).cells (n * i0.size) = (cntRow n []).toArray := by
    rw [hq1, Nat.mul_one]
    apply Array.ext
    · simp [madeCells, cntRow]
    · intro j h1 h2
      simp [madeCells, cntRow, Value.cells, Nat.mod_one]
  rw [e]
theorem cntRow_len (n : Nat) (pre : List Int) : (cntRow n pre).length = n := by unfold cntRow; simp
theorem cntRow_get (n : Nat) (pre : List Int) (j : Nat) (hj : j < n) : (cntRow n pre).toArray[j]? = some (.int .i64 ((pre.count (j : Int) : Nat) : Int)) := by unfold cntRow; simp [hj]
theorem cntRow_step (n : Nat) (pre : List Int) (j : Nat) (hj : j < n) (c : Int) (hc : c = ((pre.count (j : Int) : Nat) : Int) + 1) : (cntRow n pre).toArray.setIfInBounds j (.int .i64 c) = (cntRow n (pre ++ [(j : Int)])).toArray := by
  apply Array.ext
  · simp [cntRow]
  · intro i h1 h2
    simp [cntRow] at h2
    by_cases e : j = i
    · subst e
      simp [cntRow, hc, List.count_append]
    · rw [Array.getElem_setIfInBounds_ne (by simpa [cntRow] using h2) e]
      have : [(j : Int)].count (i : Int) = 0 := List.count_eq_zero_of_not_mem (by simp; omega)
      simp [cntRow, List.count_append, this]
theorem Full.count_le {f : Int} {s : AlS} (F : Full f s) (y : Int) : (flatC s.ch).count y ≤ 1 := by
  have := F y
  split at this <;> omega
theorem pre_count {ch : List (Int × Ch)} {i : Nat} {x : Int × Ch} (hx : ch[i]? = some x) {k : Nat} {y : Int} (hy : x.2.1[k]? = some y) (h1 : (flatC ch).count y ≤ 1) : (flatC (ch.take i) ++ x.2.1.take k).count y = 0 := by
  have hil := (List.getElem?_eq_some_iff.1 hx).1
  have e1 : flatC ch = flatC (ch.take i) ++ (x.2.1 ++ flatC (ch.drop (i + 1))) := by
    conv => lhs; rw [← List.take_append_drop i ch]
    unfold flatC
    rw [List.flatMap_append, List.drop_eq_getElem_cons hil, List.flatMap_cons, (List.getElem?_eq_some_iff.1 hx).2]
  have hkl := (List.getElem?_eq_some_iff.1 hy).1
  have e2 : x.2.1 = x.2.1.take k ++ (y :: x.2.1.drop (k + 1)) := by
    conv => lhs; rw [← List.take_append_drop k x.2.1]
    rw [List.drop_eq_getElem_cons hkl, (List.getElem?_eq_some_iff.1 hy).2]
  rw [e1, List.count_append, List.count_append] at h1
  rw [e2, List.count_append, List.count_cons] at h1
  simp only [beq_self_eq_true, if_true] at h1
  rw [List.count_append]
  omega
theorem flatC_take (ch : List (Int × Ch)) (i : Nat) (x : Int × Ch) (hx : ch[i]? = some x) : flatC (ch.take (i + 1)) = flatC (ch.take i) ++ x.2.1 := by
  have hil := (List.getElem?_eq_some_iff.1 hx).1
  rw [List.take_succ_eq_append_getElem hil, (List.getElem?_eq_some_iff.1 hx).2]
  unfold flatC
  rw [List.flatMap_append, List.flatMap_cons, List.flatMap_nil, List.append_nil]
theorem head_tail {c : List Int} {p : Int} (h : c.head? = some p) : p :: c.tail = c := by
  cases c with
  | nil => cases h
  | cons x r => simp only [List.head?_cons, Option.some.injEq] at h; rw [h]; rfl
set_option maxHeartbeats 2000000 in
theorem whole_ok {w0 w : World} {b : Nat} {s : AlS} (H : Al w0 w b s) (F : Nat) (M : Nat) (hFM : F < M ∧ M ≤ 4096) (hn : s.n = (M : Int)) (hfull : Full (F : Int) s) :
    Calls Try.prog 16 #[.pointer (some ⟨b, 0, none⟩), .int .i64 (F : Int), .int .i64 (M : Int)] w fun e w' => e = .returned (.bool true) ∧ Upd (fun _ => False) w w' := by
  have HL := Lib.hid (al_List H)
  have HH := Lib.hid H
  have hmk := make_counts M (by omega)
  have hcnt := hfull.counts H.ok (by omega)
  have HFULL := Lib.hid hfull
  have HCN := Lib.hid hcnt
  have HN := Lib.hid hn
  obtain ⟨N, hN⟩ : ∃ N, N = (listA s).length := ⟨_, rfl⟩
  have hN4 : N ≤ 4096 := by have := H.ok.lens.1; rw [hN]; unfold listA; rw [List.length_map]; exact this
  have HNN := Lib.hid hN
  have hFM1 := hFM.1
  have hFM2 := hFM.2
  have HCH := Lib.hid H.ok.ch
  have HFL : Hid ((flatC s.ch).length ≤ 4096) := Lib.hid (by omega)
  clear hfull hcnt H hn hFM hN
  go_enter Try.func16, Try.ntmps16
  go_wp2_with (go_at_call 13; refine HL.out.mono ?_; rintro e w1 ⟨vl, rfl, ho, hu⟩; obtain ⟨ad, cp, hvl, _, _, hrd⟩ := ho.rd; rw [← HNN.out] at hvl; subst hvl; have HRD := Lib.hid hrd; have HU1 := Lib.hid hu; clear ho hu hrd)
  have hB := heap_alloc_new w1 (.cells (cntRow M []).toArray 3)
  have HU2 := Lib.hid (HU1.out.alloc (.cells (cntRow M []).toArray 3))
  have HUA := Lib.hid ((Upd.refl (fun _ => False) w1).alloc (.cells (cntRow M []).toArray 3))
  generalize (w1.alloc (.cells (cntRow M []).toArray 3)) = w2 at hB HU2 HUA ⊢
  have HB := Lib.hid hB
  clear hB
  go_loopg [9, 10, 11, 12] N (fun kx s9 s10 s11 s12 wr => ∃ i : Nat, s10 = .int .i64 i ∧ i + kx = N ∧ s9 = .int .i64 ((flatC (s.ch.take i)).length : Nat) ∧ Hid (Upd (fun j => j = w1.heap.size) w2 wr) ∧ Hid (wr.heap[w1.heap.size]? = some (.cells (cntRow M (flatC (s.ch.take i))).toArray 3 (0, 0))))
  case atStart => exact ⟨0, rfl, by omega, rfl, Lib.hid (Upd.refl _ _), HB⟩
  case round =>
    obtain ⟨i, rfl, hik, rfl, HU, HR⟩ := hrel
    have HU3 := Lib.hid (show Upd (fun _ => False) w1 wr from HUA.out.trans HU.out (fun j hj e => by omega))
    have HAL := fun (w' : World) (hu : Upd (fun _ => False) wr w') => Lib.hid (HH.out.later ((HU1.out.trans HU3.out (fun _ _ f => f)).trans hu (fun _ _ f => f)))
    cases gk with
    | zero =>
      obtain rfl : i = N := by omega
      have hlen : flatC (s.ch.take i) = flatC s.ch := by rw [List.take_of_length_le]; have := HNN.out; unfold listA at this; rw [List.length_map] at this; omega
      rw [hlen]
      have HF1 := Lib.hid (al_Free (HAL _ (Upd.refl _ _)).out)
      have hc1 := HCN.out.1
      have hc2 := HCN.out.2
      rw [HN.out] at hc1
      generalize hL : (flatC s.ch).length = L at hc1 HFL ⊢
      have HLL := Lib.hid hL
      have HW1 := fun (w' : World) (hu : Upd (fun _ => False) wr w') => Lib.hid (al_Waiting (HAL w' hu).out)
      have HF2 := fun (w' : World) (hu : Upd (fun _ => False) wr w') => Lib.hid (al_Free (HAL w' hu).out)
      generalize cntE s.free = C at *
      generalize s.wait.length = W at *
      have hd1 : decide (C ≥ 0) = true := decide_eq_true hc2
      have hd2 : decide ((W : Int) ≥ 0) = true := decide_eq_true (by omega)
      have hw1 : IntKind.i64.wrap (C + (W : Int)) = C + (W : Int) := IntWalk.i64_in _ (by omega)
      have hw2 : IntKind.i64.wrap (C + (W : Int) + (L : Int)) = C + (W : Int) + (L : Int) := IntWalk.i64_in _ (by omega)
      have hw3 : IntKind.i64.wrap ((M : Int) - (F : Int)) = (M : Int) - (F : Int) := IntWalk.i64_in _ (by omega)
      have hbe : (C + (W : Int) + (L : Int) == (M : Int) - (F : Int)) = true := by simp; omega
      clear hL hlen
      have HC2 := Lib.hid hc2
      have HC1 := Lib.hid hc1
      go_wp2_with (fail)
      refine HF1.out.mono ?_
      rintro e w3 ⟨rfl, u3⟩
      go_wp2_with (fail)
      refine (HW1 w3 u3).out.mono ?_
      rintro e w4 ⟨rfl, rfl⟩
      go_wp2_with (fail)
      refine (HF2 w3 u3).out.mono ?_
      rintro e w4 ⟨rfl, u4⟩
      have U4 := Lib.hid (u3.trans u4 (fun _ _ f => f))
      clear u4
      go_wp2_with (fail)
      refine (HW1 w4 U4.out).out.mono ?_
      rintro e w5 ⟨rfl, rfl⟩
      go_wp2
      go_ret
      exact ⟨by simp, HU1.out.trans (HU3.out.trans U4.out (fun _ _ f => f)) (fun _ _ f => f)⟩
    | succ g =>
      have hil : i < s.ch.length := by have := HNN.out; unfold listA at this; rw [List.length_map] at this; omega
      have hx : s.ch[i]? = some s.ch[i] := List.getElem?_eq_getElem hil
      have hok := HCH.out _ (List.getElem_mem hil)
      have hlx : (listA s)[i]? = some (s.ch[i].1, s.ch[i].2.2.1, s.ch[i].2.1.tail) := by unfold listA; rw [List.getElem?_map, hx]; rfl
      obtain ⟨g0, o0, u, rr, rfl, dc0, dc1, dc2, hrs⟩ := HRD.out i _ hlx
      have HG0 := Lib.hid (World.block_lt_of_cell? _ _ dc0)
      have dc0 := HU3.out.cell dc0 (fun f => f)
      have dc1 := HU3.out.cell dc1 (fun f => f)
      have dc2 := HU3.out.cell dc2 (fun f => f)
      have hrs := hrs.upd HU3.out (fun _ _ f => f)
      have htk := flatC_take s.ch i _ hx
      have hpc := fun k y (hy : s.ch[i].2.1[k]? = some y) => pre_count hx hy (HFULL.out.count_le y)
      have hin := fun k y (hy : s.ch[i].2.1[k]? = some y) => HFULL.out.of_chain (List.getElem_mem hil) (List.mem_of_getElem? hy)
      have hht := head_tail hok.2.1
      have hll : s.ch[i].2.1.length ≤ (flatC s.ch).length := by
        have h1 : flatC (s.ch.take (i + 1)) ++ flatC (s.ch.drop (i + 1)) = flatC s.ch := by
          unfold flatC; rw [← List.flatMap_append, List.take_append_drop]
        rw [← h1, htk, List.length_append, List.length_append]; omega
      generalize s.ch[i] = xc at *
      obtain ⟨p, l, q, sr⟩ := xc
      dsimp only at dc0 dc1 dc2 hrs htk hpc hin hht hok
      have HRS := Lib.hid hrs
      have HRL : Hid (l.tail.length ≤ 100000) := Lib.hid (by have := hok.2.2.2.2; simp; omega)
      obtain ⟨x1, x2, x3, x4, x5⟩ := hok
      have HTK := Lib.hid htk
      have HPC := Lib.hid hpc
      have HIN := Lib.hid hin
      have HHT := Lib.hid hht
      have HLL : Hid (l.length ≤ (flatC s.ch).length) := Lib.hid hll
      have hd : decide ((i : Int) < (N : Int)) = true := decide_eq_true (by omega)
      have hiN : i < N := by omega
      have hw1 : IntKind.i64.wrap ((i : Int) + 1) = (i : Int) + 1 := IntWalk.i64_in _ (by omega)
      clear hrs hx hlx htk hpc hin hht x1 x2 x4 x5 hil hll
      have HQ := Lib.hid x3
      clear x3
      go_wp2
      refine wp_region_held_drew (S := fun w' => Upd (fun _ => False) wr w') (by kernel_rfl) (Upd.refl _ _).drew (fun hS => ?_)
      refine take_first (i := 0) (some 23) (v := ?_) rfl rfl (by kernel_rfl) (by kernel_rfl) (by kernel_rfl) (fun _ _ _ h => h) (Or.inl ⟨by rfl, ?_⟩) hS ?_
      rotate_left
      · intro w' hSw; go_simp; try with_reducible rfl
      try simp only [Act.put, List.setIfInBounds_toArray, List.set_cons_zero, List.set_cons_succ]
      refine take_first (i := 1) (some 24) (v := ?_) rfl rfl (by kernel_rfl) (by kernel_rfl) (by kernel_rfl) (fun _ _ _ h => h) (Or.inl ⟨by rfl, ?_⟩) hS ?_
      rotate_left
      · intro w' hSw; go_simp; try with_reducible rfl
      try simp only [Act.put, List.setIfInBounds_toArray, List.set_cons_zero, List.set_cons_succ]
      refine take_first (i := 2) (some 25) (v := ?_) rfl rfl (by kernel_rfl) (by kernel_rfl) (by kernel_rfl) (fun _ _ _ h => h) (Or.inl ⟨by rfl, ?_⟩) hS ?_
      rotate_left
      · intro w' hSw; go_simp; try with_reducible rfl
      try simp only [Act.put, List.setIfInBounds_toArray, List.set_cons_zero, List.set_cons_succ]
      refine take_first (i := 3) (some 26) (v := ?_) rfl rfl (by kernel_rfl) (by kernel_rfl) (by kernel_rfl) (fun _ _ _ h => h) (Or.inl ⟨by rfl, ?_⟩) hS ?_
      rotate_left
      · intro w' hSw; go_simp; try with_reducible rfl
      try simp only [Act.put, List.setIfInBounds_toArray, List.set_cons_zero, List.set_cons_succ]
      refine take_first (i := 4) (some 27) (v := ?_) rfl rfl (by kernel_rfl) (by kernel_rfl) (by kernel_rfl) (fun _ _ _ h => h) (Or.inl ⟨by rfl, ?_⟩) hS ?_
      rotate_left
      · intro w' hSw; have e0 := hSw.cell dc0 (fun f => f); have e2 := hSw.cell dc2 (fun f => f); go_simp; try with_reducible rfl
      try simp only [Act.put, List.setIfInBounds_toArray, List.set_cons_zero, List.set_cons_succ]
      refine take_first (i := 6) (some 29) (v := ?_) rfl rfl (by kernel_rfl) (by kernel_rfl) (by kernel_rfl) (fun _ _ _ h => h) (Or.inl ⟨by rfl, ?_⟩) hS ?_
      rotate_left
      · intro w' hSw; go_simp; try with_reducible rfl
      try simp only [Act.put, List.setIfInBounds_toArray, List.set_cons_zero, List.set_cons_succ]
      refine take_first (i := 7) (some 30) (v := ?_) rfl rfl (by kernel_rfl) (by kernel_rfl) (by kernel_rfl) (fun _ _ _ h => h) (Or.inl ⟨by rfl, ?_⟩) hS ?_
      rotate_left
      · intro w' hSw; go_simp; try with_reducible rfl
      try simp only [Act.put, List.setIfInBounds_toArray, List.set_cons_zero, List.set_cons_succ]
      refine take_first (i := 8) (some 31) (v := ?_) rfl rfl (by kernel_rfl) (by kernel_rfl) (by kernel_rfl) (fun _ _ _ h => h) (Or.inl ⟨by rfl, ?_⟩) hS ?_
      rotate_left
      · intro w' hSw; go_simp; try with_reducible rfl
      try simp only [Act.put, List.setIfInBounds_toArray, List.set_cons_zero, List.set_cons_succ]
      refine take_first (i := 9) (some 32) (v := ?_) rfl rfl (by kernel_rfl) (by kernel_rfl) (by kernel_rfl) (fun _ _ _ h => h) (Or.inl ⟨by rfl, ?_⟩) hS ?_
      rotate_left
      · intro w' hSw; go_simp; try with_reducible rfl
      try simp only [Act.put, List.setIfInBounds_toArray, List.set_cons_zero, List.set_cons_succ]
      refine take_first (i := 10) (some 33) (v := ?_) rfl rfl (by kernel_rfl) (by kernel_rfl) (by kernel_rfl) (fun _ _ _ h => h) (Or.inl ⟨by rfl, ?_⟩) hS ?_
      rotate_left
      · intro w' hSw; have e0 := hSw.cell dc0 (fun f => f); have e2 := hSw.cell dc2 (fun f => f); go_simp; try with_reducible rfl
      try simp only [Act.put, List.setIfInBounds_toArray, List.set_cons_zero, List.set_cons_succ]
      refine wpAnyH_ready (rs := [5]) (by kernel_rfl) (by simp) ?_
      refine AllReadyH.cons rfl (fun K hK => ?_) AllReadyH.nil
      go_simp
      refine hK.out _ _ ((Upd.refl _ wr).drew.alloc _) (fun _ => ?_)
      clear hS; have hS : Upd (fun _ => False) wr _ := (Upd.refl _ wr).drew.alloc (.cells #[.int .i64 p] 3)
      clear hK K
      try simp only [Act.put, List.setIfInBounds_toArray, List.set_cons_zero, List.set_cons_succ]
      refine wpAnyH_ready (rs := [11]) (by kernel_rfl) (by simp) ?_
      refine AllReadyH.cons rfl (fun K hK => ?_) AllReadyH.nil
      obtain ⟨v5, w5, hr5, ho5, hg5⟩ := app_rest (lo := wr.heap.size) (heap_alloc_new wr.drew (.cells #[.int .i64 p] 3)) (by exact Nat.le_refl _) (HRS.out.upd hS (fun _ _ f => f)) HRL.out
      refine step_append_by (some 34) rfl (by rfl) (.tmp 28) (.tmp 33) 26 rfl (.slice (some ⟨wr.heap.size, 0, none⟩) 1 1) u v5 rfl rfl hr5 ?_
      have u5 : Upd (fun _ => False) wr w5 := hS.grown hg5 (fun j e hlt => by cases e; exact absurd hlt (Nat.lt_irrefl _))
      refine hK.out _ _ u5 (fun _ => ?_)
      clear hS; have hS := u5
      clear hK K
      try simp only [Act.put, List.setIfInBounds_toArray, List.set_cons_zero, List.set_cons_succ]
      refine take_first (i := 12) (some 11) (v := ?_) rfl rfl (by kernel_rfl) (by kernel_rfl) (by kernel_rfl) (fun _ _ _ h => h) (Or.inl ⟨by rfl, ?_⟩) hS ?_
      rotate_left
      · intro w' hSw; go_simp; try with_reducible rfl
      try simp only [Act.put, List.setIfInBounds_toArray, List.set_cons_zero, List.set_cons_succ]
      refine wpAnyH_done (by kernel_rfl) ?_ _
      rw [HHT.out] at ho5
      obtain ⟨r5, hr5r, hr5l, hr5b⟩ := IntRow.of_owns ho5 (by rw [← HHT.out]; simp)
      obtain ⟨o5, c5, cur5, rfl, hrow5, hcap5, hcm5, hget5⟩ := id hr5r
      have hBl := lt_of_heap HR.out
      have HNB := Lib.hid (show r5 ≠ w1.heap.size by omega)
      have HROW := Lib.hid (And.intro hrow5 hget5)
      have HB5 := Lib.hid (hS.heap HR.out (fun f => f))
      have HS5 := Lib.hid hS
      obtain ⟨L, hL⟩ : ∃ L, L = l.length := ⟨_, rfl⟩
      rw [← hL] at hcap5
      have hL4 : L ≤ 4096 := by have := HRL.out; have := HFL.out; have h9 := HTK.out; rw [hL]; have h10 : l.length ≤ (flatC s.ch).length := HLL.out; omega
      have HL5 := Lib.hid hL
      clear hr5 ho5 hg5 u5 hS hr5r hrow5 hget5 hr5b
      rw [← hL]
      clear hL
      go_wp2
      obtain ⟨pre, hpre⟩ : ∃ pre, pre = flatC (s.ch.take i) := ⟨_, rfl⟩
      have HPRE := Lib.hid hpre
      rw [← hpre] at HB5 HPC ⊢
      clear hpre
      go_loopg [9, 12] L (fun kx s9 s12 wq => ∃ k hl : Nat, s12 = .int .i64 k ∧ k + kx = L ∧ s9 = .int .i64 (hl : Nat) ∧ Hid (hl = pre.length + k) ∧ Hid (Upd (fun j => j = w1.heap.size) w5 wq) ∧ Hid (wq.heap[w1.heap.size]? = some (.cells (cntRow M (pre ++ l.take k)).toArray 3 (0, 0))))
      case atStart => exact ⟨0, _, rfl, by omega, rfl, Lib.hid (Nat.add_zero _).symm, Lib.hid (Upd.refl _ _), by simpa using HB5⟩
      case round =>
        obtain ⟨k, hl, rfl, hkk, rfl, HHL, HU6, HR6⟩ := hrel
        have hpl : pre.length ≤ 4096 := by rw [HPRE.out]; have h1 : flatC (s.ch.take i) ++ flatC (s.ch.drop i) = flatC s.ch := by
                                             unfold flatC; rw [← List.flatMap_append, List.take_append_drop]
                                           have h2 := HFL.out; rw [← h1, List.length_append] at h2; omega
        cases gk with
        | zero =>
          obtain rfl : k = L := by omega
          go_wp2
          go_roundg g
          case measure => omega
          case rel =>
            have ht : l.take k = l := List.take_of_length_le (by have := HL5.out; omega)
            rw [ht] at HR6
            have h9 := HTK.out
            rw [← HPRE.out] at h9
            refine ⟨i + 1, by rw [Int.natCast_add]; rfl, by omega, by rw [h9, HHL.out, List.length_append, HL5.out], Lib.hid ?_, by rw [h9]; exact HR6⟩
            exact (HU.out.trans HS5.out (fun _ _ f => f.elim)).trans HU6.out (fun _ _ e => e)
        | succ g2 =>
          have hkl : k < l.length := by have := HL5.out; omega
          have hy : l[k]? = some l[k] := List.getElem?_eq_getElem hkl
          obtain ⟨_, _, y3, y4⟩ := HIN.out k _ hy
          have y5 := HPC.out k _ hy
          have cy := cell_heap (HU6.out.heap HROW.out.1 HNB.out) _ _ (HROW.out.2 k _ hy)
          have hstep : l.take (k + 1) = l.take k ++ [l[k]] := List.take_succ_eq_append_getElem hkl
          rw [HN.out] at y4
          generalize l[k] = y at *
          obtain ⟨Y, rfl⟩ : ∃ Y : Nat, y = (Y : Int) := ⟨y.toNat, by omega⟩
          have hYM : Y < M := by omega
          have cB := cell_heap HR6.out _ _ (cntRow_get M (pre ++ l.take k) Y hYM)
          have fB := free_heap HR6.out Y
          rw [y5] at cB
          have dq := HU6.out.cell (HS5.out.cell dc1 (fun f => f)) (show ¬ (g0 = w1.heap.size) by have := HG0.out; omega)
          have hd1 : decide ((Y : Int) < (F : Int)) = false := decide_eq_false (by omega)
          have hd2 : decide ((Y : Int) ≥ (M : Int)) = false := decide_eq_false (by omega)
          have hYF : ¬ (Y < F) := by omega
          have hYM2 : ¬ (M ≤ Y) := by omega
          have hd1n : decide (Y < F) = false := decide_eq_false hYF
          have hd2n : decide (M ≤ Y) = false := decide_eq_false hYM2
          have hd3 : decide (q < 1) = false := decide_eq_false (by have := HQ.out; omega)
          have hd4 : decide (q > 65535) = false := decide_eq_false (by have := HQ.out; omega)
          have hdk : decide ((k : Int) < (L : Int)) = true := decide_eq_true (by omega)
          have hkL : k < L := by omega
          have hwk : IntKind.i64.wrap ((k : Int) + 1) = (k : Int) + 1 := IntWalk.i64_in _ (by omega)
          have hwh : IntKind.i64.wrap ((hl : Int) + 1) = (hl : Int) + 1 := IntWalk.i64_in _ (by have := HHL.out; omega)
          have HST := Lib.hid hstep
          have HY5 := Lib.hid y5
          clear hy y3 y4 y5 hstep hkl hpl
          go_wp2
          go_roundg g2
          case measure => omega
          case rel =>
            refine ⟨k + 1, hl + 1, by rw [Int.natCast_add]; rfl, by omega, by rw [Int.natCast_add]; rfl, Lib.hid (by have := HHL.out; omega), Lib.hid (HU6.out.trans (upd_cell wr w1.heap.size Y _) (fun _ _ e => e)), Lib.hid ?_⟩
            rw [heap_setCell_eq HR6.out, HST.out, ← List.append_assoc, cntRow_step M _ Y hYM _ (by rw [HY5.out]; rfl)]

end Go.Proofs.Ytieohjibccjliaa
