/- AllocParts: the walk. -/
import Derived.Test.YtieohjibccjliaaAlH
set_option linter.unusedVariables false
set_option linter.unusedSimpArgs false
namespace Go.Proofs.Ytieohjibccjliaa
open Go.RowKit Go.Shelf Go.Maps
set_option maxRecDepth 100000

set_option maxHeartbeats 4000000 in
theorem walk_AllocParts (w : World) (f8 m : Nat) (hf8 : f8 < 256) (hm : m < 65536) {ad : Option Addr} {cp : Nat} {l : List AAct} (h : AActsAt w w.heap.size ad l) :
    Calls Try.prog 3 #[.int .u8 (f8 : Int), .int .u16 (m : Int), .slice ad l.length cp] w fun e w' => e = .returned (.bool true) ∧ Upd (fun _ => False) w w' := by
  obtain ⟨F, hF⟩ : ∃ F, F = f8 % 100 := ⟨_, rfl⟩
  have e1 : Int.tmod (f8 : Int) 100 = (F : Int) := by rw [hF]; exact (Int.ofNat_tmod f8 100).symm
  obtain ⟨q, hq⟩ : ∃ q, q = m % 400 := ⟨_, rfl⟩
  have e2 : Int.tmod (m : Int) 400 = (q : Int) := by rw [hq]; exact (Int.ofNat_tmod m 400).symm
  have hF2 : F < 100 := by omega
  have hq2 : q < 400 := by omega
  obtain ⟨M, hM⟩ : ∃ M, M = l.length := ⟨_, rfl⟩
  rw [← hM]
  have HN := Lib.hid (al_New w (F : Int) ((F : Int) + 1 + (q : Int)) (by omega))
  have HM := Lib.hid hM
  have HA := Lib.hid h
  have HWk := Lib.hid (fun w' => awake_ok w')
  have hMl : M ≤ 9223372036854775807 := by rw [hM]; exact h.len
  clear hF hq hM h
  go_enter Try.func3, Try.ntmps3
  go_wp2_with (fail)
  refine HN.out.mono ?_
  rintro e w1 ⟨b, rfl, k1⟩
  have hqn : (F : Int) + 1 + (q : Int) = ((F + 1 + q : Nat) : Int) := by omega
  have hmk := make_counts (F + 1 + q) (by omega)
  rw [← hqn] at hmk
  have hP : PW w (w1.alloc (.cells (cntRow (F + 1 + q) []).toArray 3)) b F (F + 1 + q) w1.heap.size ad l (newA (F : Int) ((F : Int) + 1 + (q : Int))) [] := by
    have hu : Upd (fun _ => False) w1 (w1.alloc (.cells (cntRow (F + 1 + q) []).toArray 3)) := (Upd.refl _ _).alloc _
    exact ⟨k1.later hu, Full.new, hqn, HA.out.upd (k1.later hu).upd (fun _ _ f => f), heap_alloc_new w1 _, SI.nil _⟩
  have HP := Lib.hid hP
  have HG := Lib.hid hqn
  obtain ⟨Z, hZ⟩ : ∃ Z, Z = (cntRow (F + 1 + q) []).toArray := ⟨_, rfl⟩
  rw [← hZ] at hmk HP
  clear k1 hP hqn hZ
  go_wp2
  rw [HG.out]
  have HFN := Lib.hid (show F < F + 1 + q ∧ F + 1 + q ≤ 4096 by omega)
  clear hmk HN
  generalize w1.alloc (.cells Z 3) = W1 at HP ⊢
  generalize w1.heap.size = B0 at HP ⊢
  generalize newA (F : Int) ((F : Int) + 1 + (q : Int)) = s0 at HP
  clear HG e1 e2
  generalize F + 1 + q = N at HP HFN ⊢
  obtain ⟨K, hK⟩ : ∃ K, K = min M 150 := ⟨_, rfl⟩
  have HK := Lib.hid (show K ≤ M ∧ K ≤ 150 by omega)
  have HK2 := Lib.hid (show K = M ∨ K = 150 by omega)
  clear hK
  go_loopg [10, 11] K (fun kx s10 s11 wr => ∃ (i B : Nat) (s : AlS) (pre : List Int), s11 = .int .i64 i ∧ i + kx = K ∧ s10 = .slice (some ⟨B, 0, none⟩) N N ∧ Hid (PW w wr b F N B ad l s pre))
  case atStart => exact ⟨0, B0, s0, [], rfl, by omega, rfl, HP⟩
  case round =>
    obtain ⟨i, B, s, pre, rfl, hik, rfl, HPW⟩ := hrel
    cases gk with
    | zero =>
      obtain rfl : i = K := by omega
      have HB := Lib.hid (awake_ok wr)
      by_cases hcm : i = M
      · have hd : decide ((i : Int) < (M : Int)) = false := decide_eq_false (by omega)
        have hd2 : ¬ (i < M) := by omega
        go_wp2_with (fail)
        refine HB.out.mono ?_
        rintro e w2 ⟨rfl, u2⟩
        go_wp2
        go_ret
        exact ⟨rfl, HPW.out.al.upd.trans u2 (fun _ _ f => f)⟩
      · have h150 : i = 150 := by have := HK2.out; omega
        subst h150
        have hd2 : 150 < M := by have := HK.out; omega
        go_wp2_with (fail)
        refine HB.out.mono ?_
        rintro e w2 ⟨rfl, u2⟩
        go_wp2
        go_ret
        exact ⟨rfl, HPW.out.al.upd.trans u2 (fun _ _ f => f)⟩
    | succ g =>
      have hi1 : i < M := by have := HK.out; omega
      have hi2 : i < 150 := by have := HK.out; omega
      have hi1d : decide ((i : Int) < (M : Int)) = true := decide_eq_true (by omega)
      have hi2d : decide ((i : Int) < 150) = true := decide_eq_true (by omega)
      have hi3 : ((i : Int) < 150) := by omega
      have hil : i < l.length := by have := HM.out; omega
      have hwi : IntKind.i64.wrap ((i : Int) + 1) = (i : Int) + 1 := IntWalk.i64_in _ (by omega)
      obtain ⟨⟨hx1, hx2⟩, ag, ao, rfl, hpb, hc0, hc1⟩ := HPW.out.acts.one i l[i] (List.getElem?_eq_getElem hil)
      generalize l[i] = x at hx1 hx2 hc0 hc1
      obtain ⟨what, n⟩ := x
      dsimp only at hx1 hx2 hc0 hc1
      obtain ⟨v, hv⟩ : ∃ v, v = what % 5 := ⟨_, rfl⟩
      have e5 : Int.tmod (what : Int) 5 = (v : Int) := by rw [hv]; exact (Int.ofNat_tmod what 5).symm
      have hv5 : v < 5 := by omega
      have HI := Lib.hid hx2
      clear hv hx2 hil
      have HA0 := Lib.hid HA.out
      obtain ⟨wo, hwo⟩ : ∃ wo, wo = wr := ⟨_, rfl⟩
      subst hwo
      obtain rfl | rfl | rfl | rfl | rfl : v = 0 ∨ v = 1 ∨ v = 2 ∨ v = 3 ∨ v = 4 := by omega
      · have HC := Lib.hid (al_Alloc HPW.out.al n)
        have HMM := Lib.hid (fun (k : Nat) (y : Int) (hy : (allocA s n).1[k]? = some y) => allocA_in HPW.out.full HPW.out.al.ok HPW.out.si n (List.mem_of_getElem? hy))
        have HPX := Lib.hid (And.intro (HPW.out.full.alloc HPW.out.al.ok n) (And.intro (allocA_n s n) (HPW.out.si.alloc HPW.out.full HPW.out.al.ok n)))
        have HNN := Lib.hid HPW.out.n
        generalize allocA s n = r at HC HMM HPX
        obtain ⟨t, c, s'⟩ := r
        dsimp only at HC HMM HPX
        obtain ⟨T, hT⟩ : ∃ T, T = t.length := ⟨_, rfl⟩
        rw [← hT] at HC
        have HT := Lib.hid hT
        clear hT
        go_wp2_with (fail)
        refine HC.out.mono ?_
        rintro e w2 ⟨va, rfl, ho, hal, hk⟩
        have hTm : T ≤ 9223372036854775807 := by rcases ho.2 with ⟨_, h0⟩ | ⟨_, cp0, _, _, _, _, h1, h2, _⟩ <;> unfold maxLen at * <;> omega
        obtain ⟨ad2, cp2, rfl⟩ := own_form ho
        have HO := Lib.hid ho
        have HP2 := Lib.hid (HPW.out.keeps hk hal HPX.out.1 HPX.out.2.1 HPX.out.2.2 HA0.out)
        clear ho hal hk hc0 hc1
        go_wp2
        go_loopg [14] T (fun kx s14 wq => ∃ k : Nat, s14 = .int .i64 k ∧ k + kx = T ∧ Hid (Upd (fun _ => False) w2 wq))
        case atStart => exact ⟨0, rfl, by omega, Lib.hid (Upd.refl _ _)⟩
        case round =>
          obtain ⟨k, rfl, hkk, HU⟩ := hrel
          cases gk with
          | zero =>
            obtain rfl : k = T := by omega
            have HP3 := Lib.hid (HP2.out.later HU.out)
            have HWH := Lib.hid (whole_ok HP3.out.al F N HFN.out HP3.out.n HP3.out.full)
            go_wp2_with (fail)
            refine HWH.out.mono ?_
            rintro e w9 ⟨rfl, u9⟩
            have HP9 := Lib.hid (HP3.out.later u9)
            clear u9
            go_wp2
            go_roundg g
            case measure => omega
            case rel => exact ⟨i + 1, B, _, _, by rw [Int.natCast_add]; rfl, by omega, rfl, HP9⟩
          | succ g2 =>
            have hkl : k < t.length := by have := HT.out; omega
            have hy := List.getElem?_eq_getElem hkl
            obtain ⟨y0, y1, y2, y3⟩ := HMM.out k _ hy
            obtain ⟨g1, o1, had, c1⟩ : ∃ g1 o1, ad2 = some ⟨g1, o1, none⟩ ∧ wr.cell? ⟨g1, o1 + k, none⟩ = some (.int .i64 t[k]) := by
              have h5 := (IntsAt.of_owns (xs := t) (by rw [← HT.out]; exact HO.out)).1
              obtain ⟨ad', cap', e, _, _, h6⟩ := h5
              obtain ⟨g0, o0, _, e1, e2⟩ := h6 k _ hy
              simp only [Value.slice.injEq] at e
              exact ⟨g0, o0, e.1.trans e1, HU.out.cell e2 (fun f => f)⟩
            subst had
            subst y0
            rw [HNN.out] at y2
            generalize t[k] = y at *
            obtain ⟨Y, rfl⟩ : ∃ Y : Nat, y = (Y : Int) := ⟨y.toNat, by omega⟩
            have hYN : Y < N := by omega
            have cB := HU.out.cell (cell_heap HP2.out.row _ _ (cntRow_get N pre Y hYN)) (fun f => f)
            rw [y3] at cB
            have hYF : ¬ (Y < F) := by omega
            have hYM2 : ¬ (N ≤ Y) := by omega
            have hd1n : decide (Y < F) = false := decide_eq_false hYF
            have hd2n : decide (N ≤ Y) = false := decide_eq_false hYM2
            have hd1 : decide ((Y : Int) < (F : Int)) = false := decide_eq_false (by omega)
            have hd2 : decide ((Y : Int) ≥ (N : Int)) = false := decide_eq_false (by omega)
            have hdk : decide ((k : Int) < (T : Int)) = true := decide_eq_true (by omega)
            have hkL : k < T := by omega
            have hwk : IntKind.i64.wrap ((k : Int) + 1) = (k : Int) + 1 := IntWalk.i64_in _ (by omega)
            clear hy y1 y2 y3 hkl
            go_wp2
            go_roundg g2
            case measure => omega
            case rel => exact ⟨k + 1, by rw [Int.natCast_add]; rfl, by omega, HU⟩
      · have HC := Lib.hid (al_Hold HPW.out.al n HI.out)
        go_wp2_with (fail)
        refine HC.out.mono ?_
        rintro e w2 ⟨rfl, hal, hk⟩
        have HP2 := Lib.hid (HPW.out.keeps hk hal (HPW.out.full.hold HPW.out.al.ok n) (holdA_n s n) (HPW.out.si.hold HPW.out.al.ok n) HA0.out)
        have HWH := Lib.hid (whole_ok HP2.out.al F N HFN.out HP2.out.n HP2.out.full)
        clear hal hk hc0 hc1
        go_wp2_with (fail)
        refine HWH.out.mono ?_
        rintro e w9 ⟨rfl, u9⟩
        have HP9 := Lib.hid (HP2.out.later u9)
        clear u9
        go_wp2
        go_roundg g
        case measure => omega
        case rel => exact ⟨i + 1, B, _, _, by rw [Int.natCast_add]; rfl, by omega, rfl, HP9⟩
      · have HC := Lib.hid (al_Drop HPW.out.al n HI.out)
        go_wp2_with (fail)
        refine HC.out.mono ?_
        rintro e w2 ⟨rfl, hal, hk⟩
        have HP2 := Lib.hid (HPW.out.keeps hk hal (HPW.out.full.drop HPW.out.al.ok n) (dropA_n s n) (HPW.out.si.drop HPW.out.al.ok n) HA0.out)
        have HWH := Lib.hid (whole_ok HP2.out.al F N HFN.out HP2.out.n HP2.out.full)
        clear hal hk hc0 hc1
        go_wp2_with (fail)
        refine HWH.out.mono ?_
        rintro e w9 ⟨rfl, u9⟩
        have HP9 := Lib.hid (HP2.out.later u9)
        clear u9
        go_wp2
        go_roundg g
        case measure => omega
        case rel => exact ⟨i + 1, B, _, _, by rw [Int.natCast_add]; rfl, by omega, rfl, HP9⟩
      · have HC := Lib.hid (al_Commit HPW.out.al)
        have HFU := Lib.hid (HPW.out.full.commit HPW.out.al.ok)
        have HNN := Lib.hid (show (commitA s).n = (N : Int) from HPW.out.n)
        have HSI := Lib.hid (SI.commit s)
        have hwl : (commitA s).wait.length = 0 := rfl
        generalize commitA s = s2 at HC HFU HNN HSI hwl
        obtain ⟨NL, hNL⟩ : ∃ NL, NL = (listA s2).length := ⟨_, rfl⟩
        have HNL := Lib.hid hNL
        clear hNL
        go_wp2_with (fail)
        refine HC.out.mono ?_
        rintro e w2 ⟨rfl, hal, _⟩
        have HL := Lib.hid (al_List hal)
        have HAL := Lib.hid hal
        clear hal hc0 hc1
        go_wp2_with (fail)
        refine HL.out.mono ?_
        rintro e w3 ⟨vl, rfl, ho, hu⟩
        obtain ⟨adl, cpl, hvl, _, _, hrd⟩ := ho.rd
        rw [← HNL.out] at hvl
        subst hvl
        have HRD := Lib.hid hrd
        have HAL3 := Lib.hid (HAL.out.later hu)
        have hmk := make_counts N (by have := HFN.out; omega)
        have hB := heap_alloc_new w3 (.cells (cntRow N []).toArray 3)
        have HUA := Lib.hid ((Upd.refl (fun _ => False) w3).alloc (.cells (cntRow N []).toArray 3))
        have hsz : (w3.alloc (.cells (cntRow N []).toArray 3)).heap.size = w3.heap.size + 1 := by simp
        have HSZ := Lib.hid hsz
        have hN4 : NL ≤ 4096 := by have := HAL3.out.ok.lens.1; rw [HNL.out]; unfold listA; rw [List.length_map]; exact this
        clear ho hu hrd hsz
        go_wp2
        generalize (w3.alloc (.cells (cntRow N []).toArray 3)) = w4 at hB HUA HSZ ⊢
        have HB := Lib.hid hB
        clear hB hmk
        go_loopg [16] NL (fun kx s16 wq => ∃ k : Nat, s16 = .int .i64 k ∧ k + kx = NL ∧ Hid (Upd (fun j => j = w3.heap.size) w4 wq) ∧ Hid (wq.heap[w3.heap.size]? = some (.cells (cntRow N (flatC (s2.ch.take k))).toArray 3 (0, 0))))
        case atStart => exact ⟨0, rfl, by omega, Lib.hid (Upd.refl _ _), HB⟩
        case round =>
          obtain ⟨k, rfl, hkk, HU, HR⟩ := hrel
          have HU3 := Lib.hid (show Upd (fun _ => False) w3 wr from HUA.out.trans HU.out (fun j hj e => by omega))
          have HAL4 := Lib.hid (HAL3.out.later HU3.out)
          cases gk with
          | zero =>
            obtain rfl : k = NL := by omega
            have hlen : flatC (s2.ch.take k) = flatC s2.ch := by rw [List.take_of_length_le]; have := HNL.out; unfold listA at this; rw [List.length_map] at this; omega
            have HWT := Lib.hid (al_Waiting HAL4.out)
            rw [hwl] at HWT
            rw [hlen] at HR
            have HP2 := Lib.hid (show PW w wr b F N w3.heap.size (some ⟨ag, ao, none⟩) l s2 (flatC s2.ch) from ⟨HAL4.out, HFU.out, HNN.out, HA0.out.upd HAL4.out.upd (fun _ _ f => f), HR.out, HSI.out⟩)
            have HWH := Lib.hid (whole_ok HP2.out.al F N HFN.out HP2.out.n HP2.out.full)
            clear hlen
            go_wp2_with (fail)
            refine HWT.out.mono ?_
            rintro e w8 ⟨rfl, rfl⟩
            go_wp2_with (fail)
            refine HWH.out.mono ?_
            rintro e w9 ⟨rfl, u9⟩
            have HP9 := Lib.hid (HP2.out.later u9)
            clear u9
            go_wp2
            go_roundg g
            case measure => omega
            case rel => exact ⟨i + 1, w3.heap.size, _, _, by rw [Int.natCast_add]; rfl, by omega, rfl, HP9⟩
          | succ g2 =>
            have hkl : k < s2.ch.length := by have := HNL.out; unfold listA at this; rw [List.length_map] at this; omega
            have hx : s2.ch[k]? = some s2.ch[k] := List.getElem?_eq_getElem hkl
            have hok := HAL4.out.ok.ch _ (List.getElem_mem hkl)
            have hlx : (listA s2)[k]? = some (s2.ch[k].1, s2.ch[k].2.2.1, s2.ch[k].2.1.tail) := by unfold listA; rw [List.getElem?_map, hx]; rfl
            obtain ⟨g0, o0, u, rr, rfl, dc0, _, _, _⟩ := HRD.out k _ hlx
            have dc0 := HU3.out.cell dc0 (fun f => f)
            have hch : chainA s2 s2.ch[k].1 = s2.ch[k].2.1 := by unfold chainA; rw [HAL4.out.ok.ksc.get (List.getElem_mem hkl)]
            have HCC := Lib.hid (al_Chain HAL4.out s2.ch[k].1 (by have := hok.1; have h9 := HNN.out; have := HFN.out; unfold inI; omega))
            have htk := flatC_take s2.ch k _ hx
            have hpc := fun j y (hy : s2.ch[k].2.1[j]? = some y) => pre_count hx hy (HFU.out.count_le y)
            have hin := fun j y (hy : s2.ch[k].2.1[j]? = some y) => HFU.out.of_chain (List.getElem_mem hkl) (List.mem_of_getElem? hy)
            rw [hch] at HCC
            generalize s2.ch[k] = xc at *
            obtain ⟨p, lc, q, sr⟩ := xc
            dsimp only at dc0 htk hpc hin hok HCC
            have HTK := Lib.hid htk
            have HPC := Lib.hid hpc
            have HIN := Lib.hid hin
            have HOK := Lib.hid hok
            obtain ⟨L, hL⟩ : ∃ L, L = lc.length := ⟨_, rfl⟩
            have hL4 : L ≤ 4096 := by rw [hL]; exact hok.2.2.2.2
            have HL5 := Lib.hid hL
            have hdk : decide ((k : Int) < (NL : Int)) = true := decide_eq_true (by omega)
            have hkL : k < NL := by omega
            have hwk : IntKind.i64.wrap ((k : Int) + 1) = (k : Int) + 1 := IntWalk.i64_in _ (by omega)
            clear hx hlx htk hpc hin hok hkl hch hL
            go_wp2_with (fail)
            refine HCC.out.mono ?_
            rintro e w5 ⟨vc, rfl, hoc, huc⟩
            obtain ⟨r5, hr5r, hr5l, hr5b⟩ := IntRow.of_owns hoc (fun e => by have := HOK.out.2.1; rw [e] at this; cases this)
            obtain ⟨o5, c5, cur5, rfl, hrow5, hcap5, hcm5, hget5⟩ := id hr5r
            have hBl := lt_of_heap HR.out
            have HNB := Lib.hid (show r5 ≠ w3.heap.size by omega)
            have HROW := Lib.hid (And.intro hrow5 hget5)
            have HB5 := Lib.hid (huc.heap HR.out (fun f => f))
            have HS5 := Lib.hid huc
            rw [← HL5.out] at hcap5 ⊢
            clear hoc huc hr5r hrow5 hget5 hr5b
            obtain ⟨wm, hwm⟩ : ∃ wm, wm = wr := ⟨_, rfl⟩
            subst hwm
            obtain ⟨pre2, hpre⟩ : ∃ pre2, pre2 = flatC (s2.ch.take k) := ⟨_, rfl⟩
            have HPRE := Lib.hid hpre
            rw [← hpre] at HB5 HPC
            clear hpre
            go_wp2
            go_loopg [18] L (fun kx s18 wq => ∃ j : Nat, s18 = .int .i64 j ∧ j + kx = L ∧ Hid (Upd (fun j => j = w3.heap.size) w5 wq) ∧ Hid (wq.heap[w3.heap.size]? = some (.cells (cntRow N (pre2 ++ lc.take j)).toArray 3 (0, 0))))
            case atStart => exact ⟨0, rfl, by omega, Lib.hid (Upd.refl _ _), by simpa using HB5⟩
            case round =>
              obtain ⟨j, rfl, hjj, HU6, HR6⟩ := hrel
              cases gk with
              | zero =>
                obtain rfl : j = L := by omega
                go_wp2
                go_roundg g2
                case measure => omega
                case rel =>
                  have ht : lc.take j = lc := List.take_of_length_le (by have := HL5.out; omega)
                  rw [ht] at HR6
                  have h9 := HTK.out
                  rw [← HPRE.out] at h9
                  refine ⟨k + 1, by rw [Int.natCast_add]; rfl, by omega, Lib.hid ?_, by rw [h9]; exact HR6⟩
                  exact (HU.out.trans HS5.out (fun _ _ f => f.elim)).trans HU6.out (fun _ _ e => e)
              | succ g3 =>
                have hjl : j < lc.length := by have := HL5.out; omega
                have hy : lc[j]? = some lc[j] := List.getElem?_eq_getElem hjl
                obtain ⟨_, _, y3, y4⟩ := HIN.out j _ hy
                have y5 := HPC.out j _ hy
                have cy := cell_heap (HU6.out.heap HROW.out.1 HNB.out) _ _ (HROW.out.2 j _ hy)
                have hstep : lc.take (j + 1) = lc.take j ++ [lc[j]] := List.take_succ_eq_append_getElem hjl
                rw [HNN.out] at y4
                generalize lc[j] = y at *
                obtain ⟨Y, rfl⟩ : ∃ Y : Nat, y = (Y : Int) := ⟨y.toNat, by omega⟩
                have hYN : Y < N := by omega
                have cB := cell_heap HR6.out _ _ (cntRow_get N (pre2 ++ lc.take j) Y hYN)
                have fB := free_heap HR6.out Y
                rw [y5] at cB
                have hY0 : ¬ ((Y : Int) < 0) := by omega
                have hYM2 : ¬ (N ≤ Y) := by omega
                have hd2n : decide (N ≤ Y) = false := decide_eq_false hYM2
                have hd2 : decide ((Y : Int) ≥ (N : Int)) = false := decide_eq_false (by omega)
                have hdj : decide ((j : Int) < (L : Int)) = true := decide_eq_true (by omega)
                have hjL : j < L := by omega
                have hwj : IntKind.i64.wrap ((j : Int) + 1) = (j : Int) + 1 := IntWalk.i64_in _ (by omega)
                have HST := Lib.hid hstep
                have HY5 := Lib.hid y5
                clear hy y3 y4 y5 hstep hjl
                go_wp2
                go_roundg g3
                case measure => omega
                case rel =>
                  refine ⟨j + 1, by rw [Int.natCast_add]; rfl, by omega, Lib.hid (HU6.out.trans (upd_cell wr w3.heap.size Y _) (fun _ _ e => e)), Lib.hid ?_⟩
                  rw [heap_setCell_eq HR6.out, HST.out, ← List.append_assoc, cntRow_step N _ Y hYN _ (by rw [HY5.out]; rfl)]
      · have HP2 := HPW
        have HWH := Lib.hid (whole_ok HP2.out.al F N HFN.out HP2.out.n HP2.out.full)
        go_wp2_with (fail)
        refine HWH.out.mono ?_
        rintro e w9 ⟨rfl, u9⟩
        have HP9 := Lib.hid (HP2.out.later u9)
        clear u9
        go_wp2
        go_roundg g
        case measure => omega
        case rel => exact ⟨i + 1, B, _, _, by rw [Int.natCast_add]; rfl, by omega, rfl, HP9⟩

end Go.Proofs.Ytieohjibccjliaa
