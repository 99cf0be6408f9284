/- AllocBack: the walk. -/
import Derived.Test.YtieohjibccjliaaAlQ
import Derived.Test.YtieohjibccjliaaAlE
import Derived.Test.YtieohjibccjliaaAlH
set_option linter.unusedVariables false
set_option linter.unusedSimpArgs false
namespace Go.Proofs.Ytieohjibccjliaa
open Go.RowKit Go.Shelf Go.Maps
set_option maxRecDepth 100000

/-- In the acts' loop. -/
structure BW (w wr : World) (b F N : Nat) (ad : Option Addr) (l : List AAct) (s : AlS) : Prop where
  al : Al w wr b s
  full : Full (F : Int) s
  n : s.n = (N : Int)
theorem BW.acts {w wr : World} {b F N : Nat} {ad : Option Addr} {l : List AAct} {s : AlS} (h : BW w wr b F N ad l s) (ha : AActsAt w w.heap.size ad l) : AActsAt wr w.heap.size ad l := ha.upd h.al.upd (fun _ _ f => f)
theorem load_any (w : World) (f n : Int) (hfn : 0 ≤ f ∧ f < n ∧ n ≤ 4096) {v : Value} {l : List Own} (hv : OwnRd w v l) (hl : l.length ≤ 5000) (hI : ∀ x ∈ l, inI x.1 ∧ (∀ y ∈ x.2.2, inI y) ∧ x.2.2.length ≤ 5000) {u : List Int} {c : List (Int × Ch)} (hR : loadL f n l [] [] = some (u, c)) :
    Calls Try.prog 19 #[.int .i64 f, .int .i64 n, v] w fun e w' => ∃ b fr, e = .returned (.tuple #[.pointer (some ⟨b, 0, none⟩), .int .i64 0]) ∧ Al w w' b { n := n, free := fr, ch := c, wait := [] } ∧ SpOk n fr ∧ ∀ k, hasB fr k = (decide (f ≤ k) && decide (k < n) && !decide (k ∈ u)) := by
  have := load_yes w f n hfn hv hl hI
  rw [hR] at this
  exact this
/-- What was committed, loaded of its list, is as it was. -/
theorem load_same {w0 w : World} {b : Nat} {s : AlS} (H : Al w0 w b s) {F N : Nat} (hFN : F < N ∧ N ≤ 4096) (hn : s.n = (N : Int)) (hf : Full (F : Int) s) (hs : ∀ x ∈ s.ch, x.2.2.2 = true) (hw : s.wait = []) {v : Value} (hv : OwnRd w v (listA s)) :
    Calls Try.prog 19 #[.int .i64 (F : Int), .int .i64 (N : Int), v] w fun e w' => ∃ b', e = .returned (.tuple #[.pointer (some ⟨b', 0, none⟩), .int .i64 0]) ∧ Al w w' b' s := by
  have hR := load_back hf H.ok hs
  rw [hn] at hR
  have hl := H.ok.lens.1
  refine (load_any w F N (by omega) hv (by unfold listA; rw [List.length_map]; omega) (fun x hx => ?_) hR).mono ?_
  · obtain ⟨z, hz, rfl⟩ := List.mem_map.1 hx
    have h := H.ok.ch z hz
    refine ⟨by unfold inI; dsimp only; omega, fun y hy => ?_, ?_⟩
    · have := h.2.2.2.1 y (List.mem_of_mem_tail hy)
      unfold inI; omega
    · dsimp only; rw [List.length_tail]; omega
  · rintro e w' ⟨b', fr, rfl, h1, h2, h3⟩
    refine ⟨b', rfl, ?_⟩
    have hfr : fr = s.free := free_back hf H.ok hw (by rw [hn]; exact h2) (by rw [hn]; exact h3)
    have e : s = { n := (N : Int), free := fr, ch := s.ch, wait := [] } := by
      rw [hfr, ← hn, ← hw]
    rw [← e] at h1
    exact h1
theorem quietA {P : Program} {f : FuncId} {args : Array Value} {w : World} {n : Nat} {v : Value} (h : Calls P f args (w.drewN n) fun e w' => e = .returned v ∧ w.drewN n = w') : Calls P f args (w.drewN n) fun e w' => e = .returned v ∧ ∃ m, w' = w.drewN m :=
  h.mono fun _ _ ⟨he, hm⟩ => ⟨he, n, hm.symm⟩
theorem two_rows {w1 w2 : World} {B1 B2 : Nat} {v1 v2 : Value} {lc : List Int} (h1 : w1.ownsRow B1 3 1 v1 lc.length (lc.map (Value.int .i64))) (hu : Upd (fun _ => False) w1 w2) (h2 : w2.ownsRow B2 3 1 v2 lc.length (lc.map (Value.int .i64))) (hne : lc ≠ []) {L : Nat} (hL : L = lc.length) :
    ∃ r1 o1 c1 r2 o2 c2 : Nat, v1 = .slice (some ⟨r1, o1, none⟩) L c1 ∧ v2 = .slice (some ⟨r2, o2, none⟩) L c2 ∧ (L ≤ c1 ∧ L ≤ c2) ∧ ∀ (j : Nat) (y : Int), lc[j]? = some y → w2.cell? ⟨r1, o1 + j, none⟩ = some (.int .i64 y) ∧ w2.cell? ⟨r2, o2 + j, none⟩ = some (.int .i64 y) := by
  subst hL
  obtain ⟨r1, a1, _, _⟩ := IntRow.of_owns h1 hne
  obtain ⟨r2, a2, _, _⟩ := IntRow.of_owns h2 hne
  obtain ⟨o1, c1, k1, e1, b1, d1, _, f1⟩ := a1.upd hu (fun f => f)
  obtain ⟨o2, c2, k2, e2, b2, d2, _, f2⟩ := a2
  exact ⟨r1, o1, c1, r2, o2, c2, e1, e2, ⟨d1, d2⟩, fun j y hj => ⟨cell_heap b1 _ _ (f1 j y hj), cell_heap b2 _ _ (f2 j y hj)⟩⟩
set_option maxHeartbeats 4000000 in
theorem walk_AllocBack (w : World) (f8 m : Nat) (hf8 : f8 < 256) (hm : m < 65536) {ad : Option Addr} {cp : Nat} {l : List AAct} (h : AActsAt w w.heap.size ad l) :
    Calls Try.prog 7 #[.int .u8 (f8 : Int), .int .u16 (m : Int), .slice ad l.length cp] w fun e w' => e = .returned (.bool true) ∧ Upd (fun _ => False) w w' := by
  obtain ⟨F, hF⟩ : ∃ F, F = f8 % 100 := ⟨_, rfl⟩
  have e1 : Int.tmod (f8 : Int) 100 = (F : Int) := by rw [hF]; exact (Int.ofNat_tmod f8 100).symm
  obtain ⟨q, hq⟩ : ∃ q, q = m % 400 := ⟨_, rfl⟩
  have e2 : Int.tmod (m : Int) 400 = (q : Int) := by rw [hq]; exact (Int.ofNat_tmod m 400).symm
  have hF2 : F < 100 := by omega
  have hq2 : q < 400 := by omega
  obtain ⟨M, hM⟩ : ∃ M, M = l.length := ⟨_, rfl⟩
  rw [← hM]
  have HN := Lib.hid (al_New w (F : Int) ((F : Int) + 1 + (q : Int)) (by omega))
  have HM := Lib.hid hM
  have HA := Lib.hid h
  have HWk := Lib.hid (fun w' => awake_ok w')
  have hMl : M ≤ 9223372036854775807 := by rw [hM]; exact h.len
  clear hF hq hM h
  go_enter Try.func7, Try.ntmps7
  go_wp2_with (fail)
  refine HN.out.mono ?_
  rintro e w1 ⟨b, rfl, k1⟩
  have hqn : (F : Int) + 1 + (q : Int) = ((F + 1 + q : Nat) : Int) := by omega
  have HP := Lib.hid (show BW w w1 b F (F + 1 + q) ad l (newA (F : Int) ((F : Int) + 1 + (q : Int))) from ⟨k1, Full.new, hqn⟩)
  have HG := Lib.hid hqn
  have HFN := Lib.hid (show F < F + 1 + q ∧ F + 1 + q ≤ 4096 by omega)
  clear k1 hqn
  go_wp2
  rw [HG.out]
  clear HN
  generalize newA (F : Int) ((F : Int) + 1 + (q : Int)) = s0 at HP
  clear HG e1 e2
  generalize F + 1 + q = N at HP HFN ⊢
  obtain ⟨K, hK⟩ : ∃ K, K = min M 150 := ⟨_, rfl⟩
  have HK := Lib.hid (show K ≤ M ∧ K ≤ 150 by omega)
  have HK2 := Lib.hid (show K = M ∨ K = 150 by omega)
  clear hK
  go_loopg [10] K (fun kx s10 wr => ∃ (i : Nat) (s : AlS), s10 = .int .i64 i ∧ i + kx = K ∧ Hid (BW w wr b F N ad l s))
  case atStart => exact ⟨0, s0, rfl, by omega, HP⟩
  case round =>
    obtain ⟨i, s, rfl, hik, HPW⟩ := hrel
    cases gk with
    | zero =>
      obtain rfl : i = K := by omega
      by_cases hcm : i = M
      · have hd : decide ((i : Int) < (M : Int)) = false := decide_eq_false (by omega)
        have hd2 : ¬ (i < M) := by omega
        have HC := Lib.hid (al_Commit HPW.out.al)
        have HF2 := Lib.hid (HPW.out.full.commit HPW.out.al.ok)
        have HN2 := Lib.hid (show (commitA s).n = (N : Int) from HPW.out.n)
        have HS2 := Lib.hid (commit_sure s)
        have HW2 := Lib.hid (show (commitA s).wait = [] from rfl)
        generalize commitA s = s2 at HC HF2 HN2 HS2 HW2
        obtain ⟨NL, hNL⟩ : ∃ NL, NL = (listA s2).length := ⟨_, rfl⟩
        have HNL := Lib.hid hNL
        clear hNL
        go_wp2_with (fail)
        refine HC.out.mono ?_
        rintro e w2 ⟨rfl, hal, _⟩
        have HL := Lib.hid (al_List hal)
        have HAL := Lib.hid hal
        clear hal
        go_wp2_with (fail)
        refine HL.out.mono ?_
        rintro e w3 ⟨vl, rfl, ho, hu⟩
        have HLD := Lib.hid (load_same (HAL.out.later hu) HFN.out HN2.out HF2.out HS2.out HW2.out ho.rd)
        obtain ⟨adl, cpl, hvl, _, _, hrd⟩ := ho.rd
        rw [← HNL.out] at hvl
        subst hvl
        have HRD := Lib.hid hrd
        have HAL3 := Lib.hid (HAL.out.later hu)
        have hN4 : NL ≤ 4096 := by have := HAL3.out.ok.lens.1; rw [HNL.out]; unfold listA; rw [List.length_map]; exact this
        clear ho hu hrd
        go_wp2_with (fail)
        refine HLD.out.mono ?_
        rintro e w4 ⟨b', rfl, hb4⟩
        have HB4 := Lib.hid hb4
        have HA4 := Lib.hid (HAL3.out.later hb4.upd)
        have HU4 := Lib.hid hb4.upd
        have H5 := Lib.hid (al_Free hb4)
        clear hb4
        obtain ⟨C, hC⟩ : ∃ C, C = cntE s2.free := ⟨_, rfl⟩
        rw [← hC] at H5
        have HCC := Lib.hid hC
        clear hC
        go_wp2_with (fail)
        refine H5.out.mono ?_
        rintro e w5 ⟨rfl, u5⟩
        have H6 := Lib.hid (al_Free (HA4.out.later u5))
        rw [← HCC.out] at H6
        have HB5 := Lib.hid (HB4.out.later u5)
        have HA5 := Lib.hid (HA4.out.later u5)
        have HU5 := Lib.hid (HU4.out.trans u5 (fun _ _ f => f))
        clear u5
        go_wp2_with (fail)
        refine H6.out.mono ?_
        rintro e w6 ⟨rfl, u6⟩
        have HB6 := Lib.hid (HB5.out.later u6)
        have HA6 := Lib.hid (HA5.out.later u6)
        have HU6 := Lib.hid (HU5.out.trans u6 (fun _ _ f => f))
        have H7 := Lib.hid (al_Waiting HB6.out)
        rw [HW2.out] at H7
        rw [show (([] : List (Int × Unit)).length : Nat) = 0 from rfl] at H7
        have H8 := Lib.hid (al_List HB6.out)
        clear u6
        go_wp2_with (fail)
        refine H7.out.mono ?_
        rintro e wz ⟨rfl, rfl⟩
        go_wp2_with (fail)
        refine H8.out.mono ?_
        rintro e w7 ⟨vm, rfl, om, u7⟩
        obtain ⟨adm, cpm, hvm, _⟩ := om.rd
        rw [← HNL.out] at hvm
        subst hvm
        have HB7 := Lib.hid (HB6.out.later u7)
        have HA7 := Lib.hid (HA6.out.later u7)
        have HU7 := Lib.hid (HU6.out.trans u7 (fun _ _ f => f))
        clear u7 om
        go_wp2
        go_loopg [14, 15, 16, 17] NL (fun kx s14 s15 s16 s17 wr => ∃ k : Nat, s14 = .int .i64 k ∧ k + kx = NL ∧ Hid (Upd (fun _ => False) w7 wr))
        case atStart => exact ⟨0, rfl, by omega, Lib.hid (Upd.refl _ _)⟩
        case round =>
          obtain ⟨k, rfl, hkk, HU⟩ := hrel
          cases gk with
          | zero =>
            obtain rfl : k = NL := by omega
            have H9 := Lib.hid (awake_ok wr)
            go_wp2_with (fail)
            refine H9.out.mono ?_
            rintro e w9 ⟨rfl, u9⟩
            go_wp2
            go_ret
            exact ⟨rfl, (HA7.out.later HU.out).upd.trans u9 (fun _ _ f => f)⟩
          | succ g =>
            have hkl : k < s2.ch.length := by have := HNL.out; unfold listA at this; rw [List.length_map] at this; omega
            have hx : s2.ch[k]? = some s2.ch[k] := List.getElem?_eq_getElem hkl
            have hok := HA7.out.ok.ch _ (List.getElem_mem hkl)
            have hlx : (listA s2)[k]? = some (s2.ch[k].1, s2.ch[k].2.2.1, s2.ch[k].2.1.tail) := by unfold listA; rw [List.getElem?_map, hx]; rfl
            obtain ⟨g0, o0, u, rr, rfl, dc0, _, dc2, hrs⟩ := HRD.out k _ hlx
            have hU3 := HU7.out.trans HU.out (fun _ _ f => f)
            have dc0 := hU3.cell dc0 (fun f => f)
            have dc2 := hU3.cell dc2 (fun f => f)
            have hgt := HA7.out.ok.ksc.get (List.getElem_mem hkl)
            have hpi : inI s2.ch[k].1 := by have := hok.1; have h9 := HN2.out; have := HFN.out; unfold inI; omega
            have hch : chainA s2 s2.ch[k].1 = s2.ch[k].2.1 := by unfold chainA; rw [hgt]
            have hrf : refsA s2 s2.ch[k].1 = s2.ch[k].2.2.1 := by unfold refsA; rw [hgt]
            have hsr : sureA s2 s2.ch[k].1 = true := by unfold sureA; rw [hgt]; exact HS2.out _ (List.getElem_mem hkl)
            have HCA := fun (w' : World) (hu : Upd (fun _ => False) wr w') => Lib.hid (al_Chain ((HA7.out.later HU.out).later hu) s2.ch[k].1 hpi)
            have HCB := fun (w' : World) (hu : Upd (fun _ => False) wr w') => Lib.hid (al_Chain ((HB7.out.later HU.out).later hu) s2.ch[k].1 hpi)
            have HRA := fun (w' : World) (hu : Upd (fun _ => False) wr w') => Lib.hid (al_Refs ((HA7.out.later HU.out).later hu) s2.ch[k].1 hpi)
            have HRB := fun (w' : World) (hu : Upd (fun _ => False) wr w') => Lib.hid (al_Refs ((HB7.out.later HU.out).later hu) s2.ch[k].1 hpi)
            have HSB := fun (w' : World) (hu : Upd (fun _ => False) wr w') => Lib.hid (al_Sure ((HB7.out.later HU.out).later hu) s2.ch[k].1 hpi)
            rw [hch] at HCA HCB
            rw [hrf] at HRA HRB
            rw [hsr] at HSB
            have hl1 := hok.2.1
            have hl2 := hok.2.2.2.2
            obtain ⟨adr, cpr, hur, _⟩ := id hrs.1
            generalize s2.ch[k] = xc at *
            obtain ⟨p, lc, q, sr⟩ := xc
            dsimp only at dc0 dc2 HCA HCB HRA HRB HSB hl1 hl2 hur
            obtain ⟨RL, hRL⟩ : ∃ RL, RL = lc.tail.length := ⟨_, rfl⟩
            rw [← hRL] at hur
            subst hur
            obtain ⟨L, hL⟩ : ∃ L, L = lc.length := ⟨_, rfl⟩
            have hLR : (L : Int) = 1 + (RL : Int) := by
              cases lc with
              | nil => cases hl1
              | cons y r => simp only [List.tail_cons, List.length_cons] at hRL hL; omega
            have hL4 : L ≤ 4096 := by omega
            have HL5 := Lib.hid hL
            have hlne := Lib.hid (show lc ≠ [] by intro e; rw [e] at hl1; cases hl1)
            have hdk : decide ((k : Int) < (NL : Int)) = true := decide_eq_true (by omega)
            have hkL : k < NL := by omega
            have hwk : IntKind.i64.wrap ((k : Int) + 1) = (k : Int) + 1 := IntWalk.i64_in _ (by omega)
            have hwr : IntKind.i64.wrap (1 + (RL : Int)) = 1 + (RL : Int) := IntWalk.i64_in _ (by omega)
            have hne1 : ((L : Int) != 1 + (RL : Int)) = false := by rw [hLR]; simp
            have HLR := Lib.hid hLR
            clear hx hlx hok hkl hgt hpi hch hrf hsr hl1 hl2 hRL hL hrs hU3 hLR
            go_wp2
            go_cut [15, 16] from 122 to 135 (fun s15 s16 wx => ∃ r1 o1 c1 r2 o2 c2 : Nat, s15 = .slice (some ⟨r1, o1, none⟩) L c1 ∧ s16 = .slice (some ⟨r2, o2, none⟩) L c2 ∧ Hid (Upd (fun _ => False) wr wx) ∧ Hid ((L ≤ c1 ∧ L ≤ c2) ∧ ∀ (j : Nat) (y : Int), lc[j]? = some y → wx.cell? ⟨r1, o1 + j, none⟩ = some (.int .i64 y) ∧ wx.cell? ⟨r2, o2 + j, none⟩ = some (.int .i64 y)))
            case first =>
              have u0 : Upd (fun _ => False) wr wr.drew := (Upd.refl _ _).drew
              go_region_held3 (fun w' => w'.cell? ⟨g0, o0 + k * 3, none⟩ = some (.int .i64 p) ∧ Upd (fun _ => False) wr w')
                (first
                  | exact ⟨dc0, u0⟩
                  | (have h := ‹_ ∧ Upd _ _ _›; exact ⟨ua.cell h.1 (fun f => f), h.2.trans ua (fun _ _ f => f)⟩)
                  | (have h := ‹_ ∧ Upd _ _ _›; exact ⟨ub.cell h.1 (fun f => f), h.2.trans ub (fun _ _ f => f)⟩))
                (first
                  | (go_at_call 14; (with_reducible refine (HCA _ (‹_ ∧ Upd (fun _ => False) _ _›).2).out.mono ?_); rintro e wa ⟨va, rfl, oa, ua⟩)
                  | (go_at_call 14; (with_reducible refine (HCB _ (‹_ ∧ Upd (fun _ => False) _ _›).2).out.mono ?_); rintro e wb ⟨vb, rfl, ob, ub⟩))
              · go_wp2_with (fail)
                go_meet
                obtain ⟨r1, o1, c1, r2, o2, c2, e1, e2, e3, e4⟩ := two_rows oa ub ob hlne.out HL5.out
                exact ⟨r1, o1, c1, r2, o2, c2, e1, e2, Lib.hid (‹_ ∧ Upd (fun _ => False) _ _›).2, Lib.hid ⟨e3, e4⟩⟩
            case rest =>
              obtain ⟨r1, o1, c1, r2, o2, c2, rfl, rfl, HUX, HXX⟩ := hcut
              have d0 := HUX.out.cell dc0 (fun f => f)
              have d2 := HUX.out.cell dc2 (fun f => f)
              have QA := Lib.hid (fun n => quietA (HRA (wc.drewN n) (HUX.out.drewN n)).out)
              have QB := Lib.hid (fun n => quietA (HRB (wc.drewN n) (HUX.out.drewN n)).out)
              have QS := Lib.hid (fun n => quietA (HSB (wc.drewN n) (HUX.out.drewN n)).out)
              clear dc0 dc2 HRA HRB HSB HCA HCB
              go_wp2
              go_quiet (first
                | (go_at_call 27; with_reducible exact QA.out _)
                | (go_at_call 27; with_reducible exact QB.out _)
                | (go_at_call 30; with_reducible exact QS.out _))
              go_wp2
              obtain ⟨WB, hWB⟩ : ∃ WB, WB = wr := ⟨_, rfl⟩
              subst hWB
              go_loopg [17] L (fun kx s17 wr => ∃ j : Nat, s17 = .int .i64 j ∧ j + kx = L ∧ Hid (Upd (fun _ => False) wc wr))
              case atStart => exact ⟨0, rfl, by omega, Lib.hid ((Upd.refl (fun _ => False) wc).drewN _)⟩
              case round =>
                obtain ⟨j, rfl, hjj, HUJ⟩ := hrel
                cases gk with
                | zero =>
                  obtain rfl : j = L := by omega
                  go_wp2
                  go_roundg g
                  case measure => omega
                  case rel => exact ⟨k + 1, by rw [Int.natCast_add]; rfl, by omega, Lib.hid ((HU.out.trans HUX.out (fun _ _ f => f)).trans HUJ.out (fun _ _ f => f))⟩
                | succ g2 =>
                  have hjl : j < lc.length := by have := HL5.out; omega
                  obtain ⟨y1, y2⟩ := HXX.out.2 j _ (List.getElem?_eq_getElem hjl)
                  have c1j := HUJ.out.cell y1 (fun f => f)
                  have c2j := HUJ.out.cell y2 (fun f => f)
                  generalize lc[j] = y at c1j c2j
                  have hdj : decide ((j : Int) < (L : Int)) = true := decide_eq_true (by omega)
                  have hjL : j < L := by omega
                  have hwj : IntKind.i64.wrap ((j : Int) + 1) = (j : Int) + 1 := IntWalk.i64_in _ (by omega)
                  clear y1 y2 hjl d0 d2
                  go_wp2
                  go_quiet (fail)
                  go_wp2
                  go_roundg g2
                  case measure => omega
                  case rel => exact ⟨j + 1, by rw [Int.natCast_add]; rfl, by omega, Lib.hid (HUJ.out.drewN _)⟩
      · have h150 : i = 150 := by have := HK2.out; omega
        subst h150
        have hd2 : 150 < M := by have := HK.out; omega
        have HC := Lib.hid (al_Commit HPW.out.al)
        have HF2 := Lib.hid (HPW.out.full.commit HPW.out.al.ok)
        have HN2 := Lib.hid (show (commitA s).n = (N : Int) from HPW.out.n)
        have HS2 := Lib.hid (commit_sure s)
        have HW2 := Lib.hid (show (commitA s).wait = [] from rfl)
        generalize commitA s = s2 at HC HF2 HN2 HS2 HW2
        obtain ⟨NL, hNL⟩ : ∃ NL, NL = (listA s2).length := ⟨_, rfl⟩
        have HNL := Lib.hid hNL
        clear hNL
        go_wp2_with (fail)
        refine HC.out.mono ?_
        rintro e w2 ⟨rfl, hal, _⟩
        have HL := Lib.hid (al_List hal)
        have HAL := Lib.hid hal
        clear hal
        go_wp2_with (fail)
        refine HL.out.mono ?_
        rintro e w3 ⟨vl, rfl, ho, hu⟩
        have HLD := Lib.hid (load_same (HAL.out.later hu) HFN.out HN2.out HF2.out HS2.out HW2.out ho.rd)
        obtain ⟨adl, cpl, hvl, _, _, hrd⟩ := ho.rd
        rw [← HNL.out] at hvl
        subst hvl
        have HRD := Lib.hid hrd
        have HAL3 := Lib.hid (HAL.out.later hu)
        have hN4 : NL ≤ 4096 := by have := HAL3.out.ok.lens.1; rw [HNL.out]; unfold listA; rw [List.length_map]; exact this
        clear ho hu hrd
        go_wp2_with (fail)
        refine HLD.out.mono ?_
        rintro e w4 ⟨b', rfl, hb4⟩
        have HB4 := Lib.hid hb4
        have HA4 := Lib.hid (HAL3.out.later hb4.upd)
        have HU4 := Lib.hid hb4.upd
        have H5 := Lib.hid (al_Free hb4)
        clear hb4
        obtain ⟨C, hC⟩ : ∃ C, C = cntE s2.free := ⟨_, rfl⟩
        rw [← hC] at H5
        have HCC := Lib.hid hC
        clear hC
        go_wp2_with (fail)
        refine H5.out.mono ?_
        rintro e w5 ⟨rfl, u5⟩
        have H6 := Lib.hid (al_Free (HA4.out.later u5))
        rw [← HCC.out] at H6
        have HB5 := Lib.hid (HB4.out.later u5)
        have HA5 := Lib.hid (HA4.out.later u5)
        have HU5 := Lib.hid (HU4.out.trans u5 (fun _ _ f => f))
        clear u5
        go_wp2_with (fail)
        refine H6.out.mono ?_
        rintro e w6 ⟨rfl, u6⟩
        have HB6 := Lib.hid (HB5.out.later u6)
        have HA6 := Lib.hid (HA5.out.later u6)
        have HU6 := Lib.hid (HU5.out.trans u6 (fun _ _ f => f))
        have H7 := Lib.hid (al_Waiting HB6.out)
        rw [HW2.out] at H7
        rw [show (([] : List (Int × Unit)).length : Nat) = 0 from rfl] at H7
        have H8 := Lib.hid (al_List HB6.out)
        clear u6
        go_wp2_with (fail)
        refine H7.out.mono ?_
        rintro e wz ⟨rfl, rfl⟩
        go_wp2_with (fail)
        refine H8.out.mono ?_
        rintro e w7 ⟨vm, rfl, om, u7⟩
        obtain ⟨adm, cpm, hvm, _⟩ := om.rd
        rw [← HNL.out] at hvm
        subst hvm
        have HB7 := Lib.hid (HB6.out.later u7)
        have HA7 := Lib.hid (HA6.out.later u7)
        have HU7 := Lib.hid (HU6.out.trans u7 (fun _ _ f => f))
        clear u7 om
        go_wp2
        go_loopg [14, 15, 16, 17] NL (fun kx s14 s15 s16 s17 wr => ∃ k : Nat, s14 = .int .i64 k ∧ k + kx = NL ∧ Hid (Upd (fun _ => False) w7 wr))
        case atStart => exact ⟨0, rfl, by omega, Lib.hid (Upd.refl _ _)⟩
        case round =>
          obtain ⟨k, rfl, hkk, HU⟩ := hrel
          cases gk with
          | zero =>
            obtain rfl : k = NL := by omega
            have H9 := Lib.hid (awake_ok wr)
            go_wp2_with (fail)
            refine H9.out.mono ?_
            rintro e w9 ⟨rfl, u9⟩
            go_wp2
            go_ret
            exact ⟨rfl, (HA7.out.later HU.out).upd.trans u9 (fun _ _ f => f)⟩
          | succ g =>
            have hkl : k < s2.ch.length := by have := HNL.out; unfold listA at this; rw [List.length_map] at this; omega
            have hx : s2.ch[k]? = some s2.ch[k] := List.getElem?_eq_getElem hkl
            have hok := HA7.out.ok.ch _ (List.getElem_mem hkl)
            have hlx : (listA s2)[k]? = some (s2.ch[k].1, s2.ch[k].2.2.1, s2.ch[k].2.1.tail) := by unfold listA; rw [List.getElem?_map, hx]; rfl
            obtain ⟨g0, o0, u, rr, rfl, dc0, _, dc2, hrs⟩ := HRD.out k _ hlx
            have hU3 := HU7.out.trans HU.out (fun _ _ f => f)
            have dc0 := hU3.cell dc0 (fun f => f)
            have dc2 := hU3.cell dc2 (fun f => f)
            have hgt := HA7.out.ok.ksc.get (List.getElem_mem hkl)
            have hpi : inI s2.ch[k].1 := by have := hok.1; have h9 := HN2.out; have := HFN.out; unfold inI; omega
            have hch : chainA s2 s2.ch[k].1 = s2.ch[k].2.1 := by unfold chainA; rw [hgt]
            have hrf : refsA s2 s2.ch[k].1 = s2.ch[k].2.2.1 := by unfold refsA; rw [hgt]
            have hsr : sureA s2 s2.ch[k].1 = true := by unfold sureA; rw [hgt]; exact HS2.out _ (List.getElem_mem hkl)
            have HCA := fun (w' : World) (hu : Upd (fun _ => False) wr w') => Lib.hid (al_Chain ((HA7.out.later HU.out).later hu) s2.ch[k].1 hpi)
            have HCB := fun (w' : World) (hu : Upd (fun _ => False) wr w') => Lib.hid (al_Chain ((HB7.out.later HU.out).later hu) s2.ch[k].1 hpi)
            have HRA := fun (w' : World) (hu : Upd (fun _ => False) wr w') => Lib.hid (al_Refs ((HA7.out.later HU.out).later hu) s2.ch[k].1 hpi)
            have HRB := fun (w' : World) (hu : Upd (fun _ => False) wr w') => Lib.hid (al_Refs ((HB7.out.later HU.out).later hu) s2.ch[k].1 hpi)
            have HSB := fun (w' : World) (hu : Upd (fun _ => False) wr w') => Lib.hid (al_Sure ((HB7.out.later HU.out).later hu) s2.ch[k].1 hpi)
            rw [hch] at HCA HCB
            rw [hrf] at HRA HRB
            rw [hsr] at HSB
            have hl1 := hok.2.1
            have hl2 := hok.2.2.2.2
            obtain ⟨adr, cpr, hur, _⟩ := id hrs.1
            generalize s2.ch[k] = xc at *
            obtain ⟨p, lc, q, sr⟩ := xc
            dsimp only at dc0 dc2 HCA HCB HRA HRB HSB hl1 hl2 hur
            obtain ⟨RL, hRL⟩ : ∃ RL, RL = lc.tail.length := ⟨_, rfl⟩
            rw [← hRL] at hur
            subst hur
            obtain ⟨L, hL⟩ : ∃ L, L = lc.length := ⟨_, rfl⟩
            have hLR : (L : Int) = 1 + (RL : Int) := by
              cases lc with
              | nil => cases hl1
              | cons y r => simp only [List.tail_cons, List.length_cons] at hRL hL; omega
            have hL4 : L ≤ 4096 := by omega
            have HL5 := Lib.hid hL
            have hlne := Lib.hid (show lc ≠ [] by intro e; rw [e] at hl1; cases hl1)
            have hdk : decide ((k : Int) < (NL : Int)) = true := decide_eq_true (by omega)
            have hkL : k < NL := by omega
            have hwk : IntKind.i64.wrap ((k : Int) + 1) = (k : Int) + 1 := IntWalk.i64_in _ (by omega)
            have hwr : IntKind.i64.wrap (1 + (RL : Int)) = 1 + (RL : Int) := IntWalk.i64_in _ (by omega)
            have hne1 : ((L : Int) != 1 + (RL : Int)) = false := by rw [hLR]; simp
            have HLR := Lib.hid hLR
            clear hx hlx hok hkl hgt hpi hch hrf hsr hl1 hl2 hRL hL hrs hU3 hLR
            go_wp2
            go_cut [15, 16] from 122 to 135 (fun s15 s16 wx => ∃ r1 o1 c1 r2 o2 c2 : Nat, s15 = .slice (some ⟨r1, o1, none⟩) L c1 ∧ s16 = .slice (some ⟨r2, o2, none⟩) L c2 ∧ Hid (Upd (fun _ => False) wr wx) ∧ Hid ((L ≤ c1 ∧ L ≤ c2) ∧ ∀ (j : Nat) (y : Int), lc[j]? = some y → wx.cell? ⟨r1, o1 + j, none⟩ = some (.int .i64 y) ∧ wx.cell? ⟨r2, o2 + j, none⟩ = some (.int .i64 y)))
            case first =>
              have u0 : Upd (fun _ => False) wr wr.drew := (Upd.refl _ _).drew
              go_region_held3 (fun w' => w'.cell? ⟨g0, o0 + k * 3, none⟩ = some (.int .i64 p) ∧ Upd (fun _ => False) wr w')
                (first
                  | exact ⟨dc0, u0⟩
                  | (have h := ‹_ ∧ Upd _ _ _›; exact ⟨ua.cell h.1 (fun f => f), h.2.trans ua (fun _ _ f => f)⟩)
                  | (have h := ‹_ ∧ Upd _ _ _›; exact ⟨ub.cell h.1 (fun f => f), h.2.trans ub (fun _ _ f => f)⟩))
                (first
                  | (go_at_call 14; (with_reducible refine (HCA _ (‹_ ∧ Upd (fun _ => False) _ _›).2).out.mono ?_); rintro e wa ⟨va, rfl, oa, ua⟩)
                  | (go_at_call 14; (with_reducible refine (HCB _ (‹_ ∧ Upd (fun _ => False) _ _›).2).out.mono ?_); rintro e wb ⟨vb, rfl, ob, ub⟩))
              · go_wp2_with (fail)
                go_meet
                obtain ⟨r1, o1, c1, r2, o2, c2, e1, e2, e3, e4⟩ := two_rows oa ub ob hlne.out HL5.out
                exact ⟨r1, o1, c1, r2, o2, c2, e1, e2, Lib.hid (‹_ ∧ Upd (fun _ => False) _ _›).2, Lib.hid ⟨e3, e4⟩⟩
            case rest =>
              obtain ⟨r1, o1, c1, r2, o2, c2, rfl, rfl, HUX, HXX⟩ := hcut
              have d0 := HUX.out.cell dc0 (fun f => f)
              have d2 := HUX.out.cell dc2 (fun f => f)
              have QA := Lib.hid (fun n => quietA (HRA (wc.drewN n) (HUX.out.drewN n)).out)
              have QB := Lib.hid (fun n => quietA (HRB (wc.drewN n) (HUX.out.drewN n)).out)
              have QS := Lib.hid (fun n => quietA (HSB (wc.drewN n) (HUX.out.drewN n)).out)
              clear dc0 dc2 HRA HRB HSB HCA HCB
              go_wp2
              go_quiet (first
                | (go_at_call 27; with_reducible exact QA.out _)
                | (go_at_call 27; with_reducible exact QB.out _)
                | (go_at_call 30; with_reducible exact QS.out _))
              go_wp2
              obtain ⟨WB, hWB⟩ : ∃ WB, WB = wr := ⟨_, rfl⟩
              subst hWB
              go_loopg [17] L (fun kx s17 wr => ∃ j : Nat, s17 = .int .i64 j ∧ j + kx = L ∧ Hid (Upd (fun _ => False) wc wr))
              case atStart => exact ⟨0, rfl, by omega, Lib.hid ((Upd.refl (fun _ => False) wc).drewN _)⟩
              case round =>
                obtain ⟨j, rfl, hjj, HUJ⟩ := hrel
                cases gk with
                | zero =>
                  obtain rfl : j = L := by omega
                  go_wp2
                  go_roundg g
                  case measure => omega
                  case rel => exact ⟨k + 1, by rw [Int.natCast_add]; rfl, by omega, Lib.hid ((HU.out.trans HUX.out (fun _ _ f => f)).trans HUJ.out (fun _ _ f => f))⟩
                | succ g2 =>
                  have hjl : j < lc.length := by have := HL5.out; omega
                  obtain ⟨y1, y2⟩ := HXX.out.2 j _ (List.getElem?_eq_getElem hjl)
                  have c1j := HUJ.out.cell y1 (fun f => f)
                  have c2j := HUJ.out.cell y2 (fun f => f)
                  generalize lc[j] = y at c1j c2j
                  have hdj : decide ((j : Int) < (L : Int)) = true := decide_eq_true (by omega)
                  have hjL : j < L := by omega
                  have hwj : IntKind.i64.wrap ((j : Int) + 1) = (j : Int) + 1 := IntWalk.i64_in _ (by omega)
                  clear y1 y2 hjl d0 d2
                  go_wp2
                  go_quiet (fail)
                  go_wp2
                  go_roundg g2
                  case measure => omega
                  case rel => exact ⟨j + 1, by rw [Int.natCast_add]; rfl, by omega, Lib.hid (HUJ.out.drewN _)⟩
    | succ g =>
      have hi1 : i < M := by have := HK.out; omega
      have hi2 : i < 150 := by have := HK.out; omega
      have hi1d : decide ((i : Int) < (M : Int)) = true := decide_eq_true (by omega)
      have hi2d : decide ((i : Int) < 150) = true := decide_eq_true (by omega)
      have hi3 : ((i : Int) < 150) := by omega
      have hil : i < l.length := by have := HM.out; omega
      have hwi : IntKind.i64.wrap ((i : Int) + 1) = (i : Int) + 1 := IntWalk.i64_in _ (by omega)
      obtain ⟨⟨hx1, hx2⟩, ag, ao, rfl, hpb, hc0, hc1⟩ := (HPW.out.acts HA.out).one i l[i] (List.getElem?_eq_getElem hil)
      generalize l[i] = x at hx1 hx2 hc0 hc1
      obtain ⟨what, n⟩ := x
      dsimp only at hx1 hx2 hc0 hc1
      obtain ⟨v, hv⟩ : ∃ v, v = what % 5 := ⟨_, rfl⟩
      have e5 : Int.tmod (what : Int) 5 = (v : Int) := by rw [hv]; exact (Int.ofNat_tmod what 5).symm
      have hv5 : v < 5 := by omega
      have HI := Lib.hid hx2
      clear hv hx2 hil
      obtain rfl | rfl | rfl | rfl | rfl : v = 0 ∨ v = 1 ∨ v = 2 ∨ v = 3 ∨ v = 4 := by omega
      · have HC := Lib.hid (al_Alloc HPW.out.al n)
        go_wp2_with (fail)
        refine HC.out.mono ?_
        rintro e w2 ⟨va, rfl, _, hal, _⟩
        have HP2 := Lib.hid (show BW w w2 b F N (some ⟨ag, ao, none⟩) l _ from ⟨hal, HPW.out.full.alloc HPW.out.al.ok n, (allocA_n s n).trans HPW.out.n⟩)
        clear hal
        go_wp2
        go_roundg g
        case measure => omega
        case rel => exact ⟨i + 1, _, by rw [Int.natCast_add]; rfl, by omega, HP2⟩
      · have HC := Lib.hid (al_Hold HPW.out.al n HI.out)
        go_wp2_with (fail)
        refine HC.out.mono ?_
        rintro e w2 ⟨rfl, hal, _⟩
        have HP2 := Lib.hid (show BW w w2 b F N (some ⟨ag, ao, none⟩) l _ from ⟨hal, HPW.out.full.hold HPW.out.al.ok n, (holdA_n s n).trans HPW.out.n⟩)
        clear hal
        go_wp2
        go_roundg g
        case measure => omega
        case rel => exact ⟨i + 1, _, by rw [Int.natCast_add]; rfl, by omega, HP2⟩
      · have HC := Lib.hid (al_Drop HPW.out.al n HI.out)
        go_wp2_with (fail)
        refine HC.out.mono ?_
        rintro e w2 ⟨rfl, hal, _⟩
        have HP2 := Lib.hid (show BW w w2 b F N (some ⟨ag, ao, none⟩) l _ from ⟨hal, HPW.out.full.drop HPW.out.al.ok n, (dropA_n s n).trans HPW.out.n⟩)
        clear hal
        go_wp2
        go_roundg g
        case measure => omega
        case rel => exact ⟨i + 1, _, by rw [Int.natCast_add]; rfl, by omega, HP2⟩
      · have HC := Lib.hid (al_Commit HPW.out.al)
        go_wp2_with (fail)
        refine HC.out.mono ?_
        rintro e w2 ⟨rfl, hal, _⟩
        have HP2 := Lib.hid (show BW w w2 b F N (some ⟨ag, ao, none⟩) l _ from ⟨hal, HPW.out.full.commit HPW.out.al.ok, HPW.out.n⟩)
        clear hal
        go_wp2
        go_roundg g
        case measure => omega
        case rel => exact ⟨i + 1, _, by rw [Int.natCast_add]; rfl, by omega, HP2⟩
      · go_wp2
        go_roundg g
        case measure => omega
        case rel => exact ⟨i + 1, _, by rw [Int.natCast_add]; rfl, by omega, HPW⟩

end Go.Proofs.Ytieohjibccjliaa
