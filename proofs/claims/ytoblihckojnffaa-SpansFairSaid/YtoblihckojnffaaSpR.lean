/- SpansFair. -/
import Derived.Test.YtoblihckojnffaaSpQ
set_option linter.unusedVariables false
set_option linter.unusedSimpArgs false
namespace Go.Proofs.Ytoblihckojnffaa
open Go.RowKit Go.Shelf
set_option maxRecDepth 100000

/-- the loop's world: acts as they came, a set and its bools -/
structure FairW (w wr : World) (b g N : Nat) (ad : Option Addr) (l : List SAct) (xs : List Ex) (bits : List Bool) : Prop where
  fair : Fair w wr b g (N : Int) xs bits
  acts : SActsAt wr w.heap.size ad l
  len : bits.length = N
set_option maxHeartbeats 4000000 in
theorem walk_SpansFair (w : World) (n8 : Nat) (hn8 : n8 < 256) {ad : Option Addr} {cp : Nat} {l : List SAct} (h : SActsAt w w.heap.size ad l) :
    Calls Try.prog 4 #[.int .u8 (n8 : Int), .slice ad l.length cp] w fun e w' => e = .returned (.bool true) ∧ Upd (fun _ => False) w w' := by
  obtain ⟨q, hq⟩ : ∃ q, q = n8 % 200 := ⟨_, rfl⟩
  have e1 : Int.tmod (n8 : Int) 200 = (q : Int) := by rw [hq]; exact (Int.ofNat_tmod n8 200).symm
  have hq2 : q < 200 := by omega
  obtain ⟨M, hM⟩ : ∃ M, M = l.length := ⟨_, rfl⟩
  rw [← hM]
  have HN := Lib.hid (new0 w (1 + (q : Int)) (by omega))
  have HM := Lib.hid hM
  have HA := Lib.hid h
  have HWk := Lib.hid (fun w' => works_ok w')
  clear hq hM h
  by_cases hM2 : (80 : Int) < (M : Int)
  · go_enter Try.func4, Try.ntmps4
    go_wp2_with (fail)
    refine HN.out.mono ?_
    rintro e w1 ⟨b, rfl, k1⟩
    go_wp2_with (fail)
    refine (HWk.out _).mono ?_
    rintro e w2 ⟨rfl, u2⟩
    go_wp2
    go_ret
    exact ⟨rfl, k1.upd.trans u2 (fun _ _ f => f)⟩
  go_enter Try.func4, Try.ntmps4
  go_wp2_with (fail)
  refine HN.out.mono ?_
  rintro e w1 ⟨b, rfl, k1⟩
  have hqn : 1 + (q : Int) = ((q + 1 : Nat) : Int) := by omega
  have hmk := make_bools (q + 1) (by omega)
  rw [← hqn] at hmk
  rw [hqn] at k1
  have hf : Fair w (w1.alloc (.cells ((List.replicate (q + 1) false).map Value.bool).toArray 4)) b w1.heap.size (((q + 1 : Nat)) : Int) [] (List.replicate (q + 1) false) := by
    have hu : Upd (fun _ => False) w1 (w1.alloc (.cells ((List.replicate (q + 1) false).map Value.bool).toArray 4)) := (Upd.refl _ _).alloc _
    exact ⟨k1.later hu, SpOk.nil (by omega), heap_alloc_new w1 _, k1.upd.size, says_new (q + 1)⟩
  have HF := Lib.hid hf
  have HG := Lib.hid hqn
  obtain ⟨Z, hZ⟩ : ∃ Z, Z = ((List.replicate (q + 1) false).map Value.bool).toArray := ⟨_, rfl⟩
  rw [← hZ] at hmk HF
  clear k1 hf hqn hZ
  go_wp2
  rw [HG.out]
  have HFB := Lib.hid (show (List.replicate (q + 1) false).length = q + 1 by simp)
  have HA1 := Lib.hid (show SActsAt (w1.alloc (.cells Z 4)) w.heap.size ad l from HA.out.upd HF.out.set.upd (fun _ _ f => f))
  have HN4 := Lib.hid (show q + 1 ≤ 4096 by omega)
  clear hmk HN
  generalize List.replicate (q + 1) false = bits0 at HF HFB
  generalize w1.alloc (.cells Z 4) = W1 at HF HA1 ⊢
  generalize w1.heap.size = g at HF ⊢
  clear HG e1
  generalize q + 1 = N at HF HFB HN4 ⊢
  go_loopg [8] M (fun q s8 wr => ∃ (i : Nat) (xs : List Ex) (bits : List Bool), s8 = .int .i64 i ∧ i + q = M ∧ Hid (FairW w wr b g N ad l xs bits))
  case atStart => exact ⟨0, [], bits0, rfl, by omega, Lib.hid ⟨HF.out, HA1.out, HFB.out⟩⟩
  case round =>
    obtain ⟨i, xs, bits, rfl, hiq, hW⟩ := hrel
    cases gk with
    | zero =>
      obtain rfl : i = M := by omega
      go_wp2_with (fail)
      refine (HWk.out _).mono ?_
      rintro e w2 ⟨rfl, u2⟩
      go_wp2
      go_ret
      exact ⟨rfl, hW.out.fair.set.upd.trans u2 (fun _ _ f => f)⟩
    | succ q =>
      have hil : i < l.length := by have := HM.out; omega
      obtain ⟨hx, pa, rfl, hload⟩ := hW.out.acts.load i l[i] (List.getElem?_eq_getElem hil)
      generalize l[i] = x at hx hload
      obtain ⟨what, a, bb, ask⟩ := x
      change (loadVar 31 (pa.add (i * 4))).run Try.prog wr = .ok (.agg #[.int .u8 (what : Int), .int .i64 a, .int .i64 bb, .int .i64 ask]) wr at hload
      have HLD := Lib.hid hload
      have hd : decide ((i : Int) < (M : Int)) = true := decide_eq_true (by omega)
      have hu : Upd (fun _ => False) wr (wr.alloc (.cells #[.int .u8 (what : Int), .int .i64 a, .int .i64 bb, .int .i64 ask] 31)) := (Upd.refl _ _).alloc _
      have HFa := Lib.hid (hW.out.fair.later hu)
      have HAa := Lib.hid (hW.out.acts.upd hu (fun _ _ f => f))
      have HBx := Lib.hid (heap_alloc_new wr (.cells #[.int .u8 (what : Int), .int .i64 a, .int .i64 bb, .int .i64 ask] 31))
      have HBL := Lib.hid hW.out.len
      obtain ⟨v, hv⟩ : ∃ v, v = what % 5 := ⟨_, rfl⟩
      have e5 : Int.tmod (what : Int) 5 = (v : Int) := by rw [hv]; exact (Int.ofNat_tmod what 5).symm
      have hv5 : v < 5 := by omega
      change what < 256 at hx
      have hi2 : IntKind.i64.wrap ((i : Int) + 1) = (i : Int) + 1 := IntWalk.i64_in _ (by have := HN4.out; omega)
      clear hload hv hil hW hu
      obtain rfl | rfl | rfl | rfl | rfl : v = 0 ∨ v = 1 ∨ v = 2 ∨ v = 3 ∨ v = 4 := by omega
      · go_wp2_with (refine wpList_load_by rfl 31 (.tmp 38) rfl (pa.add (i * 4)) rfl _ HLD.out ?_)
        refine (part_give HFa.out.part a).mono ?_
        rintro e w2 ⟨rfl, hp, hk⟩
        have hsg := fun hc => says_give HFa.out.ok HFa.out.says a hc
        have hsame := (giveA_spec HFa.out.ok a).2.1
        have hbx := hk _ _ _ _ (by decide) (by decide) HBx.out
        generalize giveA (N : Int) xs a = r at hp hsg hsame ⊢
        obtain ⟨xs2, c⟩ := r
        dsimp only at hp hsg hsame ⊢
        generalize wr.heap.size = B at hbx ⊢
        have c1 := cell_heap hbx 1 _ rfl
        clear hbx hk
        by_cases hc : c = 0
        · subst hc
          obtain ⟨A, rfl, hAl, hs2⟩ := hsg rfl
          have hAN : A < N := by have := HBL.out; omega
          have cg := hp.row.at A _ (List.getElem?_eq_getElem hAl)
          have fg := hp.row.free A
          have hfe := (hp.put A true).fair hs2
          have hle : (bits.set A true).length = N := by rw [List.length_set]; exact HBL.out
          generalize bits[A] = bA at cg
          clear hp hsg hsame hs2 hAl
          have HFE0 := Lib.hid hfe
          have HLE0 := Lib.hid hle
          clear hfe hle
          go_wp2_with (fail)
          have hfe := HFE0.out
          have hle := HLE0.out
          have HFE := Lib.hid hfe
          have HLE := Lib.hid hle
          have HT := Lib.hid (hfe.told N)
          rw [hle] at HT
          clear hfe hle
          refine HT.out.mono ?_
          rintro e w9 ⟨rfl, u9⟩
          have HFN := Lib.hid (HFE.out.later u9)
          clear u9
          go_wp2
          go_roundg q
          case measure => omega
          case rel => exact ⟨i + 1, _, _, by rw [Int.natCast_add]; rfl, by omega, Lib.hid ⟨HFN.out, HA.out.upd HFN.out.set.upd (fun _ _ f => f), HLE.out⟩⟩
        · have hfe := hp.fair (by rw [hsame hc]; exact HFa.out.says)
          have hle := HBL.out
          clear hp hsg hsame
          have HFE := Lib.hid hfe
          have HLE := Lib.hid hle
          have HT := Lib.hid (hfe.told N)
          rw [hle] at HT
          clear hfe hle
          go_wp2_with (fail)
          refine HT.out.mono ?_
          rintro e w9 ⟨rfl, u9⟩
          have HFN := Lib.hid (HFE.out.later u9)
          clear u9
          go_wp2
          go_roundg q
          case measure => omega
          case rel => exact ⟨i + 1, _, _, by rw [Int.natCast_add]; rfl, by omega, Lib.hid ⟨HFN.out, HA.out.upd HFN.out.set.upd (fun _ _ f => f), HLE.out⟩⟩
      · go_wp2_with (refine wpList_load_by rfl 31 (.tmp 38) rfl (pa.add (i * 4)) rfl _ HLD.out ?_)
        refine (part_give HFa.out.part a).mono ?_
        rintro e w2 ⟨rfl, hp, hk⟩
        have hsg := fun hc => says_give HFa.out.ok HFa.out.says a hc
        have hsame := (giveA_spec HFa.out.ok a).2.1
        have hbx := hk _ _ _ _ (by decide) (by decide) HBx.out
        generalize giveA (N : Int) xs a = r at hp hsg hsame ⊢
        obtain ⟨xs2, c⟩ := r
        dsimp only at hp hsg hsame ⊢
        generalize wr.heap.size = B at hbx ⊢
        have c1 := cell_heap hbx 1 _ rfl
        clear hbx hk
        by_cases hc : c = 0
        · subst hc
          obtain ⟨A, rfl, hAl, hs2⟩ := hsg rfl
          have hAN : A < N := by have := HBL.out; omega
          have cg := hp.row.at A _ (List.getElem?_eq_getElem hAl)
          have fg := hp.row.free A
          have hfe := (hp.put A true).fair hs2
          have hle : (bits.set A true).length = N := by rw [List.length_set]; exact HBL.out
          generalize bits[A] = bA at cg
          clear hp hsg hsame hs2 hAl
          have HFE0 := Lib.hid hfe
          have HLE0 := Lib.hid hle
          clear hfe hle
          go_wp2_with (fail)
          have hfe := HFE0.out
          have hle := HLE0.out
          have HFE := Lib.hid hfe
          have HLE := Lib.hid hle
          have HT := Lib.hid (hfe.told N)
          rw [hle] at HT
          clear hfe hle
          refine HT.out.mono ?_
          rintro e w9 ⟨rfl, u9⟩
          have HFN := Lib.hid (HFE.out.later u9)
          clear u9
          go_wp2
          go_roundg q
          case measure => omega
          case rel => exact ⟨i + 1, _, _, by rw [Int.natCast_add]; rfl, by omega, Lib.hid ⟨HFN.out, HA.out.upd HFN.out.set.upd (fun _ _ f => f), HLE.out⟩⟩
        · have hfe := hp.fair (by rw [hsame hc]; exact HFa.out.says)
          have hle := HBL.out
          clear hp hsg hsame
          have HFE := Lib.hid hfe
          have HLE := Lib.hid hle
          have HT := Lib.hid (hfe.told N)
          rw [hle] at HT
          clear hfe hle
          go_wp2_with (fail)
          refine HT.out.mono ?_
          rintro e w9 ⟨rfl, u9⟩
          have HFN := Lib.hid (HFE.out.later u9)
          clear u9
          go_wp2
          go_roundg q
          case measure => omega
          case rel => exact ⟨i + 1, _, _, by rw [Int.natCast_add]; rfl, by omega, Lib.hid ⟨HFN.out, HA.out.upd HFN.out.set.upd (fun _ _ f => f), HLE.out⟩⟩
      · go_wp2_with (refine wpList_load_by rfl 31 (.tmp 38) rfl (pa.add (i * 4)) rfl _ HLD.out ?_)
        refine (part_fill HFa.out.part a bb).mono ?_
        rintro e w2 ⟨rfl, hp, hk⟩
        have hsg := fun hc => says_fill HFa.out.ok HFa.out.says a bb hc
        have hsame := (fillA_spec HFa.out.ok a bb).2.1
        have hbx := hk _ _ _ _ (by decide) (by decide) HBx.out
        generalize fillA (N : Int) xs a bb = r at hp hsg hsame ⊢
        obtain ⟨xs2, c⟩ := r
        dsimp only at hp hsg hsame ⊢
        generalize wr.heap.size = B at hbx ⊢
        have c1 := cell_heap hbx 1 _ rfl
        have c2 := cell_heap hbx 2 _ rfl
        have HB2 := Lib.hid hbx
        clear hbx hk
        by_cases hc : c = 0
        · subst hc
          obtain ⟨F, T, rfl, rfl, hFT, hTl, hs2⟩ := hsg rfl
          have hTN : T ≤ N := by have := HBL.out; omega
          have HP := Lib.hid hp
          have HS2 := Lib.hid hs2
          clear hp hsg hsame hs2 hTl
          go_wp2
          go_loopg [10] (T - F) (fun p s10 wr => ∃ K : Nat, s10 = .int .i64 K ∧ K + p = T ∧ F ≤ K ∧ Hid (Part w wr b g (N : Int) xs2 (fillB bits F K)) ∧ Hid (wr.heap[B]? = some (.cells #[.int .u8 (what : Int), .int .i64 (F : Int), .int .i64 (T : Int), .int .i64 ask] 31 (0, 0))))
          case atStart => exact ⟨F, rfl, by omega, Nat.le_refl _, Lib.hid (by rw [fillB_none]; exact HP.out), HB2⟩
          case round =>
            clear c1 c2
            obtain ⟨K, rfl, hKp, hFK, hP, hB⟩ := hrel
            have c2 := cell_heap hB.out 2 _ rfl
            cases gk with
            | zero =>
              obtain rfl : K = T := by omega
              have hd2 : decide ((K : Int) < (K : Int)) = false := decide_eq_false (by omega)
              go_wp2_with (fail)
              have hfe := hP.out.fair HS2.out
              have hle : (fillB bits F K).length = N := by rw [fillB_len]; exact HBL.out
              have HFE := Lib.hid hfe
              have HLE := Lib.hid hle
              have HT := Lib.hid (hfe.told N)
              rw [hle] at HT
              clear hfe hle
              refine HT.out.mono ?_
              rintro e w9 ⟨rfl, u9⟩
              have HFN := Lib.hid (HFE.out.later u9)
              clear u9
              go_wp2
              go_roundg q
              case measure => omega
              case rel => exact ⟨i + 1, _, _, by rw [Int.natCast_add]; rfl, by omega, Lib.hid ⟨HFN.out, HA.out.upd HFN.out.set.upd (fun _ _ f => f), HLE.out⟩⟩
            | succ p =>
              have hd2 : decide ((K : Int) < (T : Int)) = true := decide_eq_true (by omega)
              have hKl : K < (fillB bits F K).length := by rw [fillB_len]; have := HBL.out; omega
              have cg := hP.out.row.at K _ (List.getElem?_eq_getElem hKl)
              have fg := hP.out.row.free K
              have hKN : K < N := by omega
              have hk1 : IntKind.i64.wrap ((K : Int) + 1) = (K : Int) + 1 := IntWalk.i64_in _ (by have := HN4.out; omega)
              have HP3 := Lib.hid (show Part w _ b g (N : Int) xs2 (fillB bits F (K + 1)) from fillB_step bits F K hFK (by have := HBL.out; omega) ▸ hP.out.put K true)
              have HB3 := Lib.hid (Keeps.put hP.out.row K (.bool true) _ _ _ _ (by decide) hB.out)
              generalize (fillB bits F K)[K] = bK at cg
              clear hKl
              go_wp2
              go_roundg p
              case measure => omega
              case rel => exact ⟨K + 1, by rw [Int.natCast_add]; rfl, by omega, by omega, HP3, HB3⟩
        · have hfe := hp.fair (by rw [hsame hc]; exact HFa.out.says)
          have hle := HBL.out
          clear hp hsg hsame
          have HFE := Lib.hid hfe
          have HLE := Lib.hid hle
          have HT := Lib.hid (hfe.told N)
          rw [hle] at HT
          clear hfe hle
          go_wp2_with (fail)
          refine HT.out.mono ?_
          rintro e w9 ⟨rfl, u9⟩
          have HFN := Lib.hid (HFE.out.later u9)
          clear u9
          go_wp2
          go_roundg q
          case measure => omega
          case rel => exact ⟨i + 1, _, _, by rw [Int.natCast_add]; rfl, by omega, Lib.hid ⟨HFN.out, HA.out.upd HFN.out.set.upd (fun _ _ f => f), HLE.out⟩⟩
      · go_wp2_with (refine wpList_load_by rfl 31 (.tmp 38) rfl (pa.add (i * 4)) rfl _ HLD.out ?_)
        refine (part_take HFa.out.part a).mono ?_
        rintro e w2 ⟨vt, rt, rfl, hi, hrt, hp, hk⟩
        have hsg := fun hc => says_take HFa.out.ok HFa.out.says a hc
        have hsame := (takeA_spec HFa.out.ok a).2.1
        generalize takeA xs a = r at hi hp hsg hsame ⊢
        obtain ⟨t, c, xs2⟩ := r
        dsimp only at hi hp hsg hsame ⊢
        generalize wr.heap.size = B
        clear hk
        by_cases hc : c = 0
        · subst hc
          have HTk := Lib.hid (hsg rfl)
          obtain ⟨adt, cpt, rfl, _⟩ := id hi
          have hrg : ∀ x, rt = some x → x ≠ g := fun x e => (hrt x e).2
          have HI := Lib.hid hi
          have HP := Lib.hid hp
          have HRG := Lib.hid hrg
          obtain ⟨L, hL⟩ : ∃ L, L = t.length := ⟨_, rfl⟩
          rw [← hL]
          have HLt := Lib.hid hL
          clear hp hsg hsame hi hrt hrg hL
          go_wp2
          go_loopg [13] L (fun p s13 wr => ∃ j : Nat, s13 = .int .i64 j ∧ j + p = L ∧ Hid (Part w wr b g (N : Int) xs2 (takeB bits t j)) ∧ Hid (IntsAt wr (.slice adt t.length cpt) rt t))
          case atStart => exact ⟨0, rfl, by omega, Lib.hid (by rw [takeB_none]; exact HP.out), HI⟩
          case round =>
            obtain ⟨j, rfl, hjp, hP, hI⟩ := hrel
            cases gk with
            | zero =>
              obtain rfl : j = L := by omega
              have hd2 : decide ((j : Int) < (j : Int)) = false := decide_eq_false (by omega)
              obtain ⟨Y, hYN, hY0, hY1⟩ : ∃ Y : Nat, Y ≤ N ∧ (j = 0 → Y = 0) ∧ (∀ j', j = j' + 1 → t[j']? = some (Y : Int)) := by
                cases j with
                | zero => exact ⟨0, by omega, fun _ => rfl, fun j' e => by omega⟩
                | succ j' =>
                  obtain ⟨Y, e1, e2, _⟩ := HTk.out.one j' _ (List.getElem?_eq_getElem (by have := HLt.out; omega))
                  exact ⟨Y, by have := HBL.out; omega, fun e => by omega, fun j2 e => by
                    obtain rfl : j2 = j' := by omega
                    rw [← e1]
                    exact List.getElem?_eq_getElem _⟩
              have HY1 := Lib.hid hY1
              clear hY1
              go_wp2
              go_loopg [14] Y (fun p s14 wr => ∃ k : Nat, s14 = .int .i64 k ∧ k + p = Y ∧ Hid (Part w wr b g (N : Int) xs2 (takeB bits t j)) ∧ Hid (IntsAt wr (.slice adt t.length cpt) rt t))
              case atStart => exact ⟨0, rfl, by omega, hP, hI⟩
              case round =>
                obtain ⟨k, rfl, hkp, hP, hI⟩ := hrel
                cases gk with
                | zero =>
                  obtain rfl : k = Y := by omega
                  by_cases hj0 : j = 0
                  · have hg : decide ((0 : Int) < (j : Int)) = false := decide_eq_false (by omega)
                    go_wp2_with (fail)
                    have hfe := hP.out.fair (by have := HTk.out.says; rw [← HLt.out] at this; exact this)
                    have hle : (takeB bits t j).length = N := by rw [takeB_len]; exact HBL.out
                    have HFE := Lib.hid hfe
                    have HLE := Lib.hid hle
                    have HT := Lib.hid (hfe.told N)
                    rw [hle] at HT
                    clear hfe hle
                    refine HT.out.mono ?_
                    rintro e w9 ⟨rfl, u9⟩
                    have HFN := Lib.hid (HFE.out.later u9)
                    clear u9
                    go_wp2
                    go_roundg q
                    case measure => omega
                    case rel => exact ⟨i + 1, _, _, by rw [Int.natCast_add]; rfl, by omega, Lib.hid ⟨HFN.out, HA.out.upd HFN.out.set.upd (fun _ _ f => f), HLE.out⟩⟩
                  · have hg : decide ((0 : Int) < (j : Int)) = true := decide_eq_true (by omega)
                    obtain ⟨j1, hj1⟩ : ∃ j1, j = j1 + 1 := ⟨j - 1, by omega⟩
                    have hcy := HY1.out j1 hj1
                    obtain ⟨_, _, e1, _, _, hIc⟩ := id hI.out
                    simp only [Value.slice.injEq] at e1
                    obtain ⟨rfl, _, rfl⟩ := e1
                    obtain ⟨tg, toff, _, rfl, cy⟩ := hIc j1 _ hcy
                    have hwj : IntKind.i64.wrap ((j : Int) - 1) = (j1 : Int) := by rw [show (j : Int) - 1 = (j1 : Int) by omega]; exact IntWalk.i64_in _ (by have := HTk.out.short; have := HLt.out; have := HN4.out; omega)
                    have hjl : j1 < j := by omega
                    have hkk : decide ((k : Int) < (k : Int)) = false := decide_eq_false (by omega)
                    clear hIc hcy hj1
                    go_wp2_with (fail)
                    have hfe := hP.out.fair (by have := HTk.out.says; rw [← HLt.out] at this; exact this)
                    have hle : (takeB bits t j).length = N := by rw [takeB_len]; exact HBL.out
                    have HFE := Lib.hid hfe
                    have HLE := Lib.hid hle
                    have HT := Lib.hid (hfe.told N)
                    rw [hle] at HT
                    clear hfe hle
                    refine HT.out.mono ?_
                    rintro e w9 ⟨rfl, u9⟩
                    have HFN := Lib.hid (HFE.out.later u9)
                    clear u9
                    go_wp2
                    go_roundg q
                    case measure => omega
                    case rel => exact ⟨i + 1, _, _, by rw [Int.natCast_add]; rfl, by omega, Lib.hid ⟨HFN.out, HA.out.upd HFN.out.set.upd (fun _ _ f => f), HLE.out⟩⟩
                | succ p =>
                  obtain ⟨j1, hj1⟩ : ∃ j1, j = j1 + 1 := ⟨j - 1, by have := hY0; omega⟩
                  have hg : decide ((0 : Int) < (j : Int)) = true := decide_eq_true (by omega)
                  have hcy := HY1.out j1 hj1
                  obtain ⟨_, _, e1, _, _, hIc⟩ := id hI.out
                  simp only [Value.slice.injEq] at e1
                  obtain ⟨rfl, _, rfl⟩ := e1
                  obtain ⟨tg, toff, hrtg, rfl, cy⟩ := hIc j1 _ hcy
                  have hwj : IntKind.i64.wrap ((j : Int) - 1) = (j1 : Int) := by rw [show (j : Int) - 1 = (j1 : Int) by omega]; exact IntWalk.i64_in _ (by have := HTk.out.short; have := HLt.out; have := HN4.out; omega)
                  have hjl : j1 < j := by omega
                  have hkk : decide ((k : Int) < (Y : Int)) = true := decide_eq_true (by omega)
                  have hkk2 : (k : Int) < (Y : Int) := by omega
                  have hlast : t.getLast? = some (Y : Int) := by rw [List.getLast?_eq_getElem?, ← HLt.out, hj1]; exact hcy
                  have hbit := HTk.out.low Y k hlast (by omega)
                  rw [← HLt.out] at hbit
                  have cg := hP.out.row.at k _ hbit
                  have hkN : k < N := by omega
                  have hk1 : IntKind.i64.wrap ((k : Int) + 1) = (k : Int) + 1 := IntWalk.i64_in _ (by have := HN4.out; omega)
                  clear hIc hcy hj1 hbit hlast
                  go_wp2
                  go_roundg p
                  case measure => omega
                  case rel => exact ⟨k + 1, by rw [Int.natCast_add]; rfl, by omega, hP, hI⟩
            | succ p =>
              have hd2 : decide ((j : Int) < (L : Int)) = true := decide_eq_true (by omega)
              have hjL : j < L := by omega
              have hjt : j < t.length := by have := HLt.out; omega
              have htj := List.getElem?_eq_getElem hjt
              obtain ⟨T, e0, hTb, hbit⟩ := HTk.out.one j _ htj
              rw [e0] at htj
              have hTN : T < N := by have := HBL.out; omega
              obtain ⟨_, _, e1, _, _, hIc⟩ := id hI.out
              simp only [Value.slice.injEq] at e1
              obtain ⟨rfl, _, rfl⟩ := e1
              obtain ⟨tg, toff, hrtg, rfl, cj⟩ := hIc j _ htj
              have hne := HRG.out tg hrtg
              have hT1 : decide ((T : Int) < 0) = false := decide_eq_false (by omega)
              have hT2 : decide ((N : Int) ≤ (T : Int)) = false := decide_eq_false (by omega)
              have hT3 : decide (N ≤ T) = false := decide_eq_false (by omega)
              have cg := hP.out.row.at T _ hbit
              have fg := hP.out.row.free T
              have hj1 : IntKind.i64.wrap ((j : Int) + 1) = (j : Int) + 1 := IntWalk.i64_in _ (by have := HTk.out.short; have := HLt.out; have := HN4.out; omega)
              have HP3 := fun nq => Lib.hid (show Part w ((wr.drewN nq).setCell ⟨g, T, none⟩ (.bool false)) b g (N : Int) xs2 (takeB bits t (j + 1)) from takeB_step bits t j T htj hTb ▸ (hP.out.later ((Upd.refl _ _).drewN nq)).put T false)
              have HI3 := fun nq => Lib.hid (show IntsAt ((wr.drewN nq).setCell ⟨g, T, none⟩ (.bool false)) (.slice (some ⟨tg, toff, none⟩) t.length cpt) rt t from (hI.out.upd ((Upd.refl (fun _ => False) _).drewN nq) (fun _ _ f => f)).upd ((Upd.refl (fun i => i = g) _).setCell (p := ⟨g, T, none⟩) (fun _ => rfl) _) (fun x e f => HRG.out x e f))
              by_cases hj0 : j = 0
              · have hg : decide ((0 : Int) < (j : Int)) = false := decide_eq_false (by omega)
                have hg2 : decide (0 < j) = false := decide_eq_false (by omega)
                clear hIc htj e0 hTb hbit hjt hj0
                have hS := HP3
                go_wp2
                go_quiet (fail)
                go_wp2
                go_roundg p
                case measure => omega
                case rel => exact ⟨j + 1, by rw [Int.natCast_add]; rfl, by omega, HP3 _, HI3 _⟩
              · have hg : decide ((0 : Int) < (j : Int)) = true := decide_eq_true (by omega)
                have hg2 : decide (0 < j) = true := decide_eq_true (by omega)
                obtain ⟨j1, hj2⟩ : ∃ j1, j = j1 + 1 := ⟨j - 1, by omega⟩
                have hwj : IntKind.i64.wrap ((j : Int) - 1) = (j1 : Int) := by rw [show (j : Int) - 1 = (j1 : Int) by omega]; exact IntWalk.i64_in _ (by have := HTk.out.short; have := HLt.out; have := HN4.out; omega)
                have hjl : j1 < L := by omega
                have htj1 := List.getElem?_eq_getElem (show j1 < t.length by omega)
                obtain ⟨U, e3, _, _⟩ := HTk.out.one j1 _ htj1
                rw [e3] at htj1
                obtain ⟨tg2, toff2, hrt2, e4, cj1⟩ := hIc j1 _ htj1
                simp only [Option.some.injEq, Addr.mk.injEq, and_true] at e4
                obtain ⟨rfl, rfl⟩ := e4
                have hup := HTk.out.up j1 _ _ htj1 (by rw [← hj2]; exact htj)
                have hUT : decide ((T : Int) ≤ (U : Int)) = false := decide_eq_false (by omega)
                have hUT2 : decide (T ≤ U) = false := decide_eq_false (by omega)
                clear hIc htj e0 hTb hbit hjt htj1 e3 hup hj2 hrt2 hj0
                have hS := HP3
                go_wp2
                go_quiet (fail)
                go_wp2
                go_roundg p
                case measure => omega
                case rel => exact ⟨j + 1, by rw [Int.natCast_add]; rfl, by omega, HP3 _, HI3 _⟩
        · obtain ⟨e1, e2⟩ := hsame hc
          obtain ⟨adt, cpt, rfl, _⟩ := id hi
          have hfe := hp.fair (by rw [e1]; exact HFa.out.says)
          have HFN := Lib.hid hfe
          have HLE := Lib.hid HBL.out
          have hcd : decide (c = 0) = false := decide_eq_false hc
          clear hp hsg hsame hfe hi hrt e1 e2
          go_wp2
          go_roundg q
          case measure => omega
          case rel => exact ⟨i + 1, _, _, by rw [Int.natCast_add]; rfl, by omega, Lib.hid ⟨HFN.out, HA.out.upd HFN.out.set.upd (fun _ _ f => f), HLE.out⟩⟩
      · go_wp2_with (refine wpList_load_by rfl 31 (.tmp 38) rfl (pa.add (i * 4)) rfl _ HLD.out ?_)
        refine (part_copy HFa.out.part).mono ?_
        rintro e w2 ⟨b2, rfl, k2⟩
        have K2 := Lib.hid k2
        clear k2
        go_wp2_with (fail)
        refine (new_take K2.out HFa.out.ok 1).mono ?_
        rintro e w3 ⟨vt, rt, rfl, _, _, k3⟩
        have K3 := Lib.hid k3
        have HO3 := Lib.hid (takeA_spec HFa.out.ok 1).1
        clear k3
        go_wp2_with (fail)
        refine (new_give K3.out HO3.out 0).mono ?_
        rintro e w4 ⟨rfl, k4⟩
        have hfe := HFa.out.later k4.upd
        have hle := HBL.out
        clear k4
        generalize (giveA _ _ _).2 = cc
        have HFE := Lib.hid hfe
        have HLE := Lib.hid hle
        have HT := Lib.hid (hfe.told N)
        rw [hle] at HT
        clear hfe hle
        go_wp2_with (fail)
        refine HT.out.mono ?_
        rintro e w9 ⟨rfl, u9⟩
        have HFN := Lib.hid (HFE.out.later u9)
        clear u9
        go_wp2
        go_roundg q
        case measure => omega
        case rel => exact ⟨i + 1, _, _, by rw [Int.natCast_add]; rfl, by omega, Lib.hid ⟨HFN.out, HA.out.upd HFN.out.set.upd (fun _ _ f => f), HLE.out⟩⟩

end Go.Proofs.Ytoblihckojnffaa
