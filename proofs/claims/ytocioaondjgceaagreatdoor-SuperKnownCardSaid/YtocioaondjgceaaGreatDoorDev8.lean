/- A device: settle's walk. -/
import Derived.Test.YtocioaondjgceaaGreatDoorDev7
import Derived.Outline
set_option linter.unusedVariables false
set_option linter.unusedSimpArgs false
namespace Go.Proofs.YtocioaondjgceaaGreatDoor
open Go.RowKit Go.Maps Go.Sort Go.Shelf

set_option maxHeartbeats 3200000 in
set_option maxRecDepth 100000 in
theorem dev_settle {w : World} {b bs bm cap : Nat} {d : List Dv.Cel} (h : DevAt w b bs bm cap d) (f : FuncId) (hE : Enters Tryz.prog f) (caps : Array Value) (c : Nat → Nat) (hcl : ∀ i, c i ≤ 1000) (Keep : World → Prop)
    (hK : ∀ w w', Upd (fun k => k = bs ∨ k = bm) w w' → Keep w → Keep w') (hB : ∀ (i : Nat) (w : World), i ≤ 4096 → Keep w → Calls Tryz.prog f (#[.int .i64 i] ++ caps) w fun e w' => e = .returned (.int .i64 (c i : Nat)) ∧ Upd (fun _ => False) w w') (hk : Keep w) :
    Calls Tryz.prog 35 #[.pointer (some ⟨b, 0, none⟩), .func (.func f) #[] caps] w fun e w' => e = .returned (.tuple #[]) ∧ DevAt w' b bs bm cap (Dv.settleF c 0 d) ∧ Upd (fun k => k = bs ∨ k = bm) w w' := by
  have HH := Lib.hid (dev_has0 h)
  have c1 := cell_heap h.dev 1 _ rfl
  have hs := Dv.size_le d
  have hd2 := h.ok.2.1
  have hS := Lib.hid (sorted_keys bm 5000 (Dv.waitsD d) secR w h.waits (by unfold maxLen; omega) (by omega))
  obtain ⟨ks, hks⟩ : ∃ ks, ks = Dv.keysFrom 0 d := ⟨_, rfl⟩
  have hfin := Dv.goK_settle c d [] 0
  rw [List.nil_append, List.nil_append, List.length_nil, ← hks] at hfin
  obtain ⟨fin, hfn⟩ : ∃ fin, fin = Dv.settleF c 0 d := ⟨_, rfl⟩
  rw [← hfn] at hfin ⊢
  have HF := Lib.hid hfin
  have HKS := Lib.hid hks
  have H := Lib.hid h
  have hkl : ks.length ≤ 4096 := by
    rw [hks]
    have e : (Dv.keysFrom 0 d).length = (Dv.ents 0 d).length := by
      have : ∀ (d : List Dv.Cel) (n : Nat), (Dv.keysFrom n d).length = (Dv.ents n d).length := by
        intro d
        induction d with
        | nil => intro n; rfl
        | cons x d ih =>
          intro n
          obtain ⟨s, o⟩ := x
          cases o <;> simp [Dv.keysFrom, Dv.ents, ih]
      exact this d 0
    rw [e]
    have : (Dv.ents 0 d).length = Maps.size (Dv.waitsD d) := rfl
    omega
  have lbs := h.lts
  have lbm := h.ltm
  have HKP := Lib.hid hk
  clear h hs hks hfin hfn hk
  go_enter Tryz.func35, Tryz.ntmps35
  go_wp2_with (go_at_call 38; refine HH.out.mono ?_; rintro e w' ⟨rfl, rfl⟩)
  refine (keys_any (some bm) w).mono ?_
  rintro e w1 ⟨rfl, rfl⟩
  go_wp2_with (fail)
  refine hS.out.mono ?_
  rintro e w2 ⟨v, ss, rfl, hperm, hrow, hnil, hbel⟩
  rw [Dv.sorted_keys_eq d ss hperm, ← HKS.out] at hrow
  have hlen : ss.length = ks.length := by have := hrow.1; simpa using this.symm
  obtain ⟨ad, cp, rfl⟩ := own_form hrow
  have hkr : KRow w2 (w.heap.size + 1) ad ks := by
    intro i hi
    rcases hrow.2 with ⟨e1, e2⟩ | ⟨g, cap2, cur, e1, hbg, hg, r⟩
    · omega
    · simp only [Value.slice.injEq] at e1
      refine ⟨g, e1.1, hbg, ?_⟩
      have := hrow.cells (g := g) (by rw [e1.1]; rfl) i (.int .i64 ((ks.getD i 0 : Nat) : Int)) (by
        rw [List.getElem?_map, List.getElem?_map, List.getElem?_eq_getElem hi]
        simp [encZ, List.getD, hi])
      have hadd : (⟨g, 0, none⟩ : Addr).add i = ⟨g, i, none⟩ := by unfold Addr.add; split <;> simp_all
      rw [hadd] at this
      exact this
  have u2 : Upd (fun _ => False) w w2 := ((Upd.refl _ w).alloc (.cells #[.map (some bm)] 66)).trans (Upd.of_below hbel) (fun i hi f => by omega)
  obtain ⟨n, hn⟩ : ∃ n, n = ss.length := ⟨_, rfl⟩
  rw [← hn]
  rw [← hn] at hlen
  clear hrow hnil hperm hbel hS hn
  have h2 := H.out.upd u2 (fun f => f) (fun f => f) (fun f => f)
  have k2 := hK w w2 (u2.mono (fun _ _ f => f.elim)) HKP.out
  have hn4 : n ≤ 4096 := by omega
  have HL := Lib.hid hlen
  clear hlen
  go_wp2
  go_loopw [18] (fun v18 wr => ∃ (i : Nat) (dc : List Dv.Cel), v18 = .int .i64 i ∧ i ≤ n ∧ Hid (Dv.keysFrom 0 dc = ks.drop i) ∧ Hid (Dv.goK c i (ks.drop i) dc = fin) ∧ DevAt wr b bs bm cap dc ∧ Keep wr ∧ KRow wr (w.heap.size + 1) ad ks ∧ Upd (fun k => k = bs ∨ k = bm) w wr) (fun v18 _ => n - (intOf v18).toNat)
  case atStart => exact ⟨0, d, rfl, Nat.zero_le _, by rw [List.drop_zero]; exact HKS.out.symm, by rw [List.drop_zero]; exact HF.out, h2, k2, hkr, u2.mono (fun _ _ f => f.elim)⟩
  case round =>
    obtain ⟨i, dc, rfl, hin, hkd, hgo, hdev, hkp, hkrow, hur⟩ := hrel
    by_cases hi : i < n
    · have hik : i < ks.length := by rw [HL.out] at hi; exact hi
      obtain ⟨k, hkk⟩ : ∃ k, k = ks.getD i 0 := ⟨_, rfl⟩
      have hdr : ks.drop i = k :: ks.drop (i + 1) := by rw [List.drop_eq_getElem_cons hik, hkk]; simp [List.getD, hik]
      have hkd1 := hkd.out
      have hgo1 := hgo.out
      rw [hdr] at hkd1 hgo1
      obtain ⟨_, hklt, x, hx⟩ := Dv.keys_mem k dc 0 (by rw [hkd1]; simp)
      rw [Nat.sub_zero] at hklt hx
      have hxo : (Dv.cell dc k).2 = some x := by rw [cell_at dc k hklt] at hx; exact hx
      have hkd2 := Dv.keys_next k (Dv.mixB (c i) x (Dv.cell dc k).1) dc 0 (ks.drop (i + 1)) hkd1
      rw [Nat.sub_zero] at hkd2
      unfold Dv.goK at hgo1
      rw [hxo, Option.getD_some] at hgo1
      have hsl := (cell_len hdev.ok k hklt).1
      have hxl := (cell_len hdev.ok k hklt).2 x hxo
      have hcc := hcl i
      have hmixl := mix_len (c i) x (Dv.cell dc k).1 hxl hsl
      obtain ⟨s, hse⟩ : ∃ s, s = (Dv.cell dc k).1 := ⟨_, rfl⟩
      obtain ⟨mix, hmix⟩ : ∃ m, m = Dv.mixB (c i) x s := ⟨_, rfl⟩
      rw [← hse] at hkd2 hgo1 hsl hmixl
      rw [← hmix] at hkd2 hgo1 hmixl
      have HKD := Lib.hid hkd2
      have HGO := Lib.hid hgo1
      obtain ⟨g, rfl, hgl, hkc⟩ := hkrow i hik
      rw [← hkk] at hkc
      clear hkd hgo hkd1 hgo1 hkd2 hdr hx hik
      have HD := Lib.hid hdev
      have d0 := cell_heap hdev.dev 0 _ rfl
      have d1 := cell_heap hdev.dev 1 _ rfl
      have l2 := hdev.ok.2.1
      obtain ⟨nd, hnd⟩ : ∃ nd, nd = dc.length := ⟨_, rfl⟩
      have hknd : k < nd := by omega
      rw [← hnd] at d0 l2
      have hk0 : (0 : Int) ≤ (k : Int) := by omega
      have hki : (k : Int) < (nd : Int) := by omega
      have hi0 : (0 : Int) ≤ (i : Int) := by omega
      have hii : (i : Int) < (n : Int) := by omega
      have HLK : Hid (∀ w, Upd (fun _ => False) wr w → (Instr.lookup 66 (.map (some bm)) (.int .i64 (k : Int)) false).run Tryz.prog w = .ok (secV x) w) := fun w hw => (hdev.waits.upd hw (fun f => f)).look1 k hklt hdev.ok.2.1 x hxo
      have HLD : Hid (∀ w, Upd (fun _ => False) wr w → (loadVar 81 ⟨bs, k * 128, none⟩).run Tryz.prog w = .ok (secV s) w) := fun w hw => by
        have := (hdev.row.upd hw (fun f => f)).load hdev.ok k hklt
        rw [← hse] at this; exact this
      clear hdev
      have HSE := Lib.hid hse
      have HMX := Lib.hid hmix
      have HND := Lib.hid hnd
      have HKK := Lib.hid hkk
      clear hse hmix hnd hkk
      go_wp2
      refine wp_region_held_drew (S := fun w' => Upd (fun _ => False) wr w') (by kernel_rfl) (Upd.refl _ _).drew (fun hS => ?_)
      refine take_first (i := 0) (some 23) (v := ?_) rfl rfl (by kernel_rfl) (by kernel_rfl) (by kernel_rfl) (fun _ _ _ h => h) (Or.inl ⟨by rfl, ?_⟩) hS ?_
      rotate_left
      · intro w hSw; go_simp; try with_reducible rfl
      simp only [Act.put, List.setIfInBounds_toArray, List.set_cons_zero, List.set_cons_succ]
      refine take_first (i := 1) (some 24) (v := ?_) rfl rfl (by kernel_rfl) (by kernel_rfl) (by kernel_rfl) (fun _ _ _ h => h) (Or.inl ⟨by rfl, ?_⟩) hS ?_
      rotate_left
      · intro w hSw; go_simp; try with_reducible rfl
      simp only [Act.put, List.setIfInBounds_toArray, List.set_cons_zero, List.set_cons_succ]
      refine take_first (i := 2) (some 25) (v := ?_) rfl rfl (by kernel_rfl) (by kernel_rfl) (by kernel_rfl) (fun _ _ _ h => h) (Or.inl ⟨by rfl, ?_⟩) hS ?_
      rotate_left
      · intro w hSw; go_simp; try with_reducible rfl
      simp only [Act.put, List.setIfInBounds_toArray, List.set_cons_zero, List.set_cons_succ]
      refine take_first (i := 3) (some 26) rfl rfl (by kernel_rfl) (by kernel_rfl) (by kernel_rfl) (fun _ _ _ h => h) (yi_load rfl 66 (.tmp 25) rfl ⟨b, 1, none⟩ rfl (.map (some bm)) (fun w hw => by have c := hw.cell d1 (fun f => f); go_simp)) hS ?_
      simp only [Act.put, List.setIfInBounds_toArray, List.set_cons_zero, List.set_cons_succ]
      refine take_first (i := 4) (some 27) (v := ?_) rfl rfl (by kernel_rfl) (by kernel_rfl) (by kernel_rfl) (fun _ _ _ h => h) (Or.inl ⟨by rfl, ?_⟩) hS ?_
      rotate_left
      · intro w hSw; go_simp; try with_reducible rfl
      simp only [Act.put, List.setIfInBounds_toArray, List.set_cons_zero, List.set_cons_succ]
      refine take_first (i := 5) (some 28) rfl rfl (by kernel_rfl) (by kernel_rfl) (by kernel_rfl) (fun _ _ _ h => h) (yi_lookup rfl 66 (.tmp 26) (.tmp 27) false rfl (.map (some bm)) (.int .i64 (k : Int)) rfl rfl (secV x) (fun w hw => HLK.out w hw)) hS ?_
      simp only [Act.put, List.setIfInBounds_toArray, List.set_cons_zero, List.set_cons_succ]
      refine take_first (i := 6) (some 29) (v := ?_) rfl rfl (by kernel_rfl) (by kernel_rfl) (by kernel_rfl) (fun _ _ _ h => h) (Or.inl ⟨by rfl, ?_⟩) hS ?_
      rotate_left
      · intro w hSw; go_simp; try with_reducible rfl
      simp only [Act.put, List.setIfInBounds_toArray, List.set_cons_zero, List.set_cons_succ]
      refine take_first (i := 7) (some 30) (v := ?_) rfl rfl (by kernel_rfl) (by kernel_rfl) (by kernel_rfl) (fun _ _ _ h => h) (Or.inl ⟨by rfl, ?_⟩) hS ?_
      rotate_left
      · intro w hSw; go_simp; try with_reducible rfl
      simp only [Act.put, List.setIfInBounds_toArray, List.set_cons_zero, List.set_cons_succ]
      refine take_first (i := 8) (some 31) (v := ?_) rfl rfl (by kernel_rfl) (by kernel_rfl) (by kernel_rfl) (fun _ _ _ h => h) (Or.inl ⟨by rfl, ?_⟩) hS ?_
      rotate_left
      · intro w hSw; go_simp; try with_reducible rfl
      simp only [Act.put, List.setIfInBounds_toArray, List.set_cons_zero, List.set_cons_succ]
      refine take_first (i := 9) (some 32) rfl rfl (by kernel_rfl) (by kernel_rfl) (by kernel_rfl) (fun _ _ _ h => h) (yi_load rfl 65 (.tmp 31) rfl ⟨b, 0, none⟩ rfl (.slice (some ⟨bs, 0, none⟩) nd cap) (fun w hw => by have c := hw.cell d0 (fun f => f); clear HLK HLD; go_simp)) hS ?_
      simp only [Act.put, List.setIfInBounds_toArray, List.set_cons_zero, List.set_cons_succ]
      refine take_first (i := 10) (some 33) (v := ?_) rfl rfl (by kernel_rfl) (by kernel_rfl) (by kernel_rfl) (fun _ _ _ h => h) (Or.inl ⟨by rfl, ?_⟩) hS ?_
      rotate_left
      · intro w hSw; go_simp; try with_reducible rfl
      simp only [Act.put, List.setIfInBounds_toArray, List.set_cons_zero, List.set_cons_succ]
      refine take_first (i := 11) (some 34) (v := ?_) rfl rfl (by kernel_rfl) (by kernel_rfl) (by kernel_rfl) (fun _ _ _ h => h) (Or.inl ⟨by rfl, ?_⟩) hS ?_
      rotate_left
      · intro w hSw; go_simp; try with_reducible rfl
      simp only [Act.put, List.setIfInBounds_toArray, List.set_cons_zero, List.set_cons_succ]
      refine take_first (i := 12) (some 35) rfl rfl (by kernel_rfl) (by kernel_rfl) (by kernel_rfl) (fun _ _ _ h => h) (yi_load rfl 81 (.tmp 34) rfl ⟨bs, k * 128, none⟩ rfl (secV s) (fun w hw => HLD.out w hw)) hS ?_
      simp only [Act.put, List.setIfInBounds_toArray, List.set_cons_zero, List.set_cons_succ]
      refine two_new (fun pa pb W => NewAt wr W pa x ∧ NewAt wr W pb s ∧ pa ≠ pb ∧ Upd (fun _ => False) wr W) (some 6) (some 7) ?_ (fun hc => ?_)
      rotate_left
      · refine wpAnyH_ready (rs := [13, 14]) (by kernel_rfl) (by simp) ?_
        refine AllReadyH.cons rfl (fun K hK => ?_) ?_
        · refine step_alloc_new (some 6) rfl rfl rfl hS (fun pa W1 u1 n1 k1 => hK.out _ _ u1 (fun _ => ?_))
          clear hK K
          simp only [Act.put, List.setIfInBounds_toArray, List.set_cons_zero, List.set_cons_succ]
          refine wpAnyH_ready (rs := [14]) (by kernel_rfl) (by simp) ?_
          refine AllReadyH.cons rfl (fun K hK => ?_) ?_
          · refine step_alloc_new (some 7) rfl rfl rfl u1 (fun pb W2 u2 n2 k2 => hK.out _ _ u2 (fun _ => ?_))
            clear hK K
            obtain ⟨ne2, o2⟩ := k2 _ _ n1
            simp only [Act.put, List.setIfInBounds_toArray, List.set_cons_zero, List.set_cons_succ]
            refine wpAnyH_ready (rs := [15]) (by kernel_rfl) (by simp) ?_
            refine AllReadyH.cons rfl (fun K hK => ?_) ?_
            · refine step_store_new rfl rfl (.tmp 6) (.tmp 28) rfl u2 pa zeros x o2 zeros_len hxl rfl rfl (fun W3 u3 n3 k3 => hK.out _ _ u3 (fun _ => ?_))
              clear hK K
              have o3 := k3 _ _ (Ne.symm ne2) n2
              refine wpAnyH_ready (rs := [16]) (by kernel_rfl) (by simp) ?_
              refine AllReadyH.cons rfl (fun K hK => ?_) ?_
              · refine step_store_new rfl rfl (.tmp 7) (.tmp 35) rfl u3 pb zeros s o3 zeros_len hsl rfl rfl (fun W4 u4 n4 k4 => hK.out _ _ u4 (fun _ => ?_))
                clear hK K
                have o4 := k4 _ _ ne2 n3
                refine wpAnyH_done (by kernel_rfl) ?_ _
                exact hc pa pb _ ⟨o4, n4, ne2, u4⟩
              exact AllReadyH.nil
            exact AllReadyH.nil
          exact AllReadyH.nil
        refine AllReadyH.cons rfl (fun K hK => ?_) ?_
        · refine step_alloc_new (some 7) rfl rfl rfl hS (fun pb W1 u1 n1 k1 => hK.out _ _ u1 (fun _ => ?_))
          clear hK K
          simp only [Act.put, List.setIfInBounds_toArray, List.set_cons_zero, List.set_cons_succ]
          refine wpAnyH_ready (rs := [13]) (by kernel_rfl) (by simp) ?_
          refine AllReadyH.cons rfl (fun K hK => ?_) ?_
          · refine step_alloc_new (some 6) rfl rfl rfl u1 (fun pa W2 u2 n2 k2 => hK.out _ _ u2 (fun _ => ?_))
            clear hK K
            obtain ⟨ne2, o2⟩ := k2 _ _ n1
            simp only [Act.put, List.setIfInBounds_toArray, List.set_cons_zero, List.set_cons_succ]
            refine wpAnyH_ready (rs := [15]) (by kernel_rfl) (by simp) ?_
            refine AllReadyH.cons rfl (fun K hK => ?_) ?_
            · refine step_store_new rfl rfl (.tmp 6) (.tmp 28) rfl u2 pa zeros x n2 zeros_len hxl rfl rfl (fun W3 u3 n3 k3 => hK.out _ _ u3 (fun _ => ?_))
              clear hK K
              have o3 := k3 _ _ (Ne.symm (Ne.symm ne2)) o2
              refine wpAnyH_ready (rs := [16]) (by kernel_rfl) (by simp) ?_
              refine AllReadyH.cons rfl (fun K hK => ?_) ?_
              · refine step_store_new rfl rfl (.tmp 7) (.tmp 35) rfl u3 pb zeros s o3 zeros_len hsl rfl rfl (fun W4 u4 n4 k4 => hK.out _ _ u4 (fun _ => ?_))
                clear hK K
                have o4 := k4 _ _ (Ne.symm ne2) n3
                refine wpAnyH_done (by kernel_rfl) ?_ _
                exact hc pa pb _ ⟨o4, n4, (Ne.symm ne2), u4⟩
              exact AllReadyH.nil
            exact AllReadyH.nil
          exact AllReadyH.nil
        exact AllReadyH.nil
      · rintro pa pb W ⟨na, nb, hne, uW⟩
        simp only [Act.put, List.setIfInBounds_toArray, List.set_cons_zero, List.set_cons_succ]
        go_wp2
        have kW := hK wr W (uW.mono (fun _ _ f => f.elim)) hkp
        have hci := hB i
        refine wp_region_held_drew (S := fun _ => True) (by kernel_rfl) trivial (fun hS2 => ?_)
        refine take_first (i := 0) (some 36) (v := ?_) rfl rfl (by kernel_rfl) (by kernel_rfl) (by kernel_rfl) (fun _ _ _ h => h) (Or.inl ⟨by rfl, ?_⟩) hS2 ?_
        rotate_left
        · intro w hSw; go_simp; try with_reducible rfl
        simp only [Act.put, List.setIfInBounds_toArray, List.set_cons_zero, List.set_cons_succ]
        refine take_first (i := 1) (some 37) (v := ?_) rfl rfl (by kernel_rfl) (by kernel_rfl) (by kernel_rfl) (fun _ _ _ h => h) (Or.inl ⟨by rfl, ?_⟩) hS2 ?_
        rotate_left
        · intro w hSw; go_simp; try with_reducible rfl
        simp only [Act.put, List.setIfInBounds_toArray, List.set_cons_zero, List.set_cons_succ]
        refine take_first (i := 2) (some 38) (v := ?_) rfl rfl (by kernel_rfl) (by kernel_rfl) (by kernel_rfl) (fun _ _ _ h => h) (Or.inl ⟨by rfl, ?_⟩) hS2 ?_
        rotate_left
        · intro w hSw; go_simp; try with_reducible rfl
        simp only [Act.put, List.setIfInBounds_toArray, List.set_cons_zero, List.set_cons_succ]
        obtain ⟨m, hm⟩ : ∃ m, min (c i) 128 = m := ⟨_, rfl⟩
        have hm1 : m ≤ 128 := by omega
        have hm2 : (0 : Int) ≤ (m : Int) := by omega
        have hm3 : (m : Int) ≤ 128 := by omega
        refine wpAnyH_ready (rs := [3]) (by kernel_rfl) (by simp) ?_
        refine AllReadyH.cons rfl (fun K hK2 => ?_) AllReadyH.nil
        refine step_call_at (some 39) rfl rfl (.tmp 37) (.tmp 38) 3 rfl f hE caps rfl (.int .i64 (i : Int)) rfl (.int .i64 (c i : Nat)) (fun W3 => Upd (fun _ => False) W.drew W3) (hB i W.drew (by omega) (hK W W.drew (Upd.refl _ _).drew kW)) (fun W3 u3 => ?_)
        have hS3 : Upd (fun _ => False) W W3 := u3.of_drew
        refine hK2.out _ _ trivial (fun _ => ?_)
        clear hK2 K
        simp only [Act.put, List.setIfInBounds_toArray, List.set_cons_zero, List.set_cons_succ]
        refine wpAnyH_ready (rs := [4]) (by kernel_rfl) (by simp) ?_
        refine AllReadyH.cons rfl (fun K hK2 => ?_) AllReadyH.nil
        refine step_min (some 40) rfl rfl (.tmp 39) (.const (.int .i64 128)) 3 3 rfl (c i) 128 m hm rfl rfl ?_
        refine hK2.out _ _ trivial (fun _ => ?_)
        clear hK2 K
        simp only [Act.put, List.setIfInBounds_toArray, List.set_cons_zero, List.set_cons_succ]
        refine take_first (i := 5) (some 41) (v := ?_) rfl rfl (by kernel_rfl) (by kernel_rfl) (by kernel_rfl) (fun _ _ _ h => h) (Or.inl ⟨by rfl, ?_⟩) trivial ?_
        rotate_left
        · intro w hSw; go_simp; try with_reducible rfl
        simp only [Act.put, List.setIfInBounds_toArray, List.set_cons_zero, List.set_cons_succ]
        have u4 : Upd (fun _ => False) wr W3 := uW.trans hS3 (fun _ _ f => f)
        refine wpAnyH_ready (rs := [6]) (by kernel_rfl) (by simp) ?_
        refine AllReadyH.cons rfl (fun K hK2 => ?_) AllReadyH.nil
        refine step_copy_new (some 42) rfl rfl (.tmp 36) (.tmp 41) rfl u4 pa pb m 128 x s ⟨na.1, hS3.heap na.2 (fun f => f)⟩ ⟨nb.1, hS3.heap nb.2 (fun f => f)⟩ hxl hsl hm1 rfl rfl (fun W5 u5 nb5 => ?_)
        refine hK2.out _ _ trivial (fun _ => ?_)
        clear hK2 K
        simp only [Act.put, List.setIfInBounds_toArray, List.set_cons_zero, List.set_cons_succ]
        refine wpAnyH_done (by kernel_rfl) ?_ _
        have hmx : x.take m ++ s.drop m = mix := by rw [HMX.out]; unfold Dv.mixB; rw [hm]
        rw [hmx] at nb5
        have e0 := u5.cell d0 (fun f => f)
        have hpb : pb ≠ bs := by have h1 := nb5.1; have h2 := hur.size; omega
        have HNB : Hid (∀ w, Upd (fun i => i = bs) W5 w → (loadVar 81 ⟨pb, 0, none⟩).run Tryz.prog w = .ok (secV mix) w) := fun w hw => load_new hmixl (hw.heap nb5.2 (fun f => hpb f))
        obtain ⟨bb, hbb⟩ : ∃ bb, bb = (mix != s) := ⟨_, rfl⟩
        go_wp2
        refine wp_region_held_drew (S := fun w' => Upd (fun _ => False) W5 w') (by kernel_rfl) (Upd.refl _ _).drew (fun hS5 => ?_)
        refine take_first (i := 0) (some 43) rfl rfl (by kernel_rfl) (by kernel_rfl) (by kernel_rfl) (fun _ _ _ h => h) (yi_load rfl 81 (.tmp 7) rfl ⟨pb, 0, none⟩ rfl (secV mix) (fun w hw => HNB.out w (hw.mono (fun _ _ f => f.elim)))) hS5 ?_
        simp only [Act.put, List.setIfInBounds_toArray, List.set_cons_zero, List.set_cons_succ]
        refine take_first (i := 1) (some 44) (v := ?_) rfl rfl (by kernel_rfl) (by kernel_rfl) (by kernel_rfl) (fun _ _ _ h => h) (Or.inl ⟨by rfl, ?_⟩) hS5 ?_
        rotate_left
        · intro w hSw; go_simp; try with_reducible rfl
        simp only [Act.put, List.setIfInBounds_toArray, List.set_cons_zero, List.set_cons_succ]
        refine take_first (i := 2) (some 45) (v := ?_) rfl rfl (by kernel_rfl) (by kernel_rfl) (by kernel_rfl) (fun _ _ _ h => h) (Or.inl ⟨by rfl, ?_⟩) hS5 ?_
        rotate_left
        · intro w hSw; go_simp; try with_reducible rfl
        simp only [Act.put, List.setIfInBounds_toArray, List.set_cons_zero, List.set_cons_succ]
        refine take_first (i := 3) (some 46) (v := ?_) rfl rfl (by kernel_rfl) (by kernel_rfl) (by kernel_rfl) (fun _ _ _ h => h) (Or.inl ⟨by rfl, ?_⟩) hS5 ?_
        rotate_left
        · intro w hSw; go_simp; try with_reducible rfl
        simp only [Act.put, List.setIfInBounds_toArray, List.set_cons_zero, List.set_cons_succ]
        refine take_first (i := 4) (some 47) rfl rfl (by kernel_rfl) (by kernel_rfl) (by kernel_rfl) (fun _ _ _ h => h) (yi_load rfl 65 (.tmp 46) rfl ⟨b, 0, none⟩ rfl (.slice (some ⟨bs, 0, none⟩) nd cap) (fun w hw => by have c := hw.cell e0 (fun f => f); clear HLK HLD; go_simp)) hS5 ?_
        simp only [Act.put, List.setIfInBounds_toArray, List.set_cons_zero, List.set_cons_succ]
        refine take_first (i := 5) (some 48) (v := ?_) rfl rfl (by kernel_rfl) (by kernel_rfl) (by kernel_rfl) (fun _ _ _ h => h) (Or.inl ⟨by rfl, ?_⟩) hS5 ?_
        rotate_left
        · intro w hSw; go_simp; try with_reducible rfl
        simp only [Act.put, List.setIfInBounds_toArray, List.set_cons_zero, List.set_cons_succ]
        refine take_first (i := 6) (some 49) (v := ?_) rfl rfl (by kernel_rfl) (by kernel_rfl) (by kernel_rfl) (fun _ _ _ h => h) (Or.inl ⟨by rfl, ?_⟩) hS5 ?_
        rotate_left
        · intro w hSw; go_simp; try with_reducible rfl
        simp only [Act.put, List.setIfInBounds_toArray, List.set_cons_zero, List.set_cons_succ]
        refine take_first (i := 7) (some 50) rfl rfl (by kernel_rfl) (by kernel_rfl) (by kernel_rfl) (fun _ _ _ h => h) (yi_load rfl 81 (.tmp 49) rfl ⟨bs, k * 128, none⟩ rfl (secV s) (fun w hw => HLD.out w (u5.trans hw (fun _ _ f => f)))) hS5 ?_
        simp only [Act.put, List.setIfInBounds_toArray, List.set_cons_zero, List.set_cons_succ]
        refine take_first (i := 8) (some 51) rfl rfl (by kernel_rfl) (by kernel_rfl) (by kernel_rfl) (fun _ _ _ h => h) (yi_bin rfl .neq 81 81 (.tmp 43) (.tmp 50) rfl (secV mix) (secV s) rfl rfl (fun w => guard_sec _ _ _ _ w) (.bool bb) (fun w => by rw [hbb]; exact neq_sec mix s hmixl hsl w)) hS5 ?_
        simp only [Act.put, List.setIfInBounds_toArray, List.set_cons_zero, List.set_cons_succ]
        refine wpAnyH_done (by kernel_rfl) ?_ _
        have hd5 := HD.out.upd u5 (fun f => f) (fun f => f) (fun f => f)
        have e1 := cell_heap hd5.dev 1 _ rfl
        have HKN : Hid (k < dc.length) := Lib.hid (by rw [← HND.out]; exact hknd)
        cases bb with
        | false =>
          have hms : mix = s := by simpa using hbb.symm
          have HW5 := Lib.hid (hd5.waits.upd ((Upd.refl (fun _ => False) W5).drew) (fun f => f))
          have hs5 : SureAt W5.drew bs cap (dc.set k (mix, none)) := by
            have := (hd5.row.upd ((Upd.refl (fun _ => False) W5).drew) (fun f => f)).same k HKN.out none
            rw [← HSE.out, ← hms] at this; exact this
          have hu5 : Upd (fun i => i = bs) W5 W5.drew := (Upd.refl _ _).drew
          clear hms hbb
          clear HLK HLD HNB d0 d1 e0 na nb nb5
          go_wp2_with (refine wpList_delete_waits rfl (.tmp 62) (.tmp 63) rfl (HW5.out) k HKN.out hd5.ok.2.1 mix rfl rfl (fun W6 hw6 hg6 => ?_))
          obtain ⟨hd6, u6⟩ := settled hd5 HKN.out hmixl hs5 hu5 hw6 hg6
          have u56 : Upd (fun i => i = bs ∨ i = bm) wr W6 := (u5.mono (fun _ _ f => f.elim)).trans u6 (fun _ _ f => f)
          have hkr6 := hkrow.upd u56 (fun k f => by omega)
          have hkp6 := hK wr W6 u56 hkp
          have hur6 := hur.trans u56 (fun _ _ f => f)
          have y1 : (i : Int) + 1 = ((i + 1 : Nat) : Int) := by omega
          go_wp2
          go_roundw
          case rel => exact ⟨i + 1, dc.set k (mix, none), by go_num, by omega, HKD, HGO, hd6, hkp6, hkr6, hur6⟩
          case measure => simp [intOf]; omega
        | true =>
          clear hbb
          have hr := hd5.row.upd (((Upd.refl (fun _ => False) W5).drew).drew) (fun f => f)
          obtain ⟨W', hst, hs5, hu5'⟩ := hr.store hd5.ok k HKN.out mix hmixl none
          have hu5 : Upd (fun i => i = bs) W5 W' := ((((Upd.refl (fun i => i = bs) W5).drew).drew).trans hu5' (fun _ _ f => f))
          have HST := Lib.hid hst
          have HW5 := Lib.hid (hd5.waits.upd hu5 (fun f => hd5.sm_ne f.symm))
          clear hr hst hu5'
          go_wp2
          refine wp_region_held_drew (S := fun w' => Upd (fun i => i = bs) W5 w') (by kernel_rfl) ((Upd.refl _ _).drew).drew (fun hS6 => ?_)
          refine take_first (i := 0) (some 52) (v := ?_) rfl rfl (by kernel_rfl) (by kernel_rfl) (by kernel_rfl) (fun _ _ _ h => h) (Or.inl ⟨by rfl, ?_⟩) hS6 ?_
          rotate_left
          · intro w hSw; go_simp; try with_reducible rfl
          simp only [Act.put, List.setIfInBounds_toArray, List.set_cons_zero, List.set_cons_succ]
          refine take_first (i := 1) (some 53) (v := ?_) rfl rfl (by kernel_rfl) (by kernel_rfl) (by kernel_rfl) (fun _ _ _ h => h) (Or.inl ⟨by rfl, ?_⟩) hS6 ?_
          rotate_left
          · intro w hSw; go_simp; try with_reducible rfl
          simp only [Act.put, List.setIfInBounds_toArray, List.set_cons_zero, List.set_cons_succ]
          refine take_first (i := 2) (some 54) (v := ?_) rfl rfl (by kernel_rfl) (by kernel_rfl) (by kernel_rfl) (fun _ _ _ h => h) (Or.inl ⟨by rfl, ?_⟩) hS6 ?_
          rotate_left
          · intro w hSw; go_simp; try with_reducible rfl
          simp only [Act.put, List.setIfInBounds_toArray, List.set_cons_zero, List.set_cons_succ]
          refine take_first (i := 3) (some 55) rfl rfl (by kernel_rfl) (by kernel_rfl) (by kernel_rfl) (fun _ _ _ h => h) (yi_load rfl 65 (.tmp 54) rfl ⟨b, 0, none⟩ rfl (.slice (some ⟨bs, 0, none⟩) nd cap) (fun w hw => by have c := hw.cell e0 (fun f => hd5.bs_ne f); clear HLK HLD; go_simp)) hS6 ?_
          simp only [Act.put, List.setIfInBounds_toArray, List.set_cons_zero, List.set_cons_succ]
          refine take_first (i := 4) (some 56) (v := ?_) rfl rfl (by kernel_rfl) (by kernel_rfl) (by kernel_rfl) (fun _ _ _ h => h) (Or.inl ⟨by rfl, ?_⟩) hS6 ?_
          rotate_left
          · intro w hSw; go_simp; try with_reducible rfl
          simp only [Act.put, List.setIfInBounds_toArray, List.set_cons_zero, List.set_cons_succ]
          refine take_first (i := 5) (some 57) rfl rfl (by kernel_rfl) (by kernel_rfl) (by kernel_rfl) (fun _ _ _ h => h) (yi_load rfl 81 (.tmp 7) rfl ⟨pb, 0, none⟩ rfl (secV mix) (fun w hw => HNB.out w hw)) hS6 ?_
          simp only [Act.put, List.setIfInBounds_toArray, List.set_cons_zero, List.set_cons_succ]
          refine take_first (i := 6) (some 58) (v := ?_) rfl rfl (by kernel_rfl) (by kernel_rfl) (by kernel_rfl) (fun _ _ _ h => h) (Or.inl ⟨by rfl, ?_⟩) hS6 ?_
          rotate_left
          · intro w hSw; go_simp; try with_reducible rfl
          simp only [Act.put, List.setIfInBounds_toArray, List.set_cons_zero, List.set_cons_succ]
          refine wpAnyH_ready (rs := [7]) (by kernel_rfl) (by simp) ?_
          refine AllReadyH.cons rfl (fun K hK2 => ?_) AllReadyH.nil
          refine step_store_at rfl rfl 81 (.tmp 58) (.tmp 57) rfl ⟨bs, k * 128, none⟩ rfl (secV mix) rfl HST.out ?_
          refine hK2.out _ _ hu5 (fun _ => ?_)
          clear hK2 K HST
          refine wpAnyH_done (by kernel_rfl) ?_ _
          have e2 := hu5.cell e1 (fun f => hd5.bs_ne f)
          clear HLK HLD HNB d0 d1 e0 e1 na nb nb5
          have e1 := e2
          clear e2
          go_wp2_with (refine wpList_delete_waits rfl (.tmp 62) (.tmp 63) rfl (HW5.out) k HKN.out hd5.ok.2.1 mix rfl rfl (fun W6 hw6 hg6 => ?_))
          obtain ⟨hd6, u6⟩ := settled hd5 HKN.out hmixl hs5 hu5 hw6 hg6
          have u56 : Upd (fun i => i = bs ∨ i = bm) wr W6 := (u5.mono (fun _ _ f => f.elim)).trans u6 (fun _ _ f => f)
          have hkr6 := hkrow.upd u56 (fun k f => by omega)
          have hkp6 := hK wr W6 u56 hkp
          have hur6 := hur.trans u56 (fun _ _ f => f)
          have y1 : (i : Int) + 1 = ((i + 1 : Nat) : Int) := by omega
          go_wp2
          go_roundw
          case rel => exact ⟨i + 1, dc.set k (mix, none), by go_num, by omega, HKD, HGO, hd6, hkp6, hkr6, hur6⟩
          case measure => simp [intOf]; omega
    · obtain rfl : i = n := by omega
      have hdr : ks.drop i = [] := List.drop_eq_nil_of_le (by rw [HL.out]; exact Nat.le_refl _)
      have hg2 : dc = fin := by have := hgo.out; rw [hdr] at this; exact this
      have HG := Lib.hid hg2
      clear hdr hg2 hkd hgo
      go_wp2
      go_end0
      exact ⟨rfl, by rw [← HG.out]; exact hdev, hur⟩

end Go.Proofs.YtocioaondjgceaaGreatDoor
