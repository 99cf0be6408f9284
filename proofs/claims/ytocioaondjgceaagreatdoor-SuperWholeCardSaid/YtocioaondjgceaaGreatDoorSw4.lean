/- SuperWhole. -/
import Derived.Test.YtocioaondjgceaaGreatDoorSw3
import Derived.StillTailTactics
set_option linter.unusedVariables false
set_option linter.unusedSimpArgs false
namespace Go.Proofs.YtocioaondjgceaaGreatDoor
open Go.RowKit Go.Maps

def supA (x : Sp.Sup) : Value := .agg #[.int .u64 (x.gen : Int), .int .u64 (x.calls : Int), .int .i64 x.root, .int .i64 x.table, .int .i64 x.sectors]
/-- between two tries -/
structure WI (wr : World) (B bf b bs bm cap : Nat) (cad : Option Addr) (cc pl k : Nat) (x : Sp.Sup) : Prop where
  fd : ∃ d a, FD wr bf b bs bm cap cad cc ⟨-1, a, true, []⟩ d ∧ SI d x ∧ a ≤ 1 + k
  gen : x.gen ≤ 1 + k
  last : wr.heap[pl]? = some (.cells (sup5 x).toArray 25 (0, 0))
  far : B ≤ bf ∧ B ≤ b ∧ B ≤ bs ∧ B ≤ bm ∧ B ≤ pl
theorem next_may {g c r t : Nat} (hg : 1 ≤ g) (hr : r < 446) (ht : t < 446) : Sp.may ⟨g, c, 66 + (r : Int), 66 + (t : Int), 512⟩ = true := by
  rw [Sp.may_iff]; dsimp only; omega

set_option maxHeartbeats 8000000 in
set_option maxRecDepth 100000 in
theorem walk_SuperWhole (w : World) (v : Option Addr) (cp : Nat) (l : List STry) (h : TriesAt w w.heap.size v l) :
    Calls Tryz.prog 4 #[.slice v l.length cp] w fun e w' => e = .returned (.bool true) ∧ Upd (fun i => w.heap.size ≤ i) w w' := by
  obtain ⟨B, hB⟩ : ∃ B, B = w.heap.size := ⟨_, rfl⟩
  rw [← hB] at h ⊢
  have HB := Lib.hid hB
  have HA := Lib.hid h
  obtain ⟨m, hm⟩ : ∃ m, m = l.length := ⟨_, rfl⟩
  have hm63 := h.len
  rw [← hm] at hm63 ⊢
  have HM := Lib.hid hm
  have HWk := Lib.hid law_worksS
  have HGv := Lib.hid law_given
  change Hid (∀ w, Calls _ _ _ w (fun e w' => e = .returned (.agg #[.int .u64 (1 : Int), .int .u64 (2 : Int), .int .i64 66, .int .i64 70, .int .i64 512]) ∧ Upd (fun _ => False) w w')) at HGv
  have HN := Lib.hid (dev_New_ok 512 w (by omega) (by omega))
  clear h hB hm
  go_enter Tryz.func4, Tryz.ntmps4
  go_wp2_with (fail)
  refine HN.out.mono ?_
  rintro e w1 ⟨rfl, hd1, u1⟩
  have HD1 := Lib.hid hd1
  have HU1 := Lib.hid u1
  have HFN := Lib.hid (fuse_New hd1 (-1) (by omega) (by omega) (ad := none) (cp := 0) (ks := []) ⟨by simp, (fun j hj => by cases hj), fun _ => rfl⟩)
  clear hd1 u1
  go_wp2_with (fail)
  refine HFN.out.mono ?_
  rintro e w2 ⟨bf, cad, cc, rfl, hbf, hfd, u2⟩
  have HFD := Lib.hid hfd
  have HU2 := Lib.hid (HU1.out.trans u2 (fun _ _ f => f))
  have hs1 := HU1.out.size
  have hbB : B ≤ bf := by have := HB.out; omega
  clear hfd u2
  by_cases hm40 : 40 < m
  · go_wp2_with (fail)
    refine (HWk.out _).mono ?_
    rintro e w4 ⟨rfl, u4⟩
    go_wp2
    go_ret
    exact ⟨rfl, (HU2.out.trans u4 (fun _ _ f => f)).mono (fun _ _ f => f.elim)⟩
  obtain ⟨u, hpu, hul, _⟩ := Sp.put_ok given0 (by decide) (by decide) (by decide)
  have HPU := Lib.hid hpu
  clear hpu
  go_wp2_with (fail)
  refine (HGv.out _).mono ?_
  rintro e w3 ⟨rfl, u3⟩
  have hW := super_Write (HFD.out.upd0 u3) (by show 0 ≤ _; omega) given0 (by decide) (by decide)
  rw [show max (-1 : Int) (-1) = -1 from rfl, supWrite_through 0 (newD 512) given0 HPU.out] at hW
  change Calls _ _ #[_, .agg #[.int .u64 (1 : Int), .int .u64 (2 : Int), .int .i64 66, .int .i64 70, .int .i64 512]] _ _ at hW
  have hwc := write_cells new_ok 1 (by rw [new_len]; omega) u hul
  change Calls _ _ _ _ (fun e w' => e = .returned (.int .i64 (writeE (newD 512) ((1 : Nat) : Int) u).2) ∧ FD w' bf _ _ _ _ cad cc ⟨-1, 1, true, []⟩ (writeE (newD 512) 1 u).1 ∧ _) at hW
  rw [hwc] at hW
  have HW := Lib.hid hW
  have HU3 := Lib.hid (HU2.out.trans u3 (fun _ _ f => f))
  clear hW hwc u3
  go_wp2_with (fail)
  refine HW.out.mono ?_
  rintro e w4 ⟨rfl, hfd4, u4⟩
  have HFD4 := Lib.hid hfd4
  have HU4 : Hid (Upd (fun i => B ≤ i) w w4) := Lib.hid ((HU3.out.mono (fun _ _ f => f.elim)).trans u4 (fun i hi e => by have := HB.out; rcases e with e | e | e <;> omega))
  have HBa := Lib.hid (dev_Barrier hfd4.dev)
  clear hfd4 u4
  go_wp2_with (fail)
  refine HBa.out.mono ?_
  rintro e w5 ⟨rfl, hd5, u5⟩
  have h5 := HFD4.out.turned hd5 u5 (fun e => by have := HFD4.out.ne; omega) (fun g e hne => absurd rfl hne)
  have HFD5 := Lib.hid h5
  have HU5 : Hid (Upd (fun i => B ≤ i) w w5) := Lib.hid (HU4.out.trans u5 (fun i hi e => by have := HB.out; omega))
  clear hd5 u5 h5
  go_wp2_with (fail)
  refine (HGv.out _).mono ?_
  rintro e w6 ⟨rfl, u6⟩
  have HFD6 := Lib.hid (HFD5.out.upd0 u6)
  have HU6 : Hid (Upd (fun i => B ≤ i) w w6) := Lib.hid (HU5.out.trans u6 (fun _ _ f => f.elim))
  clear u6
  have HI0 : Hid (WI (w6.alloc (.cells (sup5 given0).toArray 25)) B bf (w.heap.size + 2) w.heap.size (w.heap.size + 1) 512 cad cc w6.heap.size 0 given0) := by
    refine Lib.hid ⟨⟨_, 1, HFD6.out.upd0 ((Upd.refl _ w6).alloc _), si_init HPU.out, by omega⟩, by decide, heap_alloc_new _ _, hbB, ?_, ?_, ?_, ?_⟩
    all_goals (have := HB.out; have := HU6.out.size; omega)
  obtain ⟨b, hb⟩ : ∃ b, b = w.heap.size + 2 := ⟨_, rfl⟩
  obtain ⟨bs, hbs⟩ : ∃ bs, bs = w.heap.size := ⟨_, rfl⟩
  obtain ⟨bm, hbm⟩ : ∃ bm, bm = w.heap.size + 1 := ⟨_, rfl⟩
  go_wp2
  go_loopw [6] (fun i wr => ∃ (k : Nat) (x : Sp.Sup), k ≤ m ∧ i = .int .i64 k ∧ WI wr B bf (w.heap.size + 2) w.heap.size (w.heap.size + 1) 512 cad cc w6.heap.size k x ∧ Upd (fun i => B ≤ i) w wr) (fun i _ => m - (intOf i).toNat)
  case atStart => exact ⟨0, given0, Nat.zero_le _, rfl, HI0.out, HU6.out.alloc _⟩
  case round =>
    obtain ⟨k, x, hk, rfl, hI, hu⟩ := hrel
    have HI := Lib.hid hI
    have HU := Lib.hid hu
    clear hI hu
    by_cases hlt : k < m
    · obtain ⟨pa, rfl, ⟨hc1, hc2, hc3, hc4⟩, a0, a1, a2, a3⟩ := (HA.out.upd HU.out (fun i hi f => by omega)).cells k (by have := HM.out; omega)
      have hpa : (pa.add (k * 4)).block < B := by
        obtain ⟨_, p', e', hp', _⟩ := HA.out.one k _ (snth_at l k (by have := HM.out; omega))
        obtain rfl : pa = p' := by simpa using e'
        rw [s_block_add]; exact hp'
      have HC4 := Lib.hid hc4
      generalize snth l k = y at hc1 hc2 hc3 hc4 a0 a1 a2 a3 HC4
      obtain ⟨yc, yr, yt, ad, ycp, ks⟩ := y
      dsimp only at *
      obtain ⟨n, hn⟩ : ∃ n, n = ks.length := ⟨_, rfl⟩
      have hn63 : n ≤ 9223372036854775807 := by rw [hn]; exact hc4.len
      rw [← hn] at a3
      have HNk := Lib.hid hn
      clear hc4 hn
      by_cases hbig : 10 < n
      · go_wp2_with (fail)
        refine (HWk.out _).mono ?_
        rintro e w7 ⟨rfl, u7⟩
        go_wp2
        go_ret
        exact ⟨rfl, HU.out.trans u7 (fun _ _ f => f.elim)⟩
      obtain ⟨R, hR⟩ : ∃ R, R = yr % 446 := ⟨_, rfl⟩
      obtain ⟨T, hT⟩ : ∃ T, T = yt % 446 := ⟨_, rfl⟩
      have hR4 : R < 446 := by omega
      have hT4 : T < 446 := by omega
      have r1 : Int.tmod (yr : Int) 446 = (R : Int) := by rw [hR]; exact (Int.ofNat_tmod _ _).symm
      have r2 : (yr : Int) % 446 = (R : Int) := by omega
      have t1 : Int.tmod (yt : Int) 446 = (T : Int) := by rw [hT]; exact (Int.ofNat_tmod _ _).symm
      have t2 : (yt : Int) % 446 = (T : Int) := by omega
      have r0 : IntKind.i64.wrap (yr : Int) = (yr : Int) := IntWalk.i64_in _ (by omega)
      have t0 : IntKind.i64.wrap (yt : Int) = (yt : Int) := IntWalk.i64_in _ (by omega)
      have r3 : IntKind.i64.wrap (66 + (R : Int)) = 66 + (R : Int) := IntWalk.i64_in _ (by omega)
      have t3 : IntKind.i64.wrap (66 + (T : Int)) = 66 + (T : Int) := IntWalk.i64_in _ (by omega)
      clear hR hT
      have hgx := HI.out.gen
      obtain ⟨gx, hgx2⟩ : ∃ gx, gx = x.gen := ⟨_, rfl⟩
      have l0 := cell_heap HI.out.last 0 (.int .u64 (x.gen : Int)) rfl
      rw [← hgx2] at l0 hgx
      have HGX := Lib.hid hgx2
      clear hgx2
      have g1 : IntKind.u64.wrap ((gx : Int) + 1) = (gx : Int) + 1 := by
        simp [IntKind.wrap, IntKind.signed, IntKind.bits]; omega
      obtain ⟨d, a, hfd, hsi, hak⟩ := HI.out.fd
      obtain ⟨far1, far2, far3, far4, far5⟩ := HI.out.far
      have hlast := HI.out.last
      have HFDk := Lib.hid hfd
      have HSI := Lib.hid hsi
      have HLast := Lib.hid hlast
      have hlts : bf < wr.heap.size ∧ w.heap.size + 2 < wr.heap.size ∧ w6.heap.size < wr.heap.size := ⟨hfd.ltf, hfd.dev.ltb, lt_of_heap hlast⟩
      have hl6 : bf < w6.heap.size ∧ w.heap.size + 2 < w6.heap.size := ⟨HFD6.out.ltf, HFD6.out.dev.ltb⟩
      obtain ⟨nx, hnx⟩ : ∃ nx : Sp.Sup, nx = ⟨gx + 1, yc, 66 + (R : Int), 66 + (T : Int), 512⟩ := ⟨_, rfl⟩
      have hgx1 : 1 ≤ gx := by have := hsi.gen.1; have := HGX.out; omega
      obtain ⟨N, hpn, hNl, _⟩ := Sp.put_ok nx (by rw [hnx]; show gx + 1 < _; omega) (by rw [hnx]; exact hc1) (by rw [hnx]; exact next_may (by omega) hR4 hT4)
      have hngen : nx.gen = gx + 1 := by rw [hnx]
      have HWr := Lib.hid (fun (W : World) (hW : FD W bf (w.heap.size + 2) w.heap.size (w.heap.size + 1) 512 cad cc ⟨-1, a, true, []⟩ d) => by
        have := super_Write hW (by show a ≤ _; omega) nx (by omega) (by rw [hnx]; exact hc1)
        rw [supWrite_through a d nx hpn, write_cells hsi.ok _ (by have := hsi.len; omega) N hNl] at this
        exact this)
      have HStep := Lib.hid (fun c wh => si_step hsi (n := nx) (by rw [hngen, HGX.out]) (by have := HGX.out; omega) (by rw [hnx]; exact hc1) (by rw [hnx]) hpn c wh)
      have HWC := Lib.hid (write_cells hsi.ok (nx.gen % 2) (by have := hsi.len; omega) N hNl)
      have HNx : Hid (supV nx = .agg #[.int .u64 ((gx : Int) + 1), .int .u64 (yc : Int), .int .i64 (66 + (R : Int)), .int .i64 (66 + (T : Int)), .int .i64 512]) := Lib.hid (by rw [hnx]; simp [supV])
      have HLx : Hid (supV x = .agg #[.int .u64 (gx : Int), .int .u64 (x.calls : Int), .int .i64 x.root, .int .i64 x.table, .int .i64 x.sectors]) := Lib.hid (by unfold supV; rw [HGX.out])
      rw [HNx.out] at HWr
      have HNG := Lib.hid hngen
      clear hfd hsi hlast hnx hpn hngen
      obtain ⟨q5, hq5⟩ : ∃ q5, q5 = k % 5 := ⟨_, rfl⟩
      have s1 : Int.tmod (k : Int) 5 = (q5 : Int) := by rw [hq5]; exact (Int.ofNat_tmod _ _).symm
      have s2 : (k : Int) % 5 = (q5 : Int) := by omega
      clear hq5
      go_wp2
      refine wp_region_held_drew (S := fun w' => Upd (fun _ => False) wr w') (by kernel_rfl) (Upd.refl _ _).drew (fun hS => ?_)
      refine take_first (i := 0) (some 47) (v := ?_) rfl rfl (by kernel_rfl) (by kernel_rfl) (by kernel_rfl) (fun _ _ _ h => h) (Or.inl ⟨by rfl, ?_⟩) hS ?_
      rotate_left
      · intro w hSw; go_simp; try with_reducible rfl
      simp only [Act.put, List.setIfInBounds_toArray, List.set_cons_zero, List.set_cons_succ]
      refine take_first (i := 1) (some 48) rfl rfl (by kernel_rfl) (by kernel_rfl) (by kernel_rfl) (fun _ _ _ h => h) (yi_load rfl 23 (.tmp 47) rfl ⟨w6.heap.size, 0, none⟩ rfl (.int .u64 (gx : Int)) (fun w hw => by have c := hw.cell l0 (fun f => f); go_simp)) hS ?_
      simp only [Act.put, List.setIfInBounds_toArray, List.set_cons_zero, List.set_cons_succ]
      refine take_first (i := 2) (some 49) (v := ?_) rfl rfl (by kernel_rfl) (by kernel_rfl) (by kernel_rfl) (fun _ _ _ h => h) (Or.inl ⟨by rfl, ?_⟩) hS ?_
      rotate_left
      · intro w hSw; go_simp; try with_reducible rfl
      simp only [Act.put, List.setIfInBounds_toArray, List.set_cons_zero, List.set_cons_succ]
      refine take_first (i := 3) (some 50) (v := ?_) rfl rfl (by kernel_rfl) (by kernel_rfl) (by kernel_rfl) (fun _ _ _ h => h) (Or.inl ⟨by rfl, ?_⟩) hS ?_
      rotate_left
      · intro w hSw; go_simp; try with_reducible rfl
      simp only [Act.put, List.setIfInBounds_toArray, List.set_cons_zero, List.set_cons_succ]
      refine take_first (i := 4) (some 51) (v := ?_) rfl rfl (by kernel_rfl) (by kernel_rfl) (by kernel_rfl) (fun _ _ _ h => h) (Or.inl ⟨by rfl, ?_⟩) hS ?_
      rotate_left
      · intro w hSw; go_simp; try with_reducible rfl
      simp only [Act.put, List.setIfInBounds_toArray, List.set_cons_zero, List.set_cons_succ]
      refine take_first (i := 5) (some 52) (v := ?_) rfl rfl (by kernel_rfl) (by kernel_rfl) (by kernel_rfl) (fun _ _ _ h => h) (Or.inl ⟨by rfl, ?_⟩) hS ?_
      rotate_left
      · intro w hSw; go_simp; try with_reducible rfl
      simp only [Act.put, List.setIfInBounds_toArray, List.set_cons_zero, List.set_cons_succ]
      refine take_first (i := 6) (some 53) (v := ?_) rfl rfl (by kernel_rfl) (by kernel_rfl) (by kernel_rfl) (fun _ _ _ h => h) (Or.inl ⟨by rfl, ?_⟩) hS ?_
      rotate_left
      · intro w hSw; go_simp; try with_reducible rfl
      simp only [Act.put, List.setIfInBounds_toArray, List.set_cons_zero, List.set_cons_succ]
      refine take_first (i := 7) (some 54) rfl rfl (by kernel_rfl) (by kernel_rfl) (by kernel_rfl) (fun _ _ _ h => h) (yi_load rfl 23 (.tmp 53) rfl (pa.add (k * 4)) rfl (.int .u64 (yc : Int)) (fun w hw => by have c := hw.cell a0 (fun f => f); go_simp)) hS ?_
      simp only [Act.put, List.setIfInBounds_toArray, List.set_cons_zero, List.set_cons_succ]
      refine take_first (i := 8) (some 55) (v := ?_) rfl rfl (by kernel_rfl) (by kernel_rfl) (by kernel_rfl) (fun _ _ _ h => h) (Or.inl ⟨by rfl, ?_⟩) hS ?_
      rotate_left
      · intro w hSw; go_simp; try with_reducible rfl
      simp only [Act.put, List.setIfInBounds_toArray, List.set_cons_zero, List.set_cons_succ]
      refine take_first (i := 9) (some 56) (v := ?_) rfl rfl (by kernel_rfl) (by kernel_rfl) (by kernel_rfl) (fun _ _ _ h => h) (Or.inl ⟨by rfl, ?_⟩) hS ?_
      rotate_left
      · intro w hSw; go_simp; try with_reducible rfl
      simp only [Act.put, List.setIfInBounds_toArray, List.set_cons_zero, List.set_cons_succ]
      refine take_first (i := 10) (some 57) (v := ?_) rfl rfl (by kernel_rfl) (by kernel_rfl) (by kernel_rfl) (fun _ _ _ h => h) (Or.inl ⟨by rfl, ?_⟩) hS ?_
      rotate_left
      · intro w hSw; go_simp; try with_reducible rfl
      simp only [Act.put, List.setIfInBounds_toArray, List.set_cons_zero, List.set_cons_succ]
      refine take_first (i := 11) (some 58) (v := ?_) rfl rfl (by kernel_rfl) (by kernel_rfl) (by kernel_rfl) (fun _ _ _ h => h) (Or.inl ⟨by rfl, ?_⟩) hS ?_
      rotate_left
      · intro w hSw; go_simp; try with_reducible rfl
      simp only [Act.put, List.setIfInBounds_toArray, List.set_cons_zero, List.set_cons_succ]
      refine take_first (i := 12) (some 59) rfl rfl (by kernel_rfl) (by kernel_rfl) (by kernel_rfl) (fun _ _ _ h => h) (yi_load rfl 39 (.tmp 58) rfl ⟨(pa.add (k * 4)).block, (pa.add (k * 4)).off + 1, none⟩ rfl (.int .u16 (yr : Int)) (fun w hw => by have c := hw.cell a1 (fun f => f); go_simp)) hS ?_
      simp only [Act.put, List.setIfInBounds_toArray, List.set_cons_zero, List.set_cons_succ]
      refine take_first (i := 13) (some 60) (v := ?_) rfl rfl (by kernel_rfl) (by kernel_rfl) (by kernel_rfl) (fun _ _ _ h => h) (Or.inl ⟨by rfl, ?_⟩) hS ?_
      rotate_left
      · intro w hSw; go_simp; try with_reducible rfl
      simp only [Act.put, List.setIfInBounds_toArray, List.set_cons_zero, List.set_cons_succ]
      refine take_first (i := 14) (some 61) (v := ?_) rfl rfl (by kernel_rfl) (by kernel_rfl) (by kernel_rfl) (fun _ _ _ h => h) (Or.inl ⟨by rfl, ?_⟩) hS ?_
      rotate_left
      · intro w hSw; go_simp; try with_reducible rfl
      simp only [Act.put, List.setIfInBounds_toArray, List.set_cons_zero, List.set_cons_succ]
      refine take_first (i := 15) (some 62) (v := ?_) rfl rfl (by kernel_rfl) (by kernel_rfl) (by kernel_rfl) (fun _ _ _ h => h) (Or.inl ⟨by rfl, ?_⟩) hS ?_
      rotate_left
      · intro w hSw; go_simp; try with_reducible rfl
      simp only [Act.put, List.setIfInBounds_toArray, List.set_cons_zero, List.set_cons_succ]
      refine take_first (i := 16) (some 63) (v := ?_) rfl rfl (by kernel_rfl) (by kernel_rfl) (by kernel_rfl) (fun _ _ _ h => h) (Or.inl ⟨by rfl, ?_⟩) hS ?_
      rotate_left
      · intro w hSw; go_simp; try with_reducible rfl
      simp only [Act.put, List.setIfInBounds_toArray, List.set_cons_zero, List.set_cons_succ]
      refine take_first (i := 17) (some 64) (v := ?_) rfl rfl (by kernel_rfl) (by kernel_rfl) (by kernel_rfl) (fun _ _ _ h => h) (Or.inl ⟨by rfl, ?_⟩) hS ?_
      rotate_left
      · intro w hSw; go_simp; try with_reducible rfl
      simp only [Act.put, List.setIfInBounds_toArray, List.set_cons_zero, List.set_cons_succ]
      refine take_first (i := 18) (some 65) (v := ?_) rfl rfl (by kernel_rfl) (by kernel_rfl) (by kernel_rfl) (fun _ _ _ h => h) (Or.inl ⟨by rfl, ?_⟩) hS ?_
      rotate_left
      · intro w hSw; go_simp; try with_reducible rfl
      simp only [Act.put, List.setIfInBounds_toArray, List.set_cons_zero, List.set_cons_succ]
      refine take_first (i := 19) (some 66) (v := ?_) rfl rfl (by kernel_rfl) (by kernel_rfl) (by kernel_rfl) (fun _ _ _ h => h) (Or.inl ⟨by rfl, ?_⟩) hS ?_
      rotate_left
      · intro w hSw; go_simp; try with_reducible rfl
      simp only [Act.put, List.setIfInBounds_toArray, List.set_cons_zero, List.set_cons_succ]
      refine take_first (i := 20) (some 67) rfl rfl (by kernel_rfl) (by kernel_rfl) (by kernel_rfl) (fun _ _ _ h => h) (yi_load rfl 39 (.tmp 66) rfl ⟨(pa.add (k * 4)).block, (pa.add (k * 4)).off + 2, none⟩ rfl (.int .u16 (yt : Int)) (fun w hw => by have c := hw.cell a2 (fun f => f); go_simp)) hS ?_
      simp only [Act.put, List.setIfInBounds_toArray, List.set_cons_zero, List.set_cons_succ]
      refine take_first (i := 21) (some 68) (v := ?_) rfl rfl (by kernel_rfl) (by kernel_rfl) (by kernel_rfl) (fun _ _ _ h => h) (Or.inl ⟨by rfl, ?_⟩) hS ?_
      rotate_left
      · intro w hSw; go_simp; try with_reducible rfl
      simp only [Act.put, List.setIfInBounds_toArray, List.set_cons_zero, List.set_cons_succ]
      refine take_first (i := 22) (some 69) (v := ?_) rfl rfl (by kernel_rfl) (by kernel_rfl) (by kernel_rfl) (fun _ _ _ h => h) (Or.inl ⟨by rfl, ?_⟩) hS ?_
      rotate_left
      · intro w hSw; go_simp; try with_reducible rfl
      simp only [Act.put, List.setIfInBounds_toArray, List.set_cons_zero, List.set_cons_succ]
      refine take_first (i := 23) (some 70) (v := ?_) rfl rfl (by kernel_rfl) (by kernel_rfl) (by kernel_rfl) (fun _ _ _ h => h) (Or.inl ⟨by rfl, ?_⟩) hS ?_
      rotate_left
      · intro w hSw; go_simp; try with_reducible rfl
      simp only [Act.put, List.setIfInBounds_toArray, List.set_cons_zero, List.set_cons_succ]
      refine take_first (i := 24) (some 71) (v := ?_) rfl rfl (by kernel_rfl) (by kernel_rfl) (by kernel_rfl) (fun _ _ _ h => h) (Or.inl ⟨by rfl, ?_⟩) hS ?_
      rotate_left
      · intro w hSw; go_simp; try with_reducible rfl
      simp only [Act.put, List.setIfInBounds_toArray, List.set_cons_zero, List.set_cons_succ]
      refine wpAnyH_ready (rs := [25]) (by kernel_rfl) (by simp) ?_
      refine AllReadyH.cons rfl (fun K hK => ?_) AllReadyH.nil
      refine step_alloc_sup (some 7) rfl rfl rfl hS (fun pn W1 u1 n1 k1 => hK.out _ _ u1 (fun _ => ?_))
      clear hK K k1
      simp only [Act.put, List.setIfInBounds_toArray, List.set_cons_zero, List.set_cons_succ]
      refine wpAnyH_ready (rs := [26]) (by kernel_rfl) (by simp) ?_
      refine AllReadyH.cons rfl (fun K hK => ?_) AllReadyH.nil
      refine step_store_sup rfl rfl (.tmp 7) (.tmp 71) rfl u1 pn Sp.zero nx n1 rfl (by rw [HNx.out]; rfl) (fun W2 u2 n2 k2 => hK.out _ _ u2 (fun _ => ?_))
      clear hK K k2 n1 u1
      refine wpAnyH_done (by kernel_rfl) ?_ _
      have HU2' := Lib.hid u2
      have HN2' := Lib.hid n2
      have hldn := load_one n2.2
      rw [HNx.out] at hldn
      have HLN := Lib.hid hldn
      clear u2 n2 hldn hS
      go_wp2_with (refine wpList_load_by rfl 25 (.tmp 7) rfl ⟨pn, 0, none⟩ rfl _ HLN.out ?_)
      refine (HWr.out _ (HFDk.out.upd0 HU2'.out)).mono ?_
      rintro e w8 ⟨rfl, hfd8, u8⟩
      have HFD8 := Lib.hid hfd8
      have HU8 := Lib.hid u8
      have hpaB := hpa
      clear hfd8 u8
      by_cases h4 : q5 = 4
      · have s3 : (q5 == 4) = true := by simpa using h4
        have HSt := HStep.out (crashC ks) true
        simp only [if_true] at HSt
        rw [HWC.out] at HSt
        obtain ⟨x', hsi', hor, hwh⟩ := HSt
        have HSI' := Lib.hid hsi'
        have HOr := Lib.hid hor
        have HWh := Lib.hid hwh
        clear hsi' hor hwh
        have HBa := Lib.hid (dev_Barrier HFD8.out.dev)
        go_wp2_with (fail)
        refine HBa.out.mono ?_
        rintro e w9 ⟨rfl, hd9, u9⟩
        have h9 := HFD8.out.turned hd9 u9 (fun e => by have := HFD8.out.ne; omega) (fun g e hne => absurd rfl hne)
        have HFD9 := Lib.hid h9
        have HU9 : Hid (Upd (FdF bf w.heap.size (w.heap.size + 1)) W2 w9) := Lib.hid (HU8.out.trans u9 (fun i hi e => Or.inr e))
        clear hd9 u9 h9
        have huA : Upd (fun i => B ≤ i) w w9 := (HU.out.trans HU2'.out (fun _ _ f => f.elim)).trans HU9.out (fun i hi e => by rcases e with e | e | e <;> omega)
        have hcn := HC4.out.upd (((HU2'.out.mono (fun _ _ f => f.elim)).trans HU9.out (F := fun i => B ≤ i) (fun i hi e => by rcases e with e | e | e <;> omega))) (fun i hi f => by omega)
        have hcr := dev_Crash (cp := ycp) HFD9.out.dev hcn.len (fun j hj => by obtain ⟨p, e, _, hc⟩ := hcn.row j hj; exact ⟨p, e, hc⟩) (fun p e hne => by
          rcases ks with _ | ⟨z, zs⟩
          · exact absurd rfl hne
          · obtain ⟨p', e', hp', _⟩ := hcn.row 0 (by simp)
            rw [e] at e'
            obtain rfl : p = p' := by simpa using e'
            omega)
        rw [← HNk.out] at hcr
        have HCr := Lib.hid hcr
        have HUA := Lib.hid huA
        have a4 := HU9.out.cell (HU2'.out.cell a3 (fun f => f)) (fun e => by have := hpaB; rcases e with e | e | e <;> (simp only at e; omega))
        clear hcr huA hcn
        go_wp2_with (fail)
        refine HCr.out.mono ?_
        rintro e w10 ⟨rfl, hd10, u10⟩
        have h10 := HFD9.out.turned hd10 u10 (fun e => by have := HFD9.out.ne; omega) (fun g e hne => absurd rfl hne)
        have HFD10 := Lib.hid h10
        have HU10 : Hid (Upd (FdF bf w.heap.size (w.heap.size + 1)) W2 w10) := Lib.hid (HU9.out.trans u10 (fun i hi e => Or.inr e))
        have HUB := Lib.hid (HUA.out.trans u10 (fun i hi e => by omega))
        clear hd10 u10 h10 HCr
        have hch := super_Choose HFD10.out rfl _ _ (si_read HSI'.out.len HSI'.out.non 0 (by omega)) (si_read HSI'.out.len HSI'.out.non 1 (by omega)) (by have := (cell_len HSI'.out.ok 0 (by have := HSI'.out.len; omega)).1; omega) (by have := (cell_len HSI'.out.ok 1 (by have := HSI'.out.len; omega)).1; omega)
        rw [HSI'.out.len, show ((512 : Nat) : Int) = 512 from rfl, si_choose HSI'.out] at hch
        have hlast10 := HU10.out.heap (HU2'.out.heap HLast.out (fun f => f)) (fun e => by rcases e with e | e | e <;> omega)
        have hnx10 := HU10.out.heap HN2'.out.2 (fun e => by have := HN2'.out.1; rcases e with e | e | e <;> omega)
        have HL10 := Lib.hid hlast10
        have HN10 := Lib.hid hnx10
        clear hlast10 hnx10
        change Calls _ _ _ _ (fun e w' => e = .returned (.tuple #[supV x', .int .i64 0]) ∧ Upd (fun _ => False) _ w') at hch
        rcases HOr.out with hx | hx
        · exfalso
          have e1 : x' = nx := by first | exact HWh.out rfl | exact HWh.out trivial | exact HWh.out
          have e2 := HNG.out
          have e3 := HGX.out
          rw [← e1, hx] at e2
          omega
        · skip
          subst x'
          rw [HNx.out] at hch
          have HCh := Lib.hid hch
          clear hch
          go_wp2_with (fail)
          refine HCh.out.mono ?_
          rintro e w11 ⟨rfl, u11⟩
          have HL11 := Lib.hid (u11.heap HL10.out (fun f => f))
          have HN11 := Lib.hid (u11.heap HN10.out (fun f => f))
          have HFD11 := Lib.hid (HFD10.out.upd0 u11)
          have HU11 := Lib.hid (HUB.out.trans u11 (fun _ _ f => f.elim))
          have hp11 : pn < w11.heap.size := lt_of_heap HN11.out
          have hl11 : w6.heap.size < w11.heap.size := lt_of_heap HL11.out
          have u12 : Upd (fun _ => False) w11 (w11.alloc (.cells #[.int .u64 ((gx : Int) + 1), .int .u64 (yc : Int), .int .i64 (66 + (R : Int)), .int .i64 (66 + (T : Int)), .int .i64 512] 25)) := (Upd.refl _ _).alloc _
          have HL12 := Lib.hid (u12.heap HL11.out (fun f => f))
          have hq5 := HL12.out
          rw [show (sup5 x).toArray = _ from Value.agg.inj HLx.out] at hq5
          have e50 := cell_heap hq5 0 _ rfl
          have e51 := cell_heap hq5 1 _ rfl
          have e52 := cell_heap hq5 2 _ rfl
          have e53 := cell_heap hq5 3 _ rfl
          have e54 := cell_heap hq5 4 _ rfl
          have hq7 := u12.heap HN11.out (fun f => f)
          rw [show (sup5 nx).toArray = _ from Value.agg.inj HNx.out] at hq7
          have e70 := cell_heap hq7 0 _ rfl
          have e71 := cell_heap hq7 1 _ rfl
          have e72 := cell_heap hq7 2 _ rfl
          have e73 := cell_heap hq7 3 _ rfl
          have e74 := cell_heap hq7 4 _ rfl
          obtain ⟨w13, hst, hg13, u13⟩ := store_one (z := nx) HL12.out
          rw [HNx.out] at hst
          have HST := Lib.hid hst
          have HG13 := Lib.hid hg13
          have HU12 := Lib.hid u12
          have HU13 := Lib.hid u13
          clear hq5 hq7 hst hg13 u12 u13 u11 a0 a1 a2 a3 a4 l0
          have g2 : (((gx : Int) + 1) == (gx : Int)) = false := by simp; omega
          have g3 : decide ((gx : Int) + 1 = (gx : Int)) = false := by simp; omega
          go_wp2_with (refine wpList_store_by rfl 25 (.tmp 5) (.tmp 114) rfl ⟨w6.heap.size, 0, none⟩ rfl _ rfl HST.out ?_)
          go_roundw
          case rel => exact ⟨k + 1, nx, by omega, by go_num, ⟨⟨_, a + 1, (HFD11.out.upd0 HU12.out).upd HU13.out (fun e => by omega) (fun e => by omega) (fun e => by omega) (fun e => by omega) (fun g e hne => absurd rfl hne), HSI'.out, by omega⟩, by have := HNG.out; have := HGX.out; omega, HG13.out, far1, far2, far3, far4, far5⟩, (HU11.out.trans HU12.out (fun _ _ f => f.elim)).trans HU13.out (fun i hi e => by omega)⟩
          case measure => simp [intOf]; omega
      · have s3 : (q5 == 4) = false := by simpa using h4
        have HSt := HStep.out (crashC ks) false
        simp only [Bool.false_eq_true, if_false] at HSt
        rw [HWC.out] at HSt
        obtain ⟨x', hsi', hor, hwh⟩ := HSt
        have HSI' := Lib.hid hsi'
        have HOr := Lib.hid hor
        have HWh := Lib.hid hwh
        clear hsi' hor hwh
        have huA : Upd (fun i => B ≤ i) w w8 := (HU.out.trans HU2'.out (fun _ _ f => f.elim)).trans HU8.out (fun i hi e => by rcases e with e | e | e <;> omega)
        have hcn := HC4.out.upd (((HU2'.out.mono (fun _ _ f => f.elim)).trans HU8.out (F := fun i => B ≤ i) (fun i hi e => by rcases e with e | e | e <;> omega))) (fun i hi f => by omega)
        have hcr := dev_Crash (cp := ycp) HFD8.out.dev hcn.len (fun j hj => by obtain ⟨p, e, _, hc⟩ := hcn.row j hj; exact ⟨p, e, hc⟩) (fun p e hne => by
          rcases ks with _ | ⟨z, zs⟩
          · exact absurd rfl hne
          · obtain ⟨p', e', hp', _⟩ := hcn.row 0 (by simp)
            rw [e] at e'
            obtain rfl : p = p' := by simpa using e'
            omega)
        rw [← HNk.out] at hcr
        have HCr := Lib.hid hcr
        have HUA := Lib.hid huA
        have a4 := HU8.out.cell (HU2'.out.cell a3 (fun f => f)) (fun e => by have := hpaB; rcases e with e | e | e <;> (simp only at e; omega))
        clear hcr huA hcn
        go_wp2_with (fail)
        refine HCr.out.mono ?_
        rintro e w10 ⟨rfl, hd10, u10⟩
        have h10 := HFD8.out.turned hd10 u10 (fun e => by have := HFD8.out.ne; omega) (fun g e hne => absurd rfl hne)
        have HFD10 := Lib.hid h10
        have HU10 : Hid (Upd (FdF bf w.heap.size (w.heap.size + 1)) W2 w10) := Lib.hid (HU8.out.trans u10 (fun i hi e => Or.inr e))
        have HUB := Lib.hid (HUA.out.trans u10 (fun i hi e => by omega))
        clear hd10 u10 h10 HCr
        have hch := super_Choose HFD10.out rfl _ _ (si_read HSI'.out.len HSI'.out.non 0 (by omega)) (si_read HSI'.out.len HSI'.out.non 1 (by omega)) (by have := (cell_len HSI'.out.ok 0 (by have := HSI'.out.len; omega)).1; omega) (by have := (cell_len HSI'.out.ok 1 (by have := HSI'.out.len; omega)).1; omega)
        rw [HSI'.out.len, show ((512 : Nat) : Int) = 512 from rfl, si_choose HSI'.out] at hch
        have hlast10 := HU10.out.heap (HU2'.out.heap HLast.out (fun f => f)) (fun e => by rcases e with e | e | e <;> omega)
        have hnx10 := HU10.out.heap HN2'.out.2 (fun e => by have := HN2'.out.1; rcases e with e | e | e <;> omega)
        have HL10 := Lib.hid hlast10
        have HN10 := Lib.hid hnx10
        clear hlast10 hnx10
        change Calls _ _ _ _ (fun e w' => e = .returned (.tuple #[supV x', .int .i64 0]) ∧ Upd (fun _ => False) _ w') at hch
        rcases HOr.out with hx | hx
        · skip
          subst x'
          rw [HLx.out] at hch
          have HCh := Lib.hid hch
          clear hch
          go_wp2_with (fail)
          refine HCh.out.mono ?_
          rintro e w11 ⟨rfl, u11⟩
          have HL11 := Lib.hid (u11.heap HL10.out (fun f => f))
          have HN11 := Lib.hid (u11.heap HN10.out (fun f => f))
          have HFD11 := Lib.hid (HFD10.out.upd0 u11)
          have HU11 := Lib.hid (HUB.out.trans u11 (fun _ _ f => f.elim))
          have hp11 : pn < w11.heap.size := lt_of_heap HN11.out
          have hl11 : w6.heap.size < w11.heap.size := lt_of_heap HL11.out
          have u12 : Upd (fun _ => False) w11 (w11.alloc (.cells #[.int .u64 (gx : Int), .int .u64 (x.calls : Int), .int .i64 x.root, .int .i64 x.table, .int .i64 x.sectors] 25)) := (Upd.refl _ _).alloc _
          have HL12 := Lib.hid (u12.heap HL11.out (fun f => f))
          have hq5 := HL12.out
          rw [show (sup5 x).toArray = _ from Value.agg.inj HLx.out] at hq5
          have e50 := cell_heap hq5 0 _ rfl
          have e51 := cell_heap hq5 1 _ rfl
          have e52 := cell_heap hq5 2 _ rfl
          have e53 := cell_heap hq5 3 _ rfl
          have e54 := cell_heap hq5 4 _ rfl
          have hq7 := u12.heap HN11.out (fun f => f)
          rw [show (sup5 nx).toArray = _ from Value.agg.inj HNx.out] at hq7
          have e70 := cell_heap hq7 0 _ rfl
          have e71 := cell_heap hq7 1 _ rfl
          have e72 := cell_heap hq7 2 _ rfl
          have e73 := cell_heap hq7 3 _ rfl
          have e74 := cell_heap hq7 4 _ rfl
          obtain ⟨w13, hst, hg13, u13⟩ := store_one (z := x) HL12.out
          rw [HLx.out] at hst
          have HST := Lib.hid hst
          have HG13 := Lib.hid hg13
          have HU12 := Lib.hid u12
          have HU13 := Lib.hid u13
          clear hq5 hq7 hst hg13 u12 u13 u11 a0 a1 a2 a3 a4 l0
          have g2 : (((gx : Int) + 1) == (gx : Int)) = false := by simp; omega
          have g3 : decide ((gx : Int) + 1 = (gx : Int)) = false := by simp; omega
          go_wp2_with (refine wpList_store_by rfl 25 (.tmp 5) (.tmp 114) rfl ⟨w6.heap.size, 0, none⟩ rfl _ rfl HST.out ?_)
          go_roundw
          case rel => exact ⟨k + 1, x, by omega, by go_num, ⟨⟨_, a + 1, (HFD11.out.upd0 HU12.out).upd HU13.out (fun e => by omega) (fun e => by omega) (fun e => by omega) (fun e => by omega) (fun g e hne => absurd rfl hne), HSI'.out, by omega⟩, by have := HNG.out; have := HGX.out; omega, HG13.out, far1, far2, far3, far4, far5⟩, (HU11.out.trans HU12.out (fun _ _ f => f.elim)).trans HU13.out (fun i hi e => by omega)⟩
          case measure => simp [intOf]; omega
        · skip
          subst x'
          rw [HNx.out] at hch
          have HCh := Lib.hid hch
          clear hch
          go_wp2_with (fail)
          refine HCh.out.mono ?_
          rintro e w11 ⟨rfl, u11⟩
          have HL11 := Lib.hid (u11.heap HL10.out (fun f => f))
          have HN11 := Lib.hid (u11.heap HN10.out (fun f => f))
          have HFD11 := Lib.hid (HFD10.out.upd0 u11)
          have HU11 := Lib.hid (HUB.out.trans u11 (fun _ _ f => f.elim))
          have hp11 : pn < w11.heap.size := lt_of_heap HN11.out
          have hl11 : w6.heap.size < w11.heap.size := lt_of_heap HL11.out
          have u12 : Upd (fun _ => False) w11 (w11.alloc (.cells #[.int .u64 ((gx : Int) + 1), .int .u64 (yc : Int), .int .i64 (66 + (R : Int)), .int .i64 (66 + (T : Int)), .int .i64 512] 25)) := (Upd.refl _ _).alloc _
          have HL12 := Lib.hid (u12.heap HL11.out (fun f => f))
          have hq5 := HL12.out
          rw [show (sup5 x).toArray = _ from Value.agg.inj HLx.out] at hq5
          have e50 := cell_heap hq5 0 _ rfl
          have e51 := cell_heap hq5 1 _ rfl
          have e52 := cell_heap hq5 2 _ rfl
          have e53 := cell_heap hq5 3 _ rfl
          have e54 := cell_heap hq5 4 _ rfl
          have hq7 := u12.heap HN11.out (fun f => f)
          rw [show (sup5 nx).toArray = _ from Value.agg.inj HNx.out] at hq7
          have e70 := cell_heap hq7 0 _ rfl
          have e71 := cell_heap hq7 1 _ rfl
          have e72 := cell_heap hq7 2 _ rfl
          have e73 := cell_heap hq7 3 _ rfl
          have e74 := cell_heap hq7 4 _ rfl
          obtain ⟨w13, hst, hg13, u13⟩ := store_one (z := nx) HL12.out
          rw [HNx.out] at hst
          have HST := Lib.hid hst
          have HG13 := Lib.hid hg13
          have HU12 := Lib.hid u12
          have HU13 := Lib.hid u13
          clear hq5 hq7 hst hg13 u12 u13 u11 a0 a1 a2 a3 a4 l0
          have g2 : (((gx : Int) + 1) == (gx : Int)) = false := by simp; omega
          have g3 : decide ((gx : Int) + 1 = (gx : Int)) = false := by simp; omega
          go_wp2_with (refine wpList_store_by rfl 25 (.tmp 5) (.tmp 114) rfl ⟨w6.heap.size, 0, none⟩ rfl _ rfl HST.out ?_)
          go_roundw
          case rel => exact ⟨k + 1, nx, by omega, by go_num, ⟨⟨_, a + 1, (HFD11.out.upd0 HU12.out).upd HU13.out (fun e => by omega) (fun e => by omega) (fun e => by omega) (fun e => by omega) (fun g e hne => absurd rfl hne), HSI'.out, by omega⟩, by have := HNG.out; have := HGX.out; omega, HG13.out, far1, far2, far3, far4, far5⟩, (HU11.out.trans HU12.out (fun _ _ f => f.elim)).trans HU13.out (fun i hi e => by omega)⟩
          case measure => simp [intOf]; omega
    · obtain rfl : k = m := by omega
      go_wp2_with (fail)
      refine (HWk.out _).mono ?_
      rintro e w7 ⟨rfl, u7⟩
      go_wp2
      go_ret
      exact ⟨rfl, HU.out.trans u7 (fun _ _ f => f.elim)⟩

end Go.Proofs.YtocioaondjgceaaGreatDoor
