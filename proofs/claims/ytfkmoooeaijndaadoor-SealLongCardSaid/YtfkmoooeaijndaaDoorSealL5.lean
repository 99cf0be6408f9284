/- The walks of SealKnown and SealLong. -/
import Derived.Test.YtfkmoooeaijndaaDoorSealA
import Derived.Test.YtfkmoooeaijndaaDoorSealP
import Derived.Test.YtfkmoooeaijndaaDoorSealL1
set_option linter.unusedVariables false
set_option linter.unusedSimpArgs false
namespace Go.Proofs.YtfkmoooeaijndaaDoor
open Go.RowKit

theorem repB (b : UInt8) (c : Nat) (w : World) (hc : c ≤ 1000000000) : Calls Tryd.prog 26 #[.string ⟨#[b]⟩, .int .i64 c] w (StrR (List.replicate c b) w) := by
  refine (Tryd.strings_Repeat ⟨#[b]⟩ c w (by omega) (by show 1 * c ≤ _; omega)).mono ?_
  rintro e w' ⟨rfl, hb⟩
  refine ⟨?_, (Upd.of_below hb).mono (fun i hi h => by omega)⟩
  have : Lib.repeatL (⟨#[b]⟩ : ByteArray).data.toList c = List.replicate c b := by
    show Lib.repeatL [b] c = _
    clear hc hb
    induction c with
    | zero => rfl
    | succ c ih => rw [List.replicate_succ, ← ih]; rfl
  rw [this]
theorem un26 : Sl.unstampR (List.replicate 26 0) = (0, 0, [], 0) := by
  unfold Sl.unstampR
  rw [if_neg (by decide), if_neg (by decide), if_neg]
  · decide +kernel
  · rintro (h | h | h | h)
    · exact h (by decide +kernel)
    · exact h (by decide +kernel)
    · exact absurd h (by decide +kernel)
    · refine h (fun j h1 h2 => ?_)
      rw [List.getD, List.getElem?_replicate]; split <;> rfl
theorem un128 : Sl.unstampR (List.replicate 127 0 ++ [1]) = (0, 0, [], 4) := by
  unfold Sl.unstampR
  rw [if_neg (by decide +kernel), if_neg (by decide +kernel), if_pos]
  left
  decide +kernel

set_option maxHeartbeats 3200000 in
set_option maxRecDepth 100000 in
theorem walk_SealKnown (w : World) (hT : Fours w) (hg : 0 < w.heap.size) : Calls Tryd.prog 9 #[] w (TrueR w) := by
  have h1 := fun w hT hg => law_sealed [97] w (by decide) hT hg
  have h3 := fun w hT hg => law_fails [0, 1, 97] 10 w (by decide) hT hg rfl
  have h4 := fun w hT hg => law_fails [0, 0, 0, 0, 0, 0] 9 w (by decide) hT hg (by decide +kernel)
  have h5 := fun w => law_padded [97, 98, 99, 100] 4 [97, 98, 99, 100] w (by decide) (by decide +kernel)
  have h6 := fun w => law_padded [] 4 [] w (by decide) (by decide +kernel)
  have h7 := fun w => law_padded_no [97] 0 w (by decide) (by decide +kernel)
  have h8 := fun w => law_padded_no [97] 65537 w (by decide) (by decide +kernel)
  have h9 := fun w => sl_Stamp 1 2 1 2 [97] 26 w rfl rfl (by decide) (by decide) (by decide)
  rw [show Sl.stamp 1 2 [97] 26 = ([], 3) by decide +kernel] at h9
  have h10 := fun w => sl_Stamp 1 2 1 2 [] 25 w rfl rfl (by decide) (by decide) (by decide)
  rw [show Sl.stamp 1 2 [] 25 = ([], 2) by decide +kernel] at h10
  have h11 := fun w => repB 120 65536 w (by decide)
  have h12 := fun w hT hg => sl_Seal (List.replicate 65536 120) w (by rw [List.length_replicate]; decide) hT hg
  rw [show Sl.close (List.replicate 65536 120) = ([], 3) by unfold Sl.close; rw [List.length_replicate]; rfl] at h12
  have h13 := fun w => repB 0 26 w (by decide)
  have h14 := fun w => sl_Unstamp (List.replicate 26 0) w (by rw [List.length_replicate]; decide)
  rw [unstamp_eq, un26] at h14
  have h15 := fun w => law_stamped 1 2 [97] 28 w (by decide) (by decide) (by decide)
  rw [show (Sl.stamp 1 2 [97] 28).1 = [0, 0, 0, 0, 0, 0, 0, 1, 0, 0, 0, 2, 0, 1, 97, 0, 0, 0, 0, 2, 0, 0, 0, 0, 0, 0, 0, 1] by decide +kernel] at h15
  have h16 := fun w => repB 0 127 w (by decide)
  have h17 := fun w => law_none (List.replicate 127 0 ++ [1]) 4 w (by simp) un128
  obtain ⟨S, hS⟩ : ∃ S, S = (Sl.close [97]).1 := ⟨_, rfl⟩
  have hSl : S.length = 7 := by rw [hS]; decide +kernel
  have hS3 : S.take 3 = [0, 1, 97] := by rw [hS]; decide +kernel
  have hx3 : (⟨S.toArray⟩ : ByteArray).extract 0 3 = ⟨#[0, 1, 97]⟩ := by rw [ext_list]; show (⟨(S.take 3).toArray⟩ : ByteArray) = _; rw [hS3]
  obtain ⟨X, hX⟩ : ∃ X, X = List.replicate 65536 (120 : UInt8) := ⟨_, rfl⟩
  obtain ⟨Z, hZ⟩ : ∃ Z, Z = List.replicate 26 (0 : UInt8) := ⟨_, rfl⟩
  obtain ⟨Y, hY⟩ : ∃ Y, Y = List.replicate 127 (0 : UInt8) := ⟨_, rfl⟩
  have hYl : Y.length = 127 := by rw [hY, List.length_replicate]
  have hcat := append_list Y [1]
  rw [← hS] at h1
  rw [← hX] at h11 h12
  rw [← hZ] at h13 h14
  rw [← hY] at h16 h17
  have H1 := Lib.hid h1
  have H3 := Lib.hid h3
  have H4 := Lib.hid h4
  have H5 := Lib.hid h5
  have H6 := Lib.hid h6
  have H7 := Lib.hid h7
  have H8 := Lib.hid h8
  have H9 := Lib.hid h9
  have H10 := Lib.hid h10
  have H11 := Lib.hid h11
  have H12 := Lib.hid h12
  have H13 := Lib.hid h13
  have H14 := Lib.hid h14
  have H15 := Lib.hid h15
  have H16 := Lib.hid h16
  have H17 := Lib.hid h17
  have HT := Lib.hid hT
  clear h1 h3 h4 h5 h6 h7 h8 h9 h10 h11 h12 h13 h14 h15 h16 h17 hT hS hX hZ hY hS3
  go_enter Tryd.func9, Tryd.ntmps9
  go_wp2_with (fail)
  refine (H1.out _ HT.out (by omega)).mono ?_
  rintro e w1 ⟨rfl, u1⟩
  have hT1 := Lib.hid (HT.out.upd u1 (fun f => f))
  have g1 := u1.size
  go_wp2_with (fail)
  refine (law_works _ hT1.out (by omega)).mono ?_
  rintro e w2 ⟨rfl, u2⟩
  have hT2 := Lib.hid (hT1.out.upd u2 (fun f => f))
  have g2 := u2.size
  go_wp2_with (fail)
  refine (H3.out _ hT2.out (by omega)).mono ?_
  rintro e w3 ⟨rfl, u3⟩
  have hT3 := Lib.hid (hT2.out.upd u3 (fun f => f))
  have g3 := u3.size
  go_wp2_with (fail)
  refine (H4.out _ hT3.out (by omega)).mono ?_
  rintro e w4 ⟨rfl, u4⟩
  have hT4 := Lib.hid (hT3.out.upd u4 (fun f => f))
  have g4 := u4.size
  go_wp2_with (fail)
  refine (H5.out _).mono ?_
  rintro e w5 ⟨rfl, u5⟩
  have hT5 := Lib.hid (hT4.out.upd u5 (fun f => f))
  have g5 := u5.size
  go_wp2_with (fail)
  refine (H6.out _).mono ?_
  rintro e w6 ⟨rfl, u6⟩
  have hT6 := Lib.hid (hT5.out.upd u6 (fun f => f))
  have g6 := u6.size
  go_wp2_with (fail)
  refine (H7.out _).mono ?_
  rintro e w7 ⟨rfl, u7⟩
  have hT7 := Lib.hid (hT6.out.upd u7 (fun f => f))
  have g7 := u7.size
  go_wp2_with (fail)
  refine (H8.out _).mono ?_
  rintro e w8 ⟨rfl, u8⟩
  have hT8 := Lib.hid (hT7.out.upd u8 (fun f => f))
  have g8 := u8.size
  go_wp2_with (fail)
  refine (H9.out _).mono ?_
  rintro e w9 ⟨rfl, u9⟩
  have hT9 := Lib.hid (hT8.out.upd u9 (fun f => f))
  have g9 := u9.size
  go_wp2_with (fail)
  refine (H10.out _).mono ?_
  rintro e w10 ⟨rfl, u10⟩
  have hT10 := Lib.hid (hT9.out.upd u10 (fun f => f))
  have g10 := u10.size
  go_wp2_with (fail)
  refine (H11.out _).mono ?_
  rintro e w11 ⟨rfl, u11⟩
  have hT11 := Lib.hid (hT10.out.upd u11 (fun f => f))
  have g11 := u11.size
  go_wp2_with (fail)
  refine (H12.out _ hT11.out (by omega)).mono ?_
  rintro e w12 ⟨rfl, u12⟩
  have hT12 := Lib.hid (hT11.out.upd u12 (fun f => f))
  have g12 := u12.size
  go_wp2_with (fail)
  refine (H13.out _).mono ?_
  rintro e w13 ⟨rfl, u13⟩
  have hT13 := Lib.hid (hT12.out.upd u13 (fun f => f))
  have g13 := u13.size
  go_wp2_with (fail)
  refine (H14.out _).mono ?_
  rintro e w14 ⟨rfl, u14⟩
  have hT14 := Lib.hid (hT13.out.upd u14 (fun f => f))
  have g14 := u14.size
  go_wp2_with (fail)
  refine (H15.out _).mono ?_
  rintro e w15 ⟨rfl, u15⟩
  have hT15 := Lib.hid (hT14.out.upd u15 (fun f => f))
  have g15 := u15.size
  go_wp2_with (fail)
  refine (H16.out _).mono ?_
  rintro e w16 ⟨rfl, u16⟩
  have hT16 := Lib.hid (hT15.out.upd u16 (fun f => f))
  have g16 := u16.size
  go_wp2_with (fail)
  refine (H17.out _).mono ?_
  rintro e w17 ⟨rfl, u17⟩
  have hT17 := Lib.hid (hT16.out.upd u17 (fun f => f))
  have g17 := u17.size
  go_wp2_with (fail)
  refine (law_works _ hT17.out (by omega)).mono ?_
  rintro e w18 ⟨rfl, u18⟩
  have hT18 := Lib.hid (hT17.out.upd u18 (fun f => f))
  have g18 := u18.size
  go_wp2
  go_ret
  exact ⟨rfl, by repeat (first | exact Upd.refl _ _ | refine Upd.alloc ?_ _ | refine Upd.drew ?_ | refine Upd.trans ?_ (by assumption) (fun _ _ f => f))⟩


def row0 (m : Nat) : Array Value := (List.replicate m (Value.int .u8 0)).toArray
theorem made0 (m : Nat) : madeCells #[Value.int .u8 0] (m * 1) = row0 m := by
  apply Array.ext
  · simp [size_madeCells, row0]
  · intro i h1 h2; simp [madeCells, row0, Nat.mod_one]
def row1 (m k : Nat) : Array Value := (row0 m).setIfInBounds k (.int .u8 1)
theorem own_row0 (w : World) (m : Nat) (hm : m ≤ 70000) : (w.alloc (.cells (row0 m) 5)).ownsRow 0 5 1 (.slice (some ⟨w.heap.size, 0, none⟩) m m) m (bytesV (List.replicate m 0)) := by
  refine ⟨by simp [bytesV], .inr ⟨_, m, row0 m, rfl, Nat.zero_le _, heap_alloc_new _ _, Nat.le_refl _, by unfold maxLen; omega, by simp [row0], ?_⟩⟩
  simp [row0, bytesV]
theorem own_row1 (w1 : World) (g m k : Nat) (hm : m ≤ 70000) (hk : k < m) (hg : w1.heap[g]? = some (.cells (row1 m k) 5 (0, 0))) : w1.ownsRow 0 5 1 (.slice (some ⟨g, 0, none⟩) m m) m (bytesV ((List.replicate m 0).set k 1)) := by
  refine ⟨by simp [bytesV], .inr ⟨g, m, row1 m k, rfl, Nat.zero_le _, hg, Nat.le_refl _, by unfold maxLen; omega, by simp [row1, row0], ?_⟩⟩
  rw [Nat.mul_one, List.take_of_length_le (by simp [row1, row0])]
  unfold row1 row0 bytesV
  rw [← Array.toList_setIfInBounds] 
  simp [List.map_set]
theorem run_make_rowN {P : Program} (t e : TypeId) (i : TypeInfo) (z : Value) (ht : P.underlying t = some (.slice e)) (hi : P.info? e = some i) (hz : i.zero = some z)
    (kl kc : IntKind) (n c : Nat) (hnc : n ≤ c) (hbytes : i.bytes * c ≤ 281474976710656) (h63 : c ≤ 9223372036854775807) (w : World) :
    (Instr.makeSlice t (.int kl (n : Int)) (.int kc (c : Int))).run P w = .ok (.slice (some ⟨w.heap.size, 0, none⟩) n c) (w.alloc (.cells (madeCells z.cells (c * i.size)) e)) := by
  have hb : (i.bytes : Int) * (c : Int) ≤ 281474976710656 := by
    have h : ((i.bytes * c : Nat) : Int) ≤ 281474976710656 := by omega
    rwa [Int.natCast_mul] at h
  have hr := run_make (P := P) w t e i z ht hi hz kl kc n c (by omega) (by omega) hb (by omega)
  simp only [Int.toNat_natCast] at hr
  exact hr

set_option maxHeartbeats 3200000 in
set_option maxRecDepth 100000 in
theorem walk_SealLong (ni ai z : Int) (w : World) (hn0 : 0 ≤ ni) (hn1 : ni ≤ 4294967295) (ha0 : 0 ≤ ai) (ha1 : ai ≤ 4294967295) (hz0 : -9223372036854775808 ≤ z) (hz1 : z ≤ 9223372036854775807) (hT : Fours w) (hg : 0 < w.heap.size) :
    Calls Tryd.prog 5 #[.int .u32 ni, .int .u32 ai, .int .i64 z] w (TrueR w) := by
  obtain ⟨n, rfl⟩ := Int.eq_ofNat_of_zero_le hn0
  obtain ⟨a, rfl⟩ := Int.eq_ofNat_of_zero_le ha0
  obtain ⟨m, hm⟩ : ∃ m, m = n % 70000 := ⟨_, rfl⟩
  have hml : m < 70000 := by rw [hm]; exact Nat.mod_lt _ (by decide)
  have e1 : Int.tmod (n : Int) 70000 = (m : Int) := by rw [hm]; exact (Int.ofNat_tmod _ _).symm
  have e1' : (n : Int) % 70000 = (m : Int) := by rw [hm]; rfl
  obtain ⟨i0, hi, hq0, hq1, hq2⟩ := info_parts Tryd.infoU8
  have hmk := fun W => run_make_rowN (P := Tryd.prog) 46 5 i0 (.int .u8 0) Tryd.underlying46 hi hq0 .u32 .u32 m m (Nat.le_refl _) (by rw [hq2]; omega) (by omega) W
  rw [hq1, show (Value.int IntKind.u8 0).cells = #[.int .u8 0] from rfl, made0] at hmk
  have HS : ∀ s : List UInt8, s.length ≤ 70000 → Hid (∀ w, Fours w → 0 < w.heap.size → Calls Tryd.prog 11 #[.string ⟨s.toArray⟩] w (StrE (Sl.close s) w)) ∧ Hid (∀ w, Calls Tryd.prog 12 #[.string ⟨s.toArray⟩] w (StrE (Sl.close s) w))
      ∧ Hid (∀ w, Calls Tryd.prog 19 #[.string ⟨s.toArray⟩] w (UnR (Sl.unstampR s) w)) ∧ Hid (∀ w, Calls Tryd.prog 20 #[.string ⟨s.toArray⟩] w (UnR (Sl.unstampR s) w))
      ∧ Hid (∀ w, Calls Tryd.prog 17 #[.int .u64 7, .int .u32 8, .string ⟨s.toArray⟩, .int .i64 z] w (StrE (Sl.stamp 7 8 s z) w)) ∧ Hid (∀ w, Calls Tryd.prog 18 #[.int .u64 7, .int .u32 8, .string ⟨s.toArray⟩, .int .i64 z] w (StrE (Sl.stamp 7 8 s z) w)) := by
    intro s hs
    refine ⟨fun w hT hg => sl_Seal s w (by omega) hT hg, fun w => ref_Seal s w (by omega), fun w => ?_, fun w => ref_Unstamp s w (by omega), fun w => sl_Stamp 7 8 7 8 s z w rfl rfl (by decide) (by decide) (by omega), fun w => ref_Stamp 7 8 7 8 s z w rfl rfl (by decide) (by decide) (by omega)⟩
    have h := sl_Unstamp s w (by omega)
    rw [unstamp_eq] at h; exact h
  by_cases hm0 : m = 0
  · subst hm0
    change ∀ W, (Instr.makeSlice 46 (.int .u32 0) (.int .u32 0)).run Tryd.prog W = .ok (.slice (some ⟨W.heap.size, 0, none⟩) 0 0) (W.alloc (.cells (row0 0) 5)) at hmk
    change Int.tmod (n : Int) 70000 = 0 at e1
    change (n : Int) % 70000 = 0 at e1'
    obtain ⟨H1, H2, H3, H4, H5, H6⟩ := HS [] (by simp)
    have hconv := run_conv_row (P := Tryd.prog) _ 46 5 9 Tryd.underlying46 Tryd.underlying5 Tryd.underlying9 _ _ 0 (by simp) (own_row0 w 0 (by omega))
    generalize Sl.close [] = q at H1 H2
    generalize Sl.unstampR [] = r at H3 H4
    generalize Sl.stamp 7 8 [] z = t at H5 H6
    obtain ⟨q1, q2⟩ := q
    obtain ⟨r1, r2, r3, r4⟩ := r
    obtain ⟨t1, t2⟩ := t
    have hu0 := (Upd.refl (fun _ => False) w).alloc (.cells (row0 0) 5)
    have HT := Lib.hid (hT.upd hu0 (fun f => f))
    have g0 := hu0.size
    clear HS hT hm
    go_enter Tryd.func5, Tryd.ntmps5
    go_wp2_with (fail)
    refine (H1.out _ HT.out (by omega)).mono ?_
    rintro e w1 ⟨rfl, u1⟩
    have hT1 := Lib.hid (HT.out.upd u1 (fun f => f))
    have g1 := u1.size
    go_wp2_with (fail)
    refine (H2.out _).mono ?_
    rintro e w2 ⟨rfl, u2⟩
    have hT2 := Lib.hid (hT1.out.upd u2 (fun f => f))
    have g2 := u2.size
    go_wp2_with (fail)
    refine (H3.out _).mono ?_
    rintro e w3 ⟨rfl, u3⟩
    have hT3 := Lib.hid (hT2.out.upd u3 (fun f => f))
    have g3 := u3.size
    go_wp2_with (fail)
    refine (H4.out _).mono ?_
    rintro e w4 ⟨rfl, u4⟩
    have hT4 := Lib.hid (hT3.out.upd u4 (fun f => f))
    have g4 := u4.size
    go_wp2_with (fail)
    refine (H5.out _).mono ?_
    rintro e w5 ⟨rfl, u5⟩
    have hT5 := Lib.hid (hT4.out.upd u5 (fun f => f))
    have g5 := u5.size
    go_wp2_with (fail)
    refine (H6.out _).mono ?_
    rintro e w6 ⟨rfl, u6⟩
    have hT6 := Lib.hid (hT5.out.upd u6 (fun f => f))
    have g6 := u6.size
    go_wp2_with (fail)
    refine (law_works _ hT6.out (by omega)).mono ?_
    rintro e w7 ⟨rfl, u7⟩
    have hT7 := Lib.hid (hT6.out.upd u7 (fun f => f))
    have g7 := u7.size
    go_wp2
    go_ret
    exact ⟨rfl, by repeat (first | exact Upd.refl _ _ | refine Upd.alloc ?_ _ | refine Upd.drew ?_ | refine Upd.trans ?_ (by assumption) (fun _ _ f => f))⟩
  · obtain ⟨k, hk⟩ : ∃ k, k = a % m := ⟨_, rfl⟩
    have hkm : k < m := by rw [hk]; exact Nat.mod_lt _ (by omega)
    have f1 : Int.tmod (a : Int) (m : Int) = (k : Int) := by rw [hk]; exact (Int.ofNat_tmod _ _).symm
    have f1' : (a : Int) % (m : Int) = (k : Int) := by rw [hk]; rfl
    have f2 : ((m : Int) == 0) = false := beq_eq_false_iff_ne.2 (by omega)
    have f3 : IntKind.i64.wrap (a : Int) = (a : Int) := IntWalk.i64_in _ (by omega)
    have f4 : 0 < m := by omega
    obtain ⟨L, hL⟩ : ∃ L, L = (List.replicate m (0 : UInt8)).set k 1 := ⟨_, rfl⟩
    have hLl : L.length = m := by rw [hL]; simp
    obtain ⟨H1, H2, H3, H4, H5, H6⟩ := HS L (by omega)
    have hb0 := heap_alloc_new w (.cells (row0 m) 5)
    have hc0 : (w.alloc (.cells (row0 m) 5)).cell? ⟨w.heap.size, k, none⟩ = some (.int .u8 0) := cell_heap hb0 k _ (by simp [row0, hkm])
    have hf0 : (w.alloc (.cells (row0 m) 5)).frozen? ⟨w.heap.size, k, none⟩ = false := free_heap hb0 k
    have hb1 := heap_alloc_new w (.cells ((row0 m).setIfInBounds k (.int .u8 1)) 5)
    have hconv := run_conv_row (P := Tryd.prog) _ 46 5 9 Tryd.underlying46 Tryd.underlying5 Tryd.underlying9 _ _ m (by simp) (own_row1 _ _ m k (by omega) hkm hb1)
    rw [← hL] at hconv
    generalize Sl.close L = q at H1 H2
    generalize Sl.unstampR L = r at H3 H4
    generalize Sl.stamp 7 8 L z = t at H5 H6
    obtain ⟨q1, q2⟩ := q
    obtain ⟨r1, r2, r3, r4⟩ := r
    obtain ⟨t1, t2⟩ := t
    have hu0 := (Upd.refl (fun _ => False) w).alloc (.cells ((row0 m).setIfInBounds k (.int .u8 1)) 5)
    have HT := Lib.hid (hT.upd hu0 (fun f => f))
    have g0 := hu0.size
    clear HS hT hm hk hL hb1 hb0
    go_enter Tryd.func5, Tryd.ntmps5
    go_wp2_with (fail)
    refine (H1.out _ HT.out (by omega)).mono ?_
    rintro e w1 ⟨rfl, u1⟩
    have hT1 := Lib.hid (HT.out.upd u1 (fun f => f))
    have g1 := u1.size
    go_wp2_with (fail)
    refine (H2.out _).mono ?_
    rintro e w2 ⟨rfl, u2⟩
    have hT2 := Lib.hid (hT1.out.upd u2 (fun f => f))
    have g2 := u2.size
    go_wp2_with (fail)
    refine (H3.out _).mono ?_
    rintro e w3 ⟨rfl, u3⟩
    have hT3 := Lib.hid (hT2.out.upd u3 (fun f => f))
    have g3 := u3.size
    go_wp2_with (fail)
    refine (H4.out _).mono ?_
    rintro e w4 ⟨rfl, u4⟩
    have hT4 := Lib.hid (hT3.out.upd u4 (fun f => f))
    have g4 := u4.size
    go_wp2_with (fail)
    refine (H5.out _).mono ?_
    rintro e w5 ⟨rfl, u5⟩
    have hT5 := Lib.hid (hT4.out.upd u5 (fun f => f))
    have g5 := u5.size
    go_wp2_with (fail)
    refine (H6.out _).mono ?_
    rintro e w6 ⟨rfl, u6⟩
    have hT6 := Lib.hid (hT5.out.upd u6 (fun f => f))
    have g6 := u6.size
    go_wp2_with (fail)
    refine (law_works _ hT6.out (by omega)).mono ?_
    rintro e w7 ⟨rfl, u7⟩
    have hT7 := Lib.hid (hT6.out.upd u7 (fun f => f))
    have g7 := u7.size
    go_wp2
    go_ret
    exact ⟨rfl, by repeat (first | exact Upd.refl _ _ | refine Upd.alloc ?_ _ | refine Upd.drew ?_ | refine Upd.trans ?_ (by assumption) (fun _ _ f => f))⟩

end Go.Proofs.YtfkmoooeaijndaaDoor
