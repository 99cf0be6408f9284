/- The walk of SealBack. -/
import Derived.Test.YtfkmoooeaijndaaDoorSealA
import Derived.Test.YtfkmoooeaijndaaDoorSealB
import Derived.Lib.ConvBytes
import Derived.RegionTactic
import Derived.Laws.BitsAllLaws
import Derived.Outline
set_option linter.unusedVariables false
set_option linter.unusedSimpArgs false
namespace Go.Proofs.YtfkmoooeaijndaaDoor
open Go.RowKit

/-- A row of bytes that may be written. -/
def BRow (w : World) (g : Nat) (l : List UInt8) : Prop := ∃ cs t a b, w.heap[g]? = some (.cells cs t (a, b)) ∧ l.length ≤ cs.size ∧ cs.size ≤ a ∧ ∀ i, i < l.length → cs[i]? = some (.int .u8 (l.getD i 0).toNat)
theorem BRow.cell {w : World} {g : Nat} {l : List UInt8} (h : BRow w g l) (i : Nat) (hi : i < l.length) : w.cell? ⟨g, i, none⟩ = some (.int .u8 (l.getD i 0).toNat) := by
  obtain ⟨cs, t, a, b, hg, h1, h2, h3⟩ := h
  rw [cell_of_row w g i _ _ _ hg]; exact h3 i hi
theorem BRow.free {w : World} {g : Nat} {l : List UInt8} (h : BRow w g l) (i : Nat) (hi : i < l.length) : w.frozen? ⟨g, i, none⟩ = false := by
  obtain ⟨cs, t, a, b, hg, h1, h2, h3⟩ := h
  simp [World.frozen?, hg]; omega
theorem BRow.set {w : World} {g : Nat} {l : List UInt8} (h : BRow w g l) (i : Nat) (hi : i < l.length) (c : UInt8) : BRow (w.setCell ⟨g, i, none⟩ (.int .u8 c.toNat)) g (l.set i c) := by
  obtain ⟨cs, t, a, b, hg, h1, h2, h3⟩ := h
  refine ⟨_, t, a, b, heap_setCell_eq hg _, by simpa using h1, by simpa using h2, fun j hj => ?_⟩
  rw [List.length_set] at hj
  rw [Array.getElem?_setIfInBounds]
  by_cases e : i = j
  · subst e; rw [if_pos rfl, if_pos (by omega)]; simp [hi]
  · rw [if_neg e, h3 j hj]; simp [List.getD, List.getElem?_set, e]
theorem BRow.upd {F : Nat → Prop} {w w' : World} {g : Nat} {l : List UInt8} (h : BRow w g l) (hu : Upd F w w') (hF : ¬ F g) : BRow w' g l := by
  obtain ⟨cs, t, a, b, hg, r⟩ := h
  exact ⟨cs, t, a, b, hu.heap hg hF, r⟩
theorem BRow.lt {w : World} {g : Nat} {l : List UInt8} (h : BRow w g l) : g < w.heap.size := by obtain ⟨cs, t, a, b, hg, r⟩ := h; exact lt_of_heap hg
theorem BRow.new (w : World) (t : List UInt8) : BRow (Lib.bytesWorld w 5 ⟨t.toArray⟩) w.heap.size t := by
  refine ⟨_, _, _, _, Lib.bytesWorld_at_new w _ _, by simp [Lib.bytesCells], Nat.le_refl _, fun i hi => ?_⟩
  rw [← cell_of_row _ _ i _ _ _ (Lib.bytesWorld_at_new w _ _), Lib.bytesWorld_cell w _ _ i (by rw [size_list]; exact hi)]
theorem bytes_upd (w : World) (t : List UInt8) : Upd (fun _ => False) w (Lib.bytesWorld w 5 ⟨t.toArray⟩) :=
  ⟨rfl, rfl, rfl, by rw [Lib.bytesWorld_size]; omega, fun k hk _ => Lib.bytesWorld_at_old w _ _ k hk⟩
theorem BRow.conv {w : World} {g : Nat} {l : List UInt8} (h : BRow w g l) (cap n : Nat) (hn : n = l.length) : (convert 46 9 (.slice (some ⟨g, 0, none⟩) n cap)).run Tryd.prog w = .ok (.string ⟨l.toArray⟩) w := by
  subst hn
  have := run_convert_bytes_arg (P := Tryd.prog) w 46 5 Tryd.underlying46 Tryd.underlying5 g 0 l.length cap (l.map fun c => (c.toNat : Int)) (by simp) (fun i hi => by
    rw [Nat.zero_add, h.cell i (by simpa using hi)]
    have hi' : i < l.length := by simpa using hi
    simp [List.getD, hi']) 9 Tryd.underlying9
  rw [this]
  have e2 : List.map ((fun n : Int => UInt8.ofNat n.toNat) ∘ fun c : UInt8 => (c.toNat : Int)) l = l := by
    rw [List.map_congr_left (g := id) (fun c _ => by simp)]; simp
  simp only [strOfNums, List.map_map, e2]

theorem u8_pow (z : Nat) (hz : z < 8) : (UInt8.ofNat (2 ^ z)).toNat = 2 ^ z := by
  have : 2 ^ z ≤ 2 ^ 7 := Nat.pow_le_pow_right (by decide) (by omega)
  exact UInt8.toNat_ofNat_of_lt' (by show 2 ^ z < 256; omega)
theorem u8_flip (X z : Nat) (hX : X < 256) (hz : z < 8) : bits BinOp.xor IntKind.u8 (X : Int) (2 ^ z % 256) = ((X ^^^ 2 ^ z : Nat) : Int) := by
  have h : 2 ^ z ≤ 2 ^ 7 := Nat.pow_le_pow_right (by decide) (by omega)
  have h2 : ((2 ^ z : Nat) : Int) < 256 := by omega
  have e : (2 : Int) ^ z % 256 = ((2 ^ z : Nat) : Int) := by
    rw [Int.natCast_pow] at h2 ⊢
    exact Int.emod_eq_of_lt (Int.pow_nonneg (by decide)) h2
  rw [e]; exact u8_xor_nat _ _ hX (by omega)
theorem getD_at (l : List UInt8) (q : Nat) (h : q < l.length) : l.getD q 0 = l[q] := by simp [List.getD, h]

/-- What a round keeps: some bits are turned. -/
def BackI (W : World) (g : Nat) (t : List UInt8) (at_ B k : Nat) (wr : World) : Prop :=
  ∃ cur : List UInt8, cur.length = t.length ∧ Crc.ofLe cur = Crc.ofLe t ^^^ 2 ^ at_ * (B % 2 ^ k) ∧ BRow wr g cur ∧ Upd (fun i => i = g) W wr

set_option maxHeartbeats 3200000 in
set_option maxRecDepth 100000 in
theorem back_text (s more t : List UInt8) (cut a B from_ to_ at_ : Nat) (sm : Bool) (w : World) (hcase : sm = false ∧ 0 < s.length) (hs : s.length ≤ 3000) (hm : more.length ≤ 3000) (ht : t = (Sl.close s).1) (hcut : cut < 65536) (ha : a < 65536) (hB : B < 4294967296)
    (hfrom : from_ = 16) (hto : to_ = 16 + 8 * s.length) (hat : at_ = from_ + a % (to_ - from_))
    (hT : Fours w) (hg : 0 < w.heap.size) :
    Calls Tryd.prog 6 #[.string ⟨s.toArray⟩, .string ⟨more.toArray⟩, .agg #[.int .u16 cut, .int .u16 a, .int .u32 B, .bool sm]] w (TrueR w) := by
  obtain ⟨p1, p2, p3, p4, p5⟩ := close_parts s t hs ht
  have h1 := fun w hT hg => law_sealed s w (by omega) hT hg
  rw [← ht] at h1
  have h2 := fun w hT hg => sl_Open (t ++ more) w (by rw [List.length_append]; omega) hT hg
  rw [open_whole s t more hs ht] at h2
  obtain ⟨c, hc⟩ : ∃ c, c = cut % t.length := ⟨_, rfl⟩
  have hcl : c < t.length := by rw [hc]; exact Nat.mod_lt _ (by omega)
  have h3 := fun w hT hg => law_fails (t.take c) 10 w (by rw [List.length_take]; omega) hT hg (open_cut s t c hs ht hcl)
  have hx1 := append_list t more
  obtain ⟨TM, hTM⟩ : ∃ TM, TM = t ++ more := ⟨_, rfl⟩
  rw [← hTM] at h2 hx1
  have hxl : ¬ 9223372036854775807 < t.length + more.length := by omega
  obtain ⟨TC, hTC⟩ : ∃ TC, TC = t.take c := ⟨_, rfl⟩
  have hx2 : (⟨t.toArray⟩ : ByteArray).extract 0 c = ⟨TC.toArray⟩ := by have := ext_list t 0 c; rw [hTC]; simpa using this
  rw [← hTC] at h3
  obtain ⟨n, hn⟩ : ∃ n, n = s.length + 6 := ⟨_, rfl⟩
  have tl : t.length = n := by omega
  rw [tl] at hc hcl hxl
  have e6 : (s.length : Int) + 6 = (n : Int) := by omega
  have e6' : IntKind.i64.wrap ((s.length : Int) + 6) = (n : Int) := by rw [e6]; exact IntWalk.i64_in _ (by omega)
  have i1 : (0 : Int) ≤ (c : Int) := by omega
  have i2 : (c : Int) ≤ (n : Int) := by omega
  have m1 : Int.tmod (cut : Int) (n : Int) = (c : Int) := by rw [hc]; exact (Int.ofNat_tmod _ _).symm
  have m2 : (cut : Int) % (n : Int) = (c : Int) := by rw [hc]; rfl
  have m3 : ((n : Int) == 0) = false := beq_eq_false_iff_ne.2 (by omega)
  have hcv := fun W => Lib.run_convert_string_bytes (P := Tryd.prog) W 9 46 5 ⟨t.toArray⟩ Tryd.underlying9 Tryd.underlying46 Tryd.underlying5
  rw [size_list, tl] at hcv
  have x1 : 16 + 8 * (s.length : Int) = (to_ : Int) := by omega
  have x1w : IntKind.i64.wrap (16 + 8 * (s.length : Int)) = (to_ : Int) := by rw [x1]; exact IntWalk.i64_in _ (by omega)
  obtain ⟨d, hd⟩ : ∃ d, d = to_ - from_ := ⟨_, rfl⟩
  have hd0 : 0 < d := by omega
  obtain ⟨r, hr⟩ : ∃ r, r = a % d := ⟨_, rfl⟩
  have hrd : r < d := by rw [hr]; exact Nat.mod_lt _ hd0
  have x3 : (to_ : Int) - 16 = (d : Int) := by omega
  have x3w : IntKind.i64.wrap ((to_ : Int) - 16) = (d : Int) := by rw [x3]; exact IntWalk.i64_in _ (by omega)
  have x4 : Int.tmod (a : Int) (d : Int) = (r : Int) := by rw [hr]; exact (Int.ofNat_tmod _ _).symm
  have x4' : (a : Int) % (d : Int) = (r : Int) := by rw [hr]; rfl
  have x4b : ((d : Int) == 0) = false := beq_eq_false_iff_ne.2 (by omega)
  have x4c : ¬ d = 0 := by omega
  have hat2 : at_ = from_ + r := by rw [hat, hr, hd]
  have x5 : 16 + (r : Int) = (at_ : Int) := by omega
  have x5w : IntKind.i64.wrap (16 + (r : Int)) = (at_ : Int) := by rw [x5]; exact IntWalk.i64_in _ (by omega)
  have hlt : at_ < to_ := by omega
  have hbd : to_ ≤ 8 * n := by omega
  have h16 : 16 ≤ at_ := by omega
  have HX := Lib.hid (show at_ = from_ + r from hat2)
  clear hat2 hd
  obtain ⟨rfl, hs0⟩ := hcase
  subst hfrom
  have hsb : ((s.length : Int) == 0) = false := beq_eq_false_iff_ne.2 (by omega)
  have hu0 := (Upd.refl (fun _ => False) w).alloc (.cells #[.int .u16 cut, .int .u16 a, .int .u32 B, .bool false] 50)
  have hb0 := heap_alloc_new w (.cells #[.int .u16 cut, .int .u16 a, .int .u32 B, .bool false] 50)
  have q0 := cell_heap hb0 0 (.int .u16 cut) rfl
  have hT0 := Lib.hid (hT.upd hu0 (fun f => f))
  have H1 := Lib.hid h1
  have H2 := Lib.hid h2
  have H3 := Lib.hid h3
  have HC := Lib.hid hc
  clear h1 h2 h3 hc hTM hTC hT p2 p3 p4 p5
  have HR := Lib.hid hr
  clear hr hat
  have ht0 : 0 < to_ := by omega
  have HN := Lib.hid hn
  have HT := Lib.hid ht
  have hOt := Lib.hid hto
  clear p1
  have n1 : n ≤ s.length + 6 := by omega
  have n2 : s.length + 6 ≤ n := by omega
  clear hn ht hto
  go_enter Tryd.func6, Tryd.ntmps6
  go_wp2_with (fail)
  refine (H1.out _ hT0.out (by simp)).mono ?_
  rintro e w1 ⟨rfl, u1⟩
  have hT1 := Lib.hid (hT0.out.upd u1 (fun f => f))
  have g1 := u1.size
  have hb1 := u1.heap hb0 (fun f => f)
  go_wp2_with (fail)
  refine (H2.out _ hT1.out (by simp at g1; omega)).mono ?_
  rintro e w2 ⟨rfl, u2⟩
  have hT2 := Lib.hid (hT1.out.upd u2 (fun f => f))
  have g2 := u2.size
  have hb2 := u2.heap hb1 (fun f => f)
  have q2 := cell_heap hb2 0 (.int .u16 cut) rfl
  go_wp2_with (fail)
  refine (H3.out _ hT2.out (by simp at g1; omega)).mono ?_
  rintro e w3 ⟨rfl, u3⟩
  have hT3 := Lib.hid (hT2.out.upd u3 (fun f => f))
  have g3 := u3.size
  have hb3 := u3.heap hb2 (fun f => f)
  have hbr := BRow.new w3 t
  have ubr := bytes_upd w3 t
  have hT4 := Lib.hid (hT3.out.upd ubr (fun f => f))
  have g4 := ubr.size
  have hb4 := ubr.heap hb3 (fun f => f)
  have q4 := cell_heap hb4 3 (.bool false) rfl
  have q5 := cell_heap hb4 1 (.int .u16 a) rfl
  go_wp2_with (fail)
  go_loopw [15] (fun k wr => ∃ kk : Nat, k = .int .i64 kk ∧ kk ≤ 32 ∧ at_ + kk ≤ to_ ∧ BackI (Lib.bytesWorld w3 5 ⟨t.toArray⟩) w3.heap.size t at_ B kk wr) (fun k _ => 32 - (intOf k).toNat)
  case atStart => exact ⟨0, rfl, by omega, by omega, t, rfl, by rw [Nat.pow_zero, Nat.mod_one, Nat.mul_zero, Nat.xor_zero], hbr, Upd.refl _ _⟩
  case round =>
    obtain ⟨k, rfl, hk1, hk2, cur, hcl2, hle, hrow, hur⟩ := hrel
    have HLE := Lib.hid hle
    have HCL := Lib.hid hcl2
    have gr := hur.size
    have GBL := lt_of_heap hb3
    have hbr4 := hur.heap hb4 (fun f => by omega)
    have qB := cell_heap hbr4 2 (.int .u32 B) rfl
    clear hle hcl2
    by_cases hend : k < 32 ∧ at_ + k < to_
    · obtain ⟨hk32, hJt⟩ := hend
      obtain ⟨J, hJ⟩ : ∃ J, J = at_ + k := ⟨_, rfl⟩
      have y1 : (at_ : Int) + (k : Int) = (J : Int) := by omega
      have y1w : IntKind.i64.wrap ((at_ : Int) + (k : Int)) = (J : Int) := by rw [y1]; exact IntWalk.i64_in _ (by omega)
      have hJt2 : J < to_ := by omega
      obtain ⟨q, hq⟩ : ∃ q, q = J / 8 := ⟨_, rfl⟩
      obtain ⟨z, hz⟩ : ∃ z, z = J % 8 := ⟨_, rfl⟩
      have y2 : (J : Int) / 8 = (q : Int) := by omega
      have y2w : Int.tdiv (J : Int) 8 = (q : Int) := by rw [hq]; exact (Int.ofNat_tdiv _ _).symm
      have y3 : (J : Int) % 8 = (z : Int) := by omega
      have y3w : Int.tmod (J : Int) 8 = (z : Int) := by rw [hz]; exact (Int.ofNat_tmod _ _).symm
      have hqn : q < n := by omega
      have hz8 : z < 8 := by omega
      have HQ := Lib.hid (show J = 8 * q + z by omega)
      have HJ := Lib.hid hJ
      clear hJ hq hz
      have hqc : q < cur.length := by rw [HCL.out, tl]; exact hqn
      have hcell := hrow.cell q hqc
      have hfree := hrow.free q hqc
      have hxb := (cur.getD q 0).toNat_lt
      obtain ⟨X, hX⟩ : ∃ X, X = (cur.getD q 0).toNat := ⟨_, rfl⟩
      rw [← hX] at hcell hxb
      have HXX := Lib.hid hX
      clear hX
      have hbi : (B : Int) / 2 ^ k = ((B / 2 ^ k : Nat) : Int) := by rw [Int.natCast_ediv, Int.natCast_pow]; rfl
      have hbm : Int.tmod ((B : Int) / 2 ^ k) 2 = ((B / 2 ^ k % 2 : Nat) : Int) := by rw [hbi]; exact (Int.ofNat_tmod _ _).symm
      by_cases hbit : B / 2 ^ k % 2 = 1
      · have hbt : (Int.tmod ((B : Int) / 2 ^ k) 2 == 1) = true := by rw [hbm, hbit]; rfl
        have HB := Lib.hid hbit
        clear hbi hbm hbit
        go_wp2
        go_region
        go_wp2
        go_roundw
        case rel =>
          have hv : Value.int IntKind.u8 (bits BinOp.xor IntKind.u8 (X : Int) (2 ^ z % 256)) = .int .u8 ((cur[q]'hqc ^^^ UInt8.ofNat (2 ^ z)).toNat : Int) := by
            rw [u8_flip X z hxb hz8, UInt8.toNat_xor, u8_pow z hz8, ← getD_at cur q hqc, HXX.out]
          refine ⟨k + 1, by go_num, by omega, by omega, cur.set q (cur[q]'hqc ^^^ UInt8.ofNat (2 ^ z)), by rw [List.length_set]; exact HCL.out, ?_, ?_, ?_⟩
          · rw [Crc.ofLe_flip cur q z hqc hz8, HLE.out, Crc.mod_snoc, if_pos HB.out, ← HQ.out, HJ.out, Nat.xor_assoc]
            congr 1
            rw [Crc.mul_xor, ← Nat.pow_add]
          · rw [hv]
            have h := hrow.set q hqc (cur[q]'hqc ^^^ UInt8.ofNat (2 ^ z))
            obtain ⟨cs, ty, fa, fb, h⟩ := h
            exact ⟨cs, ty, fa, fb, h⟩
          · exact (hur.setCell (p := ⟨w3.heap.size, q, none⟩) (fun _ => rfl) _).drew
        case measure => simp [intOf]; omega
      · have hbt : (Int.tmod ((B : Int) / 2 ^ k) 2 == 1) = false := by rw [hbm, beq_eq_false_iff_ne]; omega
        have HB := Lib.hid hbit
        clear hbi hbm hbit
        go_wp2
        go_roundw
        case rel => exact ⟨k + 1, by go_num, by omega, by omega, cur, HCL.out, by rw [HLE.out, Crc.mod_snoc, if_neg HB.out, Nat.xor_zero], hrow, hur⟩
        case measure => simp [intOf]; omega
    · have hconv := fun cap => hrow.conv cap n (by rw [HCL.out, tl])
      have hwt : w3.heap.size < wr.heap.size := hrow.lt
      have hTr := Lib.hid (hT4.out.upd hur (fun f => by omega))
      have uu := ((((hu0.trans u1 (fun _ _ f => f)).trans u2 (fun _ _ f => f)).trans u3 (fun _ _ f => f)).trans ubr (fun _ _ f => f)).trans hur (fun i hi f => by omega)
      have hcap2 := append_list cur more
      obtain ⟨CM, hCM⟩ : ∃ CM, CM = cur ++ more := ⟨_, rfl⟩
      have hCMl : CM.length ≤ 100000 := by rw [hCM, List.length_append, HCL.out, tl]; omega
      have hlcur : cur.length = n := by rw [HCL.out, tl]
      have hxl2 : ¬ 9223372036854775807 < n + more.length := by omega
      have hsp : cur ≠ t → Sl.openS CM = ([], [], 9) := by
        intro hne
        rw [hCM]
        exact open_spoilt_text s t cur more at_ k (B % 2 ^ k) hs HT.out (by rw [HCL.out]) HLE.out h16 (by have := hOt.out; omega) hk1 (Nat.mod_lt _ (Nat.two_pow_pos _)) (Nat.pos_of_ne_zero fun e => hne (Crc.ofLe_inj _ _ HCL.out (by rw [HLE.out, e, Nat.mul_zero, Nat.xor_zero])))
      rw [← hCM] at hcap2
      clear hCM
      by_cases hct : cur = t
      · have hcmp : (cur == t) = true := beq_iff_eq.2 hct
        have HCT := Lib.hid hct
        clear hct hsp
        by_cases hk : k < 32
        · have y1 : (at_ : Int) + (k : Int) = (to_ : Int) := by omega
          have y1w : IntKind.i64.wrap ((at_ : Int) + (k : Int)) = (to_ : Int) := by rw [y1]; exact IntWalk.i64_in _ (by omega)
          clear hend
          go_wp2_with (fail)
          refine (law_works _ hTr.out (by omega)).mono ?_
          rintro e wz ⟨rfl, uz⟩
          go_wp2
          go_ret
          exact ⟨rfl, uu.trans uz (fun _ _ f => f)⟩
        · clear hend
          go_wp2_with (fail)
          refine (law_works _ hTr.out (by omega)).mono ?_
          rintro e wz ⟨rfl, uz⟩
          go_wp2
          go_ret
          exact ⟨rfl, uu.trans uz (fun _ _ f => f)⟩
      · have hcmp : (cur == t) = false := beq_eq_false_iff_ne.2 hct
        have H5 := Lib.hid (fun w hT hg => law_fails CM 9 w (by omega) hT hg (hsp hct))
        have HCT := Lib.hid hct
        clear hct hsp
        by_cases hk : k < 32
        · have y1 : (at_ : Int) + (k : Int) = (to_ : Int) := by omega
          have y1w : IntKind.i64.wrap ((at_ : Int) + (k : Int)) = (to_ : Int) := by rw [y1]; exact IntWalk.i64_in _ (by omega)
          clear hend
          go_wp2_with (fail)
          refine (H5.out _ hTr.out (by omega)).mono ?_
          rintro e wy ⟨rfl, uy⟩
          have hTy := Lib.hid (hTr.out.upd uy (fun f => f))
          have gy := uy.size
          go_wp2_with (fail)
          refine (law_works _ hTy.out (by omega)).mono ?_
          rintro e wz ⟨rfl, uz⟩
          go_wp2
          go_ret
          exact ⟨rfl, (uu.trans uy (fun _ _ f => f)).trans uz (fun _ _ f => f)⟩
        · clear hend
          go_wp2_with (fail)
          refine (H5.out _ hTr.out (by omega)).mono ?_
          rintro e wy ⟨rfl, uy⟩
          have hTy := Lib.hid (hTr.out.upd uy (fun f => f))
          have gy := uy.size
          go_wp2_with (fail)
          refine (law_works _ hTy.out (by omega)).mono ?_
          rintro e wz ⟨rfl, uz⟩
          go_wp2
          go_ret
          exact ⟨rfl, (uu.trans uy (fun _ _ f => f)).trans uz (fun _ _ f => f)⟩

set_option maxHeartbeats 3200000 in
set_option maxRecDepth 100000 in
theorem back_sum (s more t : List UInt8) (cut a B from_ to_ at_ : Nat) (sm : Bool) (w : World) (hcase : sm = true) (hs : s.length ≤ 3000) (hm : more.length ≤ 3000) (ht : t = (Sl.close s).1) (hcut : cut < 65536) (ha : a < 65536) (hB : B < 4294967296)
    (hfrom : from_ = 16 + 8 * s.length) (hto : to_ = 48 + 8 * s.length) (hat : at_ = from_ + a % (to_ - from_))
    (hT : Fours w) (hg : 0 < w.heap.size) :
    Calls Tryd.prog 6 #[.string ⟨s.toArray⟩, .string ⟨more.toArray⟩, .agg #[.int .u16 cut, .int .u16 a, .int .u32 B, .bool sm]] w (TrueR w) := by
  obtain ⟨p1, p2, p3, p4, p5⟩ := close_parts s t hs ht
  have h1 := fun w hT hg => law_sealed s w (by omega) hT hg
  rw [← ht] at h1
  have h2 := fun w hT hg => sl_Open (t ++ more) w (by rw [List.length_append]; omega) hT hg
  rw [open_whole s t more hs ht] at h2
  obtain ⟨c, hc⟩ : ∃ c, c = cut % t.length := ⟨_, rfl⟩
  have hcl : c < t.length := by rw [hc]; exact Nat.mod_lt _ (by omega)
  have h3 := fun w hT hg => law_fails (t.take c) 10 w (by rw [List.length_take]; omega) hT hg (open_cut s t c hs ht hcl)
  have hx1 := append_list t more
  obtain ⟨TM, hTM⟩ : ∃ TM, TM = t ++ more := ⟨_, rfl⟩
  rw [← hTM] at h2 hx1
  have hxl : ¬ 9223372036854775807 < t.length + more.length := by omega
  obtain ⟨TC, hTC⟩ : ∃ TC, TC = t.take c := ⟨_, rfl⟩
  have hx2 : (⟨t.toArray⟩ : ByteArray).extract 0 c = ⟨TC.toArray⟩ := by have := ext_list t 0 c; rw [hTC]; simpa using this
  rw [← hTC] at h3
  obtain ⟨n, hn⟩ : ∃ n, n = s.length + 6 := ⟨_, rfl⟩
  have tl : t.length = n := by omega
  rw [tl] at hc hcl hxl
  have e6 : (s.length : Int) + 6 = (n : Int) := by omega
  have e6' : IntKind.i64.wrap ((s.length : Int) + 6) = (n : Int) := by rw [e6]; exact IntWalk.i64_in _ (by omega)
  have i1 : (0 : Int) ≤ (c : Int) := by omega
  have i2 : (c : Int) ≤ (n : Int) := by omega
  have m1 : Int.tmod (cut : Int) (n : Int) = (c : Int) := by rw [hc]; exact (Int.ofNat_tmod _ _).symm
  have m2 : (cut : Int) % (n : Int) = (c : Int) := by rw [hc]; rfl
  have m3 : ((n : Int) == 0) = false := beq_eq_false_iff_ne.2 (by omega)
  have hcv := fun W => Lib.run_convert_string_bytes (P := Tryd.prog) W 9 46 5 ⟨t.toArray⟩ Tryd.underlying9 Tryd.underlying46 Tryd.underlying5
  rw [size_list, tl] at hcv
  have x1 : 16 + 8 * (s.length : Int) = (from_ : Int) := by omega
  have x1w : IntKind.i64.wrap (16 + 8 * (s.length : Int)) = (from_ : Int) := by rw [x1]; exact IntWalk.i64_in _ (by omega)
  have x2 : 48 + 8 * (s.length : Int) = (to_ : Int) := by omega
  have x2w : IntKind.i64.wrap (48 + 8 * (s.length : Int)) = (to_ : Int) := by rw [x2]; exact IntWalk.i64_in _ (by omega)
  obtain ⟨d, hd⟩ : ∃ d, d = to_ - from_ := ⟨_, rfl⟩
  have hd0 : 0 < d := by omega
  obtain ⟨r, hr⟩ : ∃ r, r = a % d := ⟨_, rfl⟩
  have hrd : r < d := by rw [hr]; exact Nat.mod_lt _ hd0
  have x3 : (to_ : Int) - (from_ : Int) = (d : Int) := by omega
  have x3w : IntKind.i64.wrap ((to_ : Int) - (from_ : Int)) = (d : Int) := by rw [x3]; exact IntWalk.i64_in _ (by omega)
  have x4 : Int.tmod (a : Int) (d : Int) = (r : Int) := by rw [hr]; exact (Int.ofNat_tmod _ _).symm
  have x4' : (a : Int) % (d : Int) = (r : Int) := by rw [hr]; rfl
  have x4b : ((d : Int) == 0) = false := beq_eq_false_iff_ne.2 (by omega)
  have x4c : ¬ d = 0 := by omega
  have hat2 : at_ = from_ + r := by rw [hat, hr, hd]
  have x5 : (from_ : Int) + (r : Int) = (at_ : Int) := by omega
  have x5w : IntKind.i64.wrap ((from_ : Int) + (r : Int)) = (at_ : Int) := by rw [x5]; exact IntWalk.i64_in _ (by omega)
  have hlt : at_ < to_ := by omega
  have hbd : to_ ≤ 8 * n := by omega
  have h16 : 16 ≤ at_ := by omega
  have HX := Lib.hid (show at_ = from_ + r from hat2)
  clear hat2 hd
  subst hcase
  have hu0 := (Upd.refl (fun _ => False) w).alloc (.cells #[.int .u16 cut, .int .u16 a, .int .u32 B, .bool true] 50)
  have hb0 := heap_alloc_new w (.cells #[.int .u16 cut, .int .u16 a, .int .u32 B, .bool true] 50)
  have q0 := cell_heap hb0 0 (.int .u16 cut) rfl
  have hT0 := Lib.hid (hT.upd hu0 (fun f => f))
  have H1 := Lib.hid h1
  have H2 := Lib.hid h2
  have H3 := Lib.hid h3
  have HC := Lib.hid hc
  clear h1 h2 h3 hc hTM hTC hT p2 p3 p4 p5
  have HR := Lib.hid hr
  clear hr hat
  have ht0 : 0 < to_ := by omega
  have HN := Lib.hid hn
  have HT := Lib.hid ht
  have hOt := Lib.hid hto
  have HFR := Lib.hid hfrom
  clear p1
  have n1 : n ≤ s.length + 6 := by omega
  have n2 : s.length + 6 ≤ n := by omega
  clear hn ht hto hfrom
  go_enter Tryd.func6, Tryd.ntmps6
  go_wp2_with (fail)
  refine (H1.out _ hT0.out (by simp)).mono ?_
  rintro e w1 ⟨rfl, u1⟩
  have hT1 := Lib.hid (hT0.out.upd u1 (fun f => f))
  have g1 := u1.size
  have hb1 := u1.heap hb0 (fun f => f)
  go_wp2_with (fail)
  refine (H2.out _ hT1.out (by simp at g1; omega)).mono ?_
  rintro e w2 ⟨rfl, u2⟩
  have hT2 := Lib.hid (hT1.out.upd u2 (fun f => f))
  have g2 := u2.size
  have hb2 := u2.heap hb1 (fun f => f)
  have q2 := cell_heap hb2 0 (.int .u16 cut) rfl
  go_wp2_with (fail)
  refine (H3.out _ hT2.out (by simp at g1; omega)).mono ?_
  rintro e w3 ⟨rfl, u3⟩
  have hT3 := Lib.hid (hT2.out.upd u3 (fun f => f))
  have g3 := u3.size
  have hb3 := u3.heap hb2 (fun f => f)
  have hbr := BRow.new w3 t
  have ubr := bytes_upd w3 t
  have hT4 := Lib.hid (hT3.out.upd ubr (fun f => f))
  have g4 := ubr.size
  have hb4 := ubr.heap hb3 (fun f => f)
  have q4 := cell_heap hb4 3 (.bool true) rfl
  have q5 := cell_heap hb4 1 (.int .u16 a) rfl
  go_wp2_with (fail)
  go_loopw [15] (fun k wr => ∃ kk : Nat, k = .int .i64 kk ∧ kk ≤ 32 ∧ at_ + kk ≤ to_ ∧ BackI (Lib.bytesWorld w3 5 ⟨t.toArray⟩) w3.heap.size t at_ B kk wr) (fun k _ => 32 - (intOf k).toNat)
  case atStart => exact ⟨0, rfl, by omega, by omega, t, rfl, by rw [Nat.pow_zero, Nat.mod_one, Nat.mul_zero, Nat.xor_zero], hbr, Upd.refl _ _⟩
  case round =>
    obtain ⟨k, rfl, hk1, hk2, cur, hcl2, hle, hrow, hur⟩ := hrel
    have HLE := Lib.hid hle
    have HCL := Lib.hid hcl2
    have gr := hur.size
    have GBL := lt_of_heap hb3
    have hbr4 := hur.heap hb4 (fun f => by omega)
    have qB := cell_heap hbr4 2 (.int .u32 B) rfl
    clear hle hcl2
    by_cases hend : k < 32 ∧ at_ + k < to_
    · obtain ⟨hk32, hJt⟩ := hend
      obtain ⟨J, hJ⟩ : ∃ J, J = at_ + k := ⟨_, rfl⟩
      have y1 : (at_ : Int) + (k : Int) = (J : Int) := by omega
      have y1w : IntKind.i64.wrap ((at_ : Int) + (k : Int)) = (J : Int) := by rw [y1]; exact IntWalk.i64_in _ (by omega)
      have hJt2 : J < to_ := by omega
      obtain ⟨q, hq⟩ : ∃ q, q = J / 8 := ⟨_, rfl⟩
      obtain ⟨z, hz⟩ : ∃ z, z = J % 8 := ⟨_, rfl⟩
      have y2 : (J : Int) / 8 = (q : Int) := by omega
      have y2w : Int.tdiv (J : Int) 8 = (q : Int) := by rw [hq]; exact (Int.ofNat_tdiv _ _).symm
      have y3 : (J : Int) % 8 = (z : Int) := by omega
      have y3w : Int.tmod (J : Int) 8 = (z : Int) := by rw [hz]; exact (Int.ofNat_tmod _ _).symm
      have hqn : q < n := by omega
      have hz8 : z < 8 := by omega
      have HQ := Lib.hid (show J = 8 * q + z by omega)
      have HJ := Lib.hid hJ
      clear hJ hq hz
      have hqc : q < cur.length := by rw [HCL.out, tl]; exact hqn
      have hcell := hrow.cell q hqc
      have hfree := hrow.free q hqc
      have hxb := (cur.getD q 0).toNat_lt
      obtain ⟨X, hX⟩ : ∃ X, X = (cur.getD q 0).toNat := ⟨_, rfl⟩
      rw [← hX] at hcell hxb
      have HXX := Lib.hid hX
      clear hX
      have hbi : (B : Int) / 2 ^ k = ((B / 2 ^ k : Nat) : Int) := by rw [Int.natCast_ediv, Int.natCast_pow]; rfl
      have hbm : Int.tmod ((B : Int) / 2 ^ k) 2 = ((B / 2 ^ k % 2 : Nat) : Int) := by rw [hbi]; exact (Int.ofNat_tmod _ _).symm
      by_cases hbit : B / 2 ^ k % 2 = 1
      · have hbt : (Int.tmod ((B : Int) / 2 ^ k) 2 == 1) = true := by rw [hbm, hbit]; rfl
        have HB := Lib.hid hbit
        clear hbi hbm hbit
        go_wp2
        go_region
        go_wp2
        go_roundw
        case rel =>
          have hv : Value.int IntKind.u8 (bits BinOp.xor IntKind.u8 (X : Int) (2 ^ z % 256)) = .int .u8 ((cur[q]'hqc ^^^ UInt8.ofNat (2 ^ z)).toNat : Int) := by
            rw [u8_flip X z hxb hz8, UInt8.toNat_xor, u8_pow z hz8, ← getD_at cur q hqc, HXX.out]
          refine ⟨k + 1, by go_num, by omega, by omega, cur.set q (cur[q]'hqc ^^^ UInt8.ofNat (2 ^ z)), by rw [List.length_set]; exact HCL.out, ?_, ?_, ?_⟩
          · rw [Crc.ofLe_flip cur q z hqc hz8, HLE.out, Crc.mod_snoc, if_pos HB.out, ← HQ.out, HJ.out, Nat.xor_assoc]
            congr 1
            rw [Crc.mul_xor, ← Nat.pow_add]
          · rw [hv]
            have h := hrow.set q hqc (cur[q]'hqc ^^^ UInt8.ofNat (2 ^ z))
            obtain ⟨cs, ty, fa, fb, h⟩ := h
            exact ⟨cs, ty, fa, fb, h⟩
          · exact (hur.setCell (p := ⟨w3.heap.size, q, none⟩) (fun _ => rfl) _).drew
        case measure => simp [intOf]; omega
      · have hbt : (Int.tmod ((B : Int) / 2 ^ k) 2 == 1) = false := by rw [hbm, beq_eq_false_iff_ne]; omega
        have HB := Lib.hid hbit
        clear hbi hbm hbit
        go_wp2
        go_roundw
        case rel => exact ⟨k + 1, by go_num, by omega, by omega, cur, HCL.out, by rw [HLE.out, Crc.mod_snoc, if_neg HB.out, Nat.xor_zero], hrow, hur⟩
        case measure => simp [intOf]; omega
    · have hconv := fun cap => hrow.conv cap n (by rw [HCL.out, tl])
      have hwt : w3.heap.size < wr.heap.size := hrow.lt
      have hTr := Lib.hid (hT4.out.upd hur (fun f => by omega))
      have uu := ((((hu0.trans u1 (fun _ _ f => f)).trans u2 (fun _ _ f => f)).trans u3 (fun _ _ f => f)).trans ubr (fun _ _ f => f)).trans hur (fun i hi f => by omega)
      have hcap2 := append_list cur more
      obtain ⟨CM, hCM⟩ : ∃ CM, CM = cur ++ more := ⟨_, rfl⟩
      have hCMl : CM.length ≤ 100000 := by rw [hCM, List.length_append, HCL.out, tl]; omega
      have hlcur : cur.length = n := by rw [HCL.out, tl]
      have hxl2 : ¬ 9223372036854775807 < n + more.length := by omega
      have hsp : cur ≠ t → Sl.openS CM = ([], [], 9) := by
        intro hne
        rw [hCM]
        exact open_spoilt_sum s t cur more at_ (B % 2 ^ k) hs HT.out (by rw [HCL.out]) HLE.out (by have := HFR.out; omega) hne
      rw [← hCM] at hcap2
      clear hCM
      by_cases hct : cur = t
      · have hcmp : (cur == t) = true := beq_iff_eq.2 hct
        have HCT := Lib.hid hct
        clear hct hsp
        by_cases hk : k < 32
        · have y1 : (at_ : Int) + (k : Int) = (to_ : Int) := by omega
          have y1w : IntKind.i64.wrap ((at_ : Int) + (k : Int)) = (to_ : Int) := by rw [y1]; exact IntWalk.i64_in _ (by omega)
          clear hend
          go_wp2_with (fail)
          refine (law_works _ hTr.out (by omega)).mono ?_
          rintro e wz ⟨rfl, uz⟩
          go_wp2
          go_ret
          exact ⟨rfl, uu.trans uz (fun _ _ f => f)⟩
        · clear hend
          go_wp2_with (fail)
          refine (law_works _ hTr.out (by omega)).mono ?_
          rintro e wz ⟨rfl, uz⟩
          go_wp2
          go_ret
          exact ⟨rfl, uu.trans uz (fun _ _ f => f)⟩
      · have hcmp : (cur == t) = false := beq_eq_false_iff_ne.2 hct
        have H5 := Lib.hid (fun w hT hg => law_fails CM 9 w (by omega) hT hg (hsp hct))
        have HCT := Lib.hid hct
        clear hct hsp
        by_cases hk : k < 32
        · have y1 : (at_ : Int) + (k : Int) = (to_ : Int) := by omega
          have y1w : IntKind.i64.wrap ((at_ : Int) + (k : Int)) = (to_ : Int) := by rw [y1]; exact IntWalk.i64_in _ (by omega)
          clear hend
          go_wp2_with (fail)
          refine (H5.out _ hTr.out (by omega)).mono ?_
          rintro e wy ⟨rfl, uy⟩
          have hTy := Lib.hid (hTr.out.upd uy (fun f => f))
          have gy := uy.size
          go_wp2_with (fail)
          refine (law_works _ hTy.out (by omega)).mono ?_
          rintro e wz ⟨rfl, uz⟩
          go_wp2
          go_ret
          exact ⟨rfl, (uu.trans uy (fun _ _ f => f)).trans uz (fun _ _ f => f)⟩
        · clear hend
          go_wp2_with (fail)
          refine (H5.out _ hTr.out (by omega)).mono ?_
          rintro e wy ⟨rfl, uy⟩
          have hTy := Lib.hid (hTr.out.upd uy (fun f => f))
          have gy := uy.size
          go_wp2_with (fail)
          refine (law_works _ hTy.out (by omega)).mono ?_
          rintro e wz ⟨rfl, uz⟩
          go_wp2
          go_ret
          exact ⟨rfl, (uu.trans uy (fun _ _ f => f)).trans uz (fun _ _ f => f)⟩

set_option maxHeartbeats 3200000 in
set_option maxRecDepth 100000 in
theorem back_sum0 (s more t : List UInt8) (cut a B from_ to_ at_ : Nat) (sm : Bool) (w : World) (hcase : sm = false ∧ s.length = 0) (hs : s.length ≤ 3000) (hm : more.length ≤ 3000) (ht : t = (Sl.close s).1) (hcut : cut < 65536) (ha : a < 65536) (hB : B < 4294967296)
    (hfrom : from_ = 16 + 8 * s.length) (hto : to_ = 48 + 8 * s.length) (hat : at_ = from_ + a % (to_ - from_))
    (hT : Fours w) (hg : 0 < w.heap.size) :
    Calls Tryd.prog 6 #[.string ⟨s.toArray⟩, .string ⟨more.toArray⟩, .agg #[.int .u16 cut, .int .u16 a, .int .u32 B, .bool sm]] w (TrueR w) := by
  obtain ⟨p1, p2, p3, p4, p5⟩ := close_parts s t hs ht
  have h1 := fun w hT hg => law_sealed s w (by omega) hT hg
  rw [← ht] at h1
  have h2 := fun w hT hg => sl_Open (t ++ more) w (by rw [List.length_append]; omega) hT hg
  rw [open_whole s t more hs ht] at h2
  obtain ⟨c, hc⟩ : ∃ c, c = cut % t.length := ⟨_, rfl⟩
  have hcl : c < t.length := by rw [hc]; exact Nat.mod_lt _ (by omega)
  have h3 := fun w hT hg => law_fails (t.take c) 10 w (by rw [List.length_take]; omega) hT hg (open_cut s t c hs ht hcl)
  have hx1 := append_list t more
  obtain ⟨TM, hTM⟩ : ∃ TM, TM = t ++ more := ⟨_, rfl⟩
  rw [← hTM] at h2 hx1
  have hxl : ¬ 9223372036854775807 < t.length + more.length := by omega
  obtain ⟨TC, hTC⟩ : ∃ TC, TC = t.take c := ⟨_, rfl⟩
  have hx2 : (⟨t.toArray⟩ : ByteArray).extract 0 c = ⟨TC.toArray⟩ := by have := ext_list t 0 c; rw [hTC]; simpa using this
  rw [← hTC] at h3
  obtain ⟨n, hn⟩ : ∃ n, n = s.length + 6 := ⟨_, rfl⟩
  have tl : t.length = n := by omega
  rw [tl] at hc hcl hxl
  have e6 : (s.length : Int) + 6 = (n : Int) := by omega
  have e6' : IntKind.i64.wrap ((s.length : Int) + 6) = (n : Int) := by rw [e6]; exact IntWalk.i64_in _ (by omega)
  have i1 : (0 : Int) ≤ (c : Int) := by omega
  have i2 : (c : Int) ≤ (n : Int) := by omega
  have m1 : Int.tmod (cut : Int) (n : Int) = (c : Int) := by rw [hc]; exact (Int.ofNat_tmod _ _).symm
  have m2 : (cut : Int) % (n : Int) = (c : Int) := by rw [hc]; rfl
  have m3 : ((n : Int) == 0) = false := beq_eq_false_iff_ne.2 (by omega)
  have hcv := fun W => Lib.run_convert_string_bytes (P := Tryd.prog) W 9 46 5 ⟨t.toArray⟩ Tryd.underlying9 Tryd.underlying46 Tryd.underlying5
  rw [size_list, tl] at hcv
  have x1 : 16 + 8 * (s.length : Int) = (from_ : Int) := by omega
  have x1w : IntKind.i64.wrap (16 + 8 * (s.length : Int)) = (from_ : Int) := by rw [x1]; exact IntWalk.i64_in _ (by omega)
  have x2 : 48 + 8 * (s.length : Int) = (to_ : Int) := by omega
  have x2w : IntKind.i64.wrap (48 + 8 * (s.length : Int)) = (to_ : Int) := by rw [x2]; exact IntWalk.i64_in _ (by omega)
  obtain ⟨d, hd⟩ : ∃ d, d = to_ - from_ := ⟨_, rfl⟩
  have hd0 : 0 < d := by omega
  obtain ⟨r, hr⟩ : ∃ r, r = a % d := ⟨_, rfl⟩
  have hrd : r < d := by rw [hr]; exact Nat.mod_lt _ hd0
  have x3 : (to_ : Int) - (from_ : Int) = (d : Int) := by omega
  have x3w : IntKind.i64.wrap ((to_ : Int) - (from_ : Int)) = (d : Int) := by rw [x3]; exact IntWalk.i64_in _ (by omega)
  have x4 : Int.tmod (a : Int) (d : Int) = (r : Int) := by rw [hr]; exact (Int.ofNat_tmod _ _).symm
  have x4' : (a : Int) % (d : Int) = (r : Int) := by rw [hr]; rfl
  have x4b : ((d : Int) == 0) = false := beq_eq_false_iff_ne.2 (by omega)
  have x4c : ¬ d = 0 := by omega
  have hat2 : at_ = from_ + r := by rw [hat, hr, hd]
  have x5 : (from_ : Int) + (r : Int) = (at_ : Int) := by omega
  have x5w : IntKind.i64.wrap ((from_ : Int) + (r : Int)) = (at_ : Int) := by rw [x5]; exact IntWalk.i64_in _ (by omega)
  have hlt : at_ < to_ := by omega
  have hbd : to_ ≤ 8 * n := by omega
  have h16 : 16 ≤ at_ := by omega
  have HX := Lib.hid (show at_ = from_ + r from hat2)
  clear hat2 hd
  obtain ⟨rfl, hs0⟩ := hcase
  have hsb : ((s.length : Int) == 0) = true := beq_iff_eq.2 (by omega)
  clear hs0
  have hu0 := (Upd.refl (fun _ => False) w).alloc (.cells #[.int .u16 cut, .int .u16 a, .int .u32 B, .bool false] 50)
  have hb0 := heap_alloc_new w (.cells #[.int .u16 cut, .int .u16 a, .int .u32 B, .bool false] 50)
  have q0 := cell_heap hb0 0 (.int .u16 cut) rfl
  have hT0 := Lib.hid (hT.upd hu0 (fun f => f))
  have H1 := Lib.hid h1
  have H2 := Lib.hid h2
  have H3 := Lib.hid h3
  have HC := Lib.hid hc
  clear h1 h2 h3 hc hTM hTC hT p2 p3 p4 p5
  have HR := Lib.hid hr
  clear hr hat
  have ht0 : 0 < to_ := by omega
  have HN := Lib.hid hn
  have HT := Lib.hid ht
  have hOt := Lib.hid hto
  have HFR := Lib.hid hfrom
  clear p1
  have n1 : n ≤ s.length + 6 := by omega
  have n2 : s.length + 6 ≤ n := by omega
  clear hn ht hto hfrom
  go_enter Tryd.func6, Tryd.ntmps6
  go_wp2_with (fail)
  refine (H1.out _ hT0.out (by simp)).mono ?_
  rintro e w1 ⟨rfl, u1⟩
  have hT1 := Lib.hid (hT0.out.upd u1 (fun f => f))
  have g1 := u1.size
  have hb1 := u1.heap hb0 (fun f => f)
  go_wp2_with (fail)
  refine (H2.out _ hT1.out (by simp at g1; omega)).mono ?_
  rintro e w2 ⟨rfl, u2⟩
  have hT2 := Lib.hid (hT1.out.upd u2 (fun f => f))
  have g2 := u2.size
  have hb2 := u2.heap hb1 (fun f => f)
  have q2 := cell_heap hb2 0 (.int .u16 cut) rfl
  go_wp2_with (fail)
  refine (H3.out _ hT2.out (by simp at g1; omega)).mono ?_
  rintro e w3 ⟨rfl, u3⟩
  have hT3 := Lib.hid (hT2.out.upd u3 (fun f => f))
  have g3 := u3.size
  have hb3 := u3.heap hb2 (fun f => f)
  have hbr := BRow.new w3 t
  have ubr := bytes_upd w3 t
  have hT4 := Lib.hid (hT3.out.upd ubr (fun f => f))
  have g4 := ubr.size
  have hb4 := ubr.heap hb3 (fun f => f)
  have q4 := cell_heap hb4 3 (.bool false) rfl
  have q5 := cell_heap hb4 1 (.int .u16 a) rfl
  go_wp2_with (fail)
  go_loopw [15] (fun k wr => ∃ kk : Nat, k = .int .i64 kk ∧ kk ≤ 32 ∧ at_ + kk ≤ to_ ∧ BackI (Lib.bytesWorld w3 5 ⟨t.toArray⟩) w3.heap.size t at_ B kk wr) (fun k _ => 32 - (intOf k).toNat)
  case atStart => exact ⟨0, rfl, by omega, by omega, t, rfl, by rw [Nat.pow_zero, Nat.mod_one, Nat.mul_zero, Nat.xor_zero], hbr, Upd.refl _ _⟩
  case round =>
    obtain ⟨k, rfl, hk1, hk2, cur, hcl2, hle, hrow, hur⟩ := hrel
    have HLE := Lib.hid hle
    have HCL := Lib.hid hcl2
    have gr := hur.size
    have GBL := lt_of_heap hb3
    have hbr4 := hur.heap hb4 (fun f => by omega)
    have qB := cell_heap hbr4 2 (.int .u32 B) rfl
    clear hle hcl2
    by_cases hend : k < 32 ∧ at_ + k < to_
    · obtain ⟨hk32, hJt⟩ := hend
      obtain ⟨J, hJ⟩ : ∃ J, J = at_ + k := ⟨_, rfl⟩
      have y1 : (at_ : Int) + (k : Int) = (J : Int) := by omega
      have y1w : IntKind.i64.wrap ((at_ : Int) + (k : Int)) = (J : Int) := by rw [y1]; exact IntWalk.i64_in _ (by omega)
      have hJt2 : J < to_ := by omega
      obtain ⟨q, hq⟩ : ∃ q, q = J / 8 := ⟨_, rfl⟩
      obtain ⟨z, hz⟩ : ∃ z, z = J % 8 := ⟨_, rfl⟩
      have y2 : (J : Int) / 8 = (q : Int) := by omega
      have y2w : Int.tdiv (J : Int) 8 = (q : Int) := by rw [hq]; exact (Int.ofNat_tdiv _ _).symm
      have y3 : (J : Int) % 8 = (z : Int) := by omega
      have y3w : Int.tmod (J : Int) 8 = (z : Int) := by rw [hz]; exact (Int.ofNat_tmod _ _).symm
      have hqn : q < n := by omega
      have hz8 : z < 8 := by omega
      have HQ := Lib.hid (show J = 8 * q + z by omega)
      have HJ := Lib.hid hJ
      clear hJ hq hz
      have hqc : q < cur.length := by rw [HCL.out, tl]; exact hqn
      have hcell := hrow.cell q hqc
      have hfree := hrow.free q hqc
      have hxb := (cur.getD q 0).toNat_lt
      obtain ⟨X, hX⟩ : ∃ X, X = (cur.getD q 0).toNat := ⟨_, rfl⟩
      rw [← hX] at hcell hxb
      have HXX := Lib.hid hX
      clear hX
      have hbi : (B : Int) / 2 ^ k = ((B / 2 ^ k : Nat) : Int) := by rw [Int.natCast_ediv, Int.natCast_pow]; rfl
      have hbm : Int.tmod ((B : Int) / 2 ^ k) 2 = ((B / 2 ^ k % 2 : Nat) : Int) := by rw [hbi]; exact (Int.ofNat_tmod _ _).symm
      by_cases hbit : B / 2 ^ k % 2 = 1
      · have hbt : (Int.tmod ((B : Int) / 2 ^ k) 2 == 1) = true := by rw [hbm, hbit]; rfl
        have HB := Lib.hid hbit
        clear hbi hbm hbit
        go_wp2
        go_region
        go_wp2
        go_roundw
        case rel =>
          have hv : Value.int IntKind.u8 (bits BinOp.xor IntKind.u8 (X : Int) (2 ^ z % 256)) = .int .u8 ((cur[q]'hqc ^^^ UInt8.ofNat (2 ^ z)).toNat : Int) := by
            rw [u8_flip X z hxb hz8, UInt8.toNat_xor, u8_pow z hz8, ← getD_at cur q hqc, HXX.out]
          refine ⟨k + 1, by go_num, by omega, by omega, cur.set q (cur[q]'hqc ^^^ UInt8.ofNat (2 ^ z)), by rw [List.length_set]; exact HCL.out, ?_, ?_, ?_⟩
          · rw [Crc.ofLe_flip cur q z hqc hz8, HLE.out, Crc.mod_snoc, if_pos HB.out, ← HQ.out, HJ.out, Nat.xor_assoc]
            congr 1
            rw [Crc.mul_xor, ← Nat.pow_add]
          · rw [hv]
            have h := hrow.set q hqc (cur[q]'hqc ^^^ UInt8.ofNat (2 ^ z))
            obtain ⟨cs, ty, fa, fb, h⟩ := h
            exact ⟨cs, ty, fa, fb, h⟩
          · exact (hur.setCell (p := ⟨w3.heap.size, q, none⟩) (fun _ => rfl) _).drew
        case measure => simp [intOf]; omega
      · have hbt : (Int.tmod ((B : Int) / 2 ^ k) 2 == 1) = false := by rw [hbm, beq_eq_false_iff_ne]; omega
        have HB := Lib.hid hbit
        clear hbi hbm hbit
        go_wp2
        go_roundw
        case rel => exact ⟨k + 1, by go_num, by omega, by omega, cur, HCL.out, by rw [HLE.out, Crc.mod_snoc, if_neg HB.out, Nat.xor_zero], hrow, hur⟩
        case measure => simp [intOf]; omega
    · have hconv := fun cap => hrow.conv cap n (by rw [HCL.out, tl])
      have hwt : w3.heap.size < wr.heap.size := hrow.lt
      have hTr := Lib.hid (hT4.out.upd hur (fun f => by omega))
      have uu := ((((hu0.trans u1 (fun _ _ f => f)).trans u2 (fun _ _ f => f)).trans u3 (fun _ _ f => f)).trans ubr (fun _ _ f => f)).trans hur (fun i hi f => by omega)
      have hcap2 := append_list cur more
      obtain ⟨CM, hCM⟩ : ∃ CM, CM = cur ++ more := ⟨_, rfl⟩
      have hCMl : CM.length ≤ 100000 := by rw [hCM, List.length_append, HCL.out, tl]; omega
      have hlcur : cur.length = n := by rw [HCL.out, tl]
      have hxl2 : ¬ 9223372036854775807 < n + more.length := by omega
      have hsp : cur ≠ t → Sl.openS CM = ([], [], 9) := by
        intro hne
        rw [hCM]
        exact open_spoilt_sum s t cur more at_ (B % 2 ^ k) hs HT.out (by rw [HCL.out]) HLE.out (by have := HFR.out; omega) hne
      rw [← hCM] at hcap2
      clear hCM
      by_cases hct : cur = t
      · have hcmp : (cur == t) = true := beq_iff_eq.2 hct
        have HCT := Lib.hid hct
        clear hct hsp
        by_cases hk : k < 32
        · have y1 : (at_ : Int) + (k : Int) = (to_ : Int) := by omega
          have y1w : IntKind.i64.wrap ((at_ : Int) + (k : Int)) = (to_ : Int) := by rw [y1]; exact IntWalk.i64_in _ (by omega)
          clear hend
          go_wp2_with (fail)
          refine (law_works _ hTr.out (by omega)).mono ?_
          rintro e wz ⟨rfl, uz⟩
          go_wp2
          go_ret
          exact ⟨rfl, uu.trans uz (fun _ _ f => f)⟩
        · clear hend
          go_wp2_with (fail)
          refine (law_works _ hTr.out (by omega)).mono ?_
          rintro e wz ⟨rfl, uz⟩
          go_wp2
          go_ret
          exact ⟨rfl, uu.trans uz (fun _ _ f => f)⟩
      · have hcmp : (cur == t) = false := beq_eq_false_iff_ne.2 hct
        have H5 := Lib.hid (fun w hT hg => law_fails CM 9 w (by omega) hT hg (hsp hct))
        have HCT := Lib.hid hct
        clear hct hsp
        by_cases hk : k < 32
        · have y1 : (at_ : Int) + (k : Int) = (to_ : Int) := by omega
          have y1w : IntKind.i64.wrap ((at_ : Int) + (k : Int)) = (to_ : Int) := by rw [y1]; exact IntWalk.i64_in _ (by omega)
          clear hend
          go_wp2_with (fail)
          refine (H5.out _ hTr.out (by omega)).mono ?_
          rintro e wy ⟨rfl, uy⟩
          have hTy := Lib.hid (hTr.out.upd uy (fun f => f))
          have gy := uy.size
          go_wp2_with (fail)
          refine (law_works _ hTy.out (by omega)).mono ?_
          rintro e wz ⟨rfl, uz⟩
          go_wp2
          go_ret
          exact ⟨rfl, (uu.trans uy (fun _ _ f => f)).trans uz (fun _ _ f => f)⟩
        · clear hend
          go_wp2_with (fail)
          refine (H5.out _ hTr.out (by omega)).mono ?_
          rintro e wy ⟨rfl, uy⟩
          have hTy := Lib.hid (hTr.out.upd uy (fun f => f))
          have gy := uy.size
          go_wp2_with (fail)
          refine (law_works _ hTy.out (by omega)).mono ?_
          rintro e wz ⟨rfl, uz⟩
          go_wp2
          go_ret
          exact ⟨rfl, (uu.trans uy (fun _ _ f => f)).trans uz (fun _ _ f => f)⟩


set_option maxHeartbeats 1600000 in
set_option maxRecDepth 100000 in
theorem walk_SealBack (s more : List UInt8) (cut a B : Nat) (sm : Bool) (w : World) (hs : s.length ≤ 9223372036854775807) (hm : more.length ≤ 9223372036854775807) (hcut : cut < 65536) (ha : a < 65536) (hB : B < 4294967296) (hT : Fours w) (hg : 0 < w.heap.size) :
    Calls Tryd.prog 6 #[.string ⟨s.toArray⟩, .string ⟨more.toArray⟩, .agg #[.int .u16 cut, .int .u16 a, .int .u32 B, .bool sm]] w (TrueR w) := by
  by_cases hl : 3000 < s.length ∨ 3000 < more.length
  · have hu0 := (Upd.refl (fun _ => False) w).alloc (.cells #[.int .u16 cut, .int .u16 a, .int .u32 B, .bool sm] 50)
    have hT0 := Lib.hid (hT.upd hu0 (fun f => f))
    clear hT
    by_cases hx : 3000 < s.length
    · clear hl
      go_enter Tryd.func6, Tryd.ntmps6
      go_wp2_with (fail)
      refine (law_works _ hT0.out (by simp)).mono ?_
      rintro e w1 ⟨rfl, u1⟩
      go_wp2
      go_ret
      exact ⟨rfl, by repeat (first | exact Upd.refl _ _ | refine Upd.alloc ?_ _ | refine Upd.drew ?_ | refine Upd.trans ?_ (by assumption) (fun _ _ f => f))⟩
    · have hy : 3000 < more.length := by omega
      clear hl
      go_enter Tryd.func6, Tryd.ntmps6
      go_wp2_with (fail)
      refine (law_works _ hT0.out (by simp)).mono ?_
      rintro e w1 ⟨rfl, u1⟩
      go_wp2
      go_ret
      exact ⟨rfl, by repeat (first | exact Upd.refl _ _ | refine Upd.alloc ?_ _ | refine Upd.drew ?_ | refine Upd.trans ?_ (by assumption) (fun _ _ f => f))⟩
  · have l1 : s.length ≤ 3000 := by omega
    have l2 : more.length ≤ 3000 := by omega
    cases sm with
    | true => exact back_sum s more _ cut a B _ _ _ true w rfl l1 l2 rfl hcut ha hB rfl rfl rfl hT hg
    | false =>
      by_cases h0 : s.length = 0
      · exact back_sum0 s more _ cut a B _ _ _ false w ⟨rfl, h0⟩ l1 l2 rfl hcut ha hB rfl rfl rfl hT hg
      · exact back_text s more _ cut a B _ _ _ false w ⟨rfl, by omega⟩ l1 l2 rfl hcut ha hB rfl rfl rfl hT hg

end Go.Proofs.YtfkmoooeaijndaaDoor
