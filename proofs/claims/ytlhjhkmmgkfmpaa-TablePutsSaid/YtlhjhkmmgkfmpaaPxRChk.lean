/- rillbedref24.Check for the printer: plain. -/
import Derived.Test.YtlhjhkmmgkfmpaaPx0
import Derived.Test.YtlhjhkmmgkfmpaaPx7
import Derived.Test.YtlhjhkmmgkfmpaaPx14
import Derived.Test.YtlhjhkmmgkfmpaaPxChk
set_option linter.unusedVariables false
set_option linter.unusedSimpArgs false
namespace Go.Proofs.Ytlhjhkmmgkfmpaa.Px
open Go.RowKit Go.Shelf Go.Proofs.YtlhjhkmmgkfmpaaW.PrintWords Go.Proofs.YtlhjhkmmgkfmpaaW.PrintLast

theorem bt_get (s : ByteArray) (i : Nat) (h : i < s.size) : bt s (i : Int) = ((s[i]'h).toNat : Int) := by unfold bt; simp [h]
theorem ref_name_loop (s : ByteArray) (hs : s.size ≤ 1000) : ∀ (g i k : Nat), i + g = s.size → g < k → Lib.NoAny s.data.toList [0, 47, 58] i →
    rillbedref24_Name.l0 k s (i : Int) = some (!(Lib.containsAny s.data.toList [0, 47, 58])) := by
  intro g
  induction g with
  | zero =>
    intro i k hi hk hn
    obtain ⟨k, rfl⟩ : ∃ m, k = m + 1 := ⟨k - 1, by omega⟩
    obtain rfl : i = s.size := by omega
    simp only [rillbedref24_Name.l0]
    rw [if_neg (by omega)]
    unfold Lib.containsAny
    rw [Lib.indexAny_none (by rw [← Lib.size_eq]; exact hn)]
    rfl
  | succ g ih =>
    intro i k hi hk hn
    obtain ⟨k, rfl⟩ : ∃ m, k = m + 1 := ⟨k - 1, by omega⟩
    have hlt : i < s.size := by omega
    have hx : s.data.toList[i]? = some (s[i]'hlt) := Lib.data_getElem? s i hlt
    have hb := bt_get s i hlt
    have hit : [0, 47, 58].contains (s[i]'hlt) = true → (!(Lib.containsAny s.data.toList [0, 47, 58])) = false := fun h => by
      unfold Lib.containsAny
      rw [Lib.indexAny_hit hn hx h]
      simp
    simp only [rillbedref24_Name.l0]
    rw [if_pos (by omega), if_pos (by omega), hb]
    generalize s[i]'hlt = x at *
    by_cases h0 : (x.toNat : Int) = 0
    · have : x = 0 := UInt8.toNat_inj.1 (by simpa using h0)
      rw [if_pos h0, hit (by rw [this]; rfl)]
    by_cases h1 : (x.toNat : Int) = 47
    · have : x = 47 := UInt8.toNat_inj.1 (by simp; omega)
      rw [if_neg h0, if_pos h1, hit (by rw [this]; rfl)]
    by_cases h2 : (x.toNat : Int) = 58
    · have : x = 58 := UInt8.toNat_inj.1 (by simp; omega)
      rw [if_neg h0, if_neg h1, if_pos h2, hit (by rw [this]; rfl)]
    rw [if_neg h0, if_neg h1, if_neg h2]
    have hw : wrap64 ((i : Int) + 1) = ((i + 1 : Nat) : Int) := by unfold wrap64; omega
    rw [hw]
    refine ih (i + 1) k (by omega) (by omega) (hn.succ hx ?_)
    have g0 : x ≠ 0 := fun e => h0 (by rw [e]; rfl)
    have g1 : x ≠ 47 := fun e => h1 (by rw [e]; rfl)
    have g2 : x ≠ 58 := fun e => h2 (by rw [e]; rfl)
    simp [g0, g1, g2]
theorem ref_Name_eq (s : ByteArray) (k : Nat) (hk : 1010 ≤ k) : rillbedref24_Name.f k s = some (nameB s) := by
  obtain ⟨k, rfl⟩ : ∃ m, k = m + 1 := ⟨k - 1, by omega⟩
  have hT : rillbedref24_Name.j0 (k + 1) s true = some false := by simp [rillbedref24_Name.j0]
  have hz : s.toList = [] ↔ s.size = 0 := by
    rw [Lib.toList_data, Lib.size_eq]
    exact List.length_eq_zero_iff.symm
  unfold rillbedref24_Name.f nameB
  by_cases h1 : (s.size : Int) < 1
  · rw [if_pos h1, hT]
    have : s.toList = [] := hz.2 (by omega)
    simp [this]
  have h1' : ¬ s.toList = [] := fun e => h1 (by have := hz.1 e; omega)
  by_cases h2 : (s.size : Int) > 16
  · rw [if_neg h1, if_pos h2, hT]
    have : ¬ (s.size : Int) ≤ 16 := by omega
    simp [this]
  have h2' : (s.size : Int) ≤ 16 := by omega
  by_cases h3 : s.toList = [46]
  · rw [if_neg h1, if_neg h2, if_pos h3, hT]; simp [h3]
  rw [if_neg h1, if_neg h2, if_neg h3]
  by_cases h4 : s.toList = [46, 46]
  · rw [h4]
    show rillbedref24_Name.j0 (k + 1) s true = _
    rw [hT]; simp
  · have : (s.toList == [46, 46]) = false := beq_eq_false_iff_ne.2 h4
    rw [this]
    simp only [rillbedref24_Name.j0]
    rw [if_neg (by simp), show (0 : Int) = ((0 : Nat) : Int) from rfl, ref_name_loop s (by omega) s.size 0 k (by omega) (by omega) (Lib.NoAny.zero _ _)]
    simp [h1', h2', h3, h4]
theorem ref_small_eq (n : Int) : rillbedref24_small.f n = some (smallB n) := table_small_eq n
theorem rname_is (s : ByteArray) (b : Bool) (h : nameB s = b) (w : World) : Calls Try.prog 16 #[.string s] w fun e w' => e = .returned (.bool b) ∧ ∃ m, w' = w.drewN m :=
  (rillbedref24_Name.calls 1010 s b w (by rw [ref_Name_eq s 1010 (Nat.le_refl _), h])).mono fun _ _ ⟨h1, m, h2⟩ => ⟨h1, m, h2⟩
theorem rsmall_is (n : Int) (b : Bool) (h : smallB n = b) (w : World) : Calls Try.prog 31 #[.int .i64 n] w fun e w' => e = .returned (.bool b) ∧ ∃ m, w' = w.drewN m :=
  (rillbedref24_small.calls n b w (by rw [ref_small_eq, h])).mono fun _ _ ⟨h1, m, h2⟩ => ⟨h1, m, h2⟩
theorem quiet_d {P : Program} {f : FuncId} {args : Array Value} {w : World} {v : Value} {n : Nat} (h : ∀ w, Calls P f args w fun e w' => e = .returned v ∧ ∃ m, w' = w.drewN m) : Calls P f args (w.drewN n) fun e w' => e = .returned v ∧ ∃ m, w' = w.drewN m :=
  (h (w.drewN n)).mono fun e w' ⟨he, m, hm⟩ => ⟨he, n + m, by rw [hm, World.drewN_drewN]⟩

theorem less_leq : ∀ a b : List UInt8, (Op.bytesLess a b || a == b) = !(Op.bytesLess b a)
  | [], [] => rfl
  | [], _ :: _ => rfl
  | _ :: _, [] => rfl
  | a :: x, b :: y => by
    have ih := less_leq x y
    simp only [Op.bytesLess]
    rcases Nat.lt_trichotomy a.toNat b.toNat with h | h | h
    · have h1 : a < b := h
      have h2 : ¬ b < a := fun e => Nat.lt_asymm h e
      have h3 : ¬ b = a := fun e => by rw [e] at h; exact Nat.lt_irrefl _ h
      simp [h1, h2, h3]
    · have h1 : a = b := UInt8.toNat_inj.1 h
      subst h1
      have h2 : ¬ a < a := fun e => Nat.lt_irrefl _ e
      simp only [h2, decide_false, Bool.false_or, beq_self_eq_true, Bool.true_and, List.cons_beq_cons]
      exact ih
    · have h1 : ¬ a < b := fun e => Nat.lt_asymm h e
      have h2 : b < a := h
      have h3 : ¬ a = b := fun e => by rw [e] at h; exact Nat.lt_irrefl _ h
      simp [h1, h2, h3]
theorem leq_yes {a b : List UInt8} (h : Op.bytesLess b a = false) : Op.bytesLess a b = true ∨ (Op.bytesLess a b = false ∧ (a == b) = true) := by
  have := less_leq a b
  rw [h] at this
  cases h2 : Op.bytesLess a b
  · rw [h2] at this; exact .inr ⟨rfl, this⟩
  · exact .inl rfl
theorem leq_no {a b : List UInt8} (h : Op.bytesLess b a = true) : Op.bytesLess a b = false ∧ (a == b) = false := by
  have := less_leq a b
  rw [h] at this
  exact Bool.or_eq_false_iff.1 this

def R1 (l : List S68) : List (ByteArray × Int) := l.map fun x => (x.f0, x.f1)
def R2 (l : List S69) : List (Int × Int) := l.map fun x => (x.f0, x.f1)
theorem R1_len (l : List S68) : (R1 l).length = l.length := by simp [R1]
theorem R2_len (l : List S69) : (R2 l).length = l.length := by simp [R2]
theorem R1_get (l : List S68) (i : Nat) : (R1 l).getD i sz = ((rd_T68 l (i : Int)).f0, (rd_T68 l (i : Int)).f1) := by
  unfold R1 rd_T68
  rw [List.getD_eq_getElem?_getD, List.getD_eq_getElem?_getD, List.getElem?_map, Int.toNat_natCast]
  cases l[i]? <;> rfl
theorem R2_get (l : List S69) (i : Nat) : (R2 l).getD i rz = ((rd_T69 l (i : Int)).f0, (rd_T69 l (i : Int)).f1) := by
  unfold R2 rd_T69
  rw [List.getD_eq_getElem?_getD, List.getD_eq_getElem?_getD, List.getElem?_map, Int.toNat_natCast]
  cases l[i]? <;> rfl

set_option maxHeartbeats 8000000 in
set_option maxRecDepth 100000 in
theorem ref_check_walk (a0 : Int) (A1 : Option Addr) (c1 : Nat) (l1 : List S68) (A2 : Option Addr) (c2 : Nat) (l2 : List S69) (w : World) (hr1 : Kd.C k68 w A1 l1.length l1) (hr2 : Kd.C k69 w A2 l2.length l2) :
    Calls Try.prog 12 #[.agg #[.int .u64 a0, .slice A1 l1.length c1, .slice A2 l2.length c2]] w (fun e w' => e = .returned (.int .i64 (chk (R1 l1) (R2 l2))) ∧ Upd (fun _ => False) w w') := by
  have hu68 := Try.underlying68
  have hu69 := Try.underlying69
  have hu37 := Try.underlying37
  have hb := heap_alloc_new w (.cells #[.int .u64 a0, .slice A1 l1.length c1, .slice A2 l2.length c2] 37)
  have d1 := cell_heap hb 1 (.slice A1 l1.length c1) rfl
  have d2 := cell_heap hb 2 (.slice A2 l2.length c2) rfl
  have u0 := (Upd.refl (fun _ => False) w).alloc (.cells #[.int .u64 a0, .slice A1 l1.length c1, .slice A2 l2.length c2] 37)
  by_cases b1 : 6 < l1.length
  · have hc : chk (R1 l1) (R2 l2) = 4 := by unfold chk; rw [R1_len, if_pos (Or.inl b1)]
    rw [hc]
    have b1' : decide ((6 : Int) < (l1.length : Int)) = true := decide_eq_true (by omega)
    go_enter Try.func12, Try.ntmps12
    go_wp2
    go_ret
    exact ⟨rfl, u0⟩
  have b1' : decide ((6 : Int) < (l1.length : Int)) = false := decide_eq_false (by omega)
  by_cases b2 : 4096 < l2.length
  · have hc : chk (R1 l1) (R2 l2) = 4 := by unfold chk; rw [R2_len, if_pos (Or.inr b2)]
    rw [hc]
    have b2' : decide ((4096 : Int) < (l2.length : Int)) = true := decide_eq_true (by omega)
    go_enter Try.func12, Try.ntmps12
    go_wp2
    go_ret
    exact ⟨rfl, u0⟩
  have b2' : decide ((4096 : Int) < (l2.length : Int)) = false := decide_eq_false (by omega)
  have hc0 : chk (R1 l1) (R2 l2) = if (List.range l1.length).any (snapBad (R1 l1)) then 4 else if (List.range l2.length).any (refBad (R2 l2)) then 4 else 0 := by
    unfold chk; rw [R1_len, R2_len, if_neg (by omega)]
  rw [hc0]
  clear hc0
  obtain ⟨R, hR⟩ : ∃ R : Int, R = if (List.range l1.length).any (snapBad (R1 l1)) then 4 else if (List.range l2.length).any (refBad (R2 l2)) then 4 else 0 := ⟨_, rfl⟩
  rw [← hR]
  have HR := Lib.hid hR
  clear hR
  generalize l1.length = n1 at *
  generalize l2.length = n2 at *
  have HR1 := Lib.hid hr1
  have HR2 := Lib.hid hr2
  clear hr1 hr2
  obtain ⟨W0, hW0⟩ : ∃ W0, W0 = w.alloc (.cells #[.int .u64 a0, .slice A1 n1 c1, .slice A2 n2 c2] 37) := ⟨_, rfl⟩
  rw [← hW0] at u0
  have HB : Hid (W0.heap[w.heap.size]? = some (.cells #[.int .u64 a0, .slice A1 n1 c1, .slice A2 n2 c2] 37 (0, 0))) := by rw [hW0]; exact hb
  have U0 := Lib.hid u0
  clear u0 hb
  go_enter Try.func12, Try.ntmps12
  go_wp2
  go_loopg [3] n1 (fun g v3 wr => ∃ i : Nat, v3 = .int .i64 i ∧ i + g = n1 ∧ Hid (Upd (fun _ => False) W0 wr) ∧ Hid (∀ j, j < i → snapBad (R1 l1) j = false))
  case atStart => exact ⟨0, rfl, by omega, by rw [← hW0]; exact Lib.hid (Upd.refl _ _), Lib.hid (fun j h => absurd h (by omega))⟩
  case round =>
    clear d1 d2 hW0
    obtain ⟨i, rfl, hig, HU, HP⟩ := hrel
    cases gk with
    | zero =>
      obtain rfl : i = n1 := by omega
      have d1 : wr.cell? ⟨w.heap.size, 1, none⟩ = some (.slice A1 i c1) := HU.out.cell (cell_heap HB.out 1 _ rfl) (fun f => f)
      have HA := Lib.hid (any_none HP.out)
      clear HR1 HP
      go_wp2
      go_loopg [4] n2 (fun g v4 wr2 => ∃ i : Nat, v4 = .int .i64 i ∧ i + g = n2 ∧ Hid (Upd (fun _ => False) W0 wr2) ∧ Hid (∀ j, j < i → refBad (R2 l2) j = false))
      case atStart => exact ⟨0, rfl, by omega, HU, Lib.hid (fun j h => absurd h (by omega))⟩
      case round =>
        clear d1 HU
        obtain ⟨i, rfl, hig, HU, HP⟩ := hrel
        cases gk with
        | zero =>
          obtain rfl : i = n2 := by omega
          have d2 : wr.cell? ⟨w.heap.size, 2, none⟩ = some (.slice A2 i c2) := HU.out.cell (cell_heap HB.out 2 _ rfl) (fun f => f)
          go_wp2
          go_ret
          exact ⟨by rw [HR.out, if_neg (by rw [HA.out]; simp), if_neg (by rw [any_none HP.out]; simp)]; rfl, U0.out.trans HU.out (fun _ _ f => f)⟩
        | succ g =>
          have hi : i < n2 := by omega
          have hlt : decide ((i : Int) < (n2 : Int)) = true := decide_eq_true (by omega)
          have hltp : (i : Int) < (n2 : Int) := by omega
          have h0i : (0 : Int) ≤ (i : Int) := by omega
          have hH := HR2.out
          obtain ⟨ad, rfl, y0, y1⟩ := at_T69 hH (i : Int) h0i hltp
          have HUw := Lib.hid (U0.out.trans HU.out (fun _ _ f => f))
          replace y0 := HUw.out.cell y0 (fun f => f)
          replace y1 := HUw.out.cell y1 (fun f => f)
          obtain ⟨x, hx⟩ : ∃ x, rd_T69 l2 (i : Int) = x := ⟨_, rfl⟩
          rw [hx] at y0 y1
          simp only [Int.toNat_natCast] at y0 y1
          have hbad : refBad (R2 l2) i = (!smallB x.f0 || (!smallB x.f1 || (decide (0 < i) && !decide ((rd_T69 l2 ((i - 1 : Nat) : Int)).f0 < x.f0)))) := by
            unfold refBad; rw [R2_get, R2_get, hx]
          have HBAD := Lib.hid hbad
          have HX := Lib.hid hx
          clear hbad hx hH
          have d2 : wr.cell? ⟨w.heap.size, 2, none⟩ = some (.slice (some ad) n2 c2) := HU.out.cell (cell_heap HB.out 2 _ rfl) (fun f => f)
          have HU5 := HU
          go_wp2
          cases hnb : smallB x.f0 with
          | false =>
            have HN := Lib.hid (rsmall_is x.f0 false hnb)
            go_quiet ((first | (go_at_call 31; exact quiet_d HN.out) | (go_at_call 31; exact quiet_d HM.out) | (go_at_call 31; exact quiet_d HN.out)))
            go_wp2
            go_ret
            exact ⟨by rw [HR.out, if_neg (by rw [HA.out]; simp), if_pos (any_of_bad hi (by rw [HBAD.out, hnb]; rfl))]; rfl, (U0.out.trans HU5.out (fun _ _ f => f)).drewN _⟩
          | true =>
            have HN := Lib.hid (rsmall_is x.f0 true hnb)
            cases hsb : smallB x.f1 with
            | false =>
              have HM := Lib.hid (rsmall_is x.f1 false hsb)
              go_quiet ((first | (go_at_call 31; exact quiet_d HN.out) | (go_at_call 31; exact quiet_d HM.out) | (go_at_call 31; exact quiet_d HN.out)))
              go_wp2
              go_ret
              exact ⟨by rw [HR.out, if_neg (by rw [HA.out]; simp), if_pos (any_of_bad hi (by rw [HBAD.out, hnb, hsb]; rfl))]; rfl, (U0.out.trans HU5.out (fun _ _ f => f)).drewN _⟩
            | true =>
              have HM := Lib.hid (rsmall_is x.f1 true hsb)
              by_cases hz : i = 0
              · have hz0 : decide ((0 : Int) < (i : Int)) = false := decide_eq_false (by omega)
                have hz1 : decide (0 < i) = false := decide_eq_false (by omega)
                have HZ := Lib.hid hz
                clear hz
                go_quiet ((first | (go_at_call 31; exact quiet_d HN.out) | (go_at_call 31; exact quiet_d HM.out) | (go_at_call 31; exact quiet_d HN.out)))
                go_wp2
                go_roundg g
                case measure => omega
                case rel => exact ⟨i + 1, by go_num, by omega, Lib.hid (HU5.out.drewN _), Lib.hid (below_next HP.out (by rw [HBAD.out, hnb, hsb, HZ.out]; rfl))⟩
              · have hz0 : decide ((0 : Int) < (i : Int)) = true := decide_eq_true (by omega)
                have hz1 : decide (0 < i) = true := decide_eq_true (by omega)
                have hw1 : IntKind.i64.wrap ((i : Int) - 1) = ((i - 1 : Nat) : Int) := by rw [IntWalk.i64_in _ (by omega)]; omega
                have hj0 : (0 : Int) ≤ ((i - 1 : Nat) : Int) := by omega
                have hj1 : ((i - 1 : Nat) : Int) < (n2 : Int) := by omega
                obtain ⟨ad2, hadr, y0, _⟩ := at_T69 HR2.out ((i - 1 : Nat) : Int) hj0 hj1
                obtain rfl : ad = ad2 := Option.some.inj hadr
                have z3 := HU5.out.cell (U0.out.cell y0 (fun f => f)) (fun f => f)
                rw [Int.toNat_natCast] at z3
                clear y0 hadr
                obtain ⟨y, hy⟩ : ∃ y, rd_T69 l2 ((i - 1 : Nat) : Int) = y := ⟨_, rfl⟩
                have HBAD2 := HBAD.out
                rw [hnb, hsb, hy] at HBAD2
                rw [hy] at z3
                have HBB := Lib.hid HBAD2
                clear hy HBAD2
                generalize i - 1 = m at hw1 hj0 hj1 z3
                cases hl : decide (y.f0 < x.f0) with
                | false =>
                  have hl2 : decide (x.f0 ≤ y.f0) = true := decide_eq_true (by have := of_decide_eq_false hl; omega)
                  go_quiet ((first | (go_at_call 31; exact quiet_d HN.out) | (go_at_call 31; exact quiet_d HM.out) | (go_at_call 31; exact quiet_d HN.out)))
                  go_wp2
                  go_ret
                  exact ⟨by rw [HR.out, if_neg (by rw [HA.out]; simp), if_pos (any_of_bad hi (by rw [HBB.out, hl]; simp; omega))]; rfl, (U0.out.trans HU5.out (fun _ _ f => f)).drewN _⟩
                | true =>
                  have hl2 : decide (x.f0 ≤ y.f0) = false := decide_eq_false (by have := of_decide_eq_true hl; omega)
                  go_quiet ((first | (go_at_call 31; exact quiet_d HN.out) | (go_at_call 31; exact quiet_d HM.out) | (go_at_call 31; exact quiet_d HN.out)))
                  go_wp2
                  go_roundg g
                  case measure => omega
                  case rel => exact ⟨i + 1, by go_num, by omega, Lib.hid (HU5.out.drewN _), Lib.hid (below_next HP.out (by rw [HBB.out, hl]; simp))⟩

    | succ g =>
      have hi : i < n1 := by omega
      have hlt : decide ((i : Int) < (n1 : Int)) = true := decide_eq_true (by omega)
      have hltp : (i : Int) < (n1 : Int) := by omega
      have h0i : (0 : Int) ≤ (i : Int) := by omega
      have hH := HR1.out
      obtain ⟨ad, rfl, y0, y1, y2, y3⟩ := at_T68 hH (i : Int) h0i hltp
      have HUw := Lib.hid (U0.out.trans HU.out (fun _ _ f => f))
      replace y0 := HUw.out.cell y0 (fun f => f)
      replace y1 := HUw.out.cell y1 (fun f => f)
      replace y2 := HUw.out.cell y2 (fun f => f)
      replace y3 := HUw.out.cell y3 (fun f => f)
      obtain ⟨x, hx⟩ : ∃ x, rd_T68 l1 (i : Int) = x := ⟨_, rfl⟩
      rw [hx] at y0 y1 y2 y3
      simp only [Int.toNat_natCast] at y0 y1 y2 y3
      have hbad : snapBad (R1 l1) i = (!nameB x.f0 || (!smallB x.f1 || (decide (0 < i) && !lessB (rd_T68 l1 ((i - 1 : Nat) : Int)).f0 x.f0))) := by
        unfold snapBad; rw [R1_get, R1_get, hx]
      have HBAD := Lib.hid hbad
      have HX := Lib.hid hx
      clear hbad hx hH
      have d1 : wr.cell? ⟨w.heap.size, 1, none⟩ = some (.slice (some ad) n1 c1) := HU.out.cell (cell_heap HB.out 1 _ rfl) (fun f => f)
      have HU5 := HU
      go_wp2
      cases hnb : nameB x.f0 with
      | false =>
        have HN := Lib.hid (rname_is x.f0 false hnb)
        go_quiet ((first | (go_at_call 16; exact quiet_d HN.out) | (go_at_call 31; exact quiet_d HM.out) | (go_at_call 31; exact quiet_d HN.out)))
        go_wp2
        go_ret
        exact ⟨by rw [HR.out, if_pos (any_of_bad hi (by rw [HBAD.out, hnb]; rfl))]; rfl, (U0.out.trans HU5.out (fun _ _ f => f)).drewN _⟩
      | true =>
        have HN := Lib.hid (rname_is x.f0 true hnb)
        cases hsb : smallB x.f1 with
        | false =>
          have HM := Lib.hid (rsmall_is x.f1 false hsb)
          go_quiet ((first | (go_at_call 16; exact quiet_d HN.out) | (go_at_call 31; exact quiet_d HM.out) | (go_at_call 31; exact quiet_d HN.out)))
          go_wp2
          go_ret
          exact ⟨by rw [HR.out, if_pos (any_of_bad hi (by rw [HBAD.out, hnb, hsb]; rfl))]; rfl, (U0.out.trans HU5.out (fun _ _ f => f)).drewN _⟩
        | true =>
          have HM := Lib.hid (rsmall_is x.f1 true hsb)
          by_cases hz : i = 0
          · have hz0 : decide ((0 : Int) < (i : Int)) = false := decide_eq_false (by omega)
            have hz1 : decide (0 < i) = false := decide_eq_false (by omega)
            have HZ := Lib.hid hz
            clear hz
            go_quiet ((first | (go_at_call 16; exact quiet_d HN.out) | (go_at_call 31; exact quiet_d HM.out) | (go_at_call 31; exact quiet_d HN.out)))
            go_wp2
            go_roundg g
            case measure => omega
            case rel => exact ⟨i + 1, by go_num, by omega, Lib.hid (HU5.out.drewN _), Lib.hid (below_next HP.out (by rw [HBAD.out, hnb, hsb, HZ.out]; rfl))⟩
          · have hz0 : decide ((0 : Int) < (i : Int)) = true := decide_eq_true (by omega)
            have hz1 : decide (0 < i) = true := decide_eq_true (by omega)
            have hw1 : IntKind.i64.wrap ((i : Int) - 1) = ((i - 1 : Nat) : Int) := by rw [IntWalk.i64_in _ (by omega)]; omega
            have hj0 : (0 : Int) ≤ ((i - 1 : Nat) : Int) := by omega
            have hj1 : ((i - 1 : Nat) : Int) < (n1 : Int) := by omega
            obtain ⟨ad2, hadr, y0, _, _, _⟩ := at_T68 HR1.out ((i - 1 : Nat) : Int) hj0 hj1
            obtain rfl : ad = ad2 := Option.some.inj hadr
            have z3 := HU5.out.cell (U0.out.cell y0 (fun f => f)) (fun f => f)
            rw [Int.toNat_natCast] at z3
            clear y0 hadr
            obtain ⟨y, hy⟩ : ∃ y, rd_T68 l1 ((i - 1 : Nat) : Int) = y := ⟨_, rfl⟩
            have HBAD2 := HBAD.out
            rw [hnb, hsb, hy] at HBAD2
            rw [hy] at z3
            have HBB := Lib.hid HBAD2
            clear hy HBAD2
            generalize i - 1 = m at hw1 hj0 hj1 z3
            cases hl : lessB y.f0 x.f0 with
            | false =>
              have hl2 := leq_yes (show Op.bytesLess y.f0.toList x.f0.toList = false from hl)
              have HL := Lib.hid hl
              rcases hl2 with hl3 | ⟨hl3, hl4⟩
              · go_quiet ((first | (go_at_call 16; exact quiet_d HN.out) | (go_at_call 31; exact quiet_d HM.out) | (go_at_call 31; exact quiet_d HN.out)))
                go_wp2
                go_ret
                exact ⟨by rw [HR.out, if_pos (any_of_bad hi (by rw [HBB.out, hl]; simp; omega))]; rfl, (U0.out.trans HU5.out (fun _ _ f => f)).drewN _⟩
              · go_quiet ((first | (go_at_call 16; exact quiet_d HN.out) | (go_at_call 31; exact quiet_d HM.out) | (go_at_call 31; exact quiet_d HN.out)))
                go_wp2
                go_ret
                exact ⟨by rw [HR.out, if_pos (any_of_bad hi (by rw [HBB.out, hl]; simp; omega))]; rfl, (U0.out.trans HU5.out (fun _ _ f => f)).drewN _⟩
            | true =>
              obtain ⟨hl2, hl3⟩ := leq_no (show Op.bytesLess y.f0.toList x.f0.toList = true from hl)
              go_quiet ((first | (go_at_call 16; exact quiet_d HN.out) | (go_at_call 31; exact quiet_d HM.out) | (go_at_call 31; exact quiet_d HN.out)))
              go_wp2
              go_roundg g
              case measure => omega
              case rel => exact ⟨i + 1, by go_num, by omega, Lib.hid (HU5.out.drewN _), Lib.hid (below_next HP.out (by rw [HBB.out, hl]; simp))⟩

def rillbedref24_Check.f (a0 : Int) (l1 : List S68) (l2 : List S69) : Option Int := some (chk (R1 l1) (R2 l2))
theorem rillbedref24_Check.calls (a0_0 : Int) (A0_1 : Option Addr) (c0_1 : Nat) (l0_1 : List S68) (A0_2 : Option Addr) (c0_2 : Nat) (l0_2 : List S69) (r : Int) (w : World) (hr0_1 : Kd.C k68 w A0_1 l0_1.length l0_1) (hc0_1 : l0_1.length ≤ c0_1) (hr0_2 : Kd.C k69 w A0_2 l0_2.length l0_2) (hc0_2 : l0_2.length ≤ c0_2) (h : rillbedref24_Check.f a0_0 l0_1 l0_2 = some r) :
    Calls Try.prog 12 #[.agg #[.int .u64 a0_0, .slice A0_1 l0_1.length c0_1, .slice A0_2 l0_2.length c0_2]] w fun e w' => e = .returned (.int .i64 r) ∧ Below w.heap.size w w' := by
  obtain rfl := Option.some.inj h
  exact (ref_check_walk a0_0 A0_1 c0_1 l0_1 A0_2 c0_2 l0_2 w hr0_1 hr0_2).mono fun e w' ⟨he, hu⟩ => ⟨he, hu.below (Nat.le_refl _) (fun _ f => f.elim)⟩

end Go.Proofs.Ytlhjhkmmgkfmpaa.Px
