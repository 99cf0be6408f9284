/- node.Check for the printer: which nodes may be. -/
import Derived.Test.YtnoimnijoklkdaaPx0
import Derived.Test.YtnoimnijoklkdaaPx7
import Derived.Test.YtnoimnijoklkdaaPxMay
set_option linter.unusedVariables false
set_option linter.unusedSimpArgs false
namespace Go.Proofs.Ytnoimnijoklkdaa.Px
open Go.RowKit Go.Proofs.YtnoimnijoklkdaaW.PrintWords Go.Proofs.YtnoimnijoklkdaaW.PrintLast Go.Proofs.YtnoimnijoklkdaaW.PrintMore
attribute [local go_sem] max2_int min2_int max_two min_two max_three min_three max_four min_four

def lessB (a b : ByteArray) : Bool := Op.bytesLess a.toList b.toList
def msgBad (m : S59) : Bool := !mayB m.f0 m.f1 m.f2 m.f3
def entBad (l : List S75) (i : Nat) : Bool :=
  decide ((rd_T75 l (i : Int)).f0.size = 0) || (decide (108 < (rd_T75 l (i : Int)).f0.size) || (decide (64 < (rd_T75 l (i : Int)).f1.size) || (decide (0 < i) && !lessB (rd_T75 l ((i - 1 : Nat) : Int)).f0 (rd_T75 l (i : Int)).f0)))
def rdS (l : List ByteArray) (i : Nat) : ByteArray := rdOf ByteArray.empty l (i : Int)
def pivBad (l : List ByteArray) (i : Nat) : Bool := decide ((rdS l i).size = 0) || (decide (108 < (rdS l i).size) || (decide (0 < i) && !lessB (rdS l (i - 1)) (rdS l i)))
def runE (l : List S75) : Int := if (List.range l.length).any (entBad l) then 4 else 0
def chkN (leaf : Bool) (es : List S75) (ps : List ByteArray) (ks : List Int) (bs : List S59) : Int :=
  if leaf = true then (if 0 < ps.length + ks.length + bs.length then 4 else runE es)
  else if 0 < es.length ∨ ks.length < 1 ∨ 8 < ks.length ∨ ps.length + 1 ≠ ks.length ∨ ks.any (fun k => decide (k < 1)) = true then 4
  else if (List.range ps.length).any (pivBad ps) then 4
  else if bs.any msgBad then 4 else 0

theorem any_of_bad {n i : Nat} {p : Nat → Bool} (hi : i < n) (h : p i = true) : (List.range n).any p = true := List.any_eq_true.2 ⟨i, List.mem_range.2 hi, h⟩
theorem any_none {n : Nat} {p : Nat → Bool} (h : ∀ i, i < n → p i = false) : (List.range n).any p = false := by
  rw [List.any_eq_false]; intro i hi; rw [h i (List.mem_range.1 hi)]; simp
theorem below_next {i : Nat} {p : Nat → Bool} (h : ∀ j, j < i → p j = false) (hi : p i = false) : ∀ j, j < i + 1 → p j = false := fun j hj => by
  rcases Nat.lt_or_ge j i with h1 | h1
  · exact h j h1
  · rw [show j = i by omega]; exact hi
theorem any_rd {α : Type} (l : List α) (p : α → Bool) (rd : Nat → α) (h : ∀ i (hi : i < l.length), rd i = l[i]) : l.any p = (List.range l.length).any (fun i => p (rd i)) := by
  rw [Bool.eq_iff_iff, List.any_eq_true, List.any_eq_true]
  constructor
  · rintro ⟨x, hx, hp⟩
    obtain ⟨i, hi, rfl⟩ := List.getElem_of_mem hx
    exact ⟨i, List.mem_range.2 hi, by rw [h i hi]; exact hp⟩
  · rintro ⟨i, hi, hp⟩
    have hi := List.mem_range.1 hi
    exact ⟨l[i], List.getElem_mem hi, by rw [← h i hi]; exact hp⟩
theorem rd59_get (l : List S59) (i : Nat) (hi : i < l.length) : rd_T59 l (i : Int) = l[i] := by
  unfold rd_T59; rw [Int.toNat_natCast, List.getD_eq_getElem?_getD, List.getElem?_eq_getElem hi]; rfl
theorem rdI_get (l : List Int) (i : Nat) (hi : i < l.length) : rd l (i : Int) = l[i] := by
  unfold rd; rw [Int.toNat_natCast, List.getD_eq_getElem?_getD, List.getElem?_eq_getElem hi]; rfl
theorem upd_C {α : Type} {d : Kd α} {w w' : World} {A : Option Addr} {n : Nat} {xs : List α} (h : d.C w A n xs) (hu : Upd (fun _ => False) w w') : d.C w' A n xs :=
  Kd.C_below h (hu.below (Nat.le_refl _) (fun _ f => f.elim))

/-! run.Check -/
theorem run_loop (l : List S75) (hl : l.length < 1000000) : ∀ (g k i : Nat), i + g = l.length → g < k → (∀ j, j < i → entBad l j = false) → run_Check.l0 k l l (l.length : Int) (i : Int) = some (runE l) := by
  intro g
  induction g with
  | zero =>
    intro k i hi hk hp
    obtain ⟨k, rfl⟩ : ∃ m, k = m + 1 := ⟨k - 1, by omega⟩
    rw [run_Check.l0, if_neg (by omega)]
    unfold runE
    rw [any_none (fun j hj => hp j (by omega))]
    rfl
  | succ g ih =>
    intro k i hi hk hp
    obtain ⟨k, rfl⟩ : ∃ m, k = m + 1 := ⟨k - 1, by omega⟩
    have bad : entBad l i = true → some (4 : Int) = some (runE l) := fun h => by
      unfold runE
      rw [any_of_bad (show i < l.length by omega) h]
      rfl
    have hz : (rd_T75 l (i : Int)).f0.toList = ([] : List UInt8) ↔ (rd_T75 l (i : Int)).f0.size = 0 := by rw [Lib.toList_data, Lib.size_eq]; exact List.length_eq_zero_iff.symm
    rw [run_Check.l0, if_pos (by omega), if_pos (by omega), if_pos (by omega)]
    by_cases h1 : (rd_T75 l (i : Int)).f0.size = 0
    · rw [if_pos (hz.2 h1)]
      exact bad (by unfold entBad; simp [h1])
    rw [if_neg (fun e => h1 (hz.1 e))]
    by_cases h2 : 108 < (rd_T75 l (i : Int)).f0.size
    · rw [if_pos (by omega)]
      exact bad (by unfold entBad; simp [h2])
    rw [if_neg (by omega)]
    by_cases h3 : 64 < (rd_T75 l (i : Int)).f1.size
    · rw [if_pos (by omega)]
      exact bad (by unfold entBad; simp [h3])
    rw [if_neg (by omega), wrap64_small i (by omega)]
    by_cases h4 : 0 < i
    · have hw : wrap64 ((i : Int) - 1) = ((i - 1 : Nat) : Int) := by unfold wrap64; omega
      rw [if_pos (by omega), hw, if_pos (by omega), if_pos (by omega)]
      cases h5 : lessB (rd_T75 l ((i - 1 : Nat) : Int)).f0 (rd_T75 l (i : Int)).f0 with
      | true =>
        rw [if_pos (by exact h5)]
        exact ih k (i + 1) (by omega) (by omega) (below_next hp (by unfold entBad; rw [h5]; simp [h1]; omega))
      | false =>
        rw [if_neg (by intro h; rw [show lessB _ _ = true from h] at h5; cases h5)]
        exact bad (by unfold entBad; rw [h5]; simp [h4])
    · rw [if_neg (by omega)]
      exact ih k (i + 1) (by omega) (by omega) (below_next hp (by unfold entBad; simp [h1, h4]; omega))
theorem run_eq (l : List S75) (hl : l.length < 1000000) : run_Check.f (l.length + 1) l = some (runE l) := by
  unfold run_Check.f
  exact run_loop l hl l.length _ 0 (by omega) (by omega) (fun j hj => absurd hj (by omega))

/-! message.Check and the closures -/
set_option maxRecDepth 100000 in
theorem message_check (a : Int) (x y z : ByteArray) (w : World) (hv : z.size ≤ 1000000000) :
    Calls Try.prog 49 #[.agg #[.int .i64 a, .string x, .string y, .string z]] w fun e w' => e = .returned (.int .i64 (if mayB a x y z = true then 0 else 4)) ∧ Upd (fun _ => False) w w' := by
  have hum := Try.underlying59
  have hM := fun w => may_walk a x y z w hv
  have u0 := (Upd.refl (fun _ => False) w).alloc (.cells #[.int .i64 a, .string x, .string y, .string z] 59)
  cases hb : mayB a x y z <;> rw [hb] at hM
  · have HM := Lib.hid hM
    clear hM hv
    go_enter Try.func49, Try.ntmps49
    go_wp2_with (fail)
    refine (HM.out _).mono ?_
    rintro e w1 ⟨rfl, u1⟩
    go_wp2
    go_ret
    exact ⟨rfl, u0.trans u1 (fun _ _ f => f)⟩
  · have HM := Lib.hid hM
    clear hM hv
    go_enter Try.func49, Try.ntmps49
    go_wp2_with (fail)
    refine (HM.out _).mono ?_
    rintro e w1 ⟨rfl, u1⟩
    go_wp2
    go_ret
    exact ⟨rfl, u0.trans u1 (fun _ _ f => f)⟩
set_option maxRecDepth 100000 in
theorem msg_check (a : Int) (x y z : ByteArray) (w : World) (hv : z.size ≤ 1000000000) :
    Calls Try.prog 48 #[.agg #[.int .i64 a, .string x, .string y, .string z]] w fun e w' => e = .returned (.bool (!mayB a x y z)) ∧ Upd (fun _ => False) w w' := by
  have hum := Try.underlying59
  have hM := fun w => message_check a x y z w hv
  have u0 := (Upd.refl (fun _ => False) w).alloc (.cells #[.int .i64 a, .string x, .string y, .string z] 59)
  cases hb : mayB a x y z <;> rw [hb] at hM
  · have HM := Lib.hid hM
    clear hM hv
    go_enter Try.func48, Try.ntmps48
    go_wp2_with (fail)
    refine (HM.out _).mono ?_
    rintro e w1 ⟨rfl, u1⟩
    go_wp2
    go_ret
    exact ⟨rfl, u0.trans u1 (fun _ _ f => f)⟩
  · have HM := Lib.hid hM
    clear hM hv
    go_enter Try.func48, Try.ntmps48
    go_wp2_with (fail)
    refine (HM.out _).mono ?_
    rintro e w1 ⟨rfl, u1⟩
    go_wp2
    go_ret
    exact ⟨rfl, u0.trans u1 (fun _ _ f => f)⟩

set_option maxHeartbeats 4000000 in
set_option maxRecDepth 100000 in
theorem idx_msg (A : Option Addr) (c : Nat) (l : List S59) (w : World) (hr : Kd.C k59 w A l.length l) (hs : ∀ m ∈ l, m.f3.size ≤ 1000000000) (hl : l.length ≤ 1000000000) :
    Calls Try.prog 75 #[.slice A l.length c, .func (.func 48) #[] #[]] w fun e w' => (∃ r : Int, e = .returned (.int .i64 r) ∧ decide (0 ≤ r) = l.any msgBad) ∧ Upd (fun _ => False) w w' := by
  have hum := Try.underlying59
  rw [any_rd l msgBad (fun i => rd_T59 l (i : Int)) (fun i hi => rd59_get l i hi)]
  have hs2 : ∀ i, i < l.length → (rd_T59 l (i : Int)).f3.size ≤ 1000000000 := fun i hi => by rw [rd59_get l i hi]; exact hs _ (List.getElem_mem hi)
  generalize hn : l.length = n at *
  have HR := Lib.hid hr
  have HS := Lib.hid hs2
  clear hr hs hs2 hn
  go_enter Try.func75, Try.ntmps75
  go_wp2
  go_loopg [8] n (fun g v8 wr => ∃ i : Nat, v8 = .int .i64 i ∧ i + g = n ∧ Hid (Upd (fun _ => False) w wr) ∧ Hid (∀ j, j < i → msgBad (rd_T59 l (j : Int)) = false))
  case atStart => exact ⟨0, rfl, by omega, Lib.hid (Upd.refl _ _), Lib.hid (fun j h => absurd h (by omega))⟩
  case round =>
    obtain ⟨i, rfl, hig, HU, HP⟩ := hrel
    cases gk with
    | zero =>
      obtain rfl : i = n := by omega
      go_wp2
      go_ret
      exact ⟨⟨-1, rfl, by rw [any_none HP.out]; rfl⟩, HU.out⟩
    | succ g =>
      have hi : i < n := by omega
      have hlt : decide ((i : Int) < (n : Int)) = true := decide_eq_true (by omega)
      have hltp : (i : Int) < (n : Int) := by omega
      have h0i : (0 : Int) ≤ (i : Int) := by omega
      have hw : wrap64 ((i : Int) + 1) = ((i + 1 : Nat) : Int) := by unfold wrap64; omega
      have hw2 : IntKind.i64.wrap ((i : Int) + 1) = ((i + 1 : Nat) : Int) := by rw [IntWalk.i64_in _ (by omega)]; omega
      obtain ⟨ad, rfl, y0, y1, y2, y3⟩ := at_T59 (upd_C HR.out HU.out) (i : Int) h0i hltp
      have hv := HS.out i hi
      have hany : msgBad (rd_T59 l (i : Int)) = true → (List.range n).any (fun i => msgBad (rd_T59 l (i : Int))) = true := fun h => any_of_bad hi h
      obtain ⟨m, hm⟩ : ∃ m, rd_T59 l (i : Int) = m := ⟨_, rfl⟩
      rw [hm] at y0 y1 y2 y3 hv hany
      have HMRD := Lib.hid hm
      clear hm
      simp only [Int.toNat_natCast] at y0 y1 y2 y3
      have HM := Lib.hid (fun w => msg_check m.f0 m.f1 m.f2 m.f3 w hv)
      have HANY := Lib.hid hany
      clear hv hany
      go_wp2_with (fail)
      refine (HM.out _).mono ?_
      rintro e w1 ⟨rfl, u1⟩
      have HU1 := Lib.hid (HU.out.trans u1 (fun _ _ f => f))
      clear u1 HU
      have hmb : msgBad m = !mayB m.f0 m.f1 m.f2 m.f3 := rfl
      have HMB := Lib.hid hmb
      clear hmb
      cases hb : mayB m.f0 m.f1 m.f2 m.f3 with
      | false =>
        have HB := Lib.hid hb
        clear hb
        go_wp2
        go_ret
        exact ⟨⟨i, rfl, by rw [HANY.out (by rw [HMB.out, HB.out]; rfl)]; simp⟩, HU1.out⟩
      | true =>
        have HB := Lib.hid hb
        clear hb
        go_wp2
        go_roundg g
        case measure => omega
        case rel => exact ⟨i + 1, by go_num, by omega, HU1, Lib.hid (below_next HP.out (by rw [HMRD.out, HMB.out, HB.out]; rfl))⟩

set_option maxRecDepth 100000 in
theorem contains_msg (A : Option Addr) (c : Nat) (l : List S59) (w : World) (hr : Kd.C k59 w A l.length l) (hs : ∀ m ∈ l, m.f3.size ≤ 1000000000) (hl : l.length ≤ 1000000000) :
    Calls Try.prog 47 #[.slice A l.length c, .func (.func 48) #[] #[]] w fun e w' => e = .returned (.bool (l.any msgBad)) ∧ Upd (fun _ => False) w w' := by
  have HI := Lib.hid (fun w hr => idx_msg A c l w hr hs hl)
  have HR := Lib.hid hr
  clear hr hs hl
  generalize l.any msgBad = b at *
  generalize l.length = n at *
  go_enter Try.func47, Try.ntmps47
  go_wp2_with (fail)
  refine (HI.out _ HR.out).mono ?_
  rintro e w1 ⟨⟨r, rfl, hr⟩, u1⟩
  cases b with
  | false =>
    go_wp2
    go_ret
    exact ⟨rfl, u1⟩
  | true =>
    go_wp2
    go_ret
    exact ⟨rfl, u1⟩

/-! slices.ContainsFunc over whole numbers -/
def farB (k : Int) : Bool := decide (65535 < k)
set_option maxRecDepth 100000 in
theorem far_check (k : Int) (w : World) : Calls Try.prog 69 #[.int .i64 k] w fun e w' => e = .returned (.bool (farB k)) ∧ Upd (fun _ => False) w w' := by
  unfold farB
  cases hb : decide (65535 < k)
  · go_enter Try.func69, Try.ntmps69
    go_wp2
    go_ret
    exact ⟨rfl, Upd.refl _ _⟩
  · go_enter Try.func69, Try.ntmps69
    go_wp2
    go_ret
    exact ⟨rfl, Upd.refl _ _⟩
set_option maxHeartbeats 4000000 in
set_option maxRecDepth 100000 in
theorem idx_int (A : Option Addr) (c : Nat) (l : List Int) (w : World) (hr : Kd.C (Kd.int .i64) w A l.length l) (hl : l.length ≤ 1000000000) :
    Calls Try.prog 90 #[.slice A l.length c, .func (.func 69) #[] #[]] w fun e w' => (∃ r : Int, e = .returned (.int .i64 r) ∧ decide (0 ≤ r) = l.any farB) ∧ Upd (fun _ => False) w w' := by
  rw [any_rd l farB (fun i => rd l (i : Int)) (fun i hi => rdI_get l i hi)]
  generalize hn : l.length = n at *
  have HR := Lib.hid hr
  clear hr hn
  go_enter Try.func90, Try.ntmps90
  go_wp2
  go_loopg [8] n (fun g v8 wr => ∃ i : Nat, v8 = .int .i64 i ∧ i + g = n ∧ Hid (Upd (fun _ => False) w wr) ∧ Hid (∀ j, j < i → farB (rd l (j : Int)) = false))
  case atStart => exact ⟨0, rfl, by omega, Lib.hid (Upd.refl _ _), Lib.hid (fun j h => absurd h (by omega))⟩
  case round =>
    obtain ⟨i, rfl, hig, HU, HP⟩ := hrel
    cases gk with
    | zero =>
      obtain rfl : i = n := by omega
      go_wp2
      go_ret
      exact ⟨⟨-1, rfl, by rw [any_none HP.out]; rfl⟩, HU.out⟩
    | succ g =>
      have hi : i < n := by omega
      have hlt : decide ((i : Int) < (n : Int)) = true := decide_eq_true (by omega)
      have hltp : (i : Int) < (n : Int) := by omega
      have h0i : (0 : Int) ≤ (i : Int) := by omega
      obtain ⟨ad, rfl, y0⟩ := Kd.at_int (upd_C HR.out HU.out) (i : Int) h0i hltp
      have HANY := Lib.hid (fun (h : farB (rd l (i : Int)) = true) => (any_of_bad hi h : (List.range n).any (fun i => farB (rd l (i : Int))) = true))
      obtain ⟨m, hm⟩ : ∃ m, rd l (i : Int) = m := ⟨_, rfl⟩
      rw [hm] at y0 HANY
      have HMRD := Lib.hid hm
      clear hm
      simp only [Int.toNat_natCast] at y0
      have HM := Lib.hid (fun w => far_check m w)
      go_wp2_with (fail)
      refine (HM.out _).mono ?_
      rintro e w1 ⟨rfl, u1⟩
      have HU1 := Lib.hid (HU.out.trans u1 (fun _ _ f => f))
      clear u1 HU
      cases hb : farB m with
      | true =>
        have HB := Lib.hid hb
        clear hb
        go_wp2
        go_ret
        exact ⟨⟨i, rfl, by rw [HANY.out HB.out]; simp⟩, HU1.out⟩
      | false =>
        have HB := Lib.hid hb
        clear hb
        go_wp2
        go_roundg g
        case measure => omega
        case rel => exact ⟨i + 1, by go_num, by omega, HU1, Lib.hid (below_next HP.out (by rw [HMRD.out, HB.out]))⟩
set_option maxRecDepth 100000 in
theorem contains_int (A : Option Addr) (c : Nat) (l : List Int) (w : World) (hr : Kd.C (Kd.int .i64) w A l.length l) (hl : l.length ≤ 1000000000) :
    Calls Try.prog 68 #[.slice A l.length c, .func (.func 69) #[] #[]] w fun e w' => e = .returned (.bool (l.any farB)) ∧ Upd (fun _ => False) w w' := by
  have HI := Lib.hid (fun w hr => idx_int A c l w hr hl)
  have HR := Lib.hid hr
  clear hr hl
  generalize l.any farB = b at *
  generalize l.length = n at *
  go_enter Try.func68, Try.ntmps68
  go_wp2_with (fail)
  refine (HI.out _ HR.out).mono ?_
  rintro e w1 ⟨⟨r, rfl, hr⟩, u1⟩
  cases b with
  | false =>
    go_wp2
    go_ret
    exact ⟨rfl, u1⟩
  | true =>
    go_wp2
    go_ret
    exact ⟨rfl, u1⟩

/-! slices.Min -/
set_option maxHeartbeats 4000000 in
set_option maxRecDepth 100000 in
theorem min_walk (A : Option Addr) (c : Nat) (l : List Int) (w : World) (hr : Kd.C (Kd.int .i64) w A l.length l) (h1 : 1 ≤ l.length) (hl : l.length ≤ 8) :
    Calls Try.prog 46 #[.slice A l.length c] w fun e w' => (∃ r : Int, e = .returned (.int .i64 r) ∧ decide (r < 1) = l.any (fun k => decide (k < 1))) ∧ Upd (fun _ => False) w w' := by
  rw [any_rd l (fun k => decide (k < 1)) (fun i => rd l (i : Int)) (fun i hi => rdI_get l i hi)]
  generalize hn : l.length = n at *
  have HR := Lib.hid hr
  have h1i : decide ((n : Int) < 1) = false := decide_eq_false (by omega)
  have h1n : decide (n < 1) = false := decide_eq_false (by omega)
  have h0n : (0 : Int) < (n : Int) := by omega
  obtain ⟨ad, hA, y0⟩ := Kd.at_int hr 0 (by omega) (by omega)
  subst hA
  obtain ⟨m0, hm0⟩ : ∃ m, rd l 0 = m := ⟨_, rfl⟩
  rw [hm0] at y0
  have hz : ad.add 0 = ad := by
    obtain ⟨b, o, f⟩ := ad
    unfold Addr.add
    split <;> simp_all
  have y00 : w.cell? ad = some (.int .i64 m0) := by
    rw [Int.toNat_zero, hz] at y0
    exact y0
  clear y0
  have HM0 := Lib.hid hm0
  clear hr hn hm0
  go_enter Try.func46, Try.ntmps46
  go_wp2
  go_loopg [3, 4] (n - 1) (fun g v3 v4 wr => ∃ (i : Nat) (m : Int), v3 = .int .i64 m ∧ v4 = .int .i64 i ∧ i + g = n ∧ 1 ≤ i ∧ Hid (Upd (fun _ => False) w wr) ∧ Hid (decide (m < 1) = (List.range i).any fun i => decide (rd l (i : Int) < 1)))
  case atStart => exact ⟨1, m0, rfl, rfl, by omega, by omega, Lib.hid (Upd.refl _ _), Lib.hid (by rw [← HM0.out]; simp [List.range_succ])⟩
  case round =>
    clear y00
    obtain ⟨i, m, rfl, rfl, hig, hi1, HU, HP⟩ := hrel
    cases gk with
    | zero =>
      obtain rfl : i = n := by omega
      have hlt : decide ((i : Int) < (i : Int)) = false := decide_eq_false (by omega)
      go_wp2
      go_ret
      exact ⟨⟨m, rfl, HP.out⟩, HU.out⟩
    | succ g =>
      have hi : i < n := by omega
      have hlt : decide ((i : Int) < (n : Int)) = true := decide_eq_true (by omega)
      have hltp : (i : Int) < (n : Int) := by omega
      have h0i : (0 : Int) ≤ (i : Int) := by omega
      obtain ⟨ad2, hA2, y0⟩ := Kd.at_int (upd_C HR.out HU.out) (i : Int) h0i hltp
      obtain rfl := Option.some.inj hA2
      obtain ⟨x, hx⟩ : ∃ x, rd l (i : Int) = x := ⟨_, rfl⟩
      rw [hx] at y0
      have HX := Lib.hid hx
      clear hx hA2
      simp only [Int.toNat_natCast] at y0
      go_wp2
      · rename_i h
        go_roundg g
        case measure => omega
        case rel => exact ⟨i + 1, x, rfl, by go_num, by omega, by omega, HU, Lib.hid (by
            rw [List.range_succ, List.any_append, ← HP.out]
            simp only [List.any_cons, List.any_nil, Bool.or_false]
            rw [HX.out, Bool.eq_iff_iff]; simp; omega)⟩
      · rename_i h
        go_roundg g
        case measure => omega
        case rel => exact ⟨i + 1, m, rfl, by go_num, by omega, by omega, HU, Lib.hid (by
            rw [List.range_succ, List.any_append, ← HP.out]
            simp only [List.any_cons, List.any_nil, Bool.or_false]
            rw [HX.out, Bool.eq_iff_iff]; simp; omega)⟩

set_option maxHeartbeats 8000000 in
set_option maxRecDepth 100000 in
theorem check_walk (lf : Bool) (A1 : Option Addr) (c1 : Nat) (l1 : List S75) (A2 : Option Addr) (c2 : Nat) (l2 : List ByteArray) (A3 : Option Addr) (c3 : Nat) (l3 : List Int) (A4 : Option Addr) (c4 : Nat) (l4 : List S59) (w : World)
    (hr1 : Kd.C k75 w A1 l1.length l1) (hc1 : l1.length ≤ c1) (hr2 : Kd.C Kd.string w A2 l2.length l2) (hr3 : Kd.C (Kd.int .i64) w A3 l3.length l3) (hr4 : Kd.C k59 w A4 l4.length l4)
    (hs : ∀ m ∈ l4, m.f3.size ≤ 60000) (hn1 : l1.length < 1000000) (hn2 : l2.length < 1000000) (hn3 : l3.length < 1000000) (hn4 : l4.length < 1000000) :
    Calls Try.prog 22 #[.agg #[.bool lf, .slice A1 l1.length c1, .slice A2 l2.length c2, .slice A3 l3.length c3, .slice A4 l4.length c4]] w (fun e w' => e = .returned (.int .i64 (chkN lf l1 l2 l3 l4)) ∧ Upd (fun _ => False) w w') := by
  have hun := Try.underlying28
  have hb := heap_alloc_new w (.cells #[.bool lf, .slice A1 l1.length c1, .slice A2 l2.length c2, .slice A3 l3.length c3, .slice A4 l4.length c4] 28)
  have u0 := (Upd.refl (fun _ => False) w).alloc (.cells #[.bool lf, .slice A1 l1.length c1, .slice A2 l2.length c2, .slice A3 l3.length c3, .slice A4 l4.length c4] 28)
  have d0 := cell_heap hb 0 (.bool lf) rfl
  have d1 := cell_heap hb 1 (.slice A1 l1.length c1) rfl
  have d2 := cell_heap hb 2 (.slice A2 l2.length c2) rfl
  have d3 := cell_heap hb 3 (.slice A3 l3.length c3) rfl
  have d4 := cell_heap hb 4 (.slice A4 l4.length c4) rfl
  have HRun := Lib.hid (fun w h => run_Check.calls (l1.length + 1) A1 c1 l1 _ w h hc1 (run_eq l1 hn1))
  have HCon := Lib.hid (fun w h => contains_msg A4 c4 l4 w h (fun m hm => by have := hs m hm; omega) (by omega))
  have HMin := Lib.hid (fun w h h1 h2 => min_walk A3 c3 l3 w h h1 h2)
  obtain ⟨R, hR⟩ : ∃ R : Int, R = chkN lf l1 l2 l3 l4 := ⟨_, rfl⟩
  rw [← hR]
  unfold chkN at hR
  have HR := Lib.hid hR
  have HR1 := Lib.hid (upd_C hr1 u0)
  have HR2 := Lib.hid (upd_C hr2 u0)
  have HR3 := Lib.hid (upd_C hr3 u0)
  have HR4 := Lib.hid (upd_C hr4 u0)
  have U0 := Lib.hid u0
  clear hR hr1 hr2 hr3 hr4 hs
  cases lf with
  | true =>
    replace HR := Lib.hid (HR.out.trans (if_pos rfl))
    have hw1 : wrap64 ((l2.length : Int) + (l3.length : Int)) = ((l2.length + l3.length : Nat) : Int) := by unfold wrap64; omega
    have hw2 : wrap64 (((l2.length + l3.length : Nat) : Int) + (l4.length : Int)) = ((l2.length + l3.length + l4.length : Nat) : Int) := by unfold wrap64; omega
    by_cases hp : 0 < l2.length + l3.length + l4.length
    · replace HR := Lib.hid (HR.out.trans (if_pos hp))
      have hd : decide ((0 : Int) < ((l2.length + l3.length + l4.length : Nat) : Int)) = true := decide_eq_true (by omega)
      go_enter Try.func22, Try.ntmps22
      go_wp2
      go_ret
      exact ⟨by rw [HR.out]; rfl, U0.out⟩
    · replace HR := Lib.hid (HR.out.trans (if_neg hp))
      have hd : decide ((0 : Int) < ((l2.length + l3.length + l4.length : Nat) : Int)) = false := decide_eq_false (by omega)
      go_enter Try.func22, Try.ntmps22
      go_wp2_with (fail)
      refine (HRun.out _ HR1.out).mono ?_
      rintro e w1 ⟨rfl, hb1⟩
      go_wp2
      go_ret
      exact ⟨by rw [HR.out]; rfl, U0.out.trans (upd_of_below hb1) (fun _ _ f => f)⟩
  | false =>
    replace HR := Lib.hid (HR.out.trans (if_neg (by decide)))
    by_cases q1 : 0 < l1.length
    · replace HR := Lib.hid (HR.out.trans (if_pos (.inl q1)))
      have hd : decide ((0 : Int) < (l1.length : Int)) = true := decide_eq_true (by omega)
      have hd' : decide (0 < l1.length) = true := decide_eq_true q1
      go_enter Try.func22, Try.ntmps22
      go_wp2
      go_ret
      exact ⟨by rw [HR.out]; rfl, U0.out⟩
    have p1 : decide ((0 : Int) < (l1.length : Int)) = false := decide_eq_false (by omega)
    have p1' : decide (0 < l1.length) = false := decide_eq_false q1
    by_cases q2 : l3.length < 1
    · replace HR := Lib.hid (HR.out.trans (if_pos (.inr (.inl q2))))
      have hd : decide ((l3.length : Int) < 1) = true := decide_eq_true (by omega)
      have hd' : decide (l3.length < 1) = true := decide_eq_true q2
      go_enter Try.func22, Try.ntmps22
      go_wp2
      go_ret
      exact ⟨by rw [HR.out]; rfl, U0.out⟩
    have p2 : decide ((l3.length : Int) < 1) = false := decide_eq_false (by omega)
    have p2' : decide (l3.length < 1) = false := decide_eq_false q2
    by_cases q3 : 8 < l3.length
    · replace HR := Lib.hid (HR.out.trans (if_pos (.inr (.inr (.inl q3)))))
      have hd : decide ((8 : Int) < (l3.length : Int)) = true := decide_eq_true (by omega)
      have hd' : decide (8 < l3.length) = true := decide_eq_true q3
      go_enter Try.func22, Try.ntmps22
      go_wp2
      go_ret
      exact ⟨by rw [HR.out]; rfl, U0.out⟩
    have p3 : decide ((8 : Int) < (l3.length : Int)) = false := decide_eq_false (by omega)
    have p3' : decide (8 < l3.length) = false := decide_eq_false q3
    have hw3 : wrap64 ((l3.length : Int) - 1) = (l3.length : Int) - 1 := by unfold wrap64; omega
    by_cases q4 : l2.length + 1 ≠ l3.length
    · replace HR := Lib.hid (HR.out.trans (if_pos (.inr (.inr (.inr (.inl q4))))))
      have hd : ((l2.length : Int) != (l3.length : Int) - 1) = true := by simp; omega
      go_enter Try.func22, Try.ntmps22
      go_wp2
      go_ret
      exact ⟨by rw [HR.out]; rfl, U0.out⟩
    have p4 : ((l2.length : Int) != (l3.length : Int) - 1) = false := by simp; omega
    go_enter Try.func22, Try.ntmps22
    go_wp2_with (fail)
    refine (HMin.out _ HR3.out (by omega) (by omega)).mono ?_
    rintro e w1 ⟨⟨r, rfl, hr⟩, u1⟩
    have U1 := Lib.hid (U0.out.trans u1 (fun _ _ f => f))
    have hb1 := u1.heap hb (fun f => f)
    clear d0 d1 d2 d3 d4
    have d2 := cell_heap hb1 2 (.slice A2 l2.length c2) rfl
    have HB1 := Lib.hid hb1
    have HR2' := Lib.hid (upd_C HR2.out u1)
    have HR4' := Lib.hid (upd_C HR4.out u1)
    clear hb1 hb u1 u0
    cases q5 : l3.any (fun k => decide (k < 1)) with
    | true =>
      replace HR := Lib.hid (HR.out.trans (if_pos (.inr (.inr (.inr (.inr q5))))))
      rw [q5] at hr
      go_wp2
      go_ret
      exact ⟨by rw [HR.out]; rfl, U1.out⟩
    | false =>
      have hno : ¬ (0 < l1.length ∨ l3.length < 1 ∨ 8 < l3.length ∨ l2.length + 1 ≠ l3.length ∨ l3.any (fun k => decide (k < 1)) = true) := by
        rw [q5]
        intro h
        rcases h with h | h | h | h | h
        · exact q1 h
        · exact q2 h
        · exact q3 h
        · exact q4 h
        · cases h
      replace HR := Lib.hid (HR.out.trans (if_neg hno))
      rw [q5] at hr
      clear hno q5 q1 q2 q3 q4 p1 p1' p2 p2' p3 p3' hw3 HR3 HMin HRun
      generalize hn2e : l2.length = n2 at *
      have HN2 := Lib.hid hn2e
      clear hn2e
      go_wp2
      go_loopg [57] n2 (fun g v57 wr => ∃ i : Nat, v57 = .int .i64 i ∧ i + g = n2 ∧ Hid (Upd (fun _ => False) w1 wr) ∧ Hid (∀ j, j < i → pivBad l2 j = false))
      case atStart => exact ⟨0, rfl, by omega, Lib.hid (Upd.refl _ _), Lib.hid (fun j h => absurd h (by omega))⟩
      case round =>
        clear d2
        obtain ⟨i, rfl, hig, HU, HP⟩ := hrel
        cases gk with
        | zero =>
          obtain rfl : i = n2 := by omega
          have d4 := HU.out.cell (cell_heap HB1.out 4 (.slice A4 l4.length c4) rfl) (fun f => f)
          replace HR := Lib.hid (HR.out.trans (if_neg (by rw [any_none HP.out]; simp)))
          have UU := Lib.hid (U1.out.trans HU.out (fun _ _ f => f))
          have HR4w := Lib.hid (upd_C HR4'.out HU.out)
          clear HR2' HP
          go_wp2_with (fail)
          refine (HCon.out _ HR4w.out).mono ?_
          rintro e w2 ⟨rfl, u2⟩
          have U2 := Lib.hid (UU.out.trans u2 (fun _ _ f => f))
          clear u2
          cases q6 : l4.any msgBad with
          | true =>
            replace HR := Lib.hid (HR.out.trans (if_pos q6))
            go_wp2
            go_ret
            exact ⟨by rw [HR.out]; rfl, U2.out⟩
          | false =>
            replace HR := Lib.hid (HR.out.trans (if_neg (by rw [q6]; simp)))
            go_wp2
            go_ret
            exact ⟨by rw [HR.out]; rfl, U2.out⟩
        | succ g =>
          have hi : i < n2 := by omega
          have hlt : decide ((i : Int) < (n2 : Int)) = true := decide_eq_true (by omega)
          have hltp : (i : Int) < (n2 : Int) := by omega
          have h0i : (0 : Int) ≤ (i : Int) := by omega
          have UU := Lib.hid (U1.out.trans HU.out (fun _ _ f => f))
          have HC := Lib.hid (upd_C HR2'.out HU.out)
          obtain ⟨ad, rfl, y0⟩ := Kd.at_string HC.out (i : Int) h0i hltp
          obtain ⟨x, hx⟩ : ∃ x, rdS l2 i = x := ⟨_, rfl⟩
          rw [show rdOf ByteArray.empty l2 (i : Int) = x from hx] at y0
          simp only [Int.toNat_natCast] at y0
          have hbad : pivBad l2 i = (decide (x.size = 0) || (decide (108 < x.size) || (decide (0 < i) && !lessB (rdS l2 (i - 1)) x))) := by unfold pivBad; rw [hx]
          have HANY := Lib.hid (fun (h : pivBad l2 i = true) => (if_pos (any_of_bad hi h) : (if (List.range n2).any (pivBad l2) = true then (4 : Int) else if l4.any msgBad = true then 4 else 0) = 4))
          have HBAD := Lib.hid hbad
          have he := emptyb x
          clear hbad hx
          by_cases z1 : x.size = 0
          · have he1 : (x.toList == []) = true := by rw [he]; exact decide_eq_true z1
            have HZ := Lib.hid (HR.out.trans (HANY.out (by rw [HBAD.out]; simp [z1])))
            clear he
            go_wp2
            go_ret
            exact ⟨by rw [HZ.out]; rfl, UU.out⟩
          have he1 : (x.toList == []) = false := by rw [he]; exact decide_eq_false z1
          clear he
          by_cases z2 : 108 < x.size
          · have hd : decide ((108 : Int) < (x.size : Int)) = true := decide_eq_true (by omega)
            have HZ := Lib.hid (HR.out.trans (HANY.out (by rw [HBAD.out]; simp [z2])))
            go_wp2
            go_ret
            exact ⟨by rw [HZ.out]; rfl, UU.out⟩
          have hd : decide ((108 : Int) < (x.size : Int)) = false := decide_eq_false (by omega)
          by_cases z3 : 0 < i
          · have hd3 : decide ((0 : Int) < (i : Int)) = true := decide_eq_true (by omega)
            have hd3' : decide (0 < i) = true := decide_eq_true z3
            have hw4 : wrap64 ((i : Int) - 1) = ((i - 1 : Nat) : Int) := by unfold wrap64; omega
            have hltq : ((i - 1 : Nat) : Int) < (n2 : Int) := by omega
            have h0q : (0 : Int) ≤ ((i - 1 : Nat) : Int) := by omega
            obtain ⟨ad2, hA2, ym⟩ := Kd.at_string HC.out ((i - 1 : Nat) : Int) h0q hltq
            obtain rfl := Option.some.inj hA2
            obtain ⟨y, hy⟩ : ∃ y, rdS l2 (i - 1) = y := ⟨_, rfl⟩
            rw [show rdOf ByteArray.empty l2 ((i - 1 : Nat) : Int) = y from hy] at ym
            simp only [Int.toNat_natCast] at ym
            have d2 := HU.out.cell (cell_heap HB1.out 2 (.slice (some ad) n2 c2) rfl) (fun f => f)
            have HY := Lib.hid hy
            clear hy hA2
            cases z4 : lessB y x with
            | false =>
              have z4' : Op.bytesLess y.toList x.toList = false := z4
              have HZ := Lib.hid (HR.out.trans (HANY.out (by rw [HBAD.out, HY.out, z4]; simp [z3])))
              clear z4
              go_wp2
              go_ret
              exact ⟨by rw [HZ.out]; rfl, UU.out⟩
            | true =>
              have z4' : Op.bytesLess y.toList x.toList = true := z4
              have HZ := Lib.hid (show pivBad l2 i = false by rw [HBAD.out, HY.out, z4]; simp [z1]; omega)
              clear z4
              go_wp2
              go_roundg g
              case measure => omega
              case rel => exact ⟨i + 1, by go_num, by omega, HU, Lib.hid (below_next HP.out HZ.out)⟩
          · have hd3 : decide ((0 : Int) < (i : Int)) = false := decide_eq_false (by omega)
            have hd3' : decide (0 < i) = false := decide_eq_false z3
            have HZ := Lib.hid (show pivBad l2 i = false by rw [HBAD.out]; simp [z1, z3]; omega)
            go_wp2
            go_roundg g
            case measure => omega
            case rel => exact ⟨i + 1, by go_num, by omega, HU, Lib.hid (below_next HP.out HZ.out)⟩

def okSz (es : List S75) (ps : List ByteArray) (ks : List Int) (bs : List S59) : Prop := es.length ≤ 5000 ∧ ps.length ≤ 5000 ∧ ks.length ≤ 5000 ∧ bs.length ≤ 5000 ∧ ∀ m ∈ bs, m.f3.size ≤ 60000
instance (es : List S75) (ps : List ByteArray) (ks : List Int) (bs : List S59) : Decidable (okSz es ps ks bs) := inferInstanceAs (Decidable (_ ∧ _))
def node_Check.f (lf : Bool) (es : List S75) (ps : List ByteArray) (ks : List Int) (bs : List S59) : Option Int := if okSz es ps ks bs then some (chkN lf es ps ks bs) else none
theorem node_Check.calls (a0_0 : Bool) (A0_1 : Option Addr) (c0_1 : Nat) (l0_1 : List S75) (A0_2 : Option Addr) (c0_2 : Nat) (l0_2 : List ByteArray) (A0_3 : Option Addr) (c0_3 : Nat) (l0_3 : List Int) (A0_4 : Option Addr) (c0_4 : Nat) (l0_4 : List S59) (r : Int) (w : World)
    (hr0_1 : Kd.C k75 w A0_1 l0_1.length l0_1) (hc0_1 : l0_1.length ≤ c0_1) (hr0_2 : Kd.C Kd.string w A0_2 l0_2.length l0_2) (hc0_2 : l0_2.length ≤ c0_2) (hr0_3 : Kd.C (Kd.int .i64) w A0_3 l0_3.length l0_3) (hc0_3 : l0_3.length ≤ c0_3) (hr0_4 : Kd.C k59 w A0_4 l0_4.length l0_4) (hc0_4 : l0_4.length ≤ c0_4) (h : node_Check.f a0_0 l0_1 l0_2 l0_3 l0_4 = some r) :
    Calls Try.prog 22 #[.agg #[.bool a0_0, .slice A0_1 l0_1.length c0_1, .slice A0_2 l0_2.length c0_2, .slice A0_3 l0_3.length c0_3, .slice A0_4 l0_4.length c0_4]] w fun e w' => e = .returned (.int .i64 r) ∧ Below w.heap.size w w' := by
  unfold node_Check.f at h
  split at h
  · rename_i hk
    obtain ⟨h1, h2, h3, h4, h5⟩ := hk
    obtain rfl := Option.some.inj h
    exact (check_walk a0_0 A0_1 c0_1 l0_1 A0_2 c0_2 l0_2 A0_3 c0_3 l0_3 A0_4 c0_4 l0_4 w hr0_1 hc0_1 hr0_2 hr0_3 hr0_4 h5 (by omega) (by omega) (by omega) (by omega)).mono fun e w' ⟨he, hu⟩ => ⟨he, hu.below (Nat.le_refl _) (fun _ f => f.elim)⟩
  · cases h
end Go.Proofs.Ytnoimnijoklkdaa.Px
