/- Chapter 10's acts: how they lie in memory, and what do and their make of both devices. -/
import Derived.Test.YthdkhmmabfnnkaaDev15
import Derived.Test.YthdkhmmabfnnkaaRef4
import Derived.Test.YthdkhmmabfnnkaaRef5
set_option linter.unusedVariables false
set_option linter.unusedSimpArgs false
namespace Go.Proofs.Ythdkhmmabfnnkaa
open Go.RowKit Go.Maps

structure DAct where
  what : Nat
  at_ : Int
  ask : Int
  s : List UInt8
  ad : Option Addr
  cp : Nat
  ks : List Int
def DAct.cells (a : DAct) : List Value := [.int .u8 (a.what : Int), .int .i64 a.at_, .int .i64 a.ask, .string ⟨a.s.toArray⟩, .slice a.ad a.ks.length a.cp]
def DAct.val (a : DAct) : Value := .agg #[.int .u8 (a.what : Int), .int .i64 a.at_, .int .i64 a.ask, .string ⟨a.s.toArray⟩, .slice a.ad a.ks.length a.cp]
/-- A row of numbers that came in. -/
structure NumsAt (w : World) (B : Nat) (ad : Option Addr) (ks : List Int) : Prop where
  len : ks.length ≤ 9223372036854775807
  row : ∀ j, j < ks.length → ∃ p : Addr, ad = some p ∧ w.cell? (p.add j) = some (.int .i64 (ks.getD j 0))
  lt : ∀ p : Addr, ad = some p → ks ≠ [] → p.block < B
theorem NumsAt.upd {w w' : World} {B : Nat} {ad : Option Addr} {ks : List Int} {F : Nat → Prop} (h : NumsAt w B ad ks) (hu : Upd F w w') (hF : ∀ i, i < B → ¬ F i) : NumsAt w' B ad ks :=
  ⟨h.len, fun j hj => by obtain ⟨p, e, hc⟩ := h.row j hj; exact ⟨p, e, hu.cell hc (by rw [block_add2]; exact hF _ (h.lt p e (fun h => by rw [h] at hj; cases hj)))⟩, h.lt⟩
structure ActAt (w : World) (B : Nat) (a : DAct) : Prop where
  what : a.what < 256
  slen : a.s.length ≤ 9223372036854775807
  nums : NumsAt w B a.ad a.ks
theorem ActAt.upd {w w' : World} {B : Nat} {a : DAct} {F : Nat → Prop} (h : ActAt w B a) (hu : Upd F w w') (hF : ∀ i, i < B → ¬ F i) : ActAt w' B a := ⟨h.what, h.slen, h.nums.upd hu hF⟩

/-- A device, or none. -/
def DevO (w : World) (B : Nat) (p : Option Addr) : Option (List Dv.Cel) → Prop
  | none => p = none
  | some d => ∃ b bs bm cap, p = some ⟨b, 0, none⟩ ∧ B ≤ b ∧ B ≤ bs ∧ B ≤ bm ∧ DevAt w b bs bm cap d
def RefO (w : World) (B : Nat) (p : Option Addr) : Option (List Rv.Sec) → Prop
  | none => p = none
  | some r => ∃ b g cap, p = some ⟨b, 0, none⟩ ∧ B ≤ b ∧ B ≤ g ∧ RefAt w b g cap r
def doD (d : List Dv.Cel) (a : DAct) : List Dv.Cel × Int :=
  if a.what % 6 < 3 then writeE d a.at_ a.s else if a.what % 6 = 3 then (Dv.settleF (fun _ => 128) 0 d, 0) else if a.what % 6 = 4 then (Dv.settleF (crashC a.ks) 0 d, 0) else (d, 0)
def doR (r : List Rv.Sec) (a : DAct) : List Rv.Sec × Int :=
  if a.what % 6 < 3 then Rv.writeE r a.at_ a.s else if a.what % 6 = 3 then (r.map Rv.barS, 0) else if a.what % 6 = 4 then (Rv.crashF (Rv.refC a.ks) 0 r, 0) else (r, 0)
def doN (a : DAct) : Int := if a.what % 6 < 3 then 1 else 0
theorem mod6 (n : Nat) : n % 6 = 0 ∨ n % 6 = 1 ∨ n % 6 = 2 ∨ n % 6 = 3 ∨ n % 6 = 4 ∨ n % 6 = 5 := by omega
def DoneD (B bs0 bm0 : Nat) (d : List Dv.Cel) (a : DAct) (w : World) (e : Ending) (w' : World) : Prop :=
  ∃ b bs bm cap, e = .returned (.tuple #[.pointer (some ⟨b, 0, none⟩), .int .i64 (doD d a).2]) ∧ B ≤ b ∧ B ≤ bs ∧ B ≤ bm ∧ DevAt w' b bs bm cap (doD d a).1 ∧ Upd (fun i => i = bs0 ∨ i = bm0) w w'
def DoneR (B g0 : Nat) (r : List Rv.Sec) (a : DAct) (w : World) (e : Ending) (w' : World) : Prop :=
  ∃ b g cap, e = .returned (.tuple #[.pointer (some ⟨b, 0, none⟩), .int .i64 (doR r a).2]) ∧ B ≤ b ∧ B ≤ g ∧ RefAt w' b g cap (doR r a).1 ∧ Upd (fun i => i = g0) w w'

theorem noref_Copy (w : World) : Calls Try.prog 36 #[.pointer none] w fun e w' => e = .returned (.pointer none) ∧ w = w' := by
  go_enter Try.func36, Try.ntmps36
  go_wp2
  go_ret
  exact ⟨rfl, rfl⟩

set_option maxHeartbeats 1000000 in
theorem law_do {w : World} {B b bs bm cap : Nat} {d : List Dv.Cel} (h : DevAt w b bs bm cap d) (hb : B ≤ b) (hbs : B ≤ bs) (hbm : B ≤ bm) (a : DAct) (ha : ActAt w B a) :
    Calls Try.prog 10 #[.pointer (some ⟨b, 0, none⟩), a.val] w (DoneD B bs bm d a w) := by
  obtain ⟨hwh, hsl, hnu⟩ := ha
  have hmod := mod6 a.what
  unfold DoneD doD
  obtain ⟨what, at_, ask, s, ad, cp, ks⟩ := a
  dsimp only [DAct.val] at *
  have u1 : Upd (fun _ => False) w (w.alloc (.cells #[.int .u8 (what : Int), .int .i64 at_, .int .i64 ask, .string ⟨s.toArray⟩, .slice ad ks.length cp] 31)) := (Upd.refl _ w).alloc _
  have hd := h.upd u1 (fun f => f) (fun f => f) (fun f => f)
  have hlt : B ≤ w.heap.size := by have := h.ltb; omega
  have hw0 : (0 : Int) ≤ (what : Int) := by omega
  have hw1 : (what : Int) ≤ 255 := by omega
  rcases hmod with hmod | hmod | hmod | hmod | hmod | hmod
  · have y1 : (what : Int) % 6 = 0 := by omega
    have y2 : Int.tmod (what : Int) 6 = 0 := by rw [Int.tmod_eq_emod_of_nonneg (by omega)]; exact y1
    simp only [hmod, Nat.reduceLT, if_true]
    have hC := Lib.hid (dev_Write hd at_ s hsl)
    have HM := Lib.hid hmod
    clear h hd hnu hmod
    go_enter Try.func10, Try.ntmps10
    go_wp2_with (fail)
    refine hC.out.mono ?_
    rintro e w2 ⟨rfl, hd2, u2⟩
    go_wp2
    go_ret2
    exact ⟨_, _, _, _, rfl, hb, hbs, hbm, hd2, (u1.mono (fun _ _ f => f.elim)).trans u2 (fun i _ e => by omega)⟩
  · have y1 : (what : Int) % 6 = 1 := by omega
    have y2 : Int.tmod (what : Int) 6 = 1 := by rw [Int.tmod_eq_emod_of_nonneg (by omega)]; exact y1
    simp only [hmod, Nat.reduceLT, if_true]
    have hC := Lib.hid (dev_Write hd at_ s hsl)
    have HM := Lib.hid hmod
    clear h hd hnu hmod
    go_enter Try.func10, Try.ntmps10
    go_wp2_with (fail)
    refine hC.out.mono ?_
    rintro e w2 ⟨rfl, hd2, u2⟩
    go_wp2
    go_ret2
    exact ⟨_, _, _, _, rfl, hb, hbs, hbm, hd2, (u1.mono (fun _ _ f => f.elim)).trans u2 (fun i _ e => by omega)⟩
  · have y1 : (what : Int) % 6 = 2 := by omega
    have y2 : Int.tmod (what : Int) 6 = 2 := by rw [Int.tmod_eq_emod_of_nonneg (by omega)]; exact y1
    simp only [hmod, Nat.reduceLT, if_true]
    have hC := Lib.hid (dev_Write hd at_ s hsl)
    have HM := Lib.hid hmod
    clear h hd hnu hmod
    go_enter Try.func10, Try.ntmps10
    go_wp2_with (fail)
    refine hC.out.mono ?_
    rintro e w2 ⟨rfl, hd2, u2⟩
    go_wp2
    go_ret2
    exact ⟨_, _, _, _, rfl, hb, hbs, hbm, hd2, (u1.mono (fun _ _ f => f.elim)).trans u2 (fun i _ e => by omega)⟩
  · have y1 : (what : Int) % 6 = 3 := by omega
    have y2 : Int.tmod (what : Int) 6 = 3 := by rw [Int.tmod_eq_emod_of_nonneg (by omega)]; exact y1
    simp only [hmod, Nat.reduceLT, Nat.reduceEqDiff, if_true, if_false]
    have hC := Lib.hid (dev_Barrier hd)
    have HM := Lib.hid hmod
    clear h hd hnu hmod
    go_enter Try.func10, Try.ntmps10
    go_wp2_with (fail)
    refine hC.out.mono ?_
    rintro e w2 ⟨rfl, hd2, u2⟩
    go_wp2
    go_ret2
    exact ⟨_, _, _, _, rfl, hb, hbs, hbm, hd2, (u1.mono (fun _ _ f => f.elim)).trans u2 (fun i _ e => by omega)⟩
  · have y1 : (what : Int) % 6 = 4 := by omega
    have y2 : Int.tmod (what : Int) 6 = 4 := by rw [Int.tmod_eq_emod_of_nonneg (by omega)]; exact y1
    simp only [hmod, Nat.reduceLT, Nat.reduceEqDiff, if_true, if_false]
    have hnu2 := hnu.upd u1 (fun _ _ f => f)
    have hC := Lib.hid (dev_Crash (cp := cp) hd hnu2.len hnu2.row (fun p e hne => by have := hnu2.lt p e hne; omega))
    have HM := Lib.hid hmod
    clear h hd hnu hmod hnu2
    go_enter Try.func10, Try.ntmps10
    go_wp2_with (fail)
    refine hC.out.mono ?_
    rintro e w2 ⟨rfl, hd2, u2⟩
    go_wp2
    go_ret2
    exact ⟨_, _, _, _, rfl, hb, hbs, hbm, hd2, (u1.mono (fun _ _ f => f.elim)).trans u2 (fun i _ e => by omega)⟩
  · have y1 : (what : Int) % 6 = 5 := by omega
    have y2 : Int.tmod (what : Int) 6 = 5 := by rw [Int.tmod_eq_emod_of_nonneg (by omega)]; exact y1
    simp only [hmod, Nat.reduceLT, Nat.reduceEqDiff, if_true, if_false]
    have hC := Lib.hid (dev_Copy hd)
    have HM := Lib.hid hmod
    clear h hd hnu hmod
    go_enter Try.func10, Try.ntmps10
    go_wp2_with (fail)
    refine hC.out.mono ?_
    rintro e w2 ⟨b2, bs2, bm2, cap2, rfl, k1, k2, k3, hd2, u2⟩
    go_wp2
    go_ret2
    simp at k1 k2 k3; exact ⟨_, _, _, _, rfl, by omega, by omega, by omega, hd2, (u1.mono (fun _ _ f => f.elim)).trans u2 (fun i _ e => e.elim)⟩

set_option maxHeartbeats 1000000 in
theorem law_their {w : World} {B b g cap : Nat} {r : List Rv.Sec} (h : RefAt w b g cap r) (hb : B ≤ b) (hg : B ≤ g) (a : DAct) (ha : ActAt w B a) :
    Calls Try.prog 20 #[.pointer (some ⟨b, 0, none⟩), a.val] w (DoneR B g r a w) := by
  obtain ⟨hwh, hsl, hnu⟩ := ha
  have hmod := mod6 a.what
  unfold DoneR doR
  obtain ⟨what, at_, ask, s, ad, cp, ks⟩ := a
  dsimp only [DAct.val] at *
  have u1 : Upd (fun _ => False) w (w.alloc (.cells #[.int .u8 (what : Int), .int .i64 at_, .int .i64 ask, .string ⟨s.toArray⟩, .slice ad ks.length cp] 31)) := (Upd.refl _ w).alloc _
  have hd := h.upd u1 (fun f => f) (fun f => f)
  have hlt : B ≤ w.heap.size := by have := h.ltb; omega
  have hw0 : (0 : Int) ≤ (what : Int) := by omega
  have hw1 : (what : Int) ≤ 255 := by omega
  rcases hmod with hmod | hmod | hmod | hmod | hmod | hmod
  · have y1 : (what : Int) % 6 = 0 := by omega
    have y2 : Int.tmod (what : Int) 6 = 0 := by rw [Int.tmod_eq_emod_of_nonneg (by omega)]; exact y1
    simp only [hmod, Nat.reduceLT, if_true]
    have hC := Lib.hid (ref_Write hd at_ s hsl)
    have HM := Lib.hid hmod
    clear h hd hnu hmod
    go_enter Try.func20, Try.ntmps20
    go_wp2_with (fail)
    refine hC.out.mono ?_
    rintro e w2 ⟨rfl, hd2, u2⟩
    go_wp2
    go_ret2
    exact ⟨_, _, _, rfl, hb, hg, hd2, (u1.mono (fun _ _ f => f.elim)).trans u2 (fun i _ e => by omega)⟩
  · have y1 : (what : Int) % 6 = 1 := by omega
    have y2 : Int.tmod (what : Int) 6 = 1 := by rw [Int.tmod_eq_emod_of_nonneg (by omega)]; exact y1
    simp only [hmod, Nat.reduceLT, if_true]
    have hC := Lib.hid (ref_Write hd at_ s hsl)
    have HM := Lib.hid hmod
    clear h hd hnu hmod
    go_enter Try.func20, Try.ntmps20
    go_wp2_with (fail)
    refine hC.out.mono ?_
    rintro e w2 ⟨rfl, hd2, u2⟩
    go_wp2
    go_ret2
    exact ⟨_, _, _, rfl, hb, hg, hd2, (u1.mono (fun _ _ f => f.elim)).trans u2 (fun i _ e => by omega)⟩
  · have y1 : (what : Int) % 6 = 2 := by omega
    have y2 : Int.tmod (what : Int) 6 = 2 := by rw [Int.tmod_eq_emod_of_nonneg (by omega)]; exact y1
    simp only [hmod, Nat.reduceLT, if_true]
    have hC := Lib.hid (ref_Write hd at_ s hsl)
    have HM := Lib.hid hmod
    clear h hd hnu hmod
    go_enter Try.func20, Try.ntmps20
    go_wp2_with (fail)
    refine hC.out.mono ?_
    rintro e w2 ⟨rfl, hd2, u2⟩
    go_wp2
    go_ret2
    exact ⟨_, _, _, rfl, hb, hg, hd2, (u1.mono (fun _ _ f => f.elim)).trans u2 (fun i _ e => by omega)⟩
  · have y1 : (what : Int) % 6 = 3 := by omega
    have y2 : Int.tmod (what : Int) 6 = 3 := by rw [Int.tmod_eq_emod_of_nonneg (by omega)]; exact y1
    simp only [hmod, Nat.reduceLT, Nat.reduceEqDiff, if_true, if_false]
    have hC := Lib.hid (ref_Barrier hd)
    have HM := Lib.hid hmod
    clear h hd hnu hmod
    go_enter Try.func20, Try.ntmps20
    go_wp2_with (fail)
    refine hC.out.mono ?_
    rintro e w2 ⟨rfl, hd2, u2⟩
    go_wp2
    go_ret2
    exact ⟨_, _, _, rfl, hb, hg, hd2, (u1.mono (fun _ _ f => f.elim)).trans u2 (fun i _ e => by omega)⟩
  · have y1 : (what : Int) % 6 = 4 := by omega
    have y2 : Int.tmod (what : Int) 6 = 4 := by rw [Int.tmod_eq_emod_of_nonneg (by omega)]; exact y1
    simp only [hmod, Nat.reduceLT, Nat.reduceEqDiff, if_true, if_false]
    have hnu2 := hnu.upd u1 (fun _ _ f => f)
    have hC := Lib.hid (ref_Crash (cp := cp) hd hnu2.len ⟨hnu2.row, fun p e hne => by have := hnu2.lt p e hne; omega⟩)
    have HM := Lib.hid hmod
    clear h hd hnu hmod hnu2
    go_enter Try.func20, Try.ntmps20
    go_wp2_with (fail)
    refine hC.out.mono ?_
    rintro e w2 ⟨rfl, hd2, u2⟩
    go_wp2
    go_ret2
    exact ⟨_, _, _, rfl, hb, hg, hd2, (u1.mono (fun _ _ f => f.elim)).trans u2 (fun i _ e => by omega)⟩
  · have y1 : (what : Int) % 6 = 5 := by omega
    have y2 : Int.tmod (what : Int) 6 = 5 := by rw [Int.tmod_eq_emod_of_nonneg (by omega)]; exact y1
    simp only [hmod, Nat.reduceLT, Nat.reduceEqDiff, if_true, if_false]
    have hC := Lib.hid (ref_Copy hd)
    have HM := Lib.hid hmod
    clear h hd hnu hmod
    go_enter Try.func20, Try.ntmps20
    go_wp2_with (fail)
    refine hC.out.mono ?_
    rintro e w2 ⟨b2, g2, cap2, rfl, k1, k2, hd2, u2⟩
    go_wp2
    go_ret2
    simp at k1 k2; exact ⟨_, _, _, rfl, by omega, by omega, hd2, (u1.mono (fun _ _ f => f.elim)).trans u2 (fun i _ e => e.elim)⟩

set_option maxHeartbeats 1000000 in
theorem law_do_no {w : World} (a : DAct) (ha : a.what < 256) : Calls Try.prog 10 #[.pointer none, a.val] w (fun e w' => e = .returned (.tuple #[.pointer none, .int .i64 (doN a)]) ∧ Upd (fun _ => False) w w') := by
  have hwh := ha
  have hmod := mod6 a.what
  unfold doN
  obtain ⟨what, at_, ask, s, ad, cp, ks⟩ := a
  dsimp only [DAct.val] at *
  have u1 : Upd (fun _ => False) w (w.alloc (.cells #[.int .u8 (what : Int), .int .i64 at_, .int .i64 ask, .string ⟨s.toArray⟩, .slice ad ks.length cp] 31)) := (Upd.refl _ w).alloc _
  have hw0 : (0 : Int) ≤ (what : Int) := by omega
  have hw1 : (what : Int) ≤ 255 := by omega
  rcases hmod with hmod | hmod | hmod | hmod | hmod | hmod
  · have y1 : (what : Int) % 6 = 0 := by omega
    have y2 : Int.tmod (what : Int) 6 = 0 := by rw [Int.tmod_eq_emod_of_nonneg (by omega)]; exact y1
    simp only [hmod, Nat.reduceLT, if_true]
    have hC := Lib.hid (nodev_Write (w := (w.alloc (.cells #[.int .u8 (what : Int), .int .i64 at_, .int .i64 ask, .string ⟨s.toArray⟩, .slice ad ks.length cp] 31))) (Or.inl rfl) at_ ⟨s.toArray⟩)
    have HM := Lib.hid hmod
    clear hmod
    go_enter Try.func10, Try.ntmps10
    go_wp2_with (fail)
    refine hC.out.mono ?_
    rintro e w2 ⟨rfl, rfl⟩
    go_wp2
    go_ret2
    exact ⟨rfl, u1⟩
  · have y1 : (what : Int) % 6 = 1 := by omega
    have y2 : Int.tmod (what : Int) 6 = 1 := by rw [Int.tmod_eq_emod_of_nonneg (by omega)]; exact y1
    simp only [hmod, Nat.reduceLT, if_true]
    have hC := Lib.hid (nodev_Write (w := (w.alloc (.cells #[.int .u8 (what : Int), .int .i64 at_, .int .i64 ask, .string ⟨s.toArray⟩, .slice ad ks.length cp] 31))) (Or.inl rfl) at_ ⟨s.toArray⟩)
    have HM := Lib.hid hmod
    clear hmod
    go_enter Try.func10, Try.ntmps10
    go_wp2_with (fail)
    refine hC.out.mono ?_
    rintro e w2 ⟨rfl, rfl⟩
    go_wp2
    go_ret2
    exact ⟨rfl, u1⟩
  · have y1 : (what : Int) % 6 = 2 := by omega
    have y2 : Int.tmod (what : Int) 6 = 2 := by rw [Int.tmod_eq_emod_of_nonneg (by omega)]; exact y1
    simp only [hmod, Nat.reduceLT, if_true]
    have hC := Lib.hid (nodev_Write (w := (w.alloc (.cells #[.int .u8 (what : Int), .int .i64 at_, .int .i64 ask, .string ⟨s.toArray⟩, .slice ad ks.length cp] 31))) (Or.inl rfl) at_ ⟨s.toArray⟩)
    have HM := Lib.hid hmod
    clear hmod
    go_enter Try.func10, Try.ntmps10
    go_wp2_with (fail)
    refine hC.out.mono ?_
    rintro e w2 ⟨rfl, rfl⟩
    go_wp2
    go_ret2
    exact ⟨rfl, u1⟩
  · have y1 : (what : Int) % 6 = 3 := by omega
    have y2 : Int.tmod (what : Int) 6 = 3 := by rw [Int.tmod_eq_emod_of_nonneg (by omega)]; exact y1
    simp only [hmod, Nat.reduceLT, Nat.reduceEqDiff, if_true, if_false]
    have hC := Lib.hid (nodev_Barrier (w := (w.alloc (.cells #[.int .u8 (what : Int), .int .i64 at_, .int .i64 ask, .string ⟨s.toArray⟩, .slice ad ks.length cp] 31))) (Or.inl rfl))
    have HM := Lib.hid hmod
    clear hmod
    go_enter Try.func10, Try.ntmps10
    go_wp2_with (fail)
    refine hC.out.mono ?_
    rintro e w2 ⟨rfl, rfl⟩
    go_wp2
    go_ret2
    exact ⟨rfl, u1⟩
  · have y1 : (what : Int) % 6 = 4 := by omega
    have y2 : Int.tmod (what : Int) 6 = 4 := by rw [Int.tmod_eq_emod_of_nonneg (by omega)]; exact y1
    simp only [hmod, Nat.reduceLT, Nat.reduceEqDiff, if_true, if_false]
    have hC := Lib.hid (nodev_Crash (w := (w.alloc (.cells #[.int .u8 (what : Int), .int .i64 at_, .int .i64 ask, .string ⟨s.toArray⟩, .slice ad ks.length cp] 31))) (Or.inl rfl) ad ks.length cp)
    have HM := Lib.hid hmod
    clear hmod
    go_enter Try.func10, Try.ntmps10
    go_wp2_with (fail)
    refine hC.out.mono ?_
    rintro e w2 ⟨rfl, u2⟩
    go_wp2
    go_ret2
    exact ⟨rfl, u1.trans u2 (fun _ _ f => f)⟩
  · have y1 : (what : Int) % 6 = 5 := by omega
    have y2 : Int.tmod (what : Int) 6 = 5 := by rw [Int.tmod_eq_emod_of_nonneg (by omega)]; exact y1
    simp only [hmod, Nat.reduceLT, Nat.reduceEqDiff, if_true, if_false]
    have hC := Lib.hid (nodev_Copy (w := (w.alloc (.cells #[.int .u8 (what : Int), .int .i64 at_, .int .i64 ask, .string ⟨s.toArray⟩, .slice ad ks.length cp] 31))) (Or.inl rfl))
    have HM := Lib.hid hmod
    clear hmod
    go_enter Try.func10, Try.ntmps10
    go_wp2_with (fail)
    refine hC.out.mono ?_
    rintro e w2 ⟨rfl, rfl⟩
    go_wp2
    go_ret2
    exact ⟨rfl, u1⟩

set_option maxHeartbeats 1000000 in
theorem law_their_no {w : World} (a : DAct) (ha : a.what < 256) : Calls Try.prog 20 #[.pointer none, a.val] w (fun e w' => e = .returned (.tuple #[.pointer none, .int .i64 (doN a)]) ∧ Upd (fun _ => False) w w') := by
  have hwh := ha
  have hmod := mod6 a.what
  unfold doN
  obtain ⟨what, at_, ask, s, ad, cp, ks⟩ := a
  dsimp only [DAct.val] at *
  have u1 : Upd (fun _ => False) w (w.alloc (.cells #[.int .u8 (what : Int), .int .i64 at_, .int .i64 ask, .string ⟨s.toArray⟩, .slice ad ks.length cp] 31)) := (Upd.refl _ w).alloc _
  have hw0 : (0 : Int) ≤ (what : Int) := by omega
  have hw1 : (what : Int) ≤ 255 := by omega
  rcases hmod with hmod | hmod | hmod | hmod | hmod | hmod
  · have y1 : (what : Int) % 6 = 0 := by omega
    have y2 : Int.tmod (what : Int) 6 = 0 := by rw [Int.tmod_eq_emod_of_nonneg (by omega)]; exact y1
    simp only [hmod, Nat.reduceLT, if_true]
    have hC := Lib.hid (noref_Write at_ ⟨s.toArray⟩ (w.alloc (.cells #[.int .u8 (what : Int), .int .i64 at_, .int .i64 ask, .string ⟨s.toArray⟩, .slice ad ks.length cp] 31)))
    have HM := Lib.hid hmod
    clear hmod
    go_enter Try.func20, Try.ntmps20
    go_wp2_with (fail)
    refine hC.out.mono ?_
    rintro e w2 ⟨rfl, rfl⟩
    go_wp2
    go_ret2
    exact ⟨rfl, u1⟩
  · have y1 : (what : Int) % 6 = 1 := by omega
    have y2 : Int.tmod (what : Int) 6 = 1 := by rw [Int.tmod_eq_emod_of_nonneg (by omega)]; exact y1
    simp only [hmod, Nat.reduceLT, if_true]
    have hC := Lib.hid (noref_Write at_ ⟨s.toArray⟩ (w.alloc (.cells #[.int .u8 (what : Int), .int .i64 at_, .int .i64 ask, .string ⟨s.toArray⟩, .slice ad ks.length cp] 31)))
    have HM := Lib.hid hmod
    clear hmod
    go_enter Try.func20, Try.ntmps20
    go_wp2_with (fail)
    refine hC.out.mono ?_
    rintro e w2 ⟨rfl, rfl⟩
    go_wp2
    go_ret2
    exact ⟨rfl, u1⟩
  · have y1 : (what : Int) % 6 = 2 := by omega
    have y2 : Int.tmod (what : Int) 6 = 2 := by rw [Int.tmod_eq_emod_of_nonneg (by omega)]; exact y1
    simp only [hmod, Nat.reduceLT, if_true]
    have hC := Lib.hid (noref_Write at_ ⟨s.toArray⟩ (w.alloc (.cells #[.int .u8 (what : Int), .int .i64 at_, .int .i64 ask, .string ⟨s.toArray⟩, .slice ad ks.length cp] 31)))
    have HM := Lib.hid hmod
    clear hmod
    go_enter Try.func20, Try.ntmps20
    go_wp2_with (fail)
    refine hC.out.mono ?_
    rintro e w2 ⟨rfl, rfl⟩
    go_wp2
    go_ret2
    exact ⟨rfl, u1⟩
  · have y1 : (what : Int) % 6 = 3 := by omega
    have y2 : Int.tmod (what : Int) 6 = 3 := by rw [Int.tmod_eq_emod_of_nonneg (by omega)]; exact y1
    simp only [hmod, Nat.reduceLT, Nat.reduceEqDiff, if_true, if_false]
    have hC := Lib.hid (noref_Barrier (w.alloc (.cells #[.int .u8 (what : Int), .int .i64 at_, .int .i64 ask, .string ⟨s.toArray⟩, .slice ad ks.length cp] 31)))
    have HM := Lib.hid hmod
    clear hmod
    go_enter Try.func20, Try.ntmps20
    go_wp2_with (fail)
    refine hC.out.mono ?_
    rintro e w2 ⟨rfl, rfl⟩
    go_wp2
    go_ret2
    exact ⟨rfl, u1⟩
  · have y1 : (what : Int) % 6 = 4 := by omega
    have y2 : Int.tmod (what : Int) 6 = 4 := by rw [Int.tmod_eq_emod_of_nonneg (by omega)]; exact y1
    simp only [hmod, Nat.reduceLT, Nat.reduceEqDiff, if_true, if_false]
    have hC := Lib.hid (noref_Crash (.slice ad ks.length cp) (w.alloc (.cells #[.int .u8 (what : Int), .int .i64 at_, .int .i64 ask, .string ⟨s.toArray⟩, .slice ad ks.length cp] 31)))
    have HM := Lib.hid hmod
    clear hmod
    go_enter Try.func20, Try.ntmps20
    go_wp2_with (fail)
    refine hC.out.mono ?_
    rintro e w2 ⟨rfl, rfl⟩
    go_wp2
    go_ret2
    exact ⟨rfl, u1⟩
  · have y1 : (what : Int) % 6 = 5 := by omega
    have y2 : Int.tmod (what : Int) 6 = 5 := by rw [Int.tmod_eq_emod_of_nonneg (by omega)]; exact y1
    simp only [hmod, Nat.reduceLT, Nat.reduceEqDiff, if_true, if_false]
    have hC := Lib.hid (noref_Copy (w.alloc (.cells #[.int .u8 (what : Int), .int .i64 at_, .int .i64 ask, .string ⟨s.toArray⟩, .slice ad ks.length cp] 31)))
    have HM := Lib.hid hmod
    clear hmod
    go_enter Try.func20, Try.ntmps20
    go_wp2_with (fail)
    refine hC.out.mono ?_
    rintro e w2 ⟨rfl, rfl⟩
    go_wp2
    go_ret2
    exact ⟨rfl, u1⟩

end Go.Proofs.Ythdkhmmabfnnkaa
