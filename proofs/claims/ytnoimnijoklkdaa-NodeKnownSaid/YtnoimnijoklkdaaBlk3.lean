/- Texts that belong together: YtnoimnijoklkdaaBlk0, YtnoimnijoklkdaaBlk1, YtnoimnijoklkdaaBlk3. -/
import Derived.Test.YtnoimnijoklkdaaBase
import Derived.Test.YtnoimnijoklkdaaCodecP
/- What blocks and patches are, as lists of bytes: plain functions, no program. -/
set_option linter.unusedVariables false
set_option linter.unusedSimpArgs false
namespace Go.Proofs.Ytnoimnijoklkdaa
namespace Blk

structure Pt where
  cut : Bool
  at_ : Int
  n : Int
  s : List UInt8

def zero : Pt := ⟨false, 0, 0, []⟩
def check (v : List UInt8) : Int := if v.length = 0 then 4 else if 64 < v.length then 4 else if v.getLastD 1 = 0 then 4 else 0
def trimB (c : UInt8) (s : List UInt8) : List UInt8 := (s.reverse.dropWhile (· == c)).reverse
def trim (s : List UInt8) : List UInt8 := trimB 0 s
def byteAt (v : List UInt8) (i : Nat) : UInt8 := v.getD i 0
def at_ (v : List UInt8) (frm n : Int) : List UInt8 := (List.range (min n 64).toNat).map fun i => byteAt v (frm.toNat + i)
def may (p : Pt) : Bool :=
  if p.cut then decide (0 ≤ p.n ∧ p.n < 64 ∧ p.at_ = 0 ∧ p.s.length = 0) else decide (0 < p.s.length ∧ p.s.length ≤ 64 ∧ 0 ≤ p.at_ ∧ p.at_ ≤ 64 - p.s.length ∧ p.n = 0)
def put (p : Pt) : List UInt8 × Int :=
  if may p = false then ([], 4) else if p.cut then ([2, UInt8.ofNat p.n.toNat], 0) else ([1, UInt8.ofNat p.at_.toNat, 0, UInt8.ofNat p.s.length] ++ p.s, 0)
def fin (p : Pt) (over : Bool) : Pt × Int := if over = true ∨ may p = false then (zero, 4) else (p, 0)
def takeCut : List UInt8 → Pt × Int
  | [] => (zero, 10)
  | n :: r => fin ⟨true, 0, n.toNat, []⟩ (!r.isEmpty)
def takeSplice : List UInt8 → Pt × Int
  | a :: h :: l :: r => let n := h.toNat * 256 + l.toNat
    if r.length < n then (zero, 10) else fin ⟨false, a.toNat, 0, r.take n⟩ (decide (n < r.length))
  | _ => (zero, 10)
def take : List UInt8 → Pt × Int
  | [] => (zero, 10)
  | k :: r => if k = 2 then takeCut r else if k = 1 then takeSplice r else (zero, 4)
/-- The 64 bytes behind a patch. -/
def over (v : List UInt8) (p : Pt) (i : Nat) : UInt8 :=
  if may p = false then byteAt (v.take 64) i
  else if p.cut then (if (i : Int) < p.n then byteAt (v.take 64) i else 0)
  else if p.at_ ≤ i ∧ i < p.at_ + p.s.length then p.s.getD (i - p.at_.toNat) 0 else byteAt (v.take 64) i
def apply (v : List UInt8) (p : Pt) : List UInt8 := trim ((List.range 64).map (over v p))

theorem getLastD_eq (l : List UInt8) (h : l.length - 1 < l.length) (d : UInt8) : l.getLastD d = l[l.length - 1] := by
  rw [List.getLastD_eq_getLast?, List.getLast?_eq_getElem?, List.getElem?_eq_getElem h]; rfl

end Blk
end Go.Proofs.Ytnoimnijoklkdaa

/- The contracts of package block, and of its reference: what needs no writer. -/
set_option linter.unusedVariables false
set_option linter.unusedSimpArgs false
namespace Go.Proofs.Ytnoimnijoklkdaa
open Go.RowKit

theorem ret_int {k : IntKind} {a b : Int} (h : a = b) : Ending.returned (.int k a) = .returned (.int k b) := by rw [h]
theorem ret_bool {a b : Bool} (h : a = b) : Ending.returned (.bool a) = .returned (.bool b) := by rw [h]
theorem block_Check (l : List UInt8) (w : World) (hl : l.length ≤ 1000000000) :
    Calls Try.prog 101 #[.string ⟨l.toArray⟩] w fun e w' => e = .returned (.int .i64 (Blk.check l)) ∧ w = w' := by
  by_cases h0 : l.length = 0
  · obtain rfl : l = [] := List.eq_nil_of_length_eq_zero h0
    go_enter Try.func101, Try.ntmps101
    go_wp2
    go_ret
    exact ⟨rfl, rfl⟩
  · have h1 : 0 < l.length := by omega
    have h3 : l.isEmpty = false := by cases l <;> simp at h0 ⊢
    have he : ((l.length : Int) == 0) = false := beq_eq_false_iff_ne.2 (by omega)
    have hlast := Blk.getLastD_eq l (by omega) 1
    by_cases h4 : 64 < l.length
    · have HC : Hid (Blk.check l = 4) := by unfold Blk.check; rw [if_neg h0, if_pos h4]; rfl
      clear hlast h0
      go_enter Try.func101, Try.ntmps101
      go_wp2
      go_ret
      exact ⟨ret_int HC.out.symm, rfl⟩
    · by_cases h6 : l.getLastD 1 = 0
      · have HC : Hid (Blk.check l = 4) := by unfold Blk.check; rw [if_neg h0, if_neg h4, if_pos h6]; rfl
        have ht : ∀ h, ((((⟨l.toArray⟩ : ByteArray)[l.length - 1]'h).toNat : Int) == 0) = true := fun h => by
          have : (⟨l.toArray⟩ : ByteArray)[l.length - 1]'h = l[l.length - 1] := rfl
          rw [this, ← hlast, h6]; rfl
        clear hlast h0 h6
        go_enter Try.func101, Try.ntmps101
        go_wp2
        go_ret
        exact ⟨ret_int HC.out.symm, rfl⟩
      · have HC : Hid (Blk.check l = 0) := by unfold Blk.check; rw [if_neg h0, if_neg h4, if_neg h6]; rfl
        have ht : ∀ h, ((((⟨l.toArray⟩ : ByteArray)[l.length - 1]'h).toNat : Int) == 0) = false := fun h => by
          have : (⟨l.toArray⟩ : ByteArray)[l.length - 1]'h = l[l.length - 1] := rfl
          rw [this, ← hlast, beq_eq_false_iff_ne]; intro hh; exact h6 (UInt8.toNat_inj.1 (by rw [show (0 : UInt8).toNat = 0 from rfl]; omega))
        clear hlast h0 h6
        go_enter Try.func101, Try.ntmps101
        go_wp2
        go_ret
        exact ⟨ret_int HC.out.symm, rfl⟩

end Go.Proofs.Ytnoimnijoklkdaa

/- The contracts of patches: may they be, their texts, of block and of its reference. -/
set_option linter.unusedVariables false
set_option linter.unusedSimpArgs false
namespace Go.Proofs.Ytnoimnijoklkdaa
open Go.RowKit

/-- A patch as a value. -/
def ptV (p : Blk.Pt) : Value := .agg #[.bool p.cut, .int .i64 p.at_, .int .i64 p.n, .string ⟨p.s.toArray⟩]

set_option maxHeartbeats 800000 in
set_option maxRecDepth 100000 in
theorem may_any (p : Blk.Pt) (w : World) (hl : p.s.length ≤ 1000000000) :
    Calls Try.prog 115 #[ptV p] w fun e w' => e = .returned (.bool (Blk.may p)) ∧ Upd (fun _ => False) w w' := by
  obtain ⟨cut, at_, n, s⟩ := p
  unfold ptV
  dsimp only at hl ⊢
  cases cut with
  | true =>
    by_cases h0 : s.length = 0
    · obtain rfl : s = [] := List.eq_nil_of_length_eq_zero h0
      obtain ⟨r, hr⟩ : ∃ r, r = Blk.may ⟨true, at_, n, []⟩ := ⟨_, rfl⟩
      rw [← hr]
      have HR := Lib.hid hr
      clear hr h0
      go_enter Try.func115, Try.ntmps115
      go_wp2
      all_goals go_ret
      all_goals refine ⟨ret_bool ?_, (Upd.refl _ _).alloc _⟩
      all_goals (rw [HR.out, Bool.eq_iff_iff]; simp [Blk.may]; try (first | omega | simp_all))
    · have h3 : s.isEmpty = false := by cases s <;> simp at h0 ⊢
      have hs : s = [] ↔ False := by cases s <;> simp at h0 ⊢
      obtain ⟨r, hr⟩ : ∃ r, r = Blk.may ⟨true, at_, n, s⟩ := ⟨_, rfl⟩
      rw [← hr]
      have HR := Lib.hid hr
      clear hr h0
      go_enter Try.func115, Try.ntmps115
      go_wp2
      all_goals go_ret
      all_goals refine ⟨ret_bool ?_, (Upd.refl _ _).alloc _⟩
      all_goals (rw [HR.out]; simp [Blk.may, hs])
  | false =>
    by_cases h0 : s.length = 0
    · obtain rfl : s = [] := List.eq_nil_of_length_eq_zero h0
      have hr : Blk.may ⟨false, at_, n, []⟩ = false := by simp [Blk.may]
      rw [hr]
      clear hr h0
      go_enter Try.func115, Try.ntmps115
      go_wp2
      all_goals go_ret
      all_goals exact ⟨rfl, (Upd.refl _ _).alloc _⟩
    · have h3 : s.isEmpty = false := by cases s <;> simp at h0 ⊢
      have hs : s = [] ↔ False := by cases s <;> simp at h0 ⊢
      obtain ⟨r, hr⟩ : ∃ r, r = Blk.may ⟨false, at_, n, s⟩ := ⟨_, rfl⟩
      rw [← hr]
      have HR := Lib.hid hr
      clear hr
      have h1 : 0 < s.length := by omega
      clear h0
      go_enter Try.func115, Try.ntmps115
      go_wp2
      all_goals go_ret
      all_goals refine ⟨ret_bool ?_, (Upd.refl _ _).alloc _⟩
      all_goals (rw [HR.out, Bool.eq_iff_iff]; simp [Blk.may]; try (first | omega | simp_all))

end Go.Proofs.Ytnoimnijoklkdaa
