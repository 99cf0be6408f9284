/- What blocks and patches are, as lists of bytes: plain functions, no program. -/
import Derived.Test.YtiabomfkmfokeaaDoorBase
set_option linter.unusedVariables false
set_option linter.unusedSimpArgs false
namespace Go.Proofs.YtiabomfkmfokeaaDoor
namespace Blk

structure Pt where
  cut : Bool
  at_ : Int
  n : Int
  s : List UInt8

def zero : Pt := ⟨false, 0, 0, []⟩
def check (v : List UInt8) : Int := if v.length = 0 then 4 else if 64 < v.length then 4 else if v.getLastD 1 = 0 then 4 else 0
def trimB (c : UInt8) (s : List UInt8) : List UInt8 := (s.reverse.dropWhile (· == c)).reverse
def trim (s : List UInt8) : List UInt8 := trimB 0 s
def byteAt (v : List UInt8) (i : Nat) : UInt8 := v.getD i 0
def at_ (v : List UInt8) (frm n : Int) : List UInt8 := (List.range (min n 64).toNat).map fun i => byteAt v (frm.toNat + i)
def may (p : Pt) : Bool :=
  if p.cut then decide (0 ≤ p.n ∧ p.n < 64 ∧ p.at_ = 0 ∧ p.s.length = 0) else decide (0 < p.s.length ∧ p.s.length ≤ 64 ∧ 0 ≤ p.at_ ∧ p.at_ ≤ 64 - p.s.length ∧ p.n = 0)
def put (p : Pt) : List UInt8 × Int :=
  if may p = false then ([], 4) else if p.cut then ([2, UInt8.ofNat p.n.toNat], 0) else ([1, UInt8.ofNat p.at_.toNat, 0, UInt8.ofNat p.s.length] ++ p.s, 0)
def fin (p : Pt) (over : Bool) : Pt × Int := if over = true ∨ may p = false then (zero, 4) else (p, 0)
def takeCut : List UInt8 → Pt × Int
  | [] => (zero, 10)
  | n :: r => fin ⟨true, 0, n.toNat, []⟩ (!r.isEmpty)
def takeSplice : List UInt8 → Pt × Int
  | a :: h :: l :: r => let n := h.toNat * 256 + l.toNat
    if r.length < n then (zero, 10) else fin ⟨false, a.toNat, 0, r.take n⟩ (decide (n < r.length))
  | _ => (zero, 10)
def take : List UInt8 → Pt × Int
  | [] => (zero, 10)
  | k :: r => if k = 2 then takeCut r else if k = 1 then takeSplice r else (zero, 4)
/-- The 64 bytes behind a patch. -/
def over (v : List UInt8) (p : Pt) (i : Nat) : UInt8 :=
  if may p = false then byteAt (v.take 64) i
  else if p.cut then (if (i : Int) < p.n then byteAt (v.take 64) i else 0)
  else if p.at_ ≤ i ∧ i < p.at_ + p.s.length then p.s.getD (i - p.at_.toNat) 0 else byteAt (v.take 64) i
def apply (v : List UInt8) (p : Pt) : List UInt8 := trim ((List.range 64).map (over v p))

theorem trimB_nil (c : UInt8) : trimB c [] = [] := rfl
theorem trimB_last {cur : List UInt8} {c : UInt8} (h : cur.length - 1 < cur.length) (hx : cur[cur.length - 1] = c) : trimB c (cur.take (cur.length - 1)) = trimB c cur := by
  obtain ⟨i, x, rfl⟩ : ∃ i x, cur = i ++ [x] := by
    rcases List.eq_nil_or_concat cur with rfl | ⟨i, x, rfl⟩
    · simp at h
    · exact ⟨i, x, by simp⟩
  simp at hx
  simp [trimB, hx]
theorem trimB_stop {cur : List UInt8} {c : UInt8} (h : cur.length - 1 < cur.length) (hx : cur[cur.length - 1] ≠ c) : trimB c cur = cur := by
  obtain ⟨i, x, rfl⟩ : ∃ i x, cur = i ++ [x] := by
    rcases List.eq_nil_or_concat cur with rfl | ⟨i, x, rfl⟩
    · simp at h
    · exact ⟨i, x, by simp⟩
  simp at hx
  simp [trimB, hx]

theorem getLastD_eq (l : List UInt8) (h : l.length - 1 < l.length) (d : UInt8) : l.getLastD d = l[l.length - 1] := by
  rw [List.getLastD_eq_getLast?, List.getLast?_eq_getElem?, List.getElem?_eq_getElem h]; rfl

end Blk
end Go.Proofs.YtiabomfkmfokeaaDoor
