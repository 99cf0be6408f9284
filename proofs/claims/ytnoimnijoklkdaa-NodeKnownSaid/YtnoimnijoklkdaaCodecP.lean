/- Texts that belong together: YtnoimnijoklkdaaCodecK, YtnoimnijoklkdaaCodecP. -/
import Derived.Test.YtnoimnijoklkdaaCodec
/- A writer, since the world in which it was made. -/
set_option linter.unusedVariables false
set_option linter.unusedSimpArgs false
namespace Go.Proofs.Ytnoimnijoklkdaa
open Go.RowKit

/-! ### A writer since the world in which it was made -/
/-- The writer at b has the bytes bs; beside it the old blocks of w0 are as they were. -/
def Wk (w0 w : World) (b : Nat) (bs : List UInt8) : Prop := ∃ r, Wr w b r bs 0 ∧ Newer w0 none r ∧ Upd (fun k => k = b) w0 w

theorem Wk.new (w : World) : Wk (w.alloc (.cells #[.slice none 0 0, .int .i64 0] 118)) (w.alloc (.cells #[.slice none 0 0, .int .i64 0] 118)) w.heap.size [] :=
  ⟨none, ⟨_, heap_alloc_new w _, World.ownsRow_nil _ _ _ _, rfl⟩, Newer.refl _ _, Upd.refl _ _⟩
theorem Wk.heap {w0 w : World} {b : Nat} {bs : List UInt8} (h : Wk w0 w b bs) {k : Nat} {o : Obj} (hk : w0.heap[k]? = some o) (hn : k ≠ b) : w.heap[k]? = some o := by
  obtain ⟨r, _, _, hu⟩ := h; exact hu.heap hk hn
theorem Wk.cell {w0 w : World} {b : Nat} {bs : List UInt8} (h : Wk w0 w b bs) {a : Addr} {v : Value} (hc : w0.cell? a = some v) (hn : a.block ≠ b) : w.cell? a = some v := by
  obtain ⟨r, _, _, hu⟩ := h; exact hu.cell hc hn
theorem Wk.upd {w0 w : World} {b : Nat} {bs : List UInt8} (h : Wk w0 w b bs) : Upd (fun k => k = b) w0 w := by obtain ⟨r, _, _, hu⟩ := h; exact hu
/-- A step of something else leaves the writer. -/
theorem Wk.other {w0 w w' : World} {b : Nat} {bs : List UInt8} (h : Wk w0 w b bs) (hu : Upd (fun _ => False) w w') : Wk w0 w' b bs := by
  obtain ⟨r, ⟨v, hh, hown, hr⟩, hn, hu0⟩ := h
  exact ⟨r, ⟨v, hu.heap hh (fun f => f), hu.owns hown (fun _ _ f => f), hr⟩, hn, hu0.trans hu (fun _ _ f => f.elim)⟩
theorem Wk.next {w0 w w' : World} {b : Nat} {bs' : List UInt8} (r r' : Option Nat) (hn : Newer w0 none r) (hu : Upd (fun k => k = b) w0 w) (h : Wr w' b r' bs' 0) (hn' : Newer w r r') (hu' : Upd (WF b r) w w') : Wk w0 w' b bs' :=
  ⟨r', h, hn.trans hn' hu.size, hu.trans hu' (fun i hi hf => by
    rcases hf with hf | hf
    · exact hf
    · rcases hn with rfl | ⟨g, rfl, hg⟩
      · simp at hf
      · simp at hf; omega)⟩
theorem Wk_U8 {w0 w : World} {b : Nat} {bs : List UInt8} (h : Wk w0 w b bs) (xi : Int) (x : Nat) (hxi : xi = x) (hx : x < Two8) (hb : bs.length ≤ 1000000000) :
    Calls Try.prog 70 #[.pointer (some ⟨b, 0, none⟩), .int .u8 xi] w fun e w' => e = .returned (.tuple #[]) ∧ Wk w0 w' b (bs ++ be 1 x) := by
  obtain ⟨r, h1, h2, h3⟩ := h
  refine (Writer_U8 b r bs xi x w hxi hx hb h1).mono ?_
  rintro e w' ⟨rfl, r', k1, k2, k3⟩
  exact ⟨rfl, Wk.next r r' h2 h3 k1 k2 k3⟩
theorem Wk_U16 {w0 w : World} {b : Nat} {bs : List UInt8} (h : Wk w0 w b bs) (xi : Int) (x : Nat) (hxi : xi = x) (hx : x < Two16) (hb : bs.length ≤ 1000000000) :
    Calls Try.prog 71 #[.pointer (some ⟨b, 0, none⟩), .int .u16 xi] w fun e w' => e = .returned (.tuple #[]) ∧ Wk w0 w' b (bs ++ be 2 x) := by
  obtain ⟨r, h1, h2, h3⟩ := h
  refine (Writer_U16 b r bs xi x w hxi hx hb h1).mono ?_
  rintro e w' ⟨rfl, r', k1, k2, k3⟩
  exact ⟨rfl, Wk.next r r' h2 h3 k1 k2 k3⟩
theorem Wk_Text {w0 w : World} {b : Nat} {bs : List UInt8} (h : Wk w0 w b bs) (l : List UInt8) (hb : bs.length ≤ 900000000) (hl : l.length ≤ 65535) :
    Calls Try.prog 72 #[.pointer (some ⟨b, 0, none⟩), .string ⟨l.toArray⟩] w fun e w' => e = .returned (.tuple #[]) ∧ Wk w0 w' b (bs ++ be 2 l.length ++ l) := by
  obtain ⟨r, h1, h2, h3⟩ := h
  refine (Writer_Text b r bs l w hb hl h1).mono ?_
  rintro e w' ⟨rfl, r', k1, k2, k3⟩
  exact ⟨rfl, Wk.next r r' h2 h3 k1 k2 k3⟩
theorem Wk_Bytes {w0 w : World} {b : Nat} {bs : List UInt8} (h : Wk w0 w b bs) (hb : bs.length ≤ 1000000000) :
    Calls Try.prog 73 #[.pointer (some ⟨b, 0, none⟩)] w fun e w' => e = .returned (.tuple #[.string ⟨bs.toArray⟩, .int .i64 0]) ∧ w = w' := by
  obtain ⟨r, h1, h2, h3⟩ := h
  exact Writer_Bytes b r bs w hb h1

end Go.Proofs.Ytnoimnijoklkdaa

/- What readers answer, in plain words; two writers beside one another. -/
set_option linter.unusedVariables false
set_option linter.unusedSimpArgs false
namespace Go.Proofs.Ytnoimnijoklkdaa
open Go.RowKit

theorem fx_err (l : List UInt8) (e n : Int) (h : e ≠ 0) : fx l e n = ([], l, e) := by unfold fx; rw [if_pos (Or.inl h)]
theorem rU16_err (l : List UInt8) (e : Int) (h : e ≠ 0) : rU16 l e = (0, l, e) := by unfold rU16; rw [fx_err l e 2 h]; rfl
theorem rText_err (l : List UInt8) (e : Int) (h : e ≠ 0) : rText l e = ([], l, e) := by unfold rText; rw [rU16_err l e h]; exact fx_err l e 0 h
end Go.Proofs.Ytnoimnijoklkdaa
