/- The document's device: Read, Sure, Write, Waiting, New. -/
import Derived.Test.YthdkhmmabfnnkaaRef0
set_option linter.unusedVariables false
set_option linter.unusedSimpArgs false
namespace Go.Proofs.Ythdkhmmabfnnkaa
open Go.RowKit Go.Maps

namespace Rv
def shown (x : Sec) : List UInt8 := Dv.full (if x.waits then x.shows else x.sure)
def readE (r : List Sec) (k : Int) : List UInt8 × Int := if k < 0 ∨ (r.length : Int) ≤ k then ([], 2) else (shown (cell r k.toNat), 0)
def sureS (r : List Sec) (k : Int) : List UInt8 := if k < 0 ∨ (r.length : Int) ≤ k then [] else Dv.full (cell r k.toNat).sure
def writeE (r : List Sec) (k : Int) (s : List UInt8) : List Sec × Int :=
  if k < 0 ∨ (r.length : Int) ≤ k then (r, 2) else if 128 < s.length then (r, 3) else (r.set k.toNat ⟨(cell r k.toNat).sure, s, true⟩, 0)
def waitsN (r : List Sec) : Nat := (r.filter fun x => x.waits).length
def newR (n : Nat) : List Sec := List.replicate n nought
end Rv

theorem ref_Read {w : World} {b g cap : Nat} {r : List Rv.Sec} (h : RefAt w b g cap r) (k : Int) :
    Calls Try.prog 37 #[.pointer (some ⟨b, 0, none⟩), .int .i64 k] w (StrE (Rv.readE r k) w) := by
  have hh := ref_has h k
  unfold Rv.readE
  by_cases hk : k < 0 ∨ (r.length : Int) ≤ k
  · rw [if_pos hk] at hh ⊢
    have HH := Lib.hid hh
    clear hh hk
    go_enter Try.func37, Try.ntmps37
    go_wp2_with (go_at_call 49; refine HH.out.mono ?_; rintro e w' ⟨rfl, rfl⟩)
    go_ret2
    exact ⟨rfl, Upd.refl _ _⟩
  · rw [if_neg hk] at hh ⊢
    obtain ⟨m, rfl⟩ := Int.eq_ofNat_of_zero_le (show 0 ≤ k by omega)
    have hm : m < r.length := by omega
    have hl1 := h.ok.2.1
    obtain ⟨c0, c1, c2⟩ := h.cells m hm
    have d0 := cell_heap h.dev 0 _ rfl
    obtain ⟨o1, o2⟩ := Rv.cell_ok h.ok m hm
    simp only [Int.toNat_natCast]
    obtain ⟨n, hn⟩ : ∃ n, n = r.length := ⟨_, rfl⟩
    rw [← hn] at d0 hm hl1
    generalize Rv.cell r m = x at c0 c1 c2 o1 o2 ⊢
    obtain ⟨a, s, q⟩ := x
    dsimp only at c0 c1 c2 o1 o2
    have F1 := Lib.hid (fun w => ref_Full a w o1)
    have F2 := Lib.hid (fun w => ref_Full s w o2)
    have HH := Lib.hid hh
    clear hh hk h hn
    cases q
    · go_enter Try.func37, Try.ntmps37
      go_wp2_with (first
        | (go_at_call 49; refine HH.out.mono ?_; rintro e w' ⟨rfl, rfl⟩)
        | (go_at_call 50; refine (F1.out _).mono ?_; rintro e w1 ⟨rfl, u1⟩))
      go_ret2
      exact ⟨rfl, u1⟩
    · go_enter Try.func37, Try.ntmps37
      go_wp2_with (first
        | (go_at_call 49; refine HH.out.mono ?_; rintro e w' ⟨rfl, rfl⟩)
        | (go_at_call 50; refine (F2.out _).mono ?_; rintro e w1 ⟨rfl, u1⟩))
      go_ret2
      exact ⟨rfl, u1⟩
theorem noref_Read (k : Int) (w : World) : Calls Try.prog 37 #[.pointer none, .int .i64 k] w (StrE ([], 1) w) := by
  have HH := Lib.hid (noref_has k w)
  go_enter Try.func37, Try.ntmps37
  go_wp2_with (go_at_call 49; refine HH.out.mono ?_; rintro e w' ⟨rfl, rfl⟩)
  go_ret2
  exact ⟨rfl, Upd.refl _ _⟩

theorem ref_Sure {w : World} {b g cap : Nat} {r : List Rv.Sec} (h : RefAt w b g cap r) (k : Int) :
    Calls Try.prog 38 #[.pointer (some ⟨b, 0, none⟩), .int .i64 k] w (StrR (Rv.sureS r k) w) := by
  have hh := ref_has h k
  unfold Rv.sureS
  by_cases hk : k < 0 ∨ (r.length : Int) ≤ k
  · rw [if_pos hk] at hh ⊢
    have HH := Lib.hid hh
    clear hh hk
    go_enter Try.func38, Try.ntmps38
    go_wp2_with (go_at_call 49; refine HH.out.mono ?_; rintro e w' ⟨rfl, rfl⟩)
    go_ret
    exact ⟨rfl, Upd.refl _ _⟩
  · rw [if_neg hk] at hh ⊢
    obtain ⟨m, rfl⟩ := Int.eq_ofNat_of_zero_le (show 0 ≤ k by omega)
    have hm : m < r.length := by omega
    have hl1 := h.ok.2.1
    obtain ⟨c0, c1, c2⟩ := h.cells m hm
    have d0 := cell_heap h.dev 0 _ rfl
    obtain ⟨o1, o2⟩ := Rv.cell_ok h.ok m hm
    simp only [Int.toNat_natCast]
    obtain ⟨n, hn⟩ : ∃ n, n = r.length := ⟨_, rfl⟩
    rw [← hn] at d0 hm hl1
    generalize Rv.cell r m = x at c0 c1 c2 o1 o2 ⊢
    have F1 := Lib.hid (fun w => ref_Full x.sure w o1)
    have HH := Lib.hid hh
    clear hh hk h hn c1 c2
    go_enter Try.func38, Try.ntmps38
    go_wp2_with (first
      | (go_at_call 49; refine HH.out.mono ?_; rintro e w' ⟨rfl, rfl⟩)
      | (go_at_call 50; refine (F1.out _).mono ?_; rintro e w1 ⟨rfl, u1⟩))
    go_ret
    exact ⟨rfl, u1⟩
theorem noref_Sure (k : Int) (w : World) : Calls Try.prog 38 #[.pointer none, .int .i64 k] w (StrR [] w) := by
  have HH := Lib.hid (noref_has k w)
  go_enter Try.func38, Try.ntmps38
  go_wp2_with (go_at_call 49; refine HH.out.mono ?_; rintro e w' ⟨rfl, rfl⟩)
  go_ret
  exact ⟨rfl, Upd.refl _ _⟩

theorem ref_Write {w : World} {b g cap : Nat} {r : List Rv.Sec} (h : RefAt w b g cap r) (k : Int) (s : List UInt8) (hsl : s.length ≤ 9223372036854775807) :
    Calls Try.prog 33 #[.pointer (some ⟨b, 0, none⟩), .int .i64 k, .string ⟨s.toArray⟩] w fun e w' => e = .returned (.int .i64 (Rv.writeE r k s).2) ∧ RefAt w' b g cap (Rv.writeE r k s).1 ∧ Upd (fun i => i = g) w w' := by
  have hh := ref_has h k
  unfold Rv.writeE
  obtain ⟨l, hl⟩ : ∃ l, l = s.length := ⟨_, rfl⟩
  have hsz : s.toArray.size = l := by rw [hl]; simp
  rw [← hl] at hsl ⊢
  by_cases hk : k < 0 ∨ (r.length : Int) ≤ k
  · rw [if_pos hk] at hh ⊢
    have HH := Lib.hid hh
    have H := Lib.hid h
    clear hh hk h hl
    go_enter Try.func33, Try.ntmps33
    go_wp2_with (go_at_call 49; refine HH.out.mono ?_; rintro e w' ⟨rfl, rfl⟩)
    go_ret
    exact ⟨rfl, H.out, Upd.refl _ _⟩
  · rw [if_neg hk] at hh ⊢
    by_cases hs : 128 < l
    · rw [if_pos hs]
      have HH := Lib.hid hh
      have H := Lib.hid h
      clear hh hk h hl
      go_enter Try.func33, Try.ntmps33
      go_wp2_with (go_at_call 49; refine HH.out.mono ?_; rintro e w' ⟨rfl, rfl⟩)
      go_ret
      exact ⟨rfl, H.out, Upd.refl _ _⟩
    · rw [if_neg hs]
      obtain ⟨m, rfl⟩ := Int.eq_ofNat_of_zero_le (show 0 ≤ k by omega)
      have hm : m < r.length := by omega
      have hl1 := h.ok.2.1
      obtain ⟨cs, hb, hcs, hcc⟩ := h.row
      obtain ⟨c0, c1, c2⟩ := h.cells m hm
      have d0 := cell_heap h.dev 0 _ rfl
      obtain ⟨o1, o2⟩ := Rv.cell_ok h.ok m hm
      have f1 := free_heap hb (m * 3 + 1)
      have f2 := free_heap hb (m * 3 + 2)
      have hne := h.ne
      simp only [Int.toNat_natCast]
      have hU : Upd (fun i => i = g) w ((w.setCell ⟨g, m * 3 + 2, none⟩ (.bool true)).setCell ⟨g, m * 3 + 1, none⟩ (.string ⟨s.toArray⟩)) :=
        Upd.setCell (Upd.setCell (Upd.refl (fun i => i = g) w) (p := ⟨g, m * 3 + 2, none⟩) (fun _ => rfl) _) (p := ⟨g, m * 3 + 1, none⟩) (fun _ => rfl) _
      have U := Lib.hid hU
      have H : Hid (RefAt ((w.setCell ⟨g, m * 3 + 2, none⟩ (.bool true)).setCell ⟨g, m * 3 + 1, none⟩ (.string ⟨s.toArray⟩)) b g cap (r.set m ⟨(Rv.cell r m).sure, s, true⟩)) := by
        refine h.set m hm ⟨(Rv.cell r m).sure, s, true⟩ ⟨o1, by show s.length ≤ 128; omega⟩ hU (fun e => hne e) (fun cs' hb' => ?_)
        refine ⟨_, heap_setCell_eq (heap_setCell_eq hb' _) _, by simp, fun hlt => ⟨?_, ?_, ?_⟩, fun j j0 j1 j2 => ?_⟩
        · rw [hb] at hb'
          simp only [Option.some.injEq, Obj.cells.injEq, and_true] at hb'
          subst hb'
          rw [Array.getElem?_setIfInBounds_ne (by omega), Array.getElem?_setIfInBounds_ne (by omega)]
          exact (hcc m _ (Rv.cell_at r m hm)).1
        · rw [Array.getElem?_setIfInBounds_self_of_lt (by simp; omega)]
        · rw [Array.getElem?_setIfInBounds_ne (by omega), Array.getElem?_setIfInBounds_self_of_lt (by omega)]
        · rw [Array.getElem?_setIfInBounds_ne (by omega), Array.getElem?_setIfInBounds_ne (by omega)]
      obtain ⟨n, hn⟩ : ∃ n, n = r.length := ⟨_, rfl⟩
      rw [← hn] at d0 hm hl1
      have HH := Lib.hid hh
      clear hh hk h hl hn hcc hcs o1 o2 hU
      go_enter Try.func33, Try.ntmps33
      go_wp2_with (go_at_call 49; refine HH.out.mono ?_; rintro e w' ⟨rfl, rfl⟩)
      go_ret
      exact ⟨rfl, H, U⟩
theorem noref_Write (k : Int) (s : ByteArray) (w : World) : Calls Try.prog 33 #[.pointer none, .int .i64 k, .string s] w fun e w' => e = .returned (.int .i64 1) ∧ w = w' := by
  have HH := Lib.hid (noref_has k w)
  go_enter Try.func33, Try.ntmps33
  go_wp2_with (go_at_call 49; refine HH.out.mono ?_; rintro e w' ⟨rfl, rfl⟩)
  go_ret
  exact ⟨rfl, rfl⟩

end Go.Proofs.Ythdkhmmabfnnkaa
