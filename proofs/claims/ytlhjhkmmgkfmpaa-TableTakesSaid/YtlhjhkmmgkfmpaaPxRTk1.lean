/- rillbedref24's reader, plain; its Take's loops. -/
import Derived.Test.YtlhjhkmmgkfmpaaPxTk1
import Derived.Test.YtlhjhkmmgkfmpaaPxRChk
set_option linter.unusedVariables false
set_option linter.unusedSimpArgs false
namespace Go.Proofs.Ytlhjhkmmgkfmpaa.Px
open Go.RowKit Go.Shelf Go.Proofs.YtlhjhkmmgkfmpaaW.PrintWords Go.Proofs.YtlhjhkmmgkfmpaaW.PrintLast

def Rr (w : World) (b : Nat) (l : List UInt8) (t : Bool) : Prop := w.heap[b]? = some (.cells #[.string ⟨l.toArray⟩, .bool t] 87 (0, 0))
def tk (l : List UInt8) (t : Bool) (n : Nat) : List UInt8 × List UInt8 × Bool := if t = true ∨ l.length < n then ([], l, true) else (l.take n, l.drop n, false)
def nm (l : List UInt8) (t : Bool) (n : Nat) : Nat × List UInt8 × Bool := (ofBe (tk l t n).1, (tk l t n).2)
theorem tk_len (l : List UInt8) (t : Bool) (n : Nat) : (tk l t n).1.length ≤ n ∧ (tk l t n).2.1.length ≤ l.length := by
  unfold tk
  split
  · exact ⟨Nat.zero_le _, Nat.le_refl _⟩
  · exact ⟨by simp; omega, by simp⟩
theorem nm_le (l : List UInt8) (t : Bool) (n : Nat) : (nm l t n).2.1.length ≤ l.length := (tk_len l t n).2
theorem nm_lt2 (l : List UInt8) (t : Bool) : (nm l t 2).1 < 65536 := by
  have h1 := ofBe_lt (tk l t 2).1
  have h2 := (tk_len l t 2).1
  have : 256 ^ (tk l t 2).1.length ≤ 256 ^ 2 := Nat.pow_le_pow_right (by decide) h2
  show ofBe (tk l t 2).1 < _
  omega
theorem nm_lt1 (l : List UInt8) (t : Bool) : (nm l t 1).1 < 256 := by
  have h1 := ofBe_lt (tk l t 1).1
  have h2 := (tk_len l t 1).1
  have : 256 ^ (tk l t 1).1.length ≤ 256 ^ 1 := Nat.pow_le_pow_right (by decide) h2
  show ofBe (tk l t 1).1 < _
  omega

set_option maxHeartbeats 4000000 in
set_option maxRecDepth 100000 in
theorem rtake (b n : Nat) (l : List UInt8) (t : Bool) (w : World) (hl : l.length ≤ 1000000) (hn : n ≤ 1000000) (h : Rr w b l t) :
    Calls Try.prog 47 #[.pointer (some ⟨b, 0, none⟩), .int .i64 n] w (fun e w' => e = .returned (.string ⟨(tk l t n).1.toArray⟩) ∧ Rr w' b (tk l t n).2.1 (tk l t n).2.2 ∧ Upd (fun k => k = b) w w') := by
  have c0 := cell_heap h 0 (.string ⟨l.toArray⟩) rfl
  have c1 := cell_heap h 1 (.bool t) rfl
  have f0 := free_heap h 0
  have f1 := free_heap h 1
  obtain ⟨m, hm⟩ : ∃ m, l.length = m := ⟨_, rfl⟩
  have hz : (l.toArray).size = m := by rw [List.size_toArray, hm]
  have HM := Lib.hid hm
  have H := Lib.hid h
  cases t with
  | true =>
    have ht : tk l true n = ([], l, true) := by unfold tk; rw [if_pos (.inl rfl)]
    rw [ht]
    clear hm h
    go_enter Try.func47, Try.ntmps47
    go_wp2
    go_ret
    exact ⟨rfl, heap_setCell_eq (i := 1) H.out (.bool true), (Upd.refl (fun k => k = b) _).setCell (fun _ => rfl) _⟩
  | false =>
    by_cases hlt : m < n
    · have ht : tk l false n = ([], l, true) := by unfold tk; rw [if_pos (.inr (by omega))]
      rw [ht]
      have hb : decide ((m : Int) < (n : Int)) = true := decide_eq_true (by omega)
      have hsz : (⟨l.toArray⟩ : ByteArray).size = m := by rw [size_list, hm]
      clear hm h
      go_enter Try.func47, Try.ntmps47
      go_wp2
      go_ret
      exact ⟨rfl, heap_setCell_eq (i := 1) H.out (.bool true), (Upd.refl (fun k => k = b) _).setCell (fun _ => rfl) _⟩
    · have ht : tk l false n = (l.take n, l.drop n, false) := by unfold tk; rw [if_neg (by simp; omega)]
      rw [ht]
      have hb : decide ((m : Int) < (n : Int)) = false := decide_eq_false (by omega)
      have hsz : (⟨l.toArray⟩ : ByteArray).size = m := by rw [size_list, hm]
      have h1 : (n : Int) ≤ (m : Int) := by omega
      have h2 : n ≤ m := by omega
      have x1 : (⟨l.toArray⟩ : ByteArray).extract 0 n = ⟨(l.take n).toArray⟩ := by rw [ext_list]; simp
      have x2 : (⟨l.toArray⟩ : ByteArray).extract n m = ⟨(l.drop n).toArray⟩ := by rw [ext_list, ← hm, List.take_of_length_le (by simp)]
      clear hm h ht
      go_enter Try.func47, Try.ntmps47
      go_wp2
      go_ret
      exact ⟨rfl, heap_setCell_eq (i := 0) H.out _, (Upd.refl (fun k => k = b) _).setCell (fun _ => rfl) _⟩

set_option maxHeartbeats 4000000 in
set_option maxRecDepth 100000 in
theorem rnum (b n : Nat) (l : List UInt8) (t : Bool) (w : World) (hl : l.length ≤ 1000000) (hn : n ≤ 8) (h : Rr w b l t) :
    Calls Try.prog 46 #[.pointer (some ⟨b, 0, none⟩), .int .i64 n] w (fun e w' => e = .returned (.int .u64 ((nm l t n).1 : Nat)) ∧ Rr w' b (nm l t n).2.1 (nm l t n).2.2 ∧ Upd (fun k => k = b) w w') := by
  have hT := rtake b n l t w hl (by omega) h
  have h2 := (tk_len l t n).1
  unfold nm
  dsimp only
  generalize tk l t n = x at *
  obtain ⟨s, L, T⟩ := x
  dsimp only at hT h2 ⊢
  have hO := fun w => ref_Told s w (by omega)
  have HT := Lib.hid hT
  have HO := Lib.hid hO
  clear hT hO
  go_enter Try.func46, Try.ntmps46
  go_wp2_with (fail)
  refine HT.out.mono ?_
  rintro e w1 ⟨rfl, hR, hu⟩
  go_wp2_with (fail)
  refine (HO.out _).mono ?_
  rintro e w2 ⟨rfl, rfl⟩
  go_wp2
  go_ret
  exact ⟨rfl, hR, hu⟩

end Go.Proofs.Ytlhjhkmmgkfmpaa.Px
