/- An allocator: what calls do, in short; a number ahead of a row. -/
import Derived.Test.YtieohjibccjliaaAlB
import Derived.Laws.OwnMore
set_option linter.unusedVariables false
set_option linter.unusedSimpArgs false
namespace Go.Proofs.Ytieohjibccjliaa
open Go.RowKit Go.Shelf Go.Maps
set_option maxRecDepth 100000

theorem al_Refs {w0 w : World} {b : Nat} {s : AlS} (H : Al w0 w b s) (p : Int) (hp : inI p) : Calls Try.prog 27 #[.pointer (some ⟨b, 0, none⟩), .int .i64 p] w fun e w' => e = .returned (.int .i64 (refsA s p)) ∧ w = w' := by
  obtain ⟨h, hh⟩ := H.at_; exact at_Refs hh H.ok p hp
theorem al_Sure {w0 w : World} {b : Nat} {s : AlS} (H : Al w0 w b s) (p : Int) (hp : inI p) : Calls Try.prog 30 #[.pointer (some ⟨b, 0, none⟩), .int .i64 p] w fun e w' => e = .returned (.bool (sureA s p)) ∧ w = w' := by
  obtain ⟨h, hh⟩ := H.at_; exact at_Sure hh H.ok p hp
theorem al_Free {w0 w : World} {b : Nat} {s : AlS} (H : Al w0 w b s) : Calls Try.prog 29 #[.pointer (some ⟨b, 0, none⟩)] w fun e w' => e = .returned (.int .i64 (cntE s.free)) ∧ Upd (fun _ => False) w w' := by
  obtain ⟨h, hh⟩ := H.at_; exact at_Free hh H.ok
theorem al_Waiting {w0 w : World} {b : Nat} {s : AlS} (H : Al w0 w b s) : Calls Try.prog 15 #[.pointer (some ⟨b, 0, none⟩)] w fun e w' => e = .returned (.int .i64 (s.wait.length : Nat)) ∧ w = w' := by
  obtain ⟨h, hh⟩ := H.at_; exact at_Waiting hh
theorem al_Chain {w0 w : World} {b : Nat} {s : AlS} (H : Al w0 w b s) (p : Int) (hp : inI p) : Calls Try.prog 14 #[.pointer (some ⟨b, 0, none⟩), .int .i64 p] w (ClonedI w (chainA s p)) := by
  obtain ⟨h, hh⟩ := H.at_; exact at_Chain hh H.ok p hp
theorem al_List {w0 w : World} {b : Nat} {s : AlS} (H : Al w0 w b s) : Calls Try.prog 13 #[.pointer (some ⟨b, 0, none⟩)] w fun e w' => ∃ v, e = .returned v ∧ OwnW w.heap.size w' v (listA s) ∧ Upd (fun _ => False) w w' := by
  obtain ⟨h, hh⟩ := H.at_; exact at_List hh H.ok
theorem al_Hold {w0 w : World} {b : Nat} {s : AlS} (H : Al w0 w b s) (p : Int) (hp : inI p) : Calls Try.prog 10 #[.pointer (some ⟨b, 0, none⟩), .int .i64 p] w fun e w' => e = .returned (.int .i64 (holdA s p).1) ∧ Al w0 w' b (holdA s p).2 ∧ KeepsA w w' := by
  obtain ⟨h, hh⟩ := H.at_
  refine (at_Hold hh H.ok p hp).mono ?_
  rintro e w' ⟨rfl, ⟨h', k1⟩, k2, k3⟩
  exact ⟨rfl, Al.next H.upd hh k3 k2 k1⟩
theorem al_Drop {w0 w : World} {b : Nat} {s : AlS} (H : Al w0 w b s) (p : Int) (hp : inI p) : Calls Try.prog 11 #[.pointer (some ⟨b, 0, none⟩), .int .i64 p] w fun e w' => e = .returned (.tuple #[.bool (dropA s p).1, .int .i64 (dropA s p).2.1]) ∧ Al w0 w' b (dropA s p).2.2 ∧ KeepsA w w' := by
  obtain ⟨h, hh⟩ := H.at_
  refine (at_Drop hh H.ok H.upd.size p hp).mono ?_
  rintro e w' ⟨rfl, ⟨h', k1⟩, k2, k3⟩
  exact ⟨rfl, Al.next H.upd hh k3 k2 k1⟩
theorem al_Commit {w0 w : World} {b : Nat} {s : AlS} (H : Al w0 w b s) : Calls Try.prog 12 #[.pointer (some ⟨b, 0, none⟩)] w fun e w' => e = .returned (.tuple #[]) ∧ Al w0 w' b (commitA s) ∧ KeepsA w w' := by
  obtain ⟨h, hh⟩ := H.at_
  refine (at_Commit hh H.ok H.upd.size).mono ?_
  rintro e w' ⟨rfl, ⟨h', k1⟩, k2, k3⟩
  exact ⟨rfl, Al.next H.upd hh k3 k2 k1⟩
theorem al_Alloc {w0 w : World} {b : Nat} {s : AlS} (H : Al w0 w b s) (k : Int) : Calls Try.prog 9 #[.pointer (some ⟨b, 0, none⟩), .int .i64 k] w fun e w' => ∃ v, e = .returned (.tuple #[v, .int .i64 (allocA s k).2.1]) ∧ w'.ownsRow w.heap.size 3 1 v (allocA s k).1.length ((allocA s k).1.map (Value.int .i64)) ∧ Al w0 w' b (allocA s k).2.2 ∧ KeepsA w w' := by
  obtain ⟨h, hh⟩ := H.at_
  refine (at_Alloc hh H.ok H.upd.size k).mono ?_
  rintro e w' ⟨v, rfl, k0, ⟨h', k1⟩, k2, k3⟩
  exact ⟨v, rfl, k0, Al.next H.upd hh k3 k2 k1⟩
/-- append([]int{x}, rest...) -/
theorem app_rest {w : World} {B lo : Nat} {x : Int} {u : Value} {rr : Option Nat} {xs : List Int} (hb : w.heap[B]? = some (.cells #[.int .i64 x] 3 (0, 0))) (hlo : lo ≤ B) (h : IntsN w u rr xs) (hl : xs.length ≤ 100000) :
    ∃ v' w', (Builtin.append_ #[26, 26] 0 #[.slice (some ⟨B, 0, none⟩) 1 1, u]).run Try.prog w = .ok v' w' ∧ w'.ownsRow lo 3 1 v' (x :: xs).length ((x :: xs).map (Value.int .i64)) ∧ w.grownBy w' (some B) := by
  have hown : w.ownsRow lo 3 1 (.slice (some ⟨B, 0, none⟩) 1 1) 1 [.int .i64 x] := ⟨rfl, .inr ⟨B, 1, #[.int .i64 x], rfl, hlo, hb, Nat.le_refl _, by decide, rfl, rfl⟩⟩
  obtain ⟨i0, hi, hq0, hq1, hq2⟩ := info_parts Try.infoI
  obtain ⟨ad, cap, rfl, h1, h2, h3⟩ := id h.1
  cases ad with
  | none =>
    obtain ⟨h4, rfl⟩ := h.2 _ _ rfl
    obtain rfl : xs = [] := List.eq_nil_of_length_eq_zero h4
    exact ⟨_, w, run_append_owned_none w lo 26 0 3 i0 1 Try.underlying26 hi _ _ _ hown, hown, ⟨rfl, rfl, rfl, Nat.le_refl _, fun _ _ _ => rfl⟩⟩
  | some a =>
    obtain ⟨v', w', q1, q2, q3, _⟩ := run_append_own_at (P := Try.prog) w lo 26 0 3 i0 (.int .i64 0) 1 8 Try.underlying26 hi hq0 hq1 hq2 (by kernel_rfl) (by omega)
      (.slice (some ⟨B, 0, none⟩) 1 1) 1 _ hown a xs.length cap (xs.map (Value.int .i64)) (by simp) (ints_cells h.1 a rfl) (fun u hu => by obtain ⟨x, _, rfl⟩ := List.mem_map.1 hu; rfl) (by unfold maxLen; omega) (by omega) (by have := lt_of_heap hb; omega)
    refine ⟨v', w', q1, ?_, q3⟩
    rw [show (x :: xs).length = 1 + xs.length by simp; omega]
    exact q2

end Go.Proofs.Ytieohjibccjliaa
