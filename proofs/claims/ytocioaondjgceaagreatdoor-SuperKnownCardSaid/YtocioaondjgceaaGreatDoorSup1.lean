/- Superblocks: which may be, their text, the superblock that bytes are. -/
import Derived.Test.YtocioaondjgceaaGreatDoorSeal9
set_option linter.unusedVariables false
set_option linter.unusedSimpArgs false
namespace Go.Proofs.YtocioaondjgceaaGreatDoor
open Go.RowKit

namespace Sp
structure Sup where
  gen : Nat
  calls : Nat
  root : Int
  table : Int
  sectors : Int
def within (x s : Int) : Bool := decide (66 ≤ x ∧ x < s)
def may (s : Sup) : Bool := decide (0 < s.gen) && (decide (512 ≤ s.sectors) && (decide (s.sectors ≤ 4096) && (within s.root s.sectors && within s.table s.sectors)))
def zero : Sup := ⟨0, 0, 0, 0, 0⟩
def txt (s : Sup) : List UInt8 := be 8 s.calls ++ be 2 s.root.toNat ++ be 2 s.table.toNat ++ be 2 s.sectors.toNat
def put (s : Sup) : List UInt8 × Int := if may s = false then ([], 4) else Sl.stamp s.gen 0 (txt s) 128
def of (g : Nat) (x : List UInt8) : Sup := ⟨g, ofBe (x.take 8), ofBe ((x.drop 8).take 2), ofBe ((x.drop 10).take 2), ofBe ((x.drop 12).take 2)⟩
def fin (len i : Nat) (x : List UInt8) (y : Sup) : Sup × Int := if len ≠ 128 ∨ i ≠ 0 ∨ x.length ≠ 14 ∨ may y = false then (zero, 4) else (y, 0)
noncomputable def take (t : List UInt8) : Sup × Int :=
  if (Sl.unstampR t).2.2.2 ≠ 0 then (zero, (Sl.unstampR t).2.2.2) else fin t.length (Sl.unstampR t).2.1 (Sl.unstampR t).2.2.1 (of (Sl.unstampR t).1 (Sl.unstampR t).2.2.1)
theorem may_iff (s : Sup) : may s = true ↔ 0 < s.gen ∧ 512 ≤ s.sectors ∧ s.sectors ≤ 4096 ∧ 66 ≤ s.root ∧ s.root < s.sectors ∧ 66 ≤ s.table ∧ s.table < s.sectors := by
  simp [may, within]; omega
theorem txt_len (s : Sup) : (txt s).length = 14 := by simp [txt, be_len]
end Sp
def supV (s : Sp.Sup) : Value := .agg #[.int .u64 s.gen, .int .u64 s.calls, .int .i64 s.root, .int .i64 s.table, .int .i64 s.sectors]
def supC (s : Sp.Sup) : Array Value := #[.int .u64 s.gen, .int .u64 s.calls, .int .i64 s.root, .int .i64 s.table, .int .i64 s.sectors]
def SupE (r : Sp.Sup × Int) (w : World) (e : Ending) (w' : World) : Prop := e = .returned (.tuple #[supV r.1, .int .i64 r.2]) ∧ Upd (fun _ => False) w w'
def BoolR (b : Bool) (w : World) (e : Ending) (w' : World) : Prop := e = .returned (.bool b) ∧ Upd (fun _ => False) w w'
theorem retb {a b : Bool} (h : a = b) : Ending.returned (.bool a) = .returned (.bool b) := by rw [h]

theorem within_1 (x s : Int) (b : Nat) (w : World) (h : w.cell? ⟨b, 4, none⟩ = some (.int .i64 s)) :
    Calls Tryz.prog 75 #[.int .i64 x, .pointer (some ⟨b, 0, none⟩)] w fun e w' => e = .returned (.bool (Sp.within x s)) ∧ w = w' := by
  go_enter Tryz.func75, Tryz.ntmps75
  go_wp2
  all_goals
    go_ret
    exact ⟨retb (by simp [Sp.within]; try omega), rfl⟩

set_option maxHeartbeats 800000 in
theorem sup_may (s : Sp.Sup) (w : World) (hg : s.gen < 18446744073709551616) :
    Calls Tryz.prog 45 #[supV s] w (BoolR (Sp.may s) w) := by
  have hmf : ∀ (fn : Fn) (first cap : Array Value) (w : World), (Instr.makeFunc fn first cap).run Tryz.prog w = .ok (.func fn first cap) w := fun _ _ _ _ => rfl
  obtain ⟨g, c, r, t, n⟩ := s
  unfold supV
  dsimp only at hg ⊢
  have hb := heap_alloc_new w (.cells #[.int .u64 g, .int .u64 c, .int .i64 r, .int .i64 t, .int .i64 n] 25)
  have h4 := cell_heap hb 4 (.int .i64 n) rfl
  have hu := (Upd.refl (fun _ => False) w).alloc (.cells #[.int .u64 g, .int .u64 c, .int .i64 r, .int .i64 t, .int .i64 n] 25)
  have H1 := Lib.hid (fun x => within_1 x n w.heap.size _ h4)
  go_enter Tryz.func45, Tryz.ntmps45
  go_wp2_with (go_at_call 75; refine (H1.out _).mono ?_; rintro e w1 ⟨rfl, rfl⟩)
  all_goals
    go_ret
    refine ⟨retb ?_, hu⟩
    simp only [Sp.may]
    simp_all <;> omega

set_option maxHeartbeats 800000 in
theorem ref_May (s : Sp.Sup) (w : World) (hg : s.gen < 18446744073709551616) :
    Calls Tryz.prog 70 #[supV s] w (BoolR (Sp.may s) w) := by
  obtain ⟨g, c, r, t, n⟩ := s
  unfold supV
  dsimp only at hg ⊢
  have hu := (Upd.refl (fun _ => False) w).alloc (.cells #[.int .u64 g, .int .u64 c, .int .i64 r, .int .i64 t, .int .i64 n] 57)
  go_enter Tryz.func70, Tryz.ntmps70
  go_wp2
  all_goals
    go_ret
    refine ⟨retb ?_, hu⟩
    simp only [Sp.may, Sp.within]
    simp_all <;> omega

theorem sup_Slot (g : Nat) (w : World) (hg : g < 18446744073709551616) :
    Calls Tryz.prog 29 #[.int .u64 g] w fun e w' => e = .returned (.int .i64 (g % 2 : Nat)) ∧ w = w' := by
  have e1 : Int.tmod (g : Int) 2 = ((g % 2 : Nat) : Int) := (Int.ofNat_tmod _ _).symm
  obtain ⟨k, hk⟩ : ∃ k, k = g % 2 := ⟨_, rfl⟩
  have hk2 : k < 2 := by omega
  rw [← hk] at e1 ⊢
  have e2 : (g : Int) % 2 = (k : Int) := by omega
  clear hk
  go_enter Tryz.func29, Tryz.ntmps29
  go_wp2
  go_ret
  exact ⟨rfl, rfl⟩
theorem ref_Slot (g : Nat) (w : World) (hg : g < 18446744073709551616) :
    Calls Tryz.prog 43 #[.int .u64 g] w fun e w' => e = .returned (.int .i64 (g % 2 : Nat)) ∧ w = w' := by
  have e1 : Int.tmod (g : Int) 2 = ((g % 2 : Nat) : Int) := (Int.ofNat_tmod _ _).symm
  obtain ⟨k, hk⟩ : ∃ k, k = g % 2 := ⟨_, rfl⟩
  have hk2 : k < 2 := by omega
  rw [← hk] at e1 ⊢
  have e2 : (g : Int) % 2 = (k : Int) := by omega
  clear hk
  rcases (show k = 0 ∨ k = 1 by omega) with rfl | rfl
  all_goals
    go_enter Tryz.func43, Tryz.ntmps43
    go_wp2
    go_ret
    exact ⟨rfl, rfl⟩

end Go.Proofs.YtocioaondjgceaaGreatDoor
