/- A set of sectors: Take: what it gives; refused; all. -/
import Derived.Test.YtieohjibccjliaaSpF
set_option linter.unusedVariables false
set_option linter.unusedSimpArgs false
namespace Go.Proofs.Ytieohjibccjliaa
open Go.RowKit Go.Shelf

def takeL (l : List Ex) (last : Int) : List Ex :=
  match l.drop (findN l last) with
  | [] => []
  | x :: q => if last + 1 < x.1 + x.2 then (last + 1, x.1 + x.2 - last - 1) :: q else q
/-- What is taken, the error, what is left. -/
def takeA (l : List Ex) (k : Int) : List Int × Int × List Ex :=
  if k < 1 then ([], 2, l) else if cntE l < k then ([], 7, l) else if k = cntE l then (flatE l, 0, []) else ((flatE l).take k.toNat, 0, takeL l ((flatE l).getD (k.toNat - 1) 0))
def TakeP (w : World) (b : Nat) (row : Option Nat) (n : Int) (r : List Int × Int × List Ex) (e : Ending) (w' : World) : Prop :=
  ∃ v, e = .returned (.tuple #[v, .int .i64 r.2.1]) ∧ w'.ownsRow w.heap.size 3 1 v r.1.length (r.1.map (Value.int .i64)) ∧ SpP w b row n r.2.2 w'
theorem take_low {w : World} {b : Nat} {row : Option Nat} {n : Int} {v : Value} {l : List Ex} (h : SpAt w b row n v l) (hok : SpOk n l) (k : Int) (hk : k < 1) :
    Calls Try.prog 34 #[.pointer (some ⟨b, 0, none⟩), .int .i64 k] w (TakeP w b row n ([], 2, l)) := by
  have u1 : Upd (fun _ => False) w (w.alloc (.cells #[.int .i64 k] 3)) := (Upd.refl _ _).alloc _
  have h1 := h.upd u1 (fun f => f) (fun _ _ f => f)
  have HC := Lib.hid (sp_Count h1 hok)
  have HI := fun w' (hu : Upd (fun _ => False) (w.alloc (.cells #[.int .i64 k] 3)) w') => Lib.hid (sp_is (h1.upd hu (fun f => f) (fun _ _ f => f)))
  rw [decide_eq_true (show 0 < n by have := hok.1; omega)] at HI
  have ck := cell_heap (heap_alloc_new w (.cells #[.int .i64 k] 3)) 0 _ rfl
  have HU1 := Lib.hid u1
  have HS := Lib.hid h
  clear h h1 hok u1
  generalize cntE l = C at HC
  go_enter Try.func34, Try.ntmps34
  go_wp2_with (fail)
  refine HC.out.mono ?_
  rintro e w1 ⟨rfl, u2⟩
  have ck1 := u2.cell ck (fun f => f)
  go_wp2_with (go_at_call 52; refine (HI _ u2).out.mono ?_; rintro e w' ⟨rfl, rfl⟩)
  go_ret2
  exact ⟨_, rfl, World.ownsRow_nil _ _ _ _, SpP.same HS.out (HU1.out.trans u2 (fun _ _ f => f))⟩
theorem take_high {w : World} {b : Nat} {row : Option Nat} {n : Int} {v : Value} {l : List Ex} (h : SpAt w b row n v l) (hok : SpOk n l) (k : Int) (hk : 1 ≤ k) (hk2 : cntE l < k) :
    Calls Try.prog 34 #[.pointer (some ⟨b, 0, none⟩), .int .i64 k] w (TakeP w b row n ([], 7, l)) := by
  have u1 : Upd (fun _ => False) w (w.alloc (.cells #[.int .i64 k] 3)) := (Upd.refl _ _).alloc _
  have h1 := h.upd u1 (fun f => f) (fun _ _ f => f)
  have HC := Lib.hid (sp_Count h1 hok)
  have HI := fun w' (hu : Upd (fun _ => False) (w.alloc (.cells #[.int .i64 k] 3)) w') => Lib.hid (sp_is (h1.upd hu (fun f => f) (fun _ _ f => f)))
  rw [decide_eq_true (show 0 < n by have := hok.1; omega)] at HI
  have ck := cell_heap (heap_alloc_new w (.cells #[.int .i64 k] 3)) 0 _ rfl
  have HU1 := Lib.hid u1
  have HS := Lib.hid h
  clear h h1 hok u1
  generalize cntE l = C at HC hk2
  have hk3 : ¬ (k < 1) := by omega
  go_enter Try.func34, Try.ntmps34
  go_wp2_with (fail)
  refine HC.out.mono ?_
  rintro e w1 ⟨rfl, u2⟩
  have ck1 := u2.cell ck (fun f => f)
  go_wp2_with (go_at_call 52; refine (HI _ u2).out.mono ?_; rintro e w' ⟨rfl, rfl⟩)
  go_ret2
  exact ⟨_, rfl, World.ownsRow_nil _ _ _ _, SpP.same HS.out (HU1.out.trans u2 (fun _ _ f => f))⟩
theorem run_clearN {P : Program} (w : World) (t e : TypeId) (z1 z2 : Value) (ht : P.underlying t = some (.slice e)) (hv : ∀ w, (zeroValue e).run P w = .ok (.agg #[z1, z2]) w) (h1 : z1.oneCell' = true ∧ z2.oneCell' = true) (b o m c : Nat)
    (hc : ∀ j, j < 2 * (m + 1) → (w.cell? ⟨b, o + j, none⟩).isSome = true) (hf : ∀ j, j < 2 * (m + 1) → w.frozen? ⟨b, o + j, none⟩ = false) :
    ∃ vs : List Value, vs.length = 2 * (m + 1) ∧ ∀ ty, (Builtin.clear_ #[t] ty #[.slice (some ⟨b, o, none⟩) (m + 1) c]).run P w = .ok (.tuple #[]) (w.setCells b o vs) := by
  have hlen : (Builtin.zeroCells (Value.agg #[z1, z2]).cells (m + 1)).toList.length = 2 * (m + 1) := by
    simp [Builtin.zeroCells, Value.cells]
    omega
  refine ⟨(Builtin.zeroCells (Value.agg #[z1, z2]).cells (m + 1)).toList, hlen, fun ty => ?_⟩
  have hst := run_storeCells_cells (P := P) b o (Builtin.zeroCells (Value.agg #[z1, z2]).cells (m + 1)).toList 0 w (by rw [hlen]; simpa using hc) (by rw [hlen]; simpa using hf) (by
    intro v hv'
    simp only [Builtin.zeroCells, Value.cells] at hv'
    simp at hv'
    obtain ⟨i, _, rfl⟩ := hv'
    rcases Nat.mod_two_eq_zero_or_one i with e | e <;> simp [e, h1])
  simp only [Nat.add_zero] at hst
  simp [Builtin.clear_, run_underlying ht, hv, hst]

end Go.Proofs.Ytieohjibccjliaa
