/- The document's device (rillbedref10): has, Full, Read, Sure, Write, Waiting. -/
import Derived.Test.YthdkhmmabfnnkaaDev4
import Derived.Outline
set_option linter.unusedVariables false
set_option linter.unusedSimpArgs false
namespace Go.Proofs.Ythdkhmmabfnnkaa
open Go.RowKit Go.Maps

namespace Rv
/-- a sector of the document's: its sure bytes, what it shows, and whether it waits -/
structure Sec where
  sure : List UInt8
  shows : List UInt8
  waits : Bool
def Ok (r : List Sec) : Prop := 512 ≤ r.length ∧ r.length ≤ 4096 ∧ ∀ x ∈ r, x.sure.length ≤ 128 ∧ x.shows.length ≤ 128
def nought : Sec := ⟨[], [], false⟩
def cell (r : List Sec) (k : Nat) : Sec := r.getD k nought
theorem cell_at (r : List Sec) (k : Nat) (hk : k < r.length) : r[k]? = some (cell r k) := by unfold cell; rw [List.getD, List.getElem?_eq_getElem hk]; rfl
theorem cell_ok {r : List Sec} (h : Ok r) (k : Nat) (hk : k < r.length) : (cell r k).sure.length ≤ 128 ∧ (cell r k).shows.length ≤ 128 := h.2.2 _ (List.mem_of_getElem? (cell_at r k hk))
end Rv

/-- The document's device in memory. -/
structure RefAt (w : World) (b g cap : Nat) (r : List Rv.Sec) : Prop where
  ok : Rv.Ok r
  fits : r.length ≤ cap ∧ cap ≤ maxLen
  dev : w.heap[b]? = some (.cells #[.slice (some ⟨g, 0, none⟩) r.length cap] 51 (0, 0))
  row : ∃ cs : Array Value, w.heap[g]? = some (.cells cs 92 (0, 0)) ∧ cs.size = cap * 3 ∧
    ∀ k x, r[k]? = some x → cs[k * 3]? = some (.string ⟨x.sure.toArray⟩) ∧ cs[k * 3 + 1]? = some (.string ⟨x.shows.toArray⟩) ∧ cs[k * 3 + 2]? = some (.bool x.waits)
theorem RefAt.upd {F : Nat → Prop} {w w' : World} {b g cap : Nat} {r : List Rv.Sec} (h : RefAt w b g cap r) (hu : Upd F w w') (h1 : ¬ F b) (h2 : ¬ F g) : RefAt w' b g cap r :=
  ⟨h.ok, h.fits, hu.heap h.dev h1, by obtain ⟨cs, r1, r2⟩ := h.row; exact ⟨cs, hu.heap r1 h2, r2⟩⟩
theorem RefAt.ltb {w : World} {b g cap : Nat} {r : List Rv.Sec} (h : RefAt w b g cap r) : b < w.heap.size := lt_of_heap h.dev
theorem RefAt.ltg {w : World} {b g cap : Nat} {r : List Rv.Sec} (h : RefAt w b g cap r) : g < w.heap.size := by obtain ⟨cs, hb, _⟩ := h.row; exact lt_of_heap hb
theorem RefAt.ne {w : World} {b g cap : Nat} {r : List Rv.Sec} (h : RefAt w b g cap r) : b ≠ g := by
  intro e
  obtain ⟨cs, hb, _⟩ := h.row
  subst e
  rw [h.dev] at hb
  simp only [Option.some.injEq, Obj.cells.injEq] at hb
  exact absurd hb.2.1 (by decide)
theorem RefAt.cells {w : World} {b g cap : Nat} {r : List Rv.Sec} (h : RefAt w b g cap r) (k : Nat) (hk : k < r.length) :
    w.cell? ⟨g, k * 3, none⟩ = some (.string ⟨(Rv.cell r k).sure.toArray⟩) ∧ w.cell? ⟨g, k * 3 + 1, none⟩ = some (.string ⟨(Rv.cell r k).shows.toArray⟩) ∧ w.cell? ⟨g, k * 3 + 2, none⟩ = some (.bool (Rv.cell r k).waits) := by
  obtain ⟨cs, hb, _, hc⟩ := h.row
  obtain ⟨c0, c1, c2⟩ := hc k _ (Rv.cell_at r k hk)
  exact ⟨cell_heap hb _ _ c0, cell_heap hb _ _ c1, cell_heap hb _ _ c2⟩
/-- A sector is written anew. -/
theorem RefAt.set {w : World} {b g cap : Nat} {r : List Rv.Sec} (h : RefAt w b g cap r) (k : Nat) (hk : k < r.length) (x : Rv.Sec) (hx : x.sure.length ≤ 128 ∧ x.shows.length ≤ 128) {w' : World} {F : Nat → Prop} (hu : Upd F w w') (hF : ¬ F b)
    (hrow : ∀ cs, w.heap[g]? = some (.cells cs 92 (0, 0)) → ∃ cs' : Array Value, w'.heap[g]? = some (.cells cs' 92 (0, 0)) ∧ cs'.size = cs.size ∧
      (k * 3 + 2 < cs.size → cs'[k * 3]? = some (.string ⟨x.sure.toArray⟩) ∧ cs'[k * 3 + 1]? = some (.string ⟨x.shows.toArray⟩) ∧ cs'[k * 3 + 2]? = some (.bool x.waits)) ∧ ∀ j, j ≠ k * 3 → j ≠ k * 3 + 1 → j ≠ k * 3 + 2 → cs'[j]? = cs[j]?) :
    RefAt w' b g cap (r.set k x) := by
  obtain ⟨cs, hb, hsz, hc⟩ := h.row
  obtain ⟨cs', h1, h2, h3, h4⟩ := hrow cs hb
  have hf := h.fits
  refine ⟨⟨by rw [List.length_set]; exact h.ok.1, by rw [List.length_set]; exact h.ok.2.1, fun y hy => ?_⟩, by rw [List.length_set]; exact h.fits, by rw [List.length_set]; exact hu.heap h.dev hF, cs', h1, by rw [h2, hsz], fun j y hy => ?_⟩
  · rcases List.mem_or_eq_of_mem_set hy with hy | rfl
    · exact h.ok.2.2 y hy
    · exact hx
  · by_cases e : j = k
    · subst e
      rw [List.getElem?_set_self hk] at hy
      simp only [Option.some.injEq] at hy
      subst hy
      exact h3 (by omega)
    · rw [List.getElem?_set_ne (fun f => e f.symm)] at hy
      obtain ⟨c0, c1, c2⟩ := hc j y hy
      rw [h4 _ (by omega) (by omega) (by omega), h4 _ (by omega) (by omega) (by omega), h4 _ (by omega) (by omega) (by omega)]
      exact ⟨c0, c1, c2⟩

theorem ref_has {w : World} {b g cap : Nat} {r : List Rv.Sec} (h : RefAt w b g cap r) (k : Int) :
    Calls Try.prog 49 #[.pointer (some ⟨b, 0, none⟩), .int .i64 k] w fun e w' => e = .returned (.int .i64 (if k < 0 ∨ (r.length : Int) ≤ k then 2 else 0)) ∧ w = w' := by
  have c0 := cell_heap h.dev 0 _ rfl
  have hf := h.fits
  have hok := h.ok.2.1
  obtain ⟨n, hn⟩ : ∃ n, n = r.length := ⟨_, rfl⟩
  rw [← hn] at c0 hf hok ⊢
  clear h hn
  by_cases h1 : k < 0
  · rw [if_pos (Or.inl h1)]
    go_enter Try.func49, Try.ntmps49
    go_wp2
    go_ret
    exact ⟨rfl, rfl⟩
  · by_cases h2 : (n : Int) ≤ k
    · rw [if_pos (Or.inr h2)]
      go_enter Try.func49, Try.ntmps49
      go_wp2
      go_ret
      exact ⟨rfl, rfl⟩
    · rw [if_neg (by omega)]
      go_enter Try.func49, Try.ntmps49
      go_wp2
      go_ret
      exact ⟨rfl, rfl⟩
theorem noref_has (k : Int) (w : World) : Calls Try.prog 49 #[.pointer none, .int .i64 k] w fun e w' => e = .returned (.int .i64 1) ∧ w = w' := by
  go_enter Try.func49, Try.ntmps49
  go_wp2
  go_ret
  exact ⟨rfl, rfl⟩

theorem Try.infoU8 : (Try.prog.info? 5).map (fun i => (i.zero, i.size, i.bytes)) = some (some (.int .u8 0), 1, 1) := by kernel_rfl
theorem ownsRow_new (w : World) (l : List UInt8) (hl : l.length ≤ 1000000) : (w.alloc (.cells (bytesV l).toArray 5)).ownsRow 0 5 1 (.slice (some ⟨w.heap.size, 0, none⟩) l.length l.length) l.length (bytesV l) := by
  refine ⟨by simp [bytesV_length], Or.inr ⟨w.heap.size, l.length, (bytesV l).toArray, rfl, Nat.zero_le _, heap_alloc_new _ _, Nat.le_refl _, by unfold maxLen; omega, by simp [bytesV_length], ?_⟩⟩
  show List.take (l.length * 1) (bytesV l) = bytesV l
  exact List.take_of_length_le (by simp [bytesV_length])
theorem make_bytes (n : Nat) (hn : n ≤ 1000000) (w : World) : (Instr.makeSlice 67 (.int .i64 (n : Int)) (.int .i64 (n : Int))).run Try.prog w = .ok (.slice (some ⟨w.heap.size, 0, none⟩) n n) (w.alloc (.cells (bytesV (List.replicate n 0)).toArray 5)) := by
  obtain ⟨i0, hi, hq0, hq1, hq2⟩ := info_parts Try.infoU8
  have := run_make_rowN (P := Try.prog) 67 5 i0 _ Try.underlying67 hi hq0 .i64 .i64 n n (Nat.le_refl _) (by rw [hq2]; omega) (by omega) w
  rw [this]
  have e : madeCells (Value.int .u8 0).cells (n * i0.size) = (bytesV (List.replicate n 0)).toArray := by
    rw [hq1, Nat.mul_one]
    apply Array.ext
    · simp [madeCells, bytesV]
    · intro j h1 h2
      simp [madeCells, bytesV, Value.cells, Nat.mod_one]
  rw [e]
theorem conv_new (l : List UInt8) (hl : l.length ≤ 1000000) (w : World) : (convert 67 9 (.slice (some ⟨w.heap.size, 0, none⟩) l.length l.length)).run Try.prog (w.alloc (.cells (bytesV l).toArray 5)) = .ok (.string ⟨l.toArray⟩) (w.alloc (.cells (bytesV l).toArray 5)) :=
  run_conv_row _ _ _ _ Try.underlying67 Try.underlying5 Try.underlying9 _ l _ rfl (ownsRow_new w l hl)

theorem ref_Full (s : List UInt8) (w : World) (hs : s.length ≤ 128) : Calls Try.prog 50 #[.string ⟨s.toArray⟩] w (StrR (Dv.full s) w) := by
  obtain ⟨n, hn⟩ : ∃ n, n = 128 - s.length := ⟨_, rfl⟩
  obtain ⟨l, hl⟩ : ∃ l, l = s.length := ⟨_, rfl⟩
  have hsz : s.toArray.size = l := by rw [hl]; simp
  have hw : (128 : Int) - (l : Int) = (n : Int) := by omega
  have hww : IntKind.i64.wrap (128 - (l : Int)) = (n : Int) := by rw [hw]; exact IntWalk.i64_in _ (by omega)
  have hmk := make_bytes n (by omega)
  have hcv := fun w => conv_new (List.replicate n 0) (by simp; omega) w
  simp only [List.length_replicate] at hcv
  have hD : Dv.full s = s ++ List.replicate n 0 := by unfold Dv.full; rw [hn]
  obtain ⟨z, hz⟩ : ∃ z, z = List.replicate n (0 : UInt8) := ⟨_, rfl⟩
  rw [← hz] at hcv hD hmk
  have HD := Lib.hid hD
  have HL : l ≤ 128 := by omega
  have hzs : z.toArray.size = n := by rw [hz]; simp
  have hn128 : n ≤ 128 := by omega
  have hap := append_list s z
  clear hn hl hz hD hs
  go_enter Try.func50, Try.ntmps50
  go_wp2
  go_ret
  exact ⟨ret_str HD.out.symm, (Upd.refl _ _).alloc _⟩

end Go.Proofs.Ythdkhmmabfnnkaa
