/- The table of the sums, out of the condition that the row lists. -/
import Derived.Test.YtfkmoooeaijndaaDoorRows
import Derived.Test.YtfkmoooeaijndaaDoorSealA
import Derived.ProofKit
import Derived.LaidMore
import Derived.OpenShut
import Derived.MakeChecks
set_option linter.unusedVariables false
set_option linter.unusedSimpArgs false
namespace Go.Proofs.YtfkmoooeaijndaaDoor
open Go.RowKit Go.ChangeShapes Go.WideShapes Go.ChangeAt

theorem gFours : Tryd.prog.globalNamed "rillbed/crc.fours" = some 0 := by kernel_rfl
theorem tFours : (Tryd.prog.globals[0]?).map (·.type) = some 124 := by kernel_rfl
theorem fours_of_laid {W : World} (h : laidMetH Tryd.prog Rows.sealTellsRow.laid W) : Fours W ∧ 0 < W.heap.size := by
  rw [MakeChecks.laidMetH_plain _ _ _ (by kernel_rfl)] at h
  obtain ⟨ps, ⟨g0, t0, cs0, f0, p0, q0, hg0, ht0, hv0, hd0, _⟩, _, _⟩ := h
  obtain rfl := Option.some.inj (gFours.symm.trans hg0)
  obtain rfl := Option.some.inj (tFours.symm.trans ht0)
  obtain ⟨xs, m, rfl, hx, hlen, hn, hel⟩ := DataW.trod_array Tryd.underlying124 hd0
  have c36 : Tryd.prog.cellsOf 36 = 1 := by kernel_rfl
  simp only [Prod.mk.injEq] at hx
  have hxs : xs.map (·.1) = Crc.fours.map fun (z : Nat) => DataW.lit (.int .u32 (z : Int)) := by
    have := hx.1
    exact (DataW.agg.inj this).symm
  have hF : Fours W := by
    intro i hi
    have h1 := hel i hi
    have hix : i < xs.length := by omega
    rw [List.getElem?_eq_getElem hix, c36] at h1
    obtain ⟨k, e1, e2, _⟩ := DataW.trod_int Tryd.underlying36 h1
    have h2 : (xs[i]).1 = (Crc.fours.map fun (z : Nat) => DataW.lit (.int .u32 (z : Int)))[i]'(by show i < 16; exact hi) := by
      have : (xs.map (·.1))[i]'(by simpa using hix) = xs[i].1 := by simp
      rw [← this]; congr 1
    rw [e2, List.getElem_map] at h2
    have hk : k = (Crc.fours[i]'(by show i < 16; exact hi) : Nat) := by simpa using h2
    have hc := World.var?_cell hg0 hv0 i
    rw [hc]
    have hcs : cs0[i]? = some (.int .u32 k) := by
      have h3 : ((cs0.toList.drop i).take 1)[0]? = some (.int .u32 k) := by rw [show i = i * 1 by omega, e1]; rfl
      rw [List.getElem?_take, if_pos (by decide), List.getElem?_drop] at h3
      simpa using h3
    rw [hcs, hk, List.getD, List.getElem?_eq_getElem (by show i < 16; exact hi)]
    rfl
  refine ⟨hF, ?_⟩
  have h0 := hF 0 (by decide)
  unfold World.cell? at h0
  split at h0
  · rename_i h; exact lt_of_heap h
  · simp at h0

end Go.Proofs.YtfkmoooeaijndaaDoor
