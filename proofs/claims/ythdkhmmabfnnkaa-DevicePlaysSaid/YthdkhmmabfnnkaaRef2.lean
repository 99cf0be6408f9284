/- The document's device: Waiting, New. -/
import Derived.Test.YthdkhmmabfnnkaaRef1
set_option linter.unusedVariables false
set_option linter.unusedSimpArgs false
namespace Go.Proofs.Ythdkhmmabfnnkaa
open Go.RowKit Go.Maps

namespace Rv
theorem waits_snoc (r : List Sec) (k : Nat) (hk : k < r.length) : waitsN (r.take (k + 1)) = waitsN (r.take k) + (if (cell r k).waits then 1 else 0) := by
  unfold waitsN
  have : r.take (k + 1) = r.take k ++ [cell r k] := by
    rw [List.take_add_one, cell_at r k hk]; rfl
  rw [this, List.filter_append, List.length_append]
  generalize cell r k = x
  obtain ⟨a, s, q⟩ := x
  cases q <;> simp [List.filter_cons]
theorem waits_le (r : List Sec) (k : Nat) : waitsN (r.take k) ≤ k := by
  unfold waitsN
  have := List.length_filter_le (fun x : Sec => x.waits) (r.take k)
  have := List.length_take_le k r
  omega
end Rv

set_option maxHeartbeats 400000 in
theorem ref_Waiting {w : World} {b g cap : Nat} {r : List Rv.Sec} (h : RefAt w b g cap r) :
    Calls Try.prog 39 #[.pointer (some ⟨b, 0, none⟩)] w fun e w' => e = .returned (.int .i64 (Rv.waitsN r)) ∧ w = w' := by
  have d0 := cell_heap h.dev 0 _ rfl
  have hl1 := h.ok.2.1
  obtain ⟨n, hn⟩ : ∃ n, n = r.length := ⟨_, rfl⟩
  rw [← hn] at d0 hl1
  have HN := Lib.hid hn
  have H := Lib.hid h
  clear h hn
  go_enter Try.func39, Try.ntmps39
  go_wp2
  go_loop [3, 4] (fun c i => ∃ k : Nat, k ≤ n ∧ i = .int .i64 k ∧ c = .int .i64 (Rv.waitsN (r.take k) : Nat)) (fun _ i => n - (intOf i).toNat)
  case atStart => exact ⟨0, Nat.zero_le _, rfl, rfl⟩
  case round =>
    obtain ⟨k, hk, rfl, rfl⟩ := hrel
    have hwl := Rv.waits_le r k
    by_cases hlt : k < n
    · have hlt' : k < r.length := by have := HN.out; omega
      have hs := Rv.waits_snoc r k hlt'
      obtain ⟨_, _, c2⟩ := H.out.cells k hlt'
      generalize (Rv.cell r k).waits = q at c2 hs
      have HS := Lib.hid hs
      clear hs
      cases q
      · go_wp2
        go_round
        case rel => exact ⟨k + 1, by omega, by go_num, by rw [HS.out]; rfl⟩
        case measure => simp [intOf]; omega
      · go_wp2
        go_round
        case rel => exact ⟨k + 1, by omega, by go_num, by rw [HS.out]; go_num⟩
        case measure => simp [intOf]; omega
    · go_wp2
      go_ret
      exact ⟨ret_int (by rw [List.take_of_length_le (by have := HN.out; omega)]), rfl⟩
theorem noref_Waiting (w : World) : Calls Try.prog 39 #[.pointer none] w fun e w' => e = .returned (.int .i64 0) ∧ w = w' := by
  go_enter Try.func39, Try.ntmps39
  go_wp2
  go_ret
  exact ⟨rfl, rfl⟩

theorem Try.infoRS : (Try.prog.info? 92).map (fun i => (i.zero, i.size, i.bytes)) = some (some (.agg #[.string ByteArray.empty, .string ByteArray.empty, .bool false]), 3, 40) := by kernel_rfl
theorem ref_New_no (n : Int) (w : World) (h : n < 512 ∨ 4096 < n) : Calls Try.prog 19 #[.int .i64 n] w fun e w' => e = .returned (.pointer none) ∧ w = w' := by
  by_cases h1 : n < 512
  · clear h
    go_enter Try.func19, Try.ntmps19
    go_wp2
    go_ret
    exact ⟨rfl, rfl⟩
  · have h2 : 4096 < n := by omega
    clear h
    go_enter Try.func19, Try.ntmps19
    go_wp2
    go_ret
    exact ⟨rfl, rfl⟩
theorem ref_New_ok (n : Nat) (w : World) (h1 : 512 ≤ n) (h2 : n ≤ 4096) :
    Calls Try.prog 19 #[.int .i64 n] w fun e w' => e = .returned (.pointer (some ⟨w.heap.size + 1, 0, none⟩)) ∧ RefAt w' (w.heap.size + 1) w.heap.size n (Rv.newR n) ∧ Upd (fun _ => False) w w' := by
  obtain ⟨i0, hi, hq0, hq1, hq2⟩ := info_parts Try.infoRS
  have hmk := fun W => run_make_rowN (P := Try.prog) 49 92 i0 _ Try.underlying49 hi hq0 .i64 .i64 n n (Nat.le_refl _) (by rw [hq2]; omega) (by omega) W
  rw [hq1] at hmk
  obtain ⟨Z, hZ⟩ : ∃ Z, Z = madeCells (Value.agg #[.string ByteArray.empty, .string ByteArray.empty, .bool false]).cells (n * 3) := ⟨_, rfl⟩
  rw [← hZ] at hmk
  have HZ := Lib.hid hZ
  clear hZ hi hq0 hq1 hq2
  have h1' : ¬ (n : Int) < 512 := by omega
  have h2' : ¬ 4096 < (n : Int) := by omega
  go_enter Try.func19, Try.ntmps19
  go_wp2
  go_ret
  refine ⟨by simp, ⟨⟨by simp [Rv.newR]; omega, by simp [Rv.newR]; omega, fun x hx => ?_⟩, ?_, ?_, Z, ?_, ?_, fun k x hx => ?_⟩, ((Upd.refl _ _).alloc _).alloc _⟩
  · rw [(List.mem_replicate.1 hx).2]; decide
  · simp [Rv.newR, maxLen]; omega
  · have e : (Rv.newR n).length = n := by simp [Rv.newR]
    rw [e]
    exact heap_alloc_new2 w _ _
  · exact heap_alloc_lt (heap_alloc_new w _) _
  · rw [HZ.out]; simp [madeCells]
  · obtain ⟨hk, rfl⟩ := List.getElem?_eq_some_iff.1 hx
    have hkn : k < n := by simpa [Rv.newR] using hk
    have e : (Rv.newR n)[k] = Rv.nought := by simp [Rv.newR]
    rw [e, HZ.out]
    have hm0 : k * 3 % 3 = 0 := by omega
    have hm1 : (k * 3 + 1) % 3 = 1 := by omega
    have hm2 : (k * 3 + 2) % 3 = 2 := by omega
    refine ⟨?_, ?_, ?_⟩
    · simp [madeCells, Value.cells, hm0, show k * 3 < n * 3 by omega]; rfl
    · simp [madeCells, Value.cells, hm1, show k * 3 + 1 < n * 3 by omega]; rfl
    · simp [madeCells, Value.cells, hm2, show k * 3 + 2 < n * 3 by omega]; rfl

end Go.Proofs.Ythdkhmmabfnnkaa
