/- A device: Waiting, Sectors, New; devices that are none. -/
import Derived.Test.YtocioaondjgceaaGreatDoorDev3
set_option linter.unusedVariables false
set_option linter.unusedSimpArgs false
namespace Go.Proofs.YtocioaondjgceaaGreatDoor
open Go.RowKit Go.Maps

/-- No device: a nil pointer, or one that New has not made. -/
def NoDev (w : World) (p : Option Addr) : Prop := p = none ∨ ∃ b v, p = some ⟨b, 0, none⟩ ∧ w.heap[b]? = some (.cells #[v, .map none] 68 (0, 0))
theorem NoDev.upd {F : Nat → Prop} {w w' : World} {p : Option Addr} (h : NoDev w p) (hu : Upd F w w') (hF : ∀ k, k < w.heap.size → ¬ F k) : NoDev w' p := by
  rcases h with h | ⟨b, v, h1, h2⟩
  · exact .inl h
  · exact .inr ⟨b, v, h1, hu.heap h2 (hF b (lt_of_heap h2))⟩
theorem nodev_has {w : World} {p : Option Addr} (h : NoDev w p) (k : Int) :
    Calls Tryz.prog 38 #[.pointer p, .int .i64 k] w fun e w' => e = .returned (.int .i64 1) ∧ w = w' := by
  rcases h with rfl | ⟨b, v, rfl, hb⟩
  · exact has_nil k w
  · have c1 := cell_heap hb 1 _ rfl
    have hq := run_eql_map_nil_sl (P := Tryz.prog) w 66 _ _ none Tryz.underlying66
    clear hb
    go_enter Tryz.func38, Tryz.ntmps38
    go_wp2
    go_ret
    exact ⟨rfl, rfl⟩

theorem nodev_Read {w : World} {p : Option Addr} (h : NoDev w p) (k : Int) :
    Calls Tryz.prog 63 #[.pointer p, .int .i64 k] w (DStrE ([], 1) w) := by
  have HH := Lib.hid (nodev_has h k)
  clear h
  go_enter Tryz.func63, Tryz.ntmps63
  go_wp2_with (go_at_call 38; refine HH.out.mono ?_; rintro e w' ⟨rfl, rfl⟩)
  go_ret2
  exact ⟨rfl, Upd.refl _ _⟩

theorem nodev_Write {w : World} {p : Option Addr} (h : NoDev w p) (k : Int) (s : ByteArray) :
    Calls Tryz.prog 19 #[.pointer p, .int .i64 k, .string s] w (fun e w' => e = .returned (.int .i64 1) ∧ w = w') := by
  have HH := Lib.hid (nodev_has h k)
  clear h
  go_enter Tryz.func19, Tryz.ntmps19
  go_wp2_with (go_at_call 38; refine HH.out.mono ?_; rintro e w' ⟨rfl, rfl⟩)
  go_ret
  exact ⟨rfl, rfl⟩

theorem nodev_Sectors {w : World} {p : Option Addr} (h : NoDev w p) :
    Calls Tryz.prog 32 #[.pointer p] w (fun e w' => e = .returned (.int .i64 0) ∧ w = w') := by
  have HH := Lib.hid (nodev_has h 0)
  clear h
  go_enter Tryz.func32, Tryz.ntmps32
  go_wp2_with (go_at_call 38; refine HH.out.mono ?_; rintro e w' ⟨rfl, rfl⟩)
  go_ret
  exact ⟨rfl, rfl⟩

theorem dev_has0 {w : World} {b bs bm cap : Nat} {d : List Dv.Cel} (h : DevAt w b bs bm cap d) :
    Calls Tryz.prog 38 #[.pointer (some ⟨b, 0, none⟩), .int .i64 0] w fun e w' => e = .returned (.int .i64 0) ∧ w = w' := by
  have hh := dev_has h 0
  have := h.ok.1
  unfold hasE at hh
  rw [if_neg (by omega)] at hh
  exact hh
def waitsN (d : List Dv.Cel) : Nat := (d.filter fun x => x.2.isSome).length
set_option maxRecDepth 100000 in
theorem dev_Sectors {w : World} {b bs bm cap : Nat} {d : List Dv.Cel} (h : DevAt w b bs bm cap d) :
    Calls Tryz.prog 32 #[.pointer (some ⟨b, 0, none⟩)] w fun e w' => e = .returned (.int .i64 d.length) ∧ w = w' := by
  have HH := Lib.hid (dev_has0 h)
  have c0 := cell_heap h.dev 0 _ rfl
  clear h
  go_enter Tryz.func32, Tryz.ntmps32
  go_wp2_with (go_at_call 38; refine HH.out.mono ?_; rintro e w' ⟨rfl, rfl⟩)
  go_ret
  exact ⟨rfl, rfl⟩

theorem Tryz.infoSec : (Tryz.prog.info? 81).map (fun i => (i.zero, i.size, i.bytes)) = some (some (.agg zSec), 128, 128) := by kernel_rfl
theorem run_make_rowN {P : Program} (t e : TypeId) (i : TypeInfo) (z : Value) (ht : P.underlying t = some (.slice e)) (hi : P.info? e = some i) (hz : i.zero = some z)
    (kl kc : IntKind) (n c : Nat) (hnc : n ≤ c) (hbytes : i.bytes * c ≤ 281474976710656) (h63 : c ≤ 9223372036854775807) (w : World) :
    (Instr.makeSlice t (.int kl (n : Int)) (.int kc (c : Int))).run P w = .ok (.slice (some ⟨w.heap.size, 0, none⟩) n c) (w.alloc (.cells (madeCells z.cells (c * i.size)) e)) := by
  have hb : (i.bytes : Int) * (c : Int) ≤ 281474976710656 := by
    have h : ((i.bytes * c : Nat) : Int) ≤ 281474976710656 := by omega
    rwa [Int.natCast_mul] at h
  have hr := run_make (P := P) w t e i z ht hi hz kl kc n c (by omega) (by omega) hb (by omega)
  simp only [Int.toNat_natCast] at hr
  exact hr
def newD (n : Nat) : List Dv.Cel := List.replicate n (zeros, none)
theorem zsec_get (j : Nat) (hj : j < 128) : zSec[j]! = .int .u8 0 := by
  have : zSec[j]? = some (.int .u8 0) := by unfold zSec; rw [List.getElem?_toArray, bytesV_get, List.getElem?_replicate, if_pos hj]; rfl
  rw [getElem!_def, this]
theorem new_row (w : World) (n : Nat) : SureAt (w.alloc (.cells (madeCells zSec (n * 128)) 81)) w.heap.size n (newD n) := by
  refine ⟨_, heap_alloc_new w _, by rw [size_madeCells], by simp [newD], fun k c hc j v hv => ?_⟩
  unfold newD at hc
  rw [List.getElem?_replicate] at hc
  split at hc
  · rename_i hk
    simp only [Option.some.injEq] at hc
    subst hc
    have hj : j < 128 := by
      have := (List.getElem?_eq_some_iff.1 hv).1
      rw [bytesV_length] at this
      simpa [zeros] using this
    have hv2 : v = .int .u8 0 := by
      rw [bytesV_get] at hv
      unfold zeros at hv
      rw [List.getElem?_replicate, if_pos hj] at hv
      simp at hv; exact hv.symm
    have hlt : k * 128 + j < n * 128 := by omega
    unfold madeCells
    have hrg : (Array.range (n * 128))[k * 128 + j]? = some (k * 128 + j) := by simp [hlt]
    rw [Array.getElem?_map, hrg]
    simp only [Option.map_some]
    have hs : zSec.size = 128 := by simp [zSec, bytesV_length]
    rw [hs, show (k * 128 + j) % 128 = j by omega, zsec_get j hj, hv2]
  · cases hc
set_option maxHeartbeats 400000 in
set_option maxRecDepth 100000 in
theorem dev_New_ok (n : Nat) (w : World) (h1 : 512 ≤ n) (h2 : n ≤ 4096) :
    Calls Tryz.prog 11 #[.int .i64 n] w fun e w' => e = .returned (.pointer (some ⟨w.heap.size + 2, 0, none⟩)) ∧ DevAt w' (w.heap.size + 2) w.heap.size (w.heap.size + 1) n (newD n) ∧ Upd (fun _ => False) w w' := by
  obtain ⟨i0, hi, hq0, hq1, hq2⟩ := info_parts Tryz.infoSec
  have hmk := fun W => run_make_rowN (P := Tryz.prog) 65 81 i0 _ Tryz.underlying65 hi hq0 .i64 .i64 n n (Nat.le_refl _) (by rw [hq2]; omega) (by omega) W
  rw [hq1, show (Value.agg zSec).cells = zSec from rfl] at hmk
  have hr := new_row w n
  obtain ⟨R, hR⟩ : ∃ R, R = madeCells zSec (n * 128) := ⟨_, rfl⟩
  rw [← hR] at hmk hr
  have hmm := fun t w => run_makeMap (P := Tryz.prog) t w
  have hd : DevAt (((w.alloc (.cells R 81)).alloc (.map #[] 0)).alloc (.cells #[.slice (some ⟨w.heap.size, 0, none⟩) n n, .map (some (w.heap.size + 1))] 68)) (w.heap.size + 2) w.heap.size (w.heap.size + 1) n (newD n) := by
    refine ⟨⟨by simp [newD]; exact h1, by simp [newD]; exact h2, ?_⟩, by unfold maxLen; omega, ?_, ?_, ?_⟩
    · intro x hx
      have := List.eq_of_mem_replicate hx
      subst this
      exact ⟨zeros_len, fun y hy => by cases hy⟩
    · have := heap_alloc_new ((w.alloc (.cells R 81)).alloc (.map #[] 0)) (.cells #[.slice (some ⟨w.heap.size, 0, none⟩) n n, .map (some (w.heap.size + 1))] 68)
      rw [World.size_alloc, World.size_alloc] at this
      rw [show (newD n).length = n by simp [newD]]
      exact this
    · exact (hr.upd ((Upd.refl (fun _ => False) _).alloc _) (fun f => f)).upd ((Upd.refl (fun _ => False) _).alloc _) (fun f => f)
    · have h0 := World.ownsMap_made (H := Unit) (w.alloc (.cells R 81)) Tryz.prog 3 secR
      rw [World.size_alloc] at h0
      have h0' : WaitsAt ((w.alloc (.cells R 81)).alloc (.map #[] 0)) (w.heap.size + 1) (newD n) := by
        unfold WaitsAt newD
        rw [Dv.no_waits]
        exact h0.mono (by omega)
      exact h0'.upd ((Upd.refl (fun _ => False) _).alloc _) (fun f => f)
  have HD := Lib.hid hd
  clear hr hR hd
  go_enter Tryz.func11, Tryz.ntmps11
  go_wp2
  go_ret
  exact ⟨rfl, HD.out, by repeat (first | exact Upd.refl _ _ | refine Upd.alloc ?_ _ | refine Upd.drew ?_ | refine Upd.trans ?_ (by assumption) (fun _ _ f => f))⟩
theorem dev_New_no (n : Int) (w : World) (h : n < 512 ∨ 4096 < n) :
    Calls Tryz.prog 11 #[.int .i64 n] w fun e w' => e = .returned (.pointer none) ∧ w = w' := by
  by_cases h1 : n < 512
  · clear h
    go_enter Tryz.func11, Tryz.ntmps11
    go_wp2
    go_ret
    exact ⟨rfl, rfl⟩
  · have h2 : 4096 < n := by omega
    clear h
    go_enter Tryz.func11, Tryz.ntmps11
    go_wp2
    go_ret
    exact ⟨rfl, rfl⟩

end Go.Proofs.YtocioaondjgceaaGreatDoor
