/- A device: Barrier, Crash. -/
import Derived.Test.YtocioaondjgceaaGreatDoorDev8
import Derived.Test.YtocioaondjgceaaGreatDoorDev4
set_option linter.unusedVariables false
set_option linter.unusedSimpArgs false
namespace Go.Proofs.YtocioaondjgceaaGreatDoor
open Go.RowKit Go.Maps

theorem barrier_f (i : Int) (w : World) : Calls Tryz.prog 36 #[.int .i64 i] w fun e w' => e = .returned (.int .i64 128) ∧ w = w' := by
  go_enter Tryz.func36, Tryz.ntmps36
  go_wp2
  go_ret
  exact ⟨rfl, rfl⟩
theorem barrier_enters : Enters Tryz.prog 36 := enters_of Tryz.func36 rfl rfl
theorem crash_enters : Enters Tryz.prog 37 := enters_of Tryz.func37 rfl rfl

theorem dev_Barrier {w : World} {b bs bm cap : Nat} {d : List Dv.Cel} (h : DevAt w b bs bm cap d) :
    Calls Tryz.prog 16 #[.pointer (some ⟨b, 0, none⟩)] w fun e w' => e = .returned (.tuple #[]) ∧ DevAt w' b bs bm cap (Dv.settleF (fun _ => 128) 0 d) ∧ Upd (fun k => k = bs ∨ k = bm) w w' := by
  have HS := Lib.hid (dev_settle h 36 barrier_enters #[] (fun _ => 128) (fun _ => by omega) (fun _ => True) (fun _ _ _ _ => trivial)
    (fun i w _ _ => (barrier_f i w).mono (fun e w' he => ⟨he.1, he.2 ▸ Upd.refl _ _⟩)) trivial)
  clear h
  go_enter Tryz.func16, Tryz.ntmps16
  go_wp2_with (go_at_call 35; refine HS.out.mono ?_; rintro e w' ⟨rfl, hd, hu⟩)
  go_end0
  exact ⟨rfl, hd, hu⟩

theorem nodev_settle {w : World} {p : Option Addr} (h : NoDev w p) (v : Value) :
    Calls Tryz.prog 35 #[.pointer p, v] w (fun e w' => e = .returned (.tuple #[]) ∧ w = w') := by
  have HH := Lib.hid (nodev_has h 0)
  clear h
  go_enter Tryz.func35, Tryz.ntmps35
  go_wp2_with (go_at_call 38; refine HH.out.mono ?_; rintro e w' ⟨rfl, rfl⟩)
  refine bodyPost_ret (results_none rfl _ _ _) rfl ?_
  exact ⟨rfl, rfl⟩
theorem nodev_Barrier {w : World} {p : Option Addr} (h : NoDev w p) :
    Calls Tryz.prog 16 #[.pointer p] w (fun e w' => e = .returned (.tuple #[]) ∧ w = w') := by
  have HS := Lib.hid (nodev_settle h)
  clear h
  go_enter Tryz.func16, Tryz.ntmps16
  go_wp2_with (go_at_call 35; refine (HS.out _).mono ?_; rintro e w' ⟨rfl, rfl⟩)
  go_end0
  exact ⟨rfl, rfl⟩
theorem nodev_Crash {w : World} {p : Option Addr} (h : NoDev w p) (ad : Option Addr) (n cp : Nat) :
    Calls Tryz.prog 17 #[.pointer p, .slice ad n cp] w (fun e w' => e = .returned (.tuple #[]) ∧ Upd (fun _ => False) w w') := by
  have HS := Lib.hid (nodev_settle (h.upd ((Upd.refl (fun _ => False) w).alloc (.cells #[.slice ad n cp] 40)) (fun _ _ f => f)))
  clear h
  go_enter Tryz.func17, Tryz.ntmps17
  go_wp2_with (go_at_call 35; refine (HS.out _).mono ?_; rintro e w' ⟨rfl, rfl⟩)
  go_end0
  exact ⟨rfl, (Upd.refl _ _).alloc _⟩

theorem block_add' (a : Addr) (i : Nat) : (a.add i).block = a.block := by unfold Addr.add; split <;> rfl
/-- What Crash was told to keep, in its cell. -/
def crashC (ks : List Int) (i : Nat) : Nat := if ks = [] then 0 else (Int.tmod (Int.tmod (ks.getD (i % ks.length) 0) 130 + 130) 130).toNat
structure KeepAt (w : World) (gb : Nat) (ad : Option Addr) (cp : Nat) (ks : List Int) : Prop where
  cell : w.heap[gb]? = some (.cells #[.slice ad ks.length cp] 40 (0, 0))
  row : ∀ j, j < ks.length → ∃ a : Addr, ad = some a ∧ w.cell? (a.add j) = some (.int .i64 (ks.getD j 0))
theorem KeepAt.upd {F : Nat → Prop} {w w' : World} {gb : Nat} {ad : Option Addr} {cp : Nat} {ks : List Int} (h : KeepAt w gb ad cp ks) (hu : Upd F w w') (h1 : ¬ F gb) (h2 : ∀ a : Addr, ad = some a → ks ≠ [] → ¬ F a.block) : KeepAt w' gb ad cp ks :=
  ⟨hu.heap h.cell h1, fun j hj => by obtain ⟨g, e, hc⟩ := h.row j hj; exact ⟨g, e, hu.cell hc (by rw [block_add']; exact h2 g e (fun h => by rw [h] at hj; cases hj))⟩⟩
theorem crash_le (ks : List Int) (i : Nat) : crashC ks i ≤ 1000 := by
  unfold crashC
  split
  · omega
  · have : Int.tmod (Int.tmod (ks.getD (i % ks.length) 0) 130 + 130) 130 < 130 := Int.tmod_lt_of_pos _ (by omega)
    omega
set_option maxHeartbeats 400000 in
theorem crash_f {w : World} {gb : Nat} {ad : Option Addr} {cp : Nat} {ks : List Int} (h : KeepAt w gb ad cp ks) (hl : ks.length ≤ 9223372036854775807) (i : Nat) (hi : i ≤ 4096) :
    Calls Tryz.prog 37 #[.int .i64 i, .pointer (some ⟨gb, 0, none⟩)] w fun e w' => e = .returned (.int .i64 (crashC ks i : Nat)) ∧ Upd (fun _ => False) w w' := by
  have c0 := cell_heap h.cell 0 (.slice ad ks.length cp) rfl
  by_cases hk : ks = []
  · have hc : crashC ks i = 0 := by unfold crashC; rw [if_pos hk]
    rw [hc]
    subst hk
    clear h hc
    simp only [List.length_nil] at c0
    go_enter Tryz.func37, Tryz.ntmps37
    go_wp2
    go_ret
    exact ⟨rfl, Upd.refl _ _⟩
  · obtain ⟨n, hn⟩ : ∃ n, n = ks.length := ⟨_, rfl⟩
    have hn0 : 0 < n := by rw [hn]; exact List.length_pos_iff.2 hk
    obtain ⟨q, hq⟩ : ∃ q, q = i % n := ⟨_, rfl⟩
    have hqn : q < n := by rw [hq]; exact Nat.mod_lt _ hn0
    obtain ⟨g, rfl, hcell⟩ := h.row q (by omega)
    obtain ⟨X, hX⟩ : ∃ X, X = ks.getD q 0 := ⟨_, rfl⟩
    obtain ⟨Y, hY⟩ : ∃ Y, Y = Int.tmod X 130 := ⟨_, rfl⟩
    have hY1 : -130 < Y := by rw [hY]; exact Int.lt_tmod_of_pos _ (by omega)
    have hY2 : Y < 130 := by rw [hY]; exact Int.tmod_lt_of_pos _ (by omega)
    obtain ⟨Z, hZ⟩ : ∃ Z, Z = Y + 130 := ⟨_, rfl⟩
    obtain ⟨R, hR⟩ : ∃ R, R = Int.tmod Z 130 := ⟨_, rfl⟩
    have hR0 : 0 ≤ R := by rw [hR]; exact Int.tmod_nonneg _ (by omega)
    have hR2 : R < 130 := by rw [hR]; exact Int.tmod_lt_of_pos _ (by omega)
    have hc : crashC ks i = R.toNat := by unfold crashC; rw [if_neg hk, ← hn, ← hq, ← hX, ← hY, ← hZ, ← hR]
    rw [hc, show ((R.toNat : Nat) : Int) = R by omega]
    rw [← hX] at hcell
    rw [← hn] at c0
    have y1 : Int.tmod (i : Int) (n : Int) = (q : Int) := by rw [hq]; exact (Int.ofNat_tmod _ _).symm
    have y2 : Int.tmod X 130 = Y := hY.symm
    have y3 : Y + 130 = Z := hZ.symm
    have y3w : IntKind.i64.wrap (Y + 130) = Z := by rw [y3]; exact IntWalk.i64_in _ (by omega)
    have y4 : Int.tmod Z 130 = R := hR.symm
    have z1 : (0 : Int) ≤ (q : Int) := by omega
    have z2 : (q : Int) < (n : Int) := by omega
    have z3 : (n : Int) ≠ 0 := by omega
    have hn2 : n ≤ 9223372036854775807 := by omega
    have HN := Lib.hid hn
    clear h hc hX hY hZ hR hq hn hk
    go_enter Tryz.func37, Tryz.ntmps37
    go_wp2
    go_region
    go_wp2
    go_ret
    exact ⟨rfl, (Upd.refl _ _).drew⟩

theorem dev_Crash {w : World} {b bs bm cap : Nat} {d : List Dv.Cel} (h : DevAt w b bs bm cap d) {ad : Option Addr} {cp : Nat} {ks : List Int} (hl : ks.length ≤ 9223372036854775807)
    (hrow : ∀ j, j < ks.length → ∃ a : Addr, ad = some a ∧ w.cell? (a.add j) = some (.int .i64 (ks.getD j 0))) (hfar : ∀ a : Addr, ad = some a → ks ≠ [] → a.block ≠ bs ∧ a.block ≠ bm) :
    Calls Tryz.prog 17 #[.pointer (some ⟨b, 0, none⟩), .slice ad ks.length cp] w fun e w' => e = .returned (.tuple #[]) ∧ DevAt w' b bs bm cap (Dv.settleF (crashC ks) 0 d) ∧ Upd (fun k => k = bs ∨ k = bm) w w' := by
  have u1 : Upd (fun _ => False) w (w.alloc (.cells #[.slice ad ks.length cp] 40)) := (Upd.refl _ _).alloc _
  have hk1 : KeepAt (w.alloc (.cells #[.slice ad ks.length cp] 40)) w.heap.size ad cp ks := ⟨heap_alloc_new _ _, fun j hj => by obtain ⟨g, e, hc⟩ := hrow j hj; exact ⟨g, e, u1.cell hc (fun f => f)⟩⟩
  have lbs := h.lts
  have lbm := h.ltm
  have HS := Lib.hid (dev_settle (h.upd u1 (fun f => f) (fun f => f) (fun f => f)) 37 crash_enters #[.pointer (some ⟨w.heap.size, 0, none⟩)] (crashC ks) (crash_le ks) (fun w' => KeepAt w' w.heap.size ad cp ks)
    (fun _ _ hu hk => hk.upd hu (fun f => by omega) (fun g e hne f => by have := hfar g e hne; omega))
    (fun i w hi hk => crash_f hk hl i hi) hk1)
  clear h hk1 hrow
  go_enter Tryz.func17, Tryz.ntmps17
  go_wp2_with (go_at_call 35; refine HS.out.mono ?_; rintro e w' ⟨rfl, hd, hu⟩)
  go_end0
  exact ⟨rfl, hd, (u1.mono (fun _ _ f => f.elim)).trans hu (fun _ _ f => f)⟩

end Go.Proofs.YtocioaondjgceaaGreatDoor
