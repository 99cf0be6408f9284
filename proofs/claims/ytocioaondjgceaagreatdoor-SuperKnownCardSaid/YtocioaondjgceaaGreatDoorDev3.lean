/- A device: Read, Write, Waiting, Sectors, New. -/
import Derived.Test.YtocioaondjgceaaGreatDoorDev2
import Derived.StillTailTactics
import Derived.Lib.BufferWrite
set_option linter.unusedVariables false
set_option linter.unusedSimpArgs false
namespace Go.Proofs.YtocioaondjgceaaGreatDoor
open Go.RowKit Go.Maps

section
variable {P : Program}
theorem wpStill_load {ops : Array Oper} {rest : List Oper} {o : Oper} {a : Act} {w : World} {Q : Act → Prop} (hgd : o.guard = none) (ty : TypeId) (x : Operand) (ho : o.op = .load ty x)
    (p : Addr) (hx : a.eval x = .pointer (some p)) (v : Value) (hr : (loadVar ty p).run P w = .ok v w) (h : wpStill P ops w Q rest (a.put o.dst v)) : wpStill P ops w Q (o :: rest) a :=
  wpStill_step fun K hK => by
    have hw : Region.wanted o (yielded ops a.tmps) = true := by simp [Region.wanted, hgd]
    rw [if_pos hw]
    unfold Oper.still execOp
    simp only [ho, hx, Instr.loadAt, Instr.sureAddr, Sem.run_bind, Sem.run_pure, Result.andThen_ok, hr]
    exact ⟨rfl, hK _ h⟩
theorem wpStill_lookup {ops : Array Oper} {rest : List Oper} {o : Oper} {a : Act} {w : World} {Q : Act → Prop} (hgd : o.guard = none) (t : TypeId) (m k : Operand) (c : Bool) (ho : o.op = .lookup t m k c)
    (mv kv : Value) (hm : a.eval m = mv) (hk : a.eval k = kv) (v : Value) (hr : (Instr.lookup t mv kv c).run P w = .ok v w) (h : wpStill P ops w Q rest (a.put o.dst v)) : wpStill P ops w Q (o :: rest) a :=
  wpStill_step fun K hK => by
    have hw : Region.wanted o (yielded ops a.tmps) = true := by simp [Region.wanted, hgd]
    rw [if_pos hw]
    unfold Oper.still execOp
    simp only [ho, hm, hk, Sem.run_bind, Sem.run_pure, Result.andThen_ok, hr]
    exact ⟨rfl, hK _ h⟩
theorem wpList_update_by {ops : Array Oper} {rest : List Oper} {o : Oper} {a : Act} {w w' : World} {Q : Exit → Act → World → Prop} (hgd : o.guard = none) (t : TypeId) (m k x : Operand) (ho : o.op = .mapUpdate t m k x)
    (mv kv xv : Value) (hm : a.eval m = mv) (hk : a.eval k = kv) (hx : a.eval x = xv) (hr : (Instr.mapUpdate t mv kv xv).run P w = .ok () w') (h : wpList P ops Q rest (a.put o.dst undef) w') : wpList P ops Q (o :: rest) a w :=
  wpList_plain hgd fun _ hK => by
    unfold Oper.wp execOp
    simp only [ho, hm, hk, hx, Sem.run_bind, Sem.run_pure, Result.andThen_ok, hr]
    exact hK _ _ h
end

def readE (d : List Dv.Cel) (k : Int) : List UInt8 × Int := if k < 0 ∨ (d.length : Int) ≤ k then ([], 2) else (Dv.shows (Dv.cell d k.toNat), 0)
theorem shows_len {d : List Dv.Cel} (h : Dv.Ok d) (m : Nat) (hm : m < d.length) : (Dv.shows (Dv.cell d m)).length = 128 := by
  have := cell_len h m hm
  unfold Dv.shows
  cases ho : (Dv.cell d m).2 with
  | none => exact this.1
  | some y => exact this.2 y ho
set_option maxRecDepth 100000 in
theorem dev_Read {w : World} {b bs bm cap : Nat} {d : List Dv.Cel} (h : DevAt w b bs bm cap d) (k : Int) :
    Calls Tryz.prog 63 #[.pointer (some ⟨b, 0, none⟩), .int .i64 k] w (DStrE (readE d k) w) := by
  have hh := dev_has h k
  unfold hasE at hh
  unfold readE
  by_cases hk : k < 0 ∨ (d.length : Int) ≤ k
  · rw [if_pos hk] at hh ⊢
    have HH := Lib.hid hh
    clear hh hk
    go_enter Tryz.func63, Tryz.ntmps63
    go_wp2_with (go_at_call 38; refine HH.out.mono ?_; rintro e w' ⟨rfl, rfl⟩)
    go_ret2
    exact ⟨rfl, Upd.refl _ _⟩
  · rw [if_neg hk] at hh ⊢
    obtain ⟨m, rfl⟩ := Int.eq_ofNat_of_zero_le (show 0 ≤ k by omega)
    have hm : m < d.length := by omega
    have hs := dev_shows h m hm
    have hlen := shows_len h.ok m hm
    simp only [Int.toNat_natCast]
    generalize Dv.shows (Dv.cell d m) = l at hs hlen ⊢
    have HS := Lib.hid hs
    have HH := Lib.hid hh
    clear hh hk h hs
    obtain ⟨Z, hZ⟩ := alloc_any
    have HZ := Lib.hid hZ
    clear hZ
    go_enter Tryz.func63, Tryz.ntmps63
    go_wp2_with (first
      | (go_at_call 38; refine HH.out.mono ?_; rintro e w' ⟨rfl, rfl⟩)
      | (go_at_call 91; refine HS.out.mono ?_; rintro e w1 ⟨rfl, u1⟩)
      | (refine wpList_store_by rfl 81 (.tmp 7) (.tmp 16) rfl ⟨w1.heap.size, 0, none⟩ rfl (secV l) rfl (store_alloc w1 Z (HZ.out w).2 l hlen) ?_)
      | (refine wpList_alloc_by rfl 81 rfl _ (HZ.out _).1 ?_))
    rw [conv_sec hlen (heap_alloc_new w1 _)]
    go_wp2
    go_ret2
    exact ⟨rfl, u1.alloc _⟩

def writeE (d : List Dv.Cel) (k : Int) (s : List UInt8) : List Dv.Cel × Int :=
  if k < 0 ∨ (d.length : Int) ≤ k then (d, 2) else if 128 < s.length then (d, 3) else (d.set k.toNat ((Dv.cell d k.toNat).1, some (Dv.full s)), 0)
theorem full_cells (s : List UInt8) (h : s.length ≤ 128) : ((bytesV zeros).toArray.toList.take 0 ++ Lib.byteCells s ++ (bytesV zeros).toArray.toList.drop (0 + s.length)).toArray = (bytesV (Dv.full s)).toArray := by
  have e : Lib.byteCells s = bytesV s := rfl
  have ez : ∀ n, bytesV (List.replicate n 0) = List.replicate n (Value.int .u8 0) := fun n => by unfold bytesV; rw [List.map_replicate]; rfl
  rw [e]
  congr 1
  rw [List.take_zero, List.nil_append, Nat.zero_add]
  show bytesV s ++ (bytesV zeros).drop s.length = bytesV (Dv.full s)
  unfold zeros Dv.full
  rw [bytesV_append, ez, ez, List.drop_replicate]
set_option maxHeartbeats 400000 in
set_option maxRecDepth 100000 in
theorem dev_Write {w : World} {b bs bm cap : Nat} {d : List Dv.Cel} (h : DevAt w b bs bm cap d) (k : Int) (s : List UInt8) (hsl : s.length ≤ 9223372036854775807) :
    Calls Tryz.prog 19 #[.pointer (some ⟨b, 0, none⟩), .int .i64 k, .string ⟨s.toArray⟩] w fun e w' => e = .returned (.int .i64 (writeE d k s).2) ∧ DevAt w' b bs bm cap (writeE d k s).1 ∧ Upd (fun i => i = bm) w w' := by
  have hh := dev_has h k
  unfold hasE at hh
  unfold writeE
  by_cases hk : k < 0 ∨ (d.length : Int) ≤ k
  · rw [if_pos hk] at hh ⊢
    have HH := Lib.hid hh
    have H := Lib.hid h
    clear hh hk h
    go_enter Tryz.func19, Tryz.ntmps19
    go_wp2_with (go_at_call 38; refine HH.out.mono ?_; rintro e w' ⟨rfl, rfl⟩)
    go_ret
    exact ⟨rfl, H.out, Upd.refl _ _⟩
  · rw [if_neg hk] at hh ⊢
    by_cases hs : 128 < s.length
    · rw [if_pos hs]
      have HH := Lib.hid hh
      have H := Lib.hid h
      clear hh hk h
      go_enter Tryz.func19, Tryz.ntmps19
      go_wp2_with (go_at_call 38; refine HH.out.mono ?_; rintro e w' ⟨rfl, rfl⟩)
      go_ret
      exact ⟨rfl, H.out, Upd.refl _ _⟩
    · rw [if_neg hs]
      obtain ⟨m, rfl⟩ := Int.eq_ofNat_of_zero_le (show 0 ≤ k by omega)
      have hm : m < d.length := by omega
      simp only [Int.toNat_natCast]
      obtain ⟨Z, hZ⟩ := alloc_any
      have hcp := Lib.run_copy_row_string (P := Tryz.prog) (w.alloc (.cells Z 81)) 82 9 3 5 w.heap.size 0 128 128 ⟨s.toArray⟩ Z 81 Tryz.underlying82 (by kernel_rfl) (heap_alloc_new w _) (by rw [size_list]; omega) (by rw [size_list, (hZ w).2]; simp [bytesV_length, zeros_len]; omega)
      have ecs : (Z.toList.take 0 ++ Lib.byteCells (⟨s.toArray⟩ : ByteArray).data.toList ++ Z.toList.drop (0 + s.length)).toArray = (bytesV (Dv.full s)).toArray := by rw [(hZ w).2]; exact full_cells s (by omega)
      rw [World.setRow_alloc_new, size_list, ecs] at hcp
      obtain ⟨l, hl⟩ : ∃ l, l = Dv.full s := ⟨_, rfl⟩
      have hlen : l.length = 128 := by rw [hl]; exact Dv.full_len s (by omega)
      rw [← hl] at hcp ⊢
      have hu : Upd (fun _ => False) w (w.alloc (.cells (bytesV l).toArray 81)).drew := ((Upd.refl _ _).alloc _).drew
      have h1 := h.upd hu (fun f => f) (fun f => f) (fun f => f)
      obtain ⟨w2, hup, hwt, hgr⟩ := h1.waits.put m hm h.ok.2.1 l hlen (Dv.cell d m).1
      have hld : (loadVar 81 ⟨w.heap.size, 0, none⟩).run Tryz.prog (w.alloc (.cells (bytesV l).toArray 81)).drew = .ok (secV l) _ := load_new (w := (w.alloc (.cells (bytesV l).toArray 81)).drew) hlen (heap_alloc_new w _)
      have c1 := cell_heap h1.dev 1 _ rfl
      have HC := Lib.hid hcp
      have HL := Lib.hid hld
      have HU := Lib.hid hup
      have HZ := Lib.hid hZ
      have HH := Lib.hid hh
      have H := Lib.hid h1
      have HO := Lib.hid h.ok
      have hdev : DevAt w2 b bs bm cap (d.set m ((Dv.cell d m).1, some l)) := by
        refine ⟨⟨by rw [List.length_set]; exact h.ok.1, by rw [List.length_set]; exact h.ok.2.1, ?_⟩, h.fits, ?_, ?_, hwt⟩
        · intro x hx
          rcases List.mem_or_eq_of_mem_set hx with hx | rfl
          · exact h.ok.2.2 x hx
          · exact ⟨(cell_len h.ok m hm).1, fun y hy => by simp only [Option.some.injEq] at hy; rw [← hy]; exact hlen⟩
        · rw [List.length_set]; exact grown_heap hgr h1.dev (fun e => h1.bm_ne (by simpa using e.symm))
        · obtain ⟨cs, r1, r2, r3, r4⟩ := h1.row
          refine ⟨cs, grown_heap hgr r1 (fun e => h1.sm_ne (by simpa using e.symm)), r2, by rw [List.length_set]; exact r3, fun k c hc j v hv => ?_⟩
          by_cases e : k = m
          · subst e
            rw [List.getElem?_set_self hm] at hc
            simp only [Option.some.injEq] at hc
            subst hc
            exact r4 k _ (cell_at d k hm) j v hv
          · rw [List.getElem?_set_ne (fun f => e f.symm)] at hc
            exact r4 k c hc j v hv
      have hug : Upd (fun i => i = bm) w w2 := (hu.mono (fun _ _ f => f.elim)).grown hgr (fun k hk _ => by simpa using hk.symm)
      have HD := Lib.hid hdev
      have HG := Lib.hid hug
      clear hcp hld hup hZ hh h h1 hk hwt hgr hdev hug hl
      go_enter Tryz.func19, Tryz.ntmps19
      go_wp2_with (first
        | (go_at_call 38; refine HH.out.mono ?_; rintro e w' ⟨rfl, rfl⟩)
        | (refine wpList_alloc_by rfl 81 rfl _ (HZ.out _).1 ?_))
      rw [HC.out]
      go_wp2
      refine wp_region_still_tail 6 (by kernel_rfl) (by kernel_rfl) ?_
      simp only [List.take_succ_cons, List.take_zero, List.drop_succ_cons, List.drop_zero]
      change wpStill _ _ (World.drew _) (fun a' => wpList _ _ _ _ a' (World.drew _)) _ _
      repeat still_step
      refine wpStill_load rfl 81 (.tmp 8) rfl ⟨w.heap.size, 0, none⟩ rfl (secV l) HL.out ?_
      refine wpStill_nil ?_
      refine wpList_update_by rfl 66 _ _ _ rfl _ _ _ rfl rfl rfl HU.out ?_
      go_wp2
      go_ret
      exact ⟨rfl, HD.out, HG.out⟩

end Go.Proofs.YtocioaondjgceaaGreatDoor
