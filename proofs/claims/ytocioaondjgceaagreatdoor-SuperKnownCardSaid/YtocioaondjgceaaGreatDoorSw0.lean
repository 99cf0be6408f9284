/- super.Write over a fuse. -/
import Derived.Test.YtocioaondjgceaaGreatDoorSupL1
import Derived.Test.YtocioaondjgceaaGreatDoorFz3
set_option linter.unusedVariables false
set_option linter.unusedSimpArgs false
namespace Go.Proofs.YtocioaondjgceaaGreatDoor
open Go.RowKit Go.Maps

def supWriteE (f : Fz) (d : List Dv.Cel) (s : Sp.Sup) : Int × Fz × List Dv.Cel := if (Sp.put s).2 ≠ 0 then ((Sp.put s).2, f, d) else f.writeE d ((s.gen % 2 : Nat) : Int) (Sp.put s).1
theorem put_len (s : Sp.Sup) (hg : s.gen < 18446744073709551616) (hc : s.calls < 18446744073709551616) : (Sp.put s).1.length ≤ 128 := by
  by_cases h : Sp.may s = true
  · obtain ⟨u, e, hl, _⟩ := Sp.put_ok s hg hc h
    rw [e]; show u.length ≤ 128; omega
  · rw [Sp.put_no s (by simpa using h)]; simp
set_option maxHeartbeats 1000000 in
set_option maxRecDepth 100000 in
theorem super_Write {w : World} {bf b bs bm cap : Nat} {cad : Option Addr} {cc : Nat} {f : Fz} {d : List Dv.Cel} (h : FD w bf b bs bm cap cad cc f d) (hacts : f.acts ≤ 4611686018427387904) (s : Sp.Sup) (hg : s.gen < 18446744073709551616) (hc : s.calls < 18446744073709551616) :
    Calls Tryz.prog 14 #[.pointer (some ⟨bf, 0, none⟩), supV s] w fun e w' => e = .returned (.int .i64 (supWriteE f d s).1) ∧ FD w' bf b bs bm cap cad cc (supWriteE f d s).2.1 (supWriteE f d s).2.2 ∧ Upd (FdF bf bs bm) w w' := by
  have hP := fun w => sup_Put s w hg hc
  have hS := fun w => sup_Slot s.gen w hg
  have hpl := put_len s hg hc
  unfold supWriteE
  generalize Sp.put s = P at hP hpl ⊢
  obtain ⟨u, c⟩ := P
  dsimp only at hpl
  have u1 : Upd (fun _ => False) w (w.alloc (.cells #[.int .u64 s.gen, .int .u64 s.calls, .int .i64 s.root, .int .i64 s.table, .int .i64 s.sectors] 25)) := (Upd.refl _ w).alloc _
  have hb := heap_alloc_new w (.cells #[.int .u64 s.gen, .int .u64 s.calls, .int .i64 s.root, .int .i64 s.table, .int .i64 s.sectors] 25)
  have H1 := Lib.hid (h.upd0 u1)
  have HB := Lib.hid hb
  have HU := Lib.hid u1
  have HP := Lib.hid hP
  have HS := Lib.hid hS
  have HW := Lib.hid (fun (w9 : World) (h9 : FD w9 bf b bs bm cap cad cc f d) => fuse_Write h9 hacts ((s.gen % 2 : Nat) : Int) u (by omega))
  obtain ⟨k, hk⟩ : ∃ k, k = s.gen % 2 := ⟨_, rfl⟩
  rw [← hk] at HW HS ⊢
  clear h hP hS u1 hb hk hpl
  obtain ⟨gen, calls, root, table, sectors⟩ := s
  dsimp only at *
  unfold supV at HP ⊢
  dsimp only at *
  by_cases hcz : c = 0
  · subst hcz
    simp only [ne_eq, not_true_eq_false, if_false]
    go_enter Tryz.func14, Tryz.ntmps14
    go_wp2_with (fail)
    refine (HP.out _).mono ?_
    rintro e w2 ⟨rfl, u2⟩
    have c0 := cell_heap (u2.heap HB.out (fun f => f)) 0 _ rfl
    have H2 := Lib.hid (H1.out.upd0 u2)
    have HU2 := Lib.hid (HU.out.trans u2 (fun _ _ f => f))
    clear u2
    go_wp2_with (fail)
    refine (HS.out _).mono ?_
    rintro e wz ⟨rfl, rfl⟩
    go_wp2_with (fail)
    refine (HW.out _ H2.out).mono ?_
    rintro e w3 ⟨rfl, h3, u3⟩
    go_wp2
    go_ret
    exact ⟨rfl, h3, (HU2.out.mono (fun _ _ f => f.elim)).trans u3 (fun _ _ e => e)⟩
  · have hcb : (c != 0) = true := by simpa using hcz
    have hcb2 : (c == 0) = false := by simpa using hcz
    rw [if_pos hcz]
    go_enter Tryz.func14, Tryz.ntmps14
    go_wp2_with (fail)
    refine (HP.out _).mono ?_
    rintro e w2 ⟨rfl, u2⟩
    have H2 := Lib.hid (H1.out.upd0 u2)
    have HU2 := Lib.hid (HU.out.trans u2 (fun _ _ f => f))
    clear u2
    go_wp2
    go_ret
    exact ⟨rfl, H2.out, HU2.out.mono (fun _ _ f => f.elim)⟩

end Go.Proofs.YtocioaondjgceaaGreatDoor
