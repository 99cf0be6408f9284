/- The fuse: Write. -/
import Derived.Test.YtocioaondjgceaaGreatDoorFz1
set_option linter.unusedVariables false
set_option linter.unusedSimpArgs false
namespace Go.Proofs.YtocioaondjgceaaGreatDoor
open Go.RowKit Go.Maps

/-- Write through a fuse: the code, the fuse, the device. -/
def Fz.writeE (f : Fz) (d : List Dv.Cel) (k : Int) (s : List UInt8) : Int × Fz × List Dv.Cel :=
  (if (f.act d (_root_.Go.Proofs.YtocioaondjgceaaGreatDoor.writeE d k s).1).1 then (_root_.Go.Proofs.YtocioaondjgceaaGreatDoor.writeE d k s).2 else 8, (f.act d (_root_.Go.Proofs.YtocioaondjgceaaGreatDoor.writeE d k s).1).2.1, (f.act d (_root_.Go.Proofs.YtocioaondjgceaaGreatDoor.writeE d k s).1).2.2)
theorem results_err {fn : Func} {p : Tmp} (h : fn.results = #[.cell p 29]) (tmps : Array Value) (w : World) (g : Nat) (r : Int) (fr : Nat × Nat) (hp : tmps.getD p undef = .pointer (some ⟨g, 0, none⟩)) (hg : w.heap[g]? = some (.cells #[.int .i64 r] 29 fr)) :
    (results fn tmps).run Tryz.prog w = .ok (.int .i64 r) w := by
  have hl : (loadVar 29 ⟨g, 0, none⟩).run Tryz.prog w = .ok (.int .i64 r) w := by
    have hc := cell_heap hg 0 (.int .i64 r) rfl
    go_simp
  have hp' : tmps[p]?.getD undef = .pointer (some ⟨g, 0, none⟩) := by simpa using hp
  simp [results, h, hp', asAddr, hl]
set_option maxHeartbeats 1000000 in
set_option maxRecDepth 100000 in
theorem fuse_Write {w : World} {bf b bs bm cap : Nat} {cad : Option Addr} {cc : Nat} {f : Fz} {d : List Dv.Cel} (h : FD w bf b bs bm cap cad cc f d) (hacts : f.acts ≤ 4611686018427387904) (k : Int) (s : List UInt8) (hsl : s.length ≤ 9223372036854775807) :
    Calls Tryz.prog 33 #[.pointer (some ⟨bf, 0, none⟩), .int .i64 k, .string ⟨s.toArray⟩] w fun e w' => e = .returned (.int .i64 (f.writeE d k s).1) ∧ FD w' bf b bs bm cap cad cc (f.writeE d k s).2.1 (f.writeE d k s).2.2 ∧ Upd (FdF bf bs bm) w w' := by
  obtain ⟨W, hW⟩ : ∃ W, W = ((w.alloc (.cells #[.int .i64 k] 3)).alloc (.cells #[.string ⟨s.toArray⟩] 9)).alloc (.cells #[.int .i64 0] 29) := ⟨_, rfl⟩
  have u1 : Upd (fun _ => False) w W := by rw [hW]; exact (((Upd.refl _ w).alloc _).alloc _).alloc _
  have hc : WrC W w.heap.size (w.heap.size + 1) (w.heap.size + 1 + 1) k s 0 := by
    rw [hW]
    refine ⟨⟨_, heap_alloc_lt (heap_alloc_lt (heap_alloc_new w _) _) _⟩, ⟨_, heap_alloc_lt (heap_alloc_new2 w _ _) _⟩, ?_⟩
    have := heap_alloc_new ((w.alloc (.cells #[.int .i64 k] 3)).alloc (.cells #[.string ⟨s.toArray⟩] 9)) (.cells #[.int .i64 0] 29)
    simpa using this
  have h1 := h.upd0 u1
  have HA := Lib.hid (fuse_act_W h1 hacts hc hsl)
  have HY := Lib.hid (fun (w9 : World) (f9 : Fz) (d9 : List Dv.Cel) (h9 : FD w9 bf b bs bm cap cad cc f9 d9) => fuse_why h9)
  have HU := Lib.hid u1
  have HLT := Lib.hid (show bf < w.heap.size ∧ bs < w.heap.size ∧ bm < w.heap.size from ⟨h.ltf, h.dev.lts, h.dev.ltm⟩)
  unfold Fz.writeE
  have hcode : ((f.act d (writeE d k s).1).1 = true → f.does = true) := by
    unfold Fz.act Fz.does
    cases f.holding
    · intro h; simp at h
    · by_cases hz : f.left = 0
      · simp only [if_true, if_pos hz]; intro h; cases h
      · intro _; simp [hz]
  generalize f.act d (writeE d k s).1 = R at HA hcode ⊢
  generalize f.does = D at HA hcode
  generalize (writeE d k s).2 = code at HA ⊢
  obtain ⟨ret, f', d'⟩ := R
  dsimp only at hcode
  rw [hW] at HA HU
  clear h h1 hc u1 hW
  cases ret
  · clear hcode
    go_enter Tryz.func33, Tryz.ntmps33
    go_wp2_with (fail)
    refine HA.out.mono ?_
    rintro e w2 ⟨rfl, h2, hp2, u2⟩
    have ce := cell_heap hp2 0 _ rfl
    have fe := free_heap hp2 0
    have HP := Lib.hid hp2
    have H2 := Lib.hid h2
    have HU2 := Lib.hid u2
    clear hp2 h2 u2
    go_wp2_with (fail)
    refine (HY.out _ _ _ H2.out).mono ?_
    rintro e wz ⟨rfl, rfl⟩
    go_wp2
    have hu3 : Upd (fun i => i = w.heap.size + 1 + 1) w2 (w2.setCell ⟨w.heap.size + 1 + 1, 0, none⟩ (.int .i64 8)) := (Upd.refl (fun i => i = w.heap.size + 1 + 1) w2).setCell (p := ⟨w.heap.size + 1 + 1, 0, none⟩) (fun _ => rfl) _
    refine bodyPost_ret (results_err rfl _ _ (w.heap.size + 1 + 1) 8 _ rfl (heap_setCell_eq HP.out _)) rfl ⟨rfl, ?_, ?_⟩
    · have hl := HLT.out
      refine H2.out.upd hu3 (fun e => by omega) (fun e => ?_) (fun e => by omega) (fun e => by omega) (fun g e hne hg => ?_)
      · have := H2.out.dev.dev; rw [e, HP.out] at this; simp at this
      · obtain ⟨_, _, _, _, cs, hcs⟩ := H2.out.far g e hne
        rw [hg, HP.out] at hcs; simp at hcs
    · refine ((HU.out.mono (fun _ _ f => f.elim)).trans HU2.out (F := FdF bf bs bm) (fun i hi e => ?_)).trans hu3 (fun i hi e => ?_)
      · rcases e with e | e
        · exact e
        · omega
      · omega
  · have hD := hcode rfl
    subst hD
    simp only [if_true] at HA ⊢
    clear hcode
    go_enter Tryz.func33, Tryz.ntmps33
    go_wp2_with (fail)
    refine HA.out.mono ?_
    rintro e w2 ⟨rfl, h2, hp2, u2⟩
    have ce := cell_heap hp2 0 _ rfl
    have fe := free_heap hp2 0
    have HP := Lib.hid hp2
    have H2 := Lib.hid h2
    have HU2 := Lib.hid u2
    clear hp2 h2 u2
    go_wp2
    have hu3 : Upd (fun i => i = w.heap.size + 1 + 1) w2 (w2.setCell ⟨w.heap.size + 1 + 1, 0, none⟩ (.int .i64 code)) := (Upd.refl (fun i => i = w.heap.size + 1 + 1) w2).setCell (p := ⟨w.heap.size + 1 + 1, 0, none⟩) (fun _ => rfl) _
    refine bodyPost_ret (results_err rfl _ _ (w.heap.size + 1 + 1) code _ rfl (heap_setCell_eq HP.out _)) rfl ⟨rfl, ?_, ?_⟩
    · have hl := HLT.out
      refine H2.out.upd hu3 (fun e => by omega) (fun e => ?_) (fun e => by omega) (fun e => by omega) (fun g e hne hg => ?_)
      · have := H2.out.dev.dev; rw [e, HP.out] at this; simp at this
      · obtain ⟨_, _, _, _, cs, hcs⟩ := H2.out.far g e hne
        rw [hg, HP.out] at hcs; simp at hcs
    · refine ((HU.out.mono (fun _ _ f => f.elim)).trans HU2.out (F := FdF bf bs bm) (fun i hi e => ?_)).trans hu3 (fun i hi e => ?_)
      · rcases e with e | e
        · exact e
        · omega
      · omega

end Go.Proofs.YtocioaondjgceaaGreatDoor
