/- The fuse: what lies in memory; Down, why, Blow, Read, Device, Count. -/
import Derived.Test.YtocioaondjgceaaGreatDoorDev9
set_option linter.unusedVariables false
set_option linter.unusedSimpArgs false
namespace Go.Proofs.YtocioaondjgceaaGreatDoor
open Go.RowKit Go.Maps

structure Fz where
  left : Int
  acts : Nat
  holding : Bool
  ks : List Int
def Fz.Ok (f : Fz) : Prop := -1 ≤ f.left ∧ f.left ≤ 9223372036854775807 ∧ f.ks.length ≤ 9223372036854775807
def Fz.cells (f : Fz) (b : Nat) (cad : Option Addr) (cc : Nat) : Array Value := #[.pointer (some ⟨b, 0, none⟩), .slice cad f.ks.length cc, .int .i64 f.left, .int .i64 (f.acts : Int), .bool f.holding]
/-- A fuse, and the device that it leads to. -/
structure FD (w : World) (bf b bs bm cap : Nat) (cad : Option Addr) (cc : Nat) (f : Fz) (d : List Dv.Cel) : Prop where
  ok : f.Ok
  fz : w.heap[bf]? = some (.cells (f.cells b cad cc) 70 (0, 0))
  row : f.ks = [] ∨ ∃ g cs, cad = some ⟨g, 0, none⟩ ∧ w.heap[g]? = some (.cells cs 3 (0, 0)) ∧ ∀ j, j < f.ks.length → cs[j]? = some (.int .i64 (f.ks.getD j 0))
  dev : DevAt w b bs bm cap d
theorem FD.ltf {w : World} {bf b bs bm cap : Nat} {cad : Option Addr} {cc : Nat} {f : Fz} {d : List Dv.Cel} (h : FD w bf b bs bm cap cad cc f d) : bf < w.heap.size := lt_of_heap h.fz
theorem FD.ne {w : World} {bf b bs bm cap : Nat} {cad : Option Addr} {cc : Nat} {f : Fz} {d : List Dv.Cel} (h : FD w bf b bs bm cap cad cc f d) : bf ≠ b ∧ bf ≠ bs ∧ bf ≠ bm := by
  refine ⟨?_, ?_, ?_⟩
  · intro e
    have := h.dev.dev
    rw [← e, h.fz] at this
    simp only [Option.some.injEq, Obj.cells.injEq] at this
    exact absurd this.2.1 (by decide)
  · intro e
    obtain ⟨cs, hb, _⟩ := h.dev.row
    rw [← e, h.fz] at hb
    simp only [Option.some.injEq, Obj.cells.injEq] at hb
    exact absurd hb.2.1 (by decide)
  · intro e
    obtain ⟨es, c, hb, _⟩ := h.dev.waits
    rw [← e, h.fz] at hb
    cases hb
theorem FD.cell {w : World} {bf b bs bm cap : Nat} {cad : Option Addr} {cc : Nat} {f : Fz} {d : List Dv.Cel} (h : FD w bf b bs bm cap cad cc f d) :
    w.cell? ⟨bf, 0, none⟩ = some (.pointer (some ⟨b, 0, none⟩)) ∧ w.cell? ⟨bf, 1, none⟩ = some (.slice cad f.ks.length cc) ∧ w.cell? ⟨bf, 2, none⟩ = some (.int .i64 f.left) ∧ w.cell? ⟨bf, 3, none⟩ = some (.int .i64 (f.acts : Int)) ∧ w.cell? ⟨bf, 4, none⟩ = some (.bool f.holding) ∧
      ∀ i, w.frozen? ⟨bf, i, none⟩ = false :=
  ⟨cell_heap h.fz 0 _ rfl, cell_heap h.fz 1 _ rfl, cell_heap h.fz 2 _ rfl, cell_heap h.fz 3 _ rfl, cell_heap h.fz 4 _ rfl, fun i => free_heap h.fz i⟩
/-- What a call leaves alone: neither the fuse nor what its device holds. -/
theorem FD.upd {F : Nat → Prop} {w w' : World} {bf b bs bm cap : Nat} {cad : Option Addr} {cc : Nat} {f : Fz} {d : List Dv.Cel} (h : FD w bf b bs bm cap cad cc f d) (hu : Upd F w w') (h1 : ¬ F bf) (h2 : ¬ F b) (h3 : ¬ F bs) (h4 : ¬ F bm)
    (h5 : ∀ g, cad = some ⟨g, 0, none⟩ → f.ks ≠ [] → ¬ F g) : FD w' bf b bs bm cap cad cc f d :=
  ⟨h.ok, hu.heap h.fz h1, by
    rcases h.row with e | ⟨g, cs, e, hg, hc⟩
    · exact Or.inl e
    · by_cases he : f.ks = []
      · exact Or.inl he
      · exact Or.inr ⟨g, cs, e, hu.heap hg (h5 g e he), hc⟩, h.dev.upd hu h2 h3 h4⟩
theorem FD.upd0 {w w' : World} {bf b bs bm cap : Nat} {cad : Option Addr} {cc : Nat} {f : Fz} {d : List Dv.Cel} (h : FD w bf b bs bm cap cad cc f d) (hu : Upd (fun _ => False) w w') : FD w' bf b bs bm cap cad cc f d :=
  h.upd hu (fun f => f) (fun f => f) (fun f => f) (fun f => f) (fun _ _ _ f => f)
theorem FD.far {w : World} {bf b bs bm cap : Nat} {cad : Option Addr} {cc : Nat} {f : Fz} {d : List Dv.Cel} (h : FD w bf b bs bm cap cad cc f d) (g : Nat) (hg : cad = some ⟨g, 0, none⟩) (hne : f.ks ≠ []) : g ≠ bs ∧ g ≠ bm ∧ g ≠ bf ∧ g < w.heap.size ∧ ∃ cs, w.heap[g]? = some (.cells cs 3 (0, 0)) := by
  rcases h.row with e | ⟨g', cs, e, hg', hc⟩
  · exact absurd e hne
  · rw [hg] at e
    obtain rfl : g = g' := by simpa using e
    refine ⟨?_, ?_, ?_, lt_of_heap hg', cs, hg'⟩
    · intro e
      obtain ⟨cs', hb, _⟩ := h.dev.row
      rw [← e, hg'] at hb
      simp only [Option.some.injEq, Obj.cells.injEq] at hb
      exact absurd hb.2.1 (by decide)
    · intro e
      obtain ⟨es, c, hb, _⟩ := h.dev.waits
      rw [← e, hg'] at hb
      cases hb
    · intro e
      have := h.fz
      rw [← e, hg'] at this
      simp only [Option.some.injEq, Obj.cells.injEq] at this
      exact absurd this.2.1 (by decide)
theorem FD.nums {w : World} {bf b bs bm cap : Nat} {cad : Option Addr} {cc : Nat} {f : Fz} {d : List Dv.Cel} (h : FD w bf b bs bm cap cad cc f d) (j : Nat) (hj : j < f.ks.length) : ∃ a : Addr, cad = some a ∧ w.cell? (a.add j) = some (.int .i64 (f.ks.getD j 0)) := by
  rcases h.row with e | ⟨g, cs, e, hg, hc⟩
  · rw [e] at hj; cases hj
  · refine ⟨_, e, ?_⟩
    have hadd : (⟨g, 0, none⟩ : Addr).add j = ⟨g, j, none⟩ := by unfold Addr.add; split <;> simp_all
    rw [hadd]
    exact cell_heap hg j _ (hc j hj)
/-- The device has turned. -/
theorem FD.turned {F : Nat → Prop} {w w' : World} {bf b bs bm cap : Nat} {cad : Option Addr} {cc : Nat} {f : Fz} {d d' : List Dv.Cel} (h : FD w bf b bs bm cap cad cc f d) (hd : DevAt w' b bs bm cap d') (hu : Upd F w w') (h1 : ¬ F bf) (h5 : ∀ g, cad = some ⟨g, 0, none⟩ → f.ks ≠ [] → ¬ F g) : FD w' bf b bs bm cap cad cc f d' :=
  ⟨h.ok, hu.heap h.fz h1, by
    rcases h.row with e | ⟨g, cs, e, hg, hc⟩
    · exact Or.inl e
    · by_cases he : f.ks = []
      · exact Or.inl he
      · exact Or.inr ⟨g, cs, e, hu.heap hg (h5 g e he), hc⟩, hd⟩
/-- The fuse has turned. -/
theorem FD.set {w w' : World} {bf b bs bm cap : Nat} {cad : Option Addr} {cc : Nat} {f f' : Fz} {d : List Dv.Cel} (h : FD w bf b bs bm cap cad cc f d) (hu : Upd (fun i => i = bf) w w') (hok : f'.Ok) (hks : f'.ks = f.ks) (hz : w'.heap[bf]? = some (.cells (f'.cells b cad cc) 70 (0, 0))) : FD w' bf b bs bm cap cad cc f' d := by
  obtain ⟨n1, n2, n3⟩ := h.ne
  refine ⟨hok, hz, ?_, h.dev.upd hu (fun e => n1 e.symm) (fun e => n2 e.symm) (fun e => n3 e.symm)⟩
  rw [hks]
  rcases h.row with e | ⟨g, cs, e, hg, hc⟩
  · exact Or.inl e
  · by_cases he : f.ks = []
    · exact Or.inl he
    · exact Or.inr ⟨g, cs, e, hu.heap hg (fun e2 => (h.far g e he).2.2.1 e2), hc⟩

/-- Where a call on a fuse may write. -/
def FdF (bf bs bm : Nat) (i : Nat) : Prop := i = bf ∨ i = bs ∨ i = bm

theorem fuse_Down {w : World} {bf b bs bm cap : Nat} {cad : Option Addr} {cc : Nat} {f : Fz} {d : List Dv.Cel} (h : FD w bf b bs bm cap cad cc f d) :
    Calls Tryz.prog 34 #[.pointer (some ⟨bf, 0, none⟩)] w fun e w' => e = .returned (.bool (!f.holding)) ∧ w = w' := by
  obtain ⟨c0, c1, c2, c3, c4, _⟩ := h.cell
  clear h
  generalize f.holding = q at c4 ⊢
  cases q <;>
  · go_enter Tryz.func34, Tryz.ntmps34
    go_wp2
    go_ret
    exact ⟨rfl, rfl⟩
theorem fuse_why {w : World} {bf b bs bm cap : Nat} {cad : Option Addr} {cc : Nat} {f : Fz} {d : List Dv.Cel} (h : FD w bf b bs bm cap cad cc f d) :
    Calls Tryz.prog 62 #[.pointer (some ⟨bf, 0, none⟩)] w fun e w' => e = .returned (.int .i64 8) ∧ w = w' := by
  obtain ⟨c0, c1, c2, c3, c4, _⟩ := h.cell
  clear h
  go_enter Tryz.func62, Tryz.ntmps62
  go_wp2
  go_ret
  exact ⟨rfl, rfl⟩
theorem nofuse_Down (w : World) : Calls Tryz.prog 34 #[.pointer none] w fun e w' => e = .returned (.bool true) ∧ w = w' := by
  go_enter Tryz.func34, Tryz.ntmps34
  go_wp2
  go_ret
  exact ⟨rfl, rfl⟩
theorem nofuse_why (w : World) : Calls Tryz.prog 62 #[.pointer none] w fun e w' => e = .returned (.int .i64 1) ∧ w = w' := by
  go_enter Tryz.func62, Tryz.ntmps62
  go_wp2
  go_ret
  exact ⟨rfl, rfl⟩
theorem nofuse_Read (k : Int) (w : World) : Calls Tryz.prog 30 #[.pointer none, .int .i64 k] w (DStrE ([], 1) w) := by
  have HD := Lib.hid (nofuse_Down w)
  have HY := Lib.hid (nofuse_why w)
  go_enter Tryz.func30, Tryz.ntmps30
  go_wp2_with (fail)
  refine HD.out.mono ?_
  rintro e wz ⟨rfl, rfl⟩
  go_wp2_with (fail)
  refine HY.out.mono ?_
  rintro e wz ⟨rfl, rfl⟩
  go_wp2
  go_ret2
  exact ⟨rfl, Upd.refl _ _⟩
def Fz.readE (f : Fz) (d : List Dv.Cel) (k : Int) : List UInt8 × Int := if f.holding then _root_.Go.Proofs.YtocioaondjgceaaGreatDoor.readE d k else ([], 8)
theorem fuse_Read {w : World} {bf b bs bm cap : Nat} {cad : Option Addr} {cc : Nat} {f : Fz} {d : List Dv.Cel} (h : FD w bf b bs bm cap cad cc f d) (k : Int) :
    Calls Tryz.prog 30 #[.pointer (some ⟨bf, 0, none⟩), .int .i64 k] w (DStrE (f.readE d k) w) := by
  have HD := Lib.hid (fuse_Down h)
  have HY := Lib.hid (fuse_why h)
  have HR := Lib.hid (dev_Read h.dev k)
  obtain ⟨c0, c1, c2, c3, c4, _⟩ := h.cell
  unfold Fz.readE
  clear h
  generalize f.holding = q at c4 HD ⊢
  cases q
  · rw [if_neg (by decide)]
    go_enter Tryz.func30, Tryz.ntmps30
    go_wp2_with (fail)
    refine HD.out.mono ?_
    rintro e wz ⟨rfl, rfl⟩
    go_wp2_with (fail)
    refine HY.out.mono ?_
    rintro e wz ⟨rfl, rfl⟩
    go_wp2
    go_ret2
    exact ⟨rfl, Upd.refl _ _⟩
  · rw [if_pos rfl]
    generalize readE d k = rr at HR ⊢
    obtain ⟨s, c⟩ := rr
    go_enter Tryz.func30, Tryz.ntmps30
    go_wp2_with (fail)
    refine HD.out.mono ?_
    rintro e wz ⟨rfl, rfl⟩
    go_wp2_with (fail)
    refine HR.out.mono ?_
    rintro e w1 ⟨rfl, u1⟩
    go_wp2
    go_ret2
    exact ⟨rfl, u1⟩
theorem fuse_Device {w : World} {bf b bs bm cap : Nat} {cad : Option Addr} {cc : Nat} {f : Fz} {d : List Dv.Cel} (h : FD w bf b bs bm cap cad cc f d) :
    Calls Tryz.prog 31 #[.pointer (some ⟨bf, 0, none⟩)] w fun e w' => e = .returned (.pointer (some ⟨b, 0, none⟩)) ∧ w = w' := by
  obtain ⟨c0, _⟩ := h.cell
  clear h
  go_enter Tryz.func31, Tryz.ntmps31
  go_wp2
  go_ret
  exact ⟨rfl, rfl⟩
theorem fuse_Count {w : World} {bf b bs bm cap : Nat} {cad : Option Addr} {cc : Nat} {f : Fz} {d : List Dv.Cel} (h : FD w bf b bs bm cap cad cc f d) :
    Calls Tryz.prog 24 #[.pointer (some ⟨bf, 0, none⟩)] w fun e w' => e = .returned (.int .i64 (f.acts : Int)) ∧ w = w' := by
  obtain ⟨c0, c1, c2, c3, c4, _⟩ := h.cell
  clear h
  go_enter Tryz.func24, Tryz.ntmps24
  go_wp2
  go_ret
  exact ⟨rfl, rfl⟩

def Fz.blow (f : Fz) (d : List Dv.Cel) : Fz × List Dv.Cel := if f.holding then ({ f with holding := false }, Dv.settleF (crashC f.ks) 0 d) else (f, d)
set_option maxHeartbeats 1000000 in
set_option maxRecDepth 100000 in
theorem fuse_Blow {w : World} {bf b bs bm cap : Nat} {cad : Option Addr} {cc : Nat} {f : Fz} {d : List Dv.Cel} (h : FD w bf b bs bm cap cad cc f d) :
    Calls Tryz.prog 15 #[.pointer (some ⟨bf, 0, none⟩)] w fun e w' => e = .returned (.tuple #[]) ∧ FD w' bf b bs bm cap cad cc (f.blow d).1 (f.blow d).2 ∧ Upd (FdF bf bs bm) w w' := by
  have HD := Lib.hid (fuse_Down h)
  unfold Fz.blow
  obtain ⟨q, hq⟩ : ∃ q, q = f.holding := ⟨_, rfl⟩
  rw [← hq] at HD ⊢
  cases q
  · rw [if_neg (by decide)]
    have H := Lib.hid h
    clear h hq
    go_enter Tryz.func15, Tryz.ntmps15
    go_wp2_with (fail)
    refine HD.out.mono ?_
    rintro e wz ⟨rfl, rfl⟩
    go_wp2
    go_end0
    exact ⟨rfl, H.out, Upd.refl _ _⟩
  · rw [if_pos rfl]
    have c4 := h.cell.2.2.2.2.1
    have f4 := h.cell.2.2.2.2.2 4
    have hu1 : Upd (fun i => i = bf) w (w.setCell ⟨bf, 4, none⟩ (.bool false)) := (Upd.refl (fun i => i = bf) w).setCell (p := ⟨bf, 4, none⟩) (fun _ => rfl) _
    have h1 : FD (w.setCell ⟨bf, 4, none⟩ (.bool false)) bf b bs bm cap cad cc { f with holding := false } d := h.set hu1 h.ok rfl (heap_setCell_eq h.fz _)
    have d0 := h1.cell.1
    have d1 := h1.cell.2.1
    have hdr := h1.upd0 (Upd.refl (fun _ => False) _).drew
    have HC := Lib.hid (dev_Crash (cp := cc) hdr.dev h1.ok.2.2 (fun j hj => hdr.nums j hj) (fun a e hne => by
      rcases hdr.row with he | ⟨g, cs, e2, _⟩
      · exact absurd he hne
      · rw [e] at e2
        obtain rfl : a = ⟨g, 0, none⟩ := by simpa using e2
        have := hdr.far g e hne
        exact ⟨this.1, this.2.1⟩))
    have HH := Lib.hid h1
    have HU := Lib.hid hu1
    obtain ⟨n, hn⟩ : ∃ n, n = f.ks.length := ⟨_, rfl⟩
    rw [← hq] at c4
    change (World.setCell _ _ _).cell? _ = some (.slice cad f.ks.length cc) at d1
    change Hid (Calls _ _ #[_, .slice cad f.ks.length cc] _ _) at HC
    rw [← hn] at d1 HC
    clear h h1 hdr hu1 hq hn
    go_enter Tryz.func15, Tryz.ntmps15
    go_wp2_with (fail)
    refine HD.out.mono ?_
    rintro e wz ⟨rfl, rfl⟩
    go_wp2
    refine wp_region_still_tail 8 (by kernel_rfl) (by kernel_rfl) ?_
    simp only [List.take_succ_cons, List.take_zero, List.drop_succ_cons, List.drop_zero]
    change wpStill _ _ (World.drew _) (fun a' => wpList _ _ _ _ a' (World.drew _)) _ _
    repeat still_step
    refine wpStill_nil ?_
    go_wp2_with (fail)
    refine HC.out.mono ?_
    rintro e w2 ⟨rfl, hd2, u2⟩
    go_wp2
    go_end0
    obtain ⟨n1, n2, n3⟩ := HH.out.ne
    refine ⟨rfl, (HH.out.upd0 (Upd.refl (fun _ => False) _).drew).turned hd2 u2 (fun e => by rcases e with e | e <;> omega) (fun g e hne hf => ?_), ?_⟩
    · have := HH.out.far g e hne
      rcases hf with hf | hf <;> omega
    · exact (HU.out.mono (fun i _ e => Or.inl e)).trans (u2.of_drew) (fun i _ e => Or.inr e)

end Go.Proofs.YtocioaondjgceaaGreatDoor
