/- An allocator: Refs, Sure, Free, Waiting, Hold. -/
import Derived.Test.YtieohjibccjliaaAl1
set_option linter.unusedVariables false
set_option linter.unusedSimpArgs false
namespace Go.Proofs.Ytieohjibccjliaa
open Go.RowKit Go.Shelf Go.Maps
set_option maxRecDepth 100000

theorem AlAt.get {lo : Nat} {w : World} {b : Nat} {s : AlS} {h : AlB} (H : AlAt lo w b s h) (p : Int) : getP s.ch p = (getP h.xs p).map (fun y => y.2.2) := by rw [H.ch, getP_map]
theorem AlAt.chain {lo : Nat} {w : World} {b : Nat} {s : AlS} {h : AlB} (H : AlAt lo w b s h) {p : Int} {y : CB} (hy : getP h.xs p = some y) : ChAt w y := H.each _ (getP_mem hy)
theorem isSome_if {o : Option CB} {y : CB} (h : o = some y) : (if o.isSome then (0 : Int) else 5) = 0 := by rw [h]; rfl
def refsA (s : AlS) (p : Int) : Int := match getP s.ch p with | some c => c.2.1 | none => 0
def sureA (s : AlS) (p : Int) : Bool := match getP s.ch p with | some c => c.2.2 | none => false
def chainA (s : AlS) (p : Int) : List Int := match getP s.ch p with | some c => c.1 | none => []
def holdA (s : AlS) (p : Int) : Int × AlS := match getP s.ch p with
  | some c => if c.2.1 = 65535 then (3, s) else (0, { s with ch := putP s.ch p (c.1, c.2.1 + 1, c.2.2) })
  | none => (5, s)
theorem at_Refs {lo : Nat} {w : World} {b : Nat} {s : AlS} {h : AlB} (H : AlAt lo w b s h) (ok : AlOk s) (p : Int) (hp : inI p) :
    Calls Try.prog 27 #[.pointer (some ⟨b, 0, none⟩), .int .i64 p] w fun e w' => e = .returned (.int .i64 (refsA s p)) ∧ w = w' := by
  have HF := Lib.hid (al_find H ok p hp)
  unfold refsA
  rw [H.get p]
  cases hg : getP h.xs p with
  | none =>
    rw [hg] at HF
    simp only [ptrOf, Option.isSome_none, Bool.false_eq_true, if_false] at HF
    clear H
    go_enter Try.func27, Try.ntmps27
    go_wp2_with (go_at_call 36; refine HF.out.mono ?_; rintro e w' ⟨rfl, rfl⟩)
    go_ret
    exact ⟨rfl, rfl⟩
  | some y =>
    rw [hg] at HF
    simp only [ptrOf, Option.isSome_some, if_true] at HF
    obtain ⟨v, hc, _⟩ := H.chain hg
    have c1 := cell_heap hc 1 _ rfl
    have f1 := free_heap hc 1
    obtain ⟨k, r, l, q, sr⟩ := y
    dsimp only at *
    simp only [Option.map_some]
    clear H hc
    go_enter Try.func27, Try.ntmps27
    go_wp2_with (go_at_call 36; refine HF.out.mono ?_; rintro e w' ⟨rfl, rfl⟩)
    go_ret
    exact ⟨rfl, rfl⟩
theorem at_Sure {lo : Nat} {w : World} {b : Nat} {s : AlS} {h : AlB} (H : AlAt lo w b s h) (ok : AlOk s) (p : Int) (hp : inI p) :
    Calls Try.prog 30 #[.pointer (some ⟨b, 0, none⟩), .int .i64 p] w fun e w' => e = .returned (.bool (sureA s p)) ∧ w = w' := by
  have HF := Lib.hid (al_find H ok p hp)
  unfold sureA
  rw [H.get p]
  cases hg : getP h.xs p with
  | none =>
    rw [hg] at HF
    simp only [ptrOf, Option.isSome_none, Bool.false_eq_true, if_false] at HF
    clear H
    go_enter Try.func30, Try.ntmps30
    go_wp2_with (go_at_call 36; refine HF.out.mono ?_; rintro e w' ⟨rfl, rfl⟩)
    go_ret
    exact ⟨rfl, rfl⟩
  | some y =>
    rw [hg] at HF
    simp only [ptrOf, Option.isSome_some, if_true] at HF
    obtain ⟨v, hc, _⟩ := H.chain hg
    have c1 := cell_heap hc 2 _ rfl
    have f1 := free_heap hc 2
    obtain ⟨k, r, l, q, sr⟩ := y
    dsimp only at *
    simp only [Option.map_some]
    clear H hc
    go_enter Try.func30, Try.ntmps30
    go_wp2_with (go_at_call 36; refine HF.out.mono ?_; rintro e w' ⟨rfl, rfl⟩)
    go_ret
    exact ⟨rfl, rfl⟩
theorem at_Free {lo : Nat} {w : World} {b : Nat} {s : AlS} {h : AlB} (H : AlAt lo w b s h) (ok : AlOk s) :
    Calls Try.prog 29 #[.pointer (some ⟨b, 0, none⟩)] w fun e w' => e = .returned (.int .i64 (cntE s.free)) ∧ Upd (fun _ => False) w w' := by
  have HI := Lib.hid (al_is H)
  have HC := Lib.hid (sp_Count H.set ok.free)
  have c0 := cell_heap H.obj 0 _ rfl
  clear H ok
  generalize cntE s.free = C at *
  go_enter Try.func29, Try.ntmps29
  go_wp2_with (go_at_call 33; refine HI.out.mono ?_; rintro e w' ⟨rfl, rfl⟩)
  refine HC.out.mono ?_
  rintro e w1 ⟨rfl, hu⟩
  go_wp2
  go_ret
  exact ⟨rfl, hu⟩
theorem at_Waiting {lo : Nat} {w : World} {b : Nat} {s : AlS} {h : AlB} (H : AlAt lo w b s h) :
    Calls Try.prog 15 #[.pointer (some ⟨b, 0, none⟩)] w fun e w' => e = .returned (.int .i64 (s.wait.length : Nat)) ∧ w = w' := by
  have HI := Lib.hid (al_is H)
  have hl : ∀ ty, (Builtin.len_ #[64] ty #[.map (some h.bw)]).run Try.prog w = .ok (.int .i64 (s.wait.length : Nat)) w := fun ty => by
    rw [World.ownsMap.len H.wait Try.underlying64 ty, mD_size, mapV_len]
  have c2 := cell_heap H.obj 2 _ rfl
  clear H
  generalize s.wait.length = C at *
  go_enter Try.func15, Try.ntmps15
  go_wp2_with (go_at_call 33; refine HI.out.mono ?_; rintro e w' ⟨rfl, rfl⟩)
  go_ret
  exact ⟨rfl, rfl⟩
/-! ### One chain turned -/
theorem putP_same {α : Type} {ps : List (Int × α)} (h : KS ps) {k : Int} {v : α} (hg : getP ps k = some v) : putP ps k v = ps :=
  KS.ext (h.put k v) h fun j => by
    rw [getP_put ps h]
    split
    · rename_i e; rw [e, hg]
    · rfl
theorem mem_put {α : Type} {ps : List (Int × α)} (h : KS ps) {k : Int} {v : α} {x : Int × α} (hx : x ∈ putP ps k v) : x = (k, v) ∨ (x ∈ ps ∧ x.1 ≠ k) := by
  have := (h.put k v).get hx
  rw [getP_put ps h] at this
  split at this
  · rename_i e; left; exact Prod.ext e (Option.some.inj this).symm
  · rename_i e; right; exact ⟨getP_mem this, e⟩
theorem AlAt.turn {lo : Nat} {w w' : World} {b : Nat} {s : AlS} {h : AlB} (H : AlAt lo w b s h) (ok : AlOk s) {p : Int} {k r : Nat} {c c' : Ch} (hg : getP h.xs p = some (k, r, c)) (hu : Upd (fun i => i = k) w w') (hc : ChAt w' (k, r, c')) :
    AlAt lo w' b { s with ch := putP s.ch p c' } { h with xs := putP h.xs p (k, r, c') } := by
  have hks := H.ks ok
  have hm := getP_mem hg
  obtain ⟨v0, hv0, hr0⟩ := H.each _ hm
  dsimp only at hv0 hr0
  have hne : ∀ (i : Nat) (cs : Array Value) (t : TypeId) (fr : Nat × Nat), t ≠ 71 → w.heap[i]? = some (.cells cs t fr) → i ≠ k := fun i cs t fr ht hi e => by
    rw [e, hv0] at hi; simp only [Option.some.injEq, Obj.cells.injEq] at hi; exact ht hi.2.1.symm
  have hnm : ∀ {R : Value → Option (DataW Unit × List MemPlace)} {m : Nat} {D : DataW Unit}, w.ownsMap (H := Unit) Try.prog 3 R m 5000 D → m ≠ k := fun ho e => ownsMap_ne ho hv0 (by rw [e])
  have hblk : mapV blkI (putP h.xs p (k, r, c')) = mapV blkI h.xs := by
    rw [putP_map, putP_same (hks.mapd blkI)]
    rw [getP_map, hg]; rfl
  refine ⟨hu.heap H.obj (hne _ _ _ _ (by decide) H.obj), H.set.upd hu (hne _ _ _ _ (by decide) H.set.set) (fun x hx e => ?_), ?_, ownsMap_upd H.wait hu (hnm H.wait), ?_, fun x hx => ?_, fun x hx y hy e => ?_, H.maps, ?_⟩
  · subst e; exact H.set.row.ne hv0 (by decide) hx
  · dsimp only; rw [hblk]; exact ownsMap_upd H.chains hu (hnm H.chains)
  · dsimp only; rw [putP_map, ← H.ch]
  · rcases mem_put hks hx with rfl | ⟨h1, h2⟩
    · exact hc
    · have hx0 := H.each x h1
      refine hx0.upd hu (fun e => h2 (H.inj x h1 _ hm e)) ?_
      obtain ⟨v1, _, off, cap, cur, _, hrow, _⟩ := hx0
      exact hne _ _ _ _ (by decide) hrow
  · rcases mem_put hks hx with rfl | ⟨h1, h2⟩ <;> rcases mem_put hks hy with rfl | ⟨h3, h4⟩
    · rfl
    · exact (H.inj (p, k, r, c) hm y h3 (by exact e) : p = y.1)
    · exact (H.inj x h1 (p, k, r, c) hm (by exact e) : x.1 = p)
    · exact H.inj x h1 y h3 e
  · obtain ⟨l0, l1, l2, l3, l4, l5⟩ := H.low
    refine ⟨l0, l1, l2, l3, l4, fun x hx => ?_⟩
    rcases mem_put hks hx with rfl | ⟨h1, h2⟩
    · have := l5 _ hm; exact this
    · exact l5 x h1
theorem AlOk.turn {s : AlS} (ok : AlOk s) {p : Int} {c c' : Ch} (hg : getP s.ch p = some c) (h1 : c'.1 = c.1) (h2 : 1 ≤ c'.2.1 ∧ c'.2.1 ≤ 65535) : AlOk { s with ch := putP s.ch p c' } := by
  refine ⟨ok.free, ok.ksc.put p c', ok.ksw, fun x hx => ?_, ok.wait⟩
  rcases mem_put ok.ksc hx with rfl | ⟨k1, k2⟩
  · have := ok.ch _ (getP_mem hg)
    dsimp only at *
    rw [h1]
    exact ⟨this.1, this.2.1, h2, this.2.2.2⟩
  · exact ok.ch x k1
theorem upd_cell (w : World) (k i : Nat) (u : Value) : Upd (fun j => j = k) w (w.setCell ⟨k, i, none⟩ u) := (Upd.refl _ w).setCell (p := ⟨k, i, none⟩) (F := fun j => j = k) (fun _ => rfl) u
theorem at_Hold {lo : Nat} {w : World} {b : Nat} {s : AlS} {h : AlB} (H : AlAt lo w b s h) (ok : AlOk s) (p : Int) (hp : inI p) :
    Calls Try.prog 10 #[.pointer (some ⟨b, 0, none⟩), .int .i64 p] w fun e w' => e = .returned (.int .i64 (holdA s p).1) ∧ (∃ h', AlAt lo w' b (holdA s p).2 h') ∧ AlOk (holdA s p).2 ∧ Upd (AlF h) w w' := by
  have HF := Lib.hid (al_find H ok p hp)
  unfold holdA
  rw [H.get p]
  cases hg : getP h.xs p with
  | none =>
    rw [hg] at HF
    simp only [ptrOf, Option.isSome_none, Bool.false_eq_true, if_false] at HF
    simp only [Option.map_none]
    have HH := Lib.hid H
    clear H
    go_enter Try.func10, Try.ntmps10
    go_wp2_with (go_at_call 36; refine HF.out.mono ?_; rintro e w' ⟨rfl, rfl⟩)
    go_ret
    exact ⟨rfl, ⟨h, HH.out⟩, ok, Upd.refl _ _⟩
  | some y =>
    rw [hg] at HF
    simp only [ptrOf, Option.isSome_some, if_true] at HF
    obtain ⟨k, r, l, q, sr⟩ := y
    have hm := getP_mem hg
    obtain ⟨v, hc, hrow⟩ := H.chain hg
    have hgs : getP s.ch p = some (l, q, sr) := by rw [H.get p, hg]; rfl
    have hq := (ok.ch _ (getP_mem hgs)).2.2.1
    dsimp only at hq hc hrow
    simp only [Option.map_some]
    have c1 := cell_heap hc 1 _ rfl
    have f1 := free_heap hc 1
    by_cases h5 : q = 65535
    · rw [if_pos h5]
      subst h5
      have HH := Lib.hid H
      clear H hc hq hrow
      go_enter Try.func10, Try.ntmps10
      go_wp2_with (go_at_call 36; refine HF.out.mono ?_; rintro e w' ⟨rfl, rfl⟩)
      go_ret
      exact ⟨rfl, ⟨h, HH.out⟩, ok, Upd.refl _ _⟩
    · rw [if_neg h5]
      have hd : (q == 65535) = false := by simpa using h5
      have hw : IntKind.i64.wrap (q + 1) = q + 1 := IntWalk.i64_in _ (by omega)
      have HH := Lib.hid H
      have HC := Lib.hid hc
      have HR := Lib.hid hrow
      have HQ := Lib.hid hq
      clear H hc hq hrow h5
      go_enter Try.func10, Try.ntmps10
      go_wp2_with (go_at_call 36; refine HF.out.mono ?_; rintro e w' ⟨rfl, rfl⟩)
      go_ret
      have hu := upd_cell w k 1 (.int .i64 (q + 1))
      have hrk : r ≠ k := by
        obtain ⟨off, cap, cur, _, hrow, _⟩ := HR.out
        intro e; rw [e, HC.out] at hrow; simp only [Option.some.injEq, Obj.cells.injEq] at hrow; exact absurd hrow.2.1 (by decide)
      refine ⟨rfl, ⟨_, HH.out.turn ok hg hu ⟨v, ?_, HR.out.upd hu hrk⟩⟩, ok.turn hgs rfl ?_, hu.mono (fun i _ e => ?_)⟩
      · rw [heap_setCell_eq HC.out]; rfl
      · have := HQ.out; dsimp only; simp at hd; omega
      · exact .inr (.inr (.inr (.inr ⟨_, hm, e.symm⟩)))

end Go.Proofs.Ytieohjibccjliaa
