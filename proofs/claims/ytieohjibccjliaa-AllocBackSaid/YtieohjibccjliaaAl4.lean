/- An allocator: Drop. -/
import Derived.Test.YtieohjibccjliaaAl3
set_option linter.unusedVariables false
set_option linter.unusedSimpArgs false
namespace Go.Proofs.Ytieohjibccjliaa
open Go.RowKit Go.Shelf Go.Maps
set_option maxRecDepth 100000

def ChV (w : World) (v : Value) (y : CB) : Prop := w.heap[y.1]? = some (.cells #[v, .int .i64 y.2.2.2.1, .bool y.2.2.2.2] 71 (0, 0)) ∧ IntRow w v y.2.1 y.2.2.1
theorem ChV.upd {F : Nat → Prop} {w w' : World} {v : Value} {y : CB} (h : ChV w v y) (hu : Upd F w w') (h1 : ¬ F y.1) (h2 : ¬ F y.2.1) : ChV w' v y := ⟨hu.heap h.1 h1, h.2.upd hu h2⟩
/-- Since w, on the way: the same blocks, but for the set's row. -/
def AlSt (lo : Nat) (w : World) (b : Nat) (h : AlB) (wr : World) (s' : AlS) (xs' : List (Int × CB)) : Prop :=
  ∃ row v, AlAt lo wr b s' { bs := h.bs, row := row, v := v, bc := h.bc, bw := h.bw, xs := xs' } ∧ AlOk s' ∧ (∀ r, row = some r → h.row = some r ∨ w.heap.size ≤ r) ∧ Upd (AlF h) w wr
theorem AlSt.start {lo : Nat} {w : World} {b : Nat} {s : AlS} {h : AlB} (H : AlAt lo w b s h) (ok : AlOk s) : AlSt lo w b h w s h.xs := ⟨h.row, h.v, H, ok, fun r e => .inl e, Upd.refl _ _⟩
theorem AlSt.later {lo : Nat} {w : World} {b : Nat} {s' : AlS} {h : AlB} {wr wr' : World} {xs' : List (Int × CB)} (H : AlSt lo w b h wr s' xs') (hu : Upd (fun _ => False) wr wr') : AlSt lo w b h wr' s' xs' := by
  obtain ⟨row, v, h1, h2, h3, h4⟩ := H
  exact ⟨row, v, h1.later hu, h2, h3, h4.trans hu (fun _ _ f => f.elim)⟩
theorem AlSt.lo {lo : Nat} {w : World} {b : Nat} {s' : AlS} {h : AlB} {wr : World} {xs' : List (Int × CB)} (H : AlSt lo w b h wr s' xs') (hlo : lo ≤ w.heap.size) : lo ≤ wr.heap.size := by
  obtain ⟨row, v, h1, h2, h3, h4⟩ := H
  have := h4.size
  omega
/-- The set's sectors turned. -/
theorem AlSt.free {lo : Nat} {w : World} {b : Nat} {s' : AlS} {h : AlB} {wr wr' : World} {xs' : List (Int × CB)} {row : Option Nat} {v : Value} (hlo : lo ≤ w.heap.size)
    (h1 : AlAt lo wr b s' { bs := h.bs, row := row, v := v, bc := h.bc, bw := h.bw, xs := xs' }) (h2 : AlOk s') (h3 : ∀ r, row = some r → h.row = some r ∨ w.heap.size ≤ r) (h4 : Upd (AlF h) w wr) {l' : List Ex} (hl : SpOk s'.n l') (hp : SpP wr h.bs row s'.n l' wr') :
    AlSt lo w b h wr' { s' with free := l' } xs' ∧ Upd (fun k => k = h.bs ∨ row = some k) wr wr' := by
  obtain ⟨row2, v2, a1, a2, a3⟩ := h1.spset (by have := h4.size; omega) hp
  refine ⟨⟨row2, v2, a1, ⟨hl, h2.ksc, h2.ksw, h2.ch, h2.wait⟩, fun r e => ?_, h4.trans a2 (fun i hi e => ?_)⟩, a2⟩
  · rcases a3 r e with e | e
    · exact h3 r e
    · right; have := h4.size; omega
  · rcases e with e | e
    · exact .inl e
    · rcases h3 i e with e | e
      · exact .inr (.inl e)
      · omega
theorem AlSt.give {lo : Nat} {w : World} {b : Nat} {s' : AlS} {h : AlB} {wr : World} {xs' : List (Int × CB)} (H : AlSt lo w b h wr s' xs') (hlo : lo ≤ w.heap.size) (y : Int) {k r : Nat} {c : Ch} {vc : Value} (hc : ChV wr vc (k, r, c)) :
    Calls Try.prog 32 #[.pointer (some ⟨h.bs, 0, none⟩), .int .i64 y] wr fun e w' => (∃ v, e = .returned (.int .i64 v)) ∧ AlSt lo w b h w' { s' with free := (giveA s'.n s'.free y).1 } xs' ∧ ChV w' vc (k, r, c) := by
  obtain ⟨row, v, h1, h2, h3, h4⟩ := H
  refine (sp_Give h1.set h2.free y).mono ?_
  rintro e w' ⟨rfl, hp⟩
  obtain ⟨a1, a2⟩ := AlSt.free hlo h1 h2 h3 h4 (giveA_spec h2.free y).1 hp
  refine ⟨⟨_, rfl⟩, a1, hc.upd a2 ?_ ?_⟩
  · obtain ⟨h5, _⟩ := hc
    dsimp only at h5
    rintro (e | e)
    · dsimp only at e; rw [e, h1.set.set] at h5; simp only [Option.some.injEq, Obj.cells.injEq] at h5; exact absurd h5.2.1 (by decide)
    · exact h1.set.row.ne h5 (by decide) e
  · obtain ⟨_, off, cap, cur, _, h5, _⟩ := hc
    dsimp only at h5
    rintro (e | e)
    · dsimp only at e; rw [e, h1.set.set] at h5; simp only [Option.some.injEq, Obj.cells.injEq] at h5; exact absurd h5.2.1 (by decide)
    · exact h1.set.row.ne h5 (by decide) e
theorem mD_zero_at {ws : List (Int × Unit)} (hk : KS ws) (y : Int) : (mD (mapV (fun _ => (0 : Int)) ws)).atKey (.int .i64 y) (.lit (.int .i64 0)) = .lit (.int .i64 0) := by
  cases hg : getP ws y with
  | none => exact atKey_of_not_has (by rw [mD_has, getP_map, hg]; rfl) _
  | some u => exact mD_at (v := 0) (hk.mapd _) (by rw [getP_map, hg]; rfl) _
theorem look_wait {w : World} {bw n : Nat} {ws : List (Int × Unit)} (hk : KS ws) (h : w.ownsMap (H := Unit) Try.prog 3 anyR bw n (mD (mapV (fun _ => (0 : Int)) ws))) (y : Int) (hy : inI y) :
    ∃ c, (Instr.lookup 64 (.map (some bw)) (.int .i64 y) false).run Try.prog w = .ok (.int .i64 c) w := by
  obtain ⟨v, ps, hr, hv⟩ := World.ownsMap.lookup h KI Try.underlying64 (zero_int w) (show anyR (.int .i64 0) = some (.lit (.int .i64 0), []) from rfl) (key_of y hy)
  obtain ⟨x, rfl⟩ := anyR_inv hv
  exact ⟨x, hr⟩
theorem AlSt.wait {lo : Nat} {w : World} {b : Nat} {s' : AlS} {h : AlB} {wr : World} {xs' : List (Int × CB)} (H : AlSt lo w b h wr s' xs') (y : Int) (hy : 0 ≤ y ∧ y < s'.n) {k r : Nat} {c : Ch} {vc : Value} (hc : ChV wr vc (k, r, c)) :
    (∃ q, (Instr.lookup 64 (.map (some h.bw)) (.int .i64 y) false).run Try.prog wr = .ok (.int .i64 q) wr) ∧
    ∀ q, ∃ w', (Instr.mapUpdate 64 (.map (some h.bw)) (.int .i64 y) (.int .i64 q)).run Try.prog wr = .ok () w' ∧ AlSt lo w b h w' { s' with wait := putP s'.wait y () } xs' ∧ ChV w' vc (k, r, c) := by
  obtain ⟨row, v, h1, h2, h3, h4⟩ := H
  have hn := h2.free.1
  have hI : inI y := by unfold inI; omega
  refine ⟨look_wait h2.ksw h1.wait y hI, fun q => ?_⟩
  obtain ⟨w', q1, q2, q3⟩ := World.ownsMap.update h1.wait KI Try.underlying64 (by decide) (key_of y hI) (show anyR (.int .i64 q) = some (.lit (.int .i64 0), []) from rfl)
  rw [mD_put (h2.ksw.mapd _) y 0 (q2.canon KI), ← putP_map (fun _ => (0 : Int)) s'.wait y ()] at q2
  have hu : Upd (fun i => i = h.bw) wr w' := (Upd.refl _ wr).grown q3 (fun i e _ => by cases e; rfl)
  have hne : ∀ (i : Nat) (cs : Array Value) (t : TypeId) (fr : Nat × Nat), wr.heap[i]? = some (.cells cs t fr) → i ≠ h.bw := fun i cs t fr hi e => ownsMap_ne h1.wait hi e
  have ok' : AlOk { s' with wait := putP s'.wait y () } := ⟨h2.free, h2.ksc, h2.ksw.put y (), h2.ch, fun x hx => by
    rcases mem_put h2.ksw hx with rfl | ⟨h5, _⟩
    · exact hy
    · exact h2.wait x h5⟩
  refine ⟨w', q1, ⟨row, v, ⟨hu.heap h1.obj (hne _ _ _ _ h1.obj), h1.set.upd hu (hne _ _ _ _ h1.set.set) (fun x hx e => ?_), ownsMap_upd h1.chains hu h1.maps, ownsMap_tighten q2 ?_, h1.ch, fun x hx => ?_, h1.inj, h1.maps, h1.low⟩, ok', h3, h4.trans hu (fun i _ e => .inr (.inr (.inr (.inl e))))⟩, ?_⟩
  · rcases h1.set.row with ⟨_, e2, _⟩ | ⟨r, off, cap, cur, e2, _, e3, _⟩
    · rw [e2] at hx; cases hx
    · rw [e2] at hx; cases hx; exact hne _ _ _ _ e3 e
  · have h5 := ok'.lens.2
    rw [mD_size, mapV_len]
    dsimp only at h5 ⊢
    omega
  · have hx0 := h1.each x hx
    refine hx0.upd hu ?_ ?_
    · obtain ⟨v1, h5, _⟩ := hx0; exact hne _ _ _ _ h5
    · obtain ⟨v1, _, off, cap, cur, _, hrow, _⟩ := hx0; exact hne _ _ _ _ hrow
  · refine hc.upd hu ?_ ?_
    · obtain ⟨h5, _⟩ := hc; exact hne _ _ _ _ h5
    · obtain ⟨_, off, cap, cur, _, hrow, _⟩ := hc; exact hne _ _ _ _ hrow
def waitF (ws : List (Int × Unit)) (l : List Int) : List (Int × Unit) := l.foldl (fun a y => putP a y ()) ws
def freeF (n : Int) (f : List Ex) (l : List Int) : List Ex := l.foldl (fun a y => (giveA n a y).1) f
theorem waitF_step (ws : List (Int × Unit)) (l : List Int) (i : Nat) (hi : i < l.length) : waitF ws (l.take (i + 1)) = putP (waitF ws (l.take i)) l[i] () := by
  unfold waitF; rw [List.take_succ_eq_append_getElem hi, List.foldl_append]; rfl
theorem freeF_step (n : Int) (f : List Ex) (l : List Int) (i : Nat) (hi : i < l.length) : freeF n f (l.take (i + 1)) = (giveA n (freeF n f (l.take i)) l[i]).1 := by
  unfold freeF; rw [List.take_succ_eq_append_getElem hi, List.foldl_append]; rfl
/-- What a chain that goes leaves. -/
def goneA (s : AlS) (p : Int) (c : Ch) (l : List Int) : AlS := { s with ch := delP s.ch p, wait := if c.2.2 = true then waitF s.wait l else s.wait, free := if c.2.2 = true then s.free else freeF s.n s.free l }
def dropA (s : AlS) (p : Int) : Bool × Int × AlS := match getP s.ch p with
  | some c => if 1 < c.2.1 then (false, 0, { s with ch := putP s.ch p (c.1, c.2.1 - 1, c.2.2) }) else (true, 0, goneA s p c c.1)
  | none => (false, 5, s)
def DropP (lo : Nat) (w : World) (b : Nat) (h : AlB) (r : Bool × Int × AlS) (e : Ending) (w' : World) : Prop :=
  e = .returned (.tuple #[.bool r.1, .int .i64 r.2.1]) ∧ (∃ h', AlAt lo w' b r.2.2 h') ∧ AlOk r.2.2 ∧ Upd (AlF h) w w'
/-- The chain is gone from the map; its block is still there. -/
theorem AlAt.gone {lo : Nat} {w w1 w2 : World} {b : Nat} {s : AlS} {h : AlB} (H : AlAt lo w b s h) (ok : AlOk s) {p : Int} {k r : Nat} {c c' : Ch} (hg : getP h.xs p = some (k, r, c)) (hu : Upd (fun i => i = k) w w1) (hc : ChAt w1 (k, r, c'))
    (hu2 : Upd (fun i => i = h.bc) w1 w2) {n : Nat} (ho : w2.ownsMap (H := Unit) Try.prog 3 ptrRn h.bc n (mD (delP (mapV blkI h.xs) p))) :
    AlSt lo w b h w2 { s with ch := delP s.ch p } (delP h.xs p) ∧ ChAt w2 (k, r, c') := by
  have hks := H.ks ok
  have hm := getP_mem hg
  obtain ⟨v0, hv0, hr0⟩ := H.each _ hm
  obtain ⟨v1, hv1, hr1⟩ := id hc
  dsimp only at hv0 hr0 hv1 hr1
  have hne : ∀ (i : Nat) (cs : Array Value) (t : TypeId) (fr : Nat × Nat), t ≠ 71 → w.heap[i]? = some (.cells cs t fr) → i ≠ k := fun i cs t fr ht hi e => by
    rw [e, hv0] at hi; simp only [Option.some.injEq, Obj.cells.injEq] at hi; exact ht hi.2.1.symm
  have hnb : ∀ (i : Nat) (cs : Array Value) (t : TypeId) (fr : Nat × Nat), w.heap[i]? = some (.cells cs t fr) → i ≠ h.bc := fun i cs t fr hi e => ownsMap_ne H.chains hi e
  have hnm : ∀ {R : Value → Option (DataW Unit × List MemPlace)} {m : Nat} {D : DataW Unit}, w.ownsMap (H := Unit) Try.prog 3 R m 5000 D → m ≠ k := fun ho e => ownsMap_ne ho hv0 (by rw [e])
  have hu3 : Upd (fun i => i = k ∨ i = h.bc) w w2 := (hu.mono (fun _ _ e => .inl e)).trans hu2 (fun _ _ e => .inr e)
  have hmem : ∀ x ∈ delP h.xs p, x ∈ h.xs ∧ x.1 ≠ p := fun x hx => by
    unfold delP at hx
    rw [List.mem_filter] at hx
    exact ⟨hx.1, by simpa using hx.2⟩
  have hkb : k ≠ h.bc := fun e => ownsMap_ne H.chains hv0 e
  refine ⟨⟨h.row, h.v, ⟨hu3.heap H.obj ?_, H.set.upd hu3 ?_ (fun x hx e => ?_), ?_, ownsMap_upd H.wait hu3 ?_, ?_, fun x hx => ?_, fun x hx y hy e => H.inj x (hmem x hx).1 y (hmem y hy).1 e, H.maps, ?_⟩, ⟨ok.free, ok.ksc.del p, ok.ksw, fun x hx => ?_, ok.wait⟩, fun r e => .inl e, ?_⟩, hc.upd hu2 hkb (fun e => ?_)⟩
  · rintro (e | e)
    · exact hne _ _ _ _ (by decide) H.obj e
    · exact hnb _ _ _ _ H.obj e
  · rintro (e | e)
    · exact hne _ _ _ _ (by decide) H.set.set e
    · exact hnb _ _ _ _ H.set.set e
  · rcases H.set.row with ⟨_, e2, _⟩ | ⟨r, off, cap, cur, e2, _, e3, _⟩
    · rw [e2] at hx; cases hx
    · rw [e2] at hx; cases hx
      rcases e with e | e
      · exact hne _ _ _ _ (by decide) e3 e
      · exact hnb _ _ _ _ e3 e
  · dsimp only
    rw [delP_map]
    refine ownsMap_tighten ho ?_
    have h1 := ok.lens.1
    rw [H.ch, mapV_len] at h1
    have h2 : (delP (mapV blkI h.xs) p).length ≤ (mapV blkI h.xs).length := List.length_filter_le _ _
    rw [mapV_len] at h2
    rw [mD_size]
    omega
  · rintro (e | e)
    · exact hnm H.wait e
    · exact H.maps e.symm
  · dsimp only; rw [delP_map, ← H.ch]
  · obtain ⟨h1, h2⟩ := hmem x hx
    have hx0 := H.each x h1
    refine hx0.upd hu3 ?_ ?_
    · rintro (e | e)
      · exact h2 (H.inj x h1 _ hm e)
      · obtain ⟨v2, h3, _⟩ := hx0; exact hnb _ _ _ _ h3 e
    · obtain ⟨v2, _, off, cap, cur, _, hrow, _⟩ := hx0
      rintro (e | e)
      · exact hne _ _ _ _ (by decide) hrow e
      · exact hnb _ _ _ _ hrow e
  · obtain ⟨l0, l1, l2, l3, l4, l5⟩ := H.low
    exact ⟨l0, l1, l2, l3, l4, fun x hx => l5 x (hmem x hx).1⟩
  · have hx2 : x ∈ s.ch := (List.mem_filter.1 hx).1
    exact ok.ch x hx2
  · refine hu3.mono (fun i _ e => ?_)
    rcases e with e | e
    · exact .inr (.inr (.inr (.inr ⟨_, hm, e.symm⟩)))
    · exact .inr (.inr (.inl e))
  · obtain ⟨off, cap, cur, _, hrow, _⟩ := hr0
    exact hnb _ _ _ _ hrow e

end Go.Proofs.Ytieohjibccjliaa
