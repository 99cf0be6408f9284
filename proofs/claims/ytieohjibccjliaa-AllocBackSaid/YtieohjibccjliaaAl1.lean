/- An allocator in memory: its cells, its set, its two maps, its chains; is, find. -/
import Derived.Test.YtieohjibccjliaaSpN
import Derived.Test.YtieohjibccjliaaAl0
import Derived.Carry
set_option linter.unusedVariables false
set_option linter.unusedSimpArgs false
namespace Go.Proofs.Ytieohjibccjliaa
open Go.RowKit Go.Shelf Go.Maps
set_option maxRecDepth 100000

/-- A chain: its sectors, its references, is it sure. -/
abbrev Ch := List Int × Int × Bool
/-- An allocator: how many sectors there are, the free ones, the chains, what waits. -/
structure AlS where
  n : Int
  free : List Ex
  ch : List (Int × Ch)
  wait : List (Int × Unit)
/-- A row of numbers that is there. -/
def IntRow (w : World) (v : Value) (r : Nat) (xs : List Int) : Prop :=
  ∃ off cap cur, v = .slice (some ⟨r, off, none⟩) xs.length cap ∧ w.heap[r]? = some (.cells cur 3 (0, 0)) ∧ xs.length ≤ cap ∧ cap ≤ maxLen ∧ ∀ j x, xs[j]? = some x → cur[off + j]? = some (.int .i64 x)
theorem IntRow.upd {F : Nat → Prop} {w w' : World} {v : Value} {r : Nat} {xs : List Int} (h : IntRow w v r xs) (hu : Upd F w w') (hr : ¬ F r) : IntRow w' v r xs := by
  obtain ⟨off, cap, cur, h1, h2, h3⟩ := h
  exact ⟨off, cap, cur, h1, hu.heap h2 hr, h3⟩
theorem IntRow.ints {w : World} {v : Value} {r : Nat} {xs : List Int} (h : IntRow w v r xs) : IntsAt w v (some r) xs := by
  obtain ⟨off, cap, cur, h1, h2, h3, h4, h5⟩ := h
  exact ⟨_, cap, h1, h3, h4, fun j x hj => ⟨r, off, rfl, rfl, cell_heap h2 _ _ (h5 j x hj)⟩⟩
theorem IntRow.lt {w : World} {v : Value} {r : Nat} {xs : List Int} (h : IntRow w v r xs) : r < w.heap.size := by
  obtain ⟨off, cap, cur, h1, h2, _⟩ := h
  exact lt_of_heap h2
theorem IntRow.of_owns {w : World} {B : Nat} {v : Value} {xs : List Int} (h : w.ownsRow B 3 1 v xs.length (xs.map (Value.int .i64))) (hx : xs ≠ []) : ∃ r, IntRow w v r xs ∧ B ≤ r ∧ v.ownBlock = some r := by
  rcases h.2 with ⟨rfl, hn⟩ | ⟨g, cap, cur, rfl, hge, hg, hncp, hcpm, hsz, htake⟩
  · exact absurd (List.eq_nil_of_length_eq_zero hn) hx
  · refine ⟨g, ⟨0, cap, cur, rfl, hg, hncp, hcpm, fun j x hj => ?_⟩, hge, rfl⟩
    have hl := (List.getElem?_eq_some_iff.1 hj).1
    have h1 : (xs.map (Value.int .i64))[j]? = some (.int .i64 x) := by simp [hj]
    rw [← htake, List.getElem?_take] at h1
    rw [if_pos (by omega)] at h1
    rw [Nat.zero_add]
    simpa using h1
/-- A chain in memory: its block, its sectors' row, what it is. -/
abbrev CB := Nat × Nat × Ch
def ChAt (w : World) (y : CB) : Prop := ∃ v, w.heap[y.1]? = some (.cells #[v, .int .i64 y.2.2.2.1, .bool y.2.2.2.2] 71 (0, 0)) ∧ IntRow w v y.2.1 y.2.2.1
theorem ChAt.upd {F : Nat → Prop} {w w' : World} {y : CB} (h : ChAt w y) (hu : Upd F w w') (h1 : ¬ F y.1) (h2 : ¬ F y.2.1) : ChAt w' y := by
  obtain ⟨v, a, b⟩ := h
  exact ⟨v, hu.heap a h1, b.upd hu h2⟩
def blkI (y : CB) : Int := (y.1 : Nat)
/-- The blocks of an allocator. -/
structure AlB where
  bs : Nat
  row : Option Nat
  v : Value
  bc : Nat
  bw : Nat
  xs : List (Int × CB)
structure AlAt (lo : Nat) (w : World) (b : Nat) (s : AlS) (h : AlB) : Prop where
  obj : w.heap[b]? = some (.cells #[.pointer (some ⟨h.bs, 0, none⟩), .map (some h.bc), .map (some h.bw)] 66 (0, 0))
  set : SpAt w h.bs h.row s.n h.v s.free
  chains : w.ownsMap (H := Unit) Try.prog 3 ptrRn h.bc 5000 (mD (mapV blkI h.xs))
  wait : w.ownsMap (H := Unit) Try.prog 3 anyR h.bw 5000 (mD (mapV (fun _ => (0 : Int)) s.wait))
  ch : s.ch = mapV (fun y => y.2.2) h.xs
  each : ∀ x ∈ h.xs, ChAt w x.2
  inj : ∀ x ∈ h.xs, ∀ y ∈ h.xs, x.2.1 = y.2.1 → x.1 = y.1
  maps : h.bc ≠ h.bw
  low : lo ≤ b ∧ lo ≤ h.bs ∧ (∀ r, h.row = some r → lo ≤ r) ∧ lo ≤ h.bc ∧ lo ≤ h.bw ∧ ∀ x ∈ h.xs, lo ≤ x.2.1 ∧ lo ≤ x.2.2.1
structure AlOk (s : AlS) : Prop where
  free : SpOk s.n s.free
  ksc : KS s.ch
  ksw : KS s.wait
  ch : ∀ x ∈ s.ch, (0 ≤ x.1 ∧ x.1 < s.n) ∧ x.2.1.head? = some x.1 ∧ (1 ≤ x.2.2.1 ∧ x.2.2.1 ≤ 65535) ∧ (∀ y ∈ x.2.1, 0 ≤ y ∧ y < s.n) ∧ x.2.1.length ≤ 4096
  wait : ∀ x ∈ s.wait, 0 ≤ x.1 ∧ x.1 < s.n
theorem ksLen {α : Type} : ∀ (l : List (Int × α)) (lo n : Int), KS l → (∀ x ∈ l, lo ≤ x.1 ∧ x.1 < n) → lo ≤ n → (l.length : Int) ≤ n - lo
  | [], lo, n, _, _, h => by simp; omega
  | x :: r, lo, n, h, hb, hl => by
    obtain ⟨h1, h2⟩ := List.pairwise_cons.1 h
    have hx := hb x (List.mem_cons_self ..)
    have := ksLen r (x.1 + 1) n h2 (fun y hy => ⟨by have := h1 y hy; omega, (hb y (List.mem_cons_of_mem _ hy)).2⟩) (by omega)
    simp only [List.length_cons]; omega
theorem AlOk.lens {s : AlS} (h : AlOk s) : s.ch.length ≤ 4096 ∧ s.wait.length ≤ 4096 := by
  have := h.free.1
  have h1 := ksLen s.ch 0 s.n h.ksc (fun x hx => (h.ch x hx).1) (by omega)
  have h2 := ksLen s.wait 0 s.n h.ksw (fun x hx => h.wait x hx) (by omega)
  omega
theorem ownsMap_upd {F : Nat → Prop} {w w' : World} {R : Value → Option (DataW Unit × List MemPlace)} {b n : Nat} {D : DataW Unit} (h : w.ownsMap (H := Unit) Try.prog 3 R b n D) (hu : Upd F w w') (hn : ¬ F b) : w'.ownsMap (H := Unit) Try.prog 3 R b n D := by
  obtain ⟨es, clock, hb, r⟩ := h
  exact ⟨es, clock, hu.heap hb hn, r⟩
theorem ownsMap_tighten {R : Value → Option (DataW Unit × List MemPlace)} {w : World} {bm n m : Nat} {D : DataW Unit} (h : w.ownsMap (H := Unit) Try.prog 3 R bm n D) (hs : Maps.size D ≤ m) : w.ownsMap (H := Unit) Try.prog 3 R bm m D := by
  obtain ⟨es, clock, hb, F, hn, rfl⟩ := h
  exact ⟨es, clock, hb, F, by simpa [Maps.size, length_sorted] using hs, rfl⟩
theorem ownsMap_ne {R : Value → Option (DataW Unit × List MemPlace)} {w : World} {bm n : Nat} {D : DataW Unit} (h : w.ownsMap (H := Unit) Try.prog 3 R bm n D) {b : Nat} {cs : Array Value} {t : TypeId} {fr : Nat × Nat} (hb : w.heap[b]? = some (.cells cs t fr)) : b ≠ bm := by
  obtain ⟨es, clock, hm, _⟩ := h
  intro e
  rw [e, hm] at hb
  cases hb
theorem AlAt.upd {F : Nat → Prop} {lo : Nat} {w w' : World} {b : Nat} {s : AlS} {h : AlB} (H : AlAt lo w b s h) (hu : Upd F w w') (h1 : ¬ F b) (h2 : ¬ F h.bs) (h3 : ∀ r, h.row = some r → ¬ F r) (h4 : ¬ F h.bc) (h5 : ¬ F h.bw) (h6 : ∀ x ∈ h.xs, ¬ F x.2.1 ∧ ¬ F x.2.2.1) : AlAt lo w' b s h :=
  ⟨hu.heap H.obj h1, H.set.upd hu h2 h3, ownsMap_upd H.chains hu h4, ownsMap_upd H.wait hu h5, H.ch, fun x hx => (H.each x hx).upd hu (h6 x hx).1 (h6 x hx).2, H.inj, H.maps, H.low⟩
theorem AlAt.later {lo : Nat} {w w' : World} {b : Nat} {s : AlS} {h : AlB} (H : AlAt lo w b s h) (hu : Upd (fun _ => False) w w') : AlAt lo w' b s h := H.upd hu (fun f => f) (fun f => f) (fun _ _ f => f) (fun f => f) (fun f => f) (fun _ _ => ⟨fun f => f, fun f => f⟩)
/-- What a call on it may write. -/
def AlF (h : AlB) (k : Nat) : Prop := k = h.bs ∨ h.row = some k ∨ k = h.bc ∨ k = h.bw ∨ ∃ x ∈ h.xs, x.2.1 = k
/-- What a call on an allocator leaves: cells of other kinds. -/
structure KeepsA (w w' : World) : Prop where
  size : w.heap.size ≤ w'.heap.size
  cells : ∀ (i : Nat) (cs : Array Value) (t : TypeId) (fr : Nat × Nat), t ≠ 71 → t ≠ 95 → t ≠ 99 → w.heap[i]? = some (.cells cs t fr) → w'.heap[i]? = some (.cells cs t fr)
theorem KeepsA.refl (w : World) : KeepsA w w := ⟨Nat.le_refl _, fun _ _ _ _ _ _ _ h => h⟩
theorem KeepsA.trans {a b c : World} (h : KeepsA a b) (k : KeepsA b c) : KeepsA a c := ⟨Nat.le_trans h.size k.size, fun i cs t fr x y z h0 => k.cells i cs t fr x y z (h.cells i cs t fr x y z h0)⟩
theorem KeepsA.upd {w w' : World} (h : Upd (fun _ => False) w w') : KeepsA w w' := ⟨h.size, fun i cs t fr _ _ _ c => h.heap c (fun f => f)⟩
theorem AlAt.keeps {lo : Nat} {w w' : World} {b : Nat} {s : AlS} {h : AlB} (H : AlAt lo w b s h) (hu : Upd (AlF h) w w') : KeepsA w w' := by
  refine ⟨hu.size, fun i cs t fr h1 h2 h3 hi => hu.heap hi ?_⟩
  rintro (rfl | e | rfl | rfl | ⟨x, hx, rfl⟩)
  · rw [H.set.set] at hi; simp only [Option.some.injEq, Obj.cells.injEq] at hi; exact h2 hi.2.1.symm
  · exact H.set.row.ne hi h3 e
  · exact ownsMap_ne H.chains hi rfl
  · exact ownsMap_ne H.wait hi rfl
  · obtain ⟨v, hv, _⟩ := H.each x hx
    rw [hv] at hi; simp only [Option.some.injEq, Obj.cells.injEq] at hi; exact h1 hi.2.1.symm
theorem AlAt.lowF {lo : Nat} {w : World} {b : Nat} {s : AlS} {h : AlB} (H : AlAt lo w b s h) (k : Nat) (hk : AlF h k) : lo ≤ k := by
  obtain ⟨_, l1, l2, l3, l4, l5⟩ := H.low
  rcases hk with rfl | e | rfl | rfl | ⟨x, hx, rfl⟩
  · exact l1
  · exact l2 k e
  · exact l3
  · exact l4
  · exact (l5 x hx).1
/-- An allocator that was made since w0. -/
structure Al (w0 w : World) (b : Nat) (s : AlS) : Prop where
  upd : Upd (fun _ => False) w0 w
  ok : AlOk s
  at_ : ∃ h, AlAt w0.heap.size w b s h
theorem Al.next {w0 w w' : World} {b : Nat} {s s' : AlS} {h h' : AlB} (hu0 : Upd (fun _ => False) w0 w) (H : AlAt w0.heap.size w b s h) (hu : Upd (AlF h) w w') (ok : AlOk s') (H' : AlAt w0.heap.size w' b s' h') : Al w0 w' b s' ∧ KeepsA w w' :=
  ⟨⟨hu0.trans hu (fun i hi e => by have := H.lowF i e; omega), ok, h', H'⟩, H.keeps hu⟩
theorem Al.later {w0 w w' : World} {b : Nat} {s : AlS} (H : Al w0 w b s) (hu : Upd (fun _ => False) w w') : Al w0 w' b s := by
  obtain ⟨h, hh⟩ := H.at_
  exact ⟨H.upd.trans hu (fun _ _ f => f), H.ok, h, hh.later hu⟩
theorem Al.lt {w0 w : World} {b : Nat} {s : AlS} (H : Al w0 w b s) : b < w.heap.size ∧ w0.heap.size ≤ b := by
  obtain ⟨h, hh⟩ := H.at_
  exact ⟨lt_of_heap hh.obj, hh.low.1⟩

/-! ### is, find -/
theorem neq_map_nil {P : Program} (w : World) {t k e : TypeId} (m : Option Nat) (ht : P.underlying t = some (.map k e)) : (binOp .neq t (.map m) (.map none)).run P w = .ok (.bool m.isSome) w := by
  have h : ∀ d : Nat, (Op.equalIn (d + 1) t (.map m) (.map none)).run P w = .ok m.isNone w := fun d => by
    cases m <;> simp [Op.equalIn, run_underlying ht]
  have e : (Op.equal t (.map m) (.map none)).run P w = .ok m.isNone w := h 9999
  show Sem.run P (do let x ← Op.equal t (.map m) (.map none); pure (Value.bool !x)) w = _
  rw [Sem.run_bind, e]
  cases m <;> rfl
theorem al_is {lo : Nat} {w : World} {b : Nat} {s : AlS} {h : AlB} (H : AlAt lo w b s h) :
    Calls Try.prog 33 #[.pointer (some ⟨b, 0, none⟩)] w fun e w' => e = .returned (.bool true) ∧ w = w' := by
  have c1 := cell_heap H.obj 1 _ rfl
  have hq := fun w : World => neq_map_nil (P := Try.prog) w (some h.bc) Try.underlying63
  simp only [Option.isSome_some] at hq
  clear H
  go_enter Try.func33, Try.ntmps33
  go_wp2
  go_ret
  exact ⟨rfl, rfl⟩
theorem noal_is (w : World) : Calls Try.prog 33 #[.pointer none] w fun e w' => e = .returned (.bool false) ∧ w = w' := by
  go_enter Try.func33, Try.ntmps33
  go_wp2
  go_ret
  exact ⟨rfl, rfl⟩
theorem zero_ptr (w : World) : (zeroValue 68).run Try.prog w = .ok (.pointer none) w := by kernel_rfl
theorem zero_int (w : World) : (zeroValue 3).run Try.prog w = .ok (.int .i64 0) w := by kernel_rfl
def inI (k : Int) : Prop := -9223372036854775808 ≤ k ∧ k ≤ 9223372036854775807
def ptrOf (o : Option CB) : Value := match o with | some y => .pointer (some ⟨y.1, 0, none⟩) | none => .pointer none
theorem look_chain {w : World} {bc n : Nat} {xs : List (Int × CB)} (hk : KS xs) (h : w.ownsMap (H := Unit) Try.prog 3 ptrRn bc n (mD (mapV blkI xs))) (p : Int) (hp : inI p) :
    (Instr.lookup 63 (.map (some bc)) (.int .i64 p) false).run Try.prog w = .ok (ptrOf (getP xs p)) w := by
  obtain ⟨v, ps, hr, hv⟩ := World.ownsMap.lookup h KI Try.underlying63 (zero_ptr w) (show ptrRn (.pointer none) = some (.lit (.int .i64 (-1)), []) from rfl) (key_of p hp)
  rw [hr]
  congr 1
  cases hg : getP xs p with
  | none =>
    have : (mD (mapV blkI xs)).atKey (.int .i64 p) (.lit (.int .i64 (-1))) = .lit (.int .i64 (-1)) := atKey_of_not_has (by rw [mD_has, getP_map, hg]; rfl) _
    rw [this] at hv
    rcases ptrRn_inv hv with ⟨_, e⟩ | ⟨b, e, _⟩
    · exact e
    · omega
  | some y =>
    rw [mD_at (v := blkI y) (hk.mapd blkI) (by rw [getP_map, hg]; rfl)] at hv
    rcases ptrRn_inv hv with ⟨e, _⟩ | ⟨b, e, e2⟩
    · unfold blkI at e; omega
    · unfold blkI at e
      obtain rfl : b = y.1 := by omega
      exact e2
theorem AlAt.ks {lo : Nat} {w : World} {b : Nat} {s : AlS} {h : AlB} (H : AlAt lo w b s h) (ok : AlOk s) : KS h.xs := by
  have := ok.ksc
  rw [H.ch] at this
  exact this.of_map
theorem eql_ptr_nil {P : Program} (w : World) {t e : TypeId} (m : Option Addr) (ht : P.underlying t = some (.pointer e)) : (binOp .eql t (.pointer m) (.pointer none)).run P w = .ok (.bool m.isNone) w := by
  have h : ∀ d : Nat, (Op.equalIn (d + 1) t (.pointer m) (.pointer none)).run P w = .ok m.isNone w := fun d => by
    cases m <;> simp [Op.equalIn, run_underlying ht]
  simp only [binOp]
  simp [Op.equal, Op.maxDepth, h 9999]
theorem al_find {lo : Nat} {w : World} {b : Nat} {s : AlS} {h : AlB} (H : AlAt lo w b s h) (ok : AlOk s) (p : Int) (hp : inI p) :
    Calls Try.prog 36 #[.pointer (some ⟨b, 0, none⟩), .int .i64 p] w fun e w' => e = .returned (.tuple #[ptrOf (getP h.xs p), .int .i64 (if (getP h.xs p).isSome then 0 else 5)]) ∧ w = w' := by
  have HI := Lib.hid (al_is H)
  have c1 := cell_heap H.obj 1 _ rfl
  have hl := look_chain (H.ks ok) H.chains p hp
  clear H ok hp
  cases hg : getP h.xs p with
  | none =>
    rw [hg] at hl
    simp only [ptrOf] at hl ⊢
    go_enter Try.func36, Try.ntmps36
    go_wp2_with (go_at_call 33; refine HI.out.mono ?_; rintro e w' ⟨rfl, rfl⟩)
    go_ret2
    exact ⟨rfl, rfl⟩
  | some y =>
    rw [hg] at hl
    simp only [ptrOf] at hl ⊢
    go_enter Try.func36, Try.ntmps36
    go_wp2_with (go_at_call 33; refine HI.out.mono ?_; rintro e w' ⟨rfl, rfl⟩)
    go_ret2
    exact ⟨rfl, rfl⟩

end Go.Proofs.Ytieohjibccjliaa
