/- An allocator: Commit. -/
import Derived.Test.YtieohjibccjliaaAl7
set_option linter.unusedVariables false
set_option linter.unusedSimpArgs false
namespace Go.Proofs.Ytieohjibccjliaa
open Go.RowKit Go.Shelf Go.Maps
set_option maxRecDepth 100000

def CommitP (lo : Nat) (w : World) (b : Nat) (s : AlS) (h : AlB) (e : Ending) (w' : World) : Prop :=
  e = .returned (.tuple #[]) ∧ (∃ h', AlAt lo w' b (commitA s) h') ∧ AlOk (commitA s) ∧ Upd (AlF h) w w'
theorem free_end {s : AlS} (ok : AlOk s) {left : Lit → Bool} (hl : ∀ kl, left kl = false) {l : List Ex} (h : SpOk s.n l ∧ ∀ k, hasB l k = (hasB s.free k || ((getP s.wait k).isSome && !left (.int .i64 k)))) : l = freeF s.n s.free (s.wait.map (·.1)) := by
  obtain ⟨f1, f2⟩ := freeF_spec (s.wait.map (·.1)) s.free ok.free (fun y hy => by obtain ⟨x, hx, rfl⟩ := List.mem_map.1 hy; exact ok.wait x hx)
  refine SpOk.ext _ _ h.1 f1 fun k => ?_
  rw [h.2, f2, hl]
  congr 1
  rw [Bool.eq_iff_iff, Bool.not_false, Bool.and_true, decide_eq_true_eq, List.mem_map]
  constructor
  · intro hs
    obtain ⟨u, hu⟩ := Option.isSome_iff_exists.1 hs
    exact ⟨_, getP_mem hu, rfl⟩
  · rintro ⟨x, hx, rfl⟩
    rw [ok.ksw.get hx]; rfl
theorem sure_end (left : Lit → Bool) (hl : ∀ kl, left kl = false) (cs : List (Int × Ch)) : mapK (sureC left) cs = mapV (fun c => (c.1, c.2.1, true)) cs := by
  unfold mapK mapV sureC
  refine List.map_congr_left fun x hx => ?_
  rw [hl]; simp
theorem AlAt.cleared {lo : Nat} {w w' : World} {b : Nat} {s : AlS} {h : AlB} (H : AlAt lo w b s h) (hu : Upd (fun i => i = h.bw) w w') (ho : w'.ownsMap (H := Unit) Try.prog 3 anyR h.bw 0 (.map [])) : AlAt lo w' b { s with wait := [] } h := by
  have hne : ∀ (i : Nat) (cs : Array Value) (t : TypeId) (fr : Nat × Nat), w.heap[i]? = some (.cells cs t fr) → i ≠ h.bw := fun i cs t fr hi e => ownsMap_ne H.wait hi e
  refine ⟨hu.heap H.obj (hne _ _ _ _ H.obj), H.set.upd hu (hne _ _ _ _ H.set.set) (fun r hr e => ?_), ownsMap_upd H.chains hu H.maps, ho.mono (Nat.zero_le _), H.ch, fun x hx => ?_, H.inj, H.maps, H.low⟩
  · rcases H.set.row with ⟨_, e2, _⟩ | ⟨r', off, cap, cur, e2, _, e3, _⟩
    · rw [e2] at hr; cases hr
    · rw [e2] at hr; cases hr; exact hne _ _ _ _ e3 e
  · have hx0 := H.each x hx
    obtain ⟨v1, h1, off, cap, cur, _, hrow, _⟩ := id hx0
    exact hx0.upd hu (hne _ _ _ _ h1) (hne _ _ _ _ hrow)
theorem at_Commit {lo : Nat} {w : World} {b : Nat} {s : AlS} {h : AlB} (H : AlAt lo w b s h) (ok : AlOk s) (hlo : lo ≤ w.heap.size) :
    Calls Try.prog 12 #[.pointer (some ⟨b, 0, none⟩)] w (CommitP lo w b s h) := by
  have HI := Lib.hid (al_is H)
  have c1 := cell_heap H.obj 1 _ rfl
  have hks := H.ks ok
  have hbc : h.bc < w.heap.size := lt_of_map H.chains
  have HST := Lib.hid (fun w0 (hr : w0.ranges (H := Unit) Try.prog 3 ptrRn h.bc w.heap.size 5000 (mD (mapV blkI h.xs)) (has (mD (mapV blkI h.xs))) (Maps.size (mD (mapV blkI h.xs)))) (hg : w.grownBy w0 none) => C1.start H ok hr hg)
  have HSP := fun (wr : World) (left : Lit → Bool) (cnt : Nat) (C : C1 lo w b s h wr left cnt) (x : Int) (c : Option Nat) (kl : Lit) (y : DataW Unit × List MemPlace) (w' : World) (cnt' : Nat) => Lib.hid (@C1.step lo w b s h ok wr left cnt C hks hbc x c kl y w' cnt')
  have HOW := Lib.hid H.chains
  have HH := Lib.hid (And.intro H ok)
  have HKS := Lib.hid hks
  have HLO := Lib.hid hlo
  clear H hks hbc ok hlo
  unfold CommitP
  go_enter Try.func12, Try.ntmps12
  go_wp2_with (first
    | (go_at_call 33; refine HI.out.mono ?_; rintro e w' ⟨rfl, rfl⟩)
    | (at_range; refine wpList_range_own _ rfl _ 63 rfl 3 68 KI Try.underlying63 _ h.bc 5000 _ rfl HOW.out ?_; intro w0 hrg0 hg0 hs0)
    | go_in)
  go_frame
  go_loopw [3] (fun _ wr => ∃ (left : Lit → Bool) (cnt : Nat), C1 lo w b s h wr left cnt) (fun _ wr => wr.rangeLeft h.bc w.heap.size)
  case atStart => exact ⟨_, _, HST.out _ hrg0 hg0⟩
  case round =>
    obtain ⟨left, cnt, C⟩ := hrel
    have hrg := C.rg
    go_wp2_with (first
      | (at_next; refine wpList_next_ranges _ rfl _ rfl 3 KI ptrRn (Value.int .i64) optP intKey_form ptrRn_form h.bc w.heap.size 5000 _ _ _ rfl hrg ?_ ?_)
      | go_in)
    · intro _ hl0
      clear hrg
      obtain ⟨W1, hW1⟩ : ∃ W1, W1 = wr := ⟨_, rfl⟩
      subst hW1
      have HB1 := Lib.hid C.at_
      have HU1 := Lib.hid C.upd
      have c2 := cell_heap HB1.out.obj 2 _ rfl
      dsimp only at c2
      have HOK1 := Lib.hid (okC1 HH.out.2 left)
      have HOW2 := Lib.hid HB1.out.wait
      clear C HSP HST HOW hrg0 hg0 hs0 c1
      go_wp2_with (first
        | (at_range; refine wpList_range_own _ rfl _ 64 rfl 3 3 KI Try.underlying64 _ h.bw 5000 _ rfl HOW2.out ?_; intro w1 hrg1 hg1 hs1)
        | go_in)
      go_loopw [4] (fun _ wq => ∃ (left2 : Lit → Bool) (cnt2 : Nat) (l : List Ex), C2 lo W1 b { s with ch := mapK (sureC left) s.ch } { h with xs := mapK (sureX left) h.xs } wq left2 cnt2 l) (fun _ wq => wq.rangeLeft h.bw W1.heap.size)
      case atStart => exact ⟨_, _, _, C2.start HB1.out HOK1.out hrg1 hg1⟩
      case round =>
        clear hrg1 hg1 hs1
        obtain ⟨left2, cnt2, l, D⟩ := hrel
        have hrg2 := D.rg
        go_wp2_with (first
          | (at_next; refine wpList_next_ranges _ rfl _ rfl 3 KI anyR (Value.int .i64) (Value.int .i64) intKey_form (fun v y h => anyR_inv h) h.bw W1.heap.size 5000 _ _ _ rfl hrg2 ?_ ?_)
          | go_in)
        · intro _ hl2
          clear hrg2
          obtain ⟨row, v, q1, q2, q3, q4⟩ := D.at_
          have HF := Lib.hid D.free
          have HQ := Lib.hid (And.intro q1 (And.intro q2 q4))
          have e2 := cell_heap q1.obj 2 _ rfl
          dsimp only at e2
          clear D q1 q2 q3 q4
          obtain ⟨w9, hcr, hco, hcu⟩ := clear_map HQ.out.1.wait
          dsimp only at hcr hco hcu
          go_wp2
          go_end0
          obtain ⟨q1, q2, q4⟩ := HQ.out
          have A := q1.cleared hcu hco
          have e3 := free_end HOK1.out hl2 HF.out
          dsimp only at e3
          have es : commitA s = { s with free := l, ch := mapK (sureC left) s.ch, wait := [] } := by
            unfold commitA; rw [sure_end left hl0, e3]
          rw [es]
          refine ⟨rfl, ⟨_, A⟩, ⟨q2.free, q2.ksc, List.Pairwise.nil, q2.ch, fun x hx => (by cases hx)⟩, (HU1.out.trans q4 (fun i hi e => ?_)).trans hcu (fun i _ e => .inr (.inr (.inr (.inl e))))⟩
          rcases e with e | e | e | e | ⟨x, hx, e⟩
          · exact .inl e
          · exact .inr (.inl e)
          · exact .inr (.inr (.inl e))
          · exact .inr (.inr (.inr (.inl e)))
          · obtain ⟨y, hy, rfl⟩ := List.mem_map.1 hx
            exact .inr (.inr (.inr (.inr ⟨y, hy, e⟩)))
        · intro x c kl y1 y2 w3 cnt3 h1 h2 h3 h4 h5 h6 h7 h8 hen
          obtain ⟨b0, HG⟩ := D.step HOK1.out (by have := HU1.out.size; have := HLO.out; omega) h1 h2 h5 h7
          have HG2 := Lib.hid HG
          have hm := D.rg.left_eq
          clear D h1 h2 h3 h4 h5 h7 h8 HG hrg2
          go_wp2_with (go_at_call 32; refine HG2.out.mono ?_; rintro e w4 ⟨⟨v, rfl⟩, D2⟩)
          go_roundw
          case rel => exact ⟨_, cnt3, _, D2⟩
          case measure => rw [D2.rg.left_eq, hm]; exact h6
    · intro x c kl y1 y2 w3 cnt3 h1 h2 h3 h4 h5 h6 h7 h8 hen
      obtain ⟨k, r, cc, v, rfl, hcv, C2⟩ := (HSP wr left cnt C x c kl (y1, y2) w3 cnt3).out h1 h2 h3 h4 h5 h7
      have f2 := free_heap hcv.1 2
      have g2 := cell_heap hcv.1 2 _ rfl
      simp only [optP] at hen ⊢
      have hm := C.rg.left_eq
      clear C h1 h2 h3 h4 h5 h7 h8 hrg
      go_wp2
      go_roundw
      case rel => exact ⟨_, cnt3, C2⟩
      case measure => rw [C2.rg.left_eq, hm]; exact h6

end Go.Proofs.Ytieohjibccjliaa
