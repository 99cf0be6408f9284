/- An allocator: sorted places; a list of chains in memory. -/
import Derived.Test.YtieohjibccjliaaAl9
import Derived.Test.YtieohjibccjliaaIter
set_option linter.unusedVariables false
set_option linter.unusedSimpArgs false
namespace Go.Proofs.Ytieohjibccjliaa
open Go.RowKit Go.Shelf Go.Maps Go.Sort
set_option maxRecDepth 100000

theorem int_keysP (ps : List (Int × Int)) : intKeys (mD ps) = ps.map (·.1) := by
  induction ps with
  | nil => rfl
  | cons p r ih =>
    have : intKeys (mD (p :: r)) = p.1 :: intKeys (mD r) := rfl
    rw [this, ih]; rfl
theorem sorted_keysP (ps : List (Int × Int)) (h : KS ps) (ss : List Int) (hp : ss.Perm (intKeys (mD ps))) : ss.mergeSort (fun x y => decide (x ≤ y)) = ps.map (·.1) := by
  rw [int_keysP] at hp
  refine List.Perm.eq_of_pairwise (le := fun a b : Int => a ≤ b) (fun a b _ _ h1 h2 => by omega) ?_ ?_ ((List.mergeSort_perm _ _).trans hp)
  · have := List.pairwise_mergeSort (le := fun x y : Int => decide (x ≤ y)) (by intro a b c; simp; omega) (by intro a b; simp; omega) ss
    exact this.imp (fun h => by simpa using h)
  · rw [List.pairwise_map]
    exact h.imp (fun h => by omega)
theorem keysC_any (mb : Option Nat) (W : World) : Calls Try.prog 38 #[.map mb] W fun e w' => e = .returned (.func (.func 58) #[] #[.pointer (some ⟨W.heap.size, 0, none⟩)]) ∧ w' = W.alloc (.cells #[.map mb] 63) :=
  (callsIn_wide (n := 5)).1 (AnyZI.keys_in Try.keys38 Fence.wide 5 trivial rfl mb W)
theorem sortsC_in (m : Nat) : AnyZI.SortsIn Try.prog Try.sorted37_ren Fence.wide m :=
  ⟨fun blk off cap ss W hH hblk hsz => callsIn_wide.2 (AnyM.slices_Sort_int Try.sort57 blk off cap ss W hH hblk hsz),
   fun p cap W => callsIn_wide.2 (AnyM.slices_Sort_int_none Try.sort57 p cap W)⟩
theorem sortedC_keys (b nn : Nat) (D0 : DataW Unit) (R : Value → Option (DataW Unit × List MemPlace)) (w : World) (hown : w.ownsMap Try.prog 3 R b nn D0) (hmax : Maps.size D0 ≤ maxLen) (hbytes : Maps.size D0 * 8 ≤ 140737488355328) :
    Calls Try.prog 37 #[.func (.func 58) #[] #[.pointer (some ⟨w.heap.size, 0, none⟩)]] (w.alloc (.cells #[.map (some b)] 63)) fun e w' => ∃ (v : Value) (ss : List Int), e = .returned v ∧ ss.Perm (intKeys D0) ∧
      w'.ownsRow (w.heap.size + 1) 3 1 v ss.length ((ss.mergeSort (fun x y => decide (x ≤ y))).map encZ) ∧ (v = .slice none 0 0 ↔ ss = []) ∧ Below (w.heap.size + 1) (w.alloc (.cells #[.map (some b)] 63)) w' := by
  have hbl := hown.lt
  have hseq : SeqGives Fence.wide 2 Try.prog 58 #[.pointer (some ⟨w.heap.size, 0, none⟩)] encZ (fun ss => ss.Perm (intKeys D0)) (Maps.size D0) (w.alloc (.cells #[.map (some b)] 63)) :=
    AnyZI.keys_gives (ρ := Try.keys38_ren) { Try.keys38 with } Fence.wide _ trivial rfl (by omega) w.heap.size b nn D0 _ (by simp) (by simp) (by
      obtain ⟨es, clock, hb, Ft, hs, hD⟩ := hown
      exact ⟨es, clock, (Below.heap_alloc _ _ b hbl).trans hb, Ft, hs, hD⟩)
  have cS := AnyZI.sorted_in Try.sorted37 Fence.wide 5 trivial trivial trivial trivial rfl (by omega) (sortsC_in _) (enters_of Try.func57 (by kernel_rfl) rfl) 58 #[.pointer (some ⟨w.heap.size, 0, none⟩)] trivial (enters_of Try.func58 (by kernel_rfl) rfl) _ _ hmax hbytes _ hseq
  refine ((callsIn_wide (n := 5)).1 cS).mono ?_
  intro e w' h
  rw [World.size_alloc] at h
  exact h
theorem encZ_int (l : List Int) : l.map encZ = l.map (Value.int .i64) := rfl
/-- The places, sorted. -/
theorem places_sorted {lo : Nat} {w : World} {b : Nat} {s : AlS} {h : AlB} (H : AlAt lo w b s h) (ok : AlOk s) :
    Calls Try.prog 37 #[.func (.func 58) #[] #[.pointer (some ⟨w.heap.size, 0, none⟩)]] (w.alloc (.cells #[.map (some h.bc)] 63)) fun e w' => ∃ v, e = .returned v ∧ w'.ownsRow w.heap.size 3 1 v (s.ch.map (·.1)).length ((s.ch.map (·.1)).map (Value.int .i64)) ∧ Upd (fun _ => False) (w.alloc (.cells #[.map (some h.bc)] 63)) w' := by
  have hks := H.ks ok
  have hl := ok.lens.1
  have hsz : Maps.size (mD (mapV blkI h.xs)) ≤ 4096 := by rw [mD_size, mapV_len]; rw [H.ch, mapV_len] at hl; exact hl
  refine (sortedC_keys h.bc 5000 _ ptrRn w H.chains (by unfold maxLen; omega) (by omega)).mono ?_
  rintro e w' ⟨v, ss, rfl, hp, ho, _, hB⟩
  have e1 : ss.mergeSort (fun x y => decide (x ≤ y)) = s.ch.map (·.1) := by
    rw [sorted_keysP _ (hks.mapd blkI) ss hp, H.ch]
    unfold mapV; rw [List.map_map, List.map_map]; rfl
  have e2 : ss.length = (s.ch.map (·.1)).length := by rw [← e1, List.length_mergeSort]
  rw [e1, e2, encZ_int] at ho
  refine ⟨v, rfl, ⟨ho.1, ?_⟩, (Upd.of_below hB).mono (fun i hi e => by simp at hi; omega)⟩
  rcases ho.2 with hx | ⟨g, cap, cur, rfl, hb, rest⟩
  · exact .inl hx
  · exact .inr ⟨g, cap, cur, rfl, by omega, rest⟩

/-! ### A list of chains in memory -/
/-- Place, references, the other sectors. -/
abbrev Own := Int × Int × List Int
def IntsN (w : World) (u : Value) (rr : Option Nat) (xs : List Int) : Prop := IntsAt w u rr xs ∧ ∀ n c, u = .slice none n c → n = 0 ∧ c = 0
theorem IntsN.upd {F : Nat → Prop} {w w' : World} {v : Value} {row : Option Nat} {xs : List Int} (h : IntsN w v row xs) (hu : Upd F w w') (hr : ∀ g, row = some g → ¬ F g) : IntsN w' v row xs := ⟨h.1.upd hu hr, h.2⟩
theorem IntsN.of_owns {w : World} {B : Nat} {v : Value} {xs : List Int} (h : w.ownsRow B 3 1 v xs.length (xs.map (Value.int .i64))) : IntsN w v v.ownBlock xs := by
  refine ⟨(IntsAt.of_owns h).1, fun n c e => ?_⟩
  rcases h.2 with ⟨rfl, _⟩ | ⟨g, cap, cur, rfl, _⟩
  · simp only [Value.slice.injEq] at e; exact ⟨e.2.1.symm, e.2.2.symm⟩
  · cases e
def OwnRd (w : World) (v : Value) (l : List Own) : Prop :=
  ∃ ad cap, v = .slice ad l.length cap ∧ l.length ≤ cap ∧ cap ≤ maxLen ∧ ∀ j x, l[j]? = some x → ∃ g off u rr, ad = some ⟨g, off, none⟩ ∧ w.cell? ⟨g, off + j * 3, none⟩ = some (.int .i64 x.1) ∧ w.cell? ⟨g, off + j * 3 + 1, none⟩ = some (.int .i64 x.2.1) ∧ w.cell? ⟨g, off + j * 3 + 2, none⟩ = some u ∧ IntsN w u rr x.2.2
theorem OwnRd.later {w w' : World} {v : Value} {l : List Own} (h : OwnRd w v l) (hu : Upd (fun _ => False) w w') : OwnRd w' v l := by
  obtain ⟨ad, cap, h1, h2, h3, h4⟩ := h
  refine ⟨ad, cap, h1, h2, h3, fun j x hj => ?_⟩
  obtain ⟨g, off, u, rr, e1, e2, e3, e4, e5⟩ := h4 j x hj
  exact ⟨g, off, u, rr, e1, hu.cell e2 (fun f => f), hu.cell e3 (fun f => f), hu.cell e4 (fun f => f), e5.upd hu (fun _ _ f => f)⟩
def ownCells (z : Value × Own) : List Value := [.int .i64 z.2.1, .int .i64 z.2.2.1, z.1]
def ownsC (zs : List (Value × Own)) : List Value := zs.flatMap ownCells
/-- The same, made by a call. -/
def OwnW (B : Nat) (w : World) (v : Value) (l : List Own) : Prop :=
  ∃ zs : List (Value × Own), zs.map (·.2) = l ∧ w.ownsRow B 39 3 v l.length (ownsC zs) ∧ ∀ z ∈ zs, w.ownsRow B 3 1 z.1 z.2.2.2.length (z.2.2.2.map (Value.int .i64))
theorem ownsC_len (zs : List (Value × Own)) : (ownsC zs).length = zs.length * 3 := by
  induction zs with
  | nil => rfl
  | cons z r ih => unfold ownsC at *; rw [List.flatMap_cons, List.length_append, ih, List.length_cons]; show 3 + _ = _; omega
theorem ownsC_get : ∀ (zs : List (Value × Own)) (j : Nat) (z : Value × Own), zs[j]? = some z → (ownsC zs)[j * 3]? = some (.int .i64 z.2.1) ∧ (ownsC zs)[j * 3 + 1]? = some (.int .i64 z.2.2.1) ∧ (ownsC zs)[j * 3 + 2]? = some z.1
  | [], j, z, h => by cases h
  | y :: r, 0, z, h => by
    simp only [List.getElem?_cons_zero, Option.some.injEq] at h
    subst h
    exact ⟨rfl, rfl, rfl⟩
  | y :: r, j + 1, z, h => by
    rw [List.getElem?_cons_succ] at h
    obtain ⟨h1, h2, h3⟩ := ownsC_get r j z h
    have e : ownsC (y :: r) = [.int .i64 y.2.1, .int .i64 y.2.2.1, y.1] ++ ownsC r := rfl
    rw [e, List.getElem?_append_right (by simp; omega), List.getElem?_append_right (by simp; omega), List.getElem?_append_right (by simp; omega)]
    simp only [List.length_cons, List.length_nil]
    rw [show (j + 1) * 3 - (0 + 1 + 1 + 1) = j * 3 by omega, show (j + 1) * 3 + 1 - (0 + 1 + 1 + 1) = j * 3 + 1 by omega, show (j + 1) * 3 + 2 - (0 + 1 + 1 + 1) = j * 3 + 2 by omega]
    exact ⟨h1, h2, h3⟩
theorem OwnW.rd {B : Nat} {w : World} {v : Value} {l : List Own} (h : OwnW B w v l) : OwnRd w v l := by
  obtain ⟨zs, rfl, h1, h2⟩ := h
  rcases h1.2 with ⟨rfl, hn⟩ | ⟨g, cap, cur, rfl, hge, hg, hncp, hcpm, hsz, htake⟩
  · refine ⟨none, 0, by rw [hn], by rw [hn]; exact Nat.le_refl _, Nat.zero_le _, fun j x hj => ?_⟩
    rw [List.eq_nil_of_length_eq_zero hn] at hj; cases hj
  · refine ⟨_, cap, rfl, hncp, hcpm, fun j x hj => ?_⟩
    rw [List.getElem?_map] at hj
    cases hz : zs[j]? with
    | none => rw [hz] at hj; cases hj
    | some z =>
      rw [hz] at hj
      obtain rfl := Option.some.inj hj
      have hjl := (List.getElem?_eq_some_iff.1 hz).1
      obtain ⟨g1, g2, g3⟩ := ownsC_get zs j z hz
      rw [← htake, List.getElem?_take] at g1 g2 g3
      rw [List.length_map] at g1 g2 g3
      rw [if_pos (by omega)] at g1 g2 g3
      refine ⟨g, 0, z.1, _, rfl, ?_, ?_, ?_, IntsN.of_owns (h2 z (List.mem_of_getElem? hz))⟩
      · rw [Nat.zero_add]; exact cell_heap hg _ _ (by simpa using g1)
      · rw [Nat.zero_add]; exact cell_heap hg _ _ (by simpa using g2)
      · rw [Nat.zero_add]; exact cell_heap hg _ _ (by simpa using g3)
theorem owns_low {w : World} {B C : Nat} {e : TypeId} {size : Nat} {v : Value} {m : Nat} {xs : List Value} (h : w.ownsRow B e size v m xs) (hC : C ≤ B) : w.ownsRow C e size v m xs := by
  refine ⟨h.1, ?_⟩
  rcases h.2 with hx | ⟨g, cap, cur, rfl, hb, rest⟩
  · exact .inl hx
  · exact .inr ⟨g, cap, cur, rfl, by omega, rest⟩
theorem IntsAt.tail {w : World} {r off cap m : Nat} {row : Option Nat} {x : Int} {tl : List Int} (h : IntsAt w (.slice (some ⟨r, off, none⟩) (m + 1) cap) row (x :: tl)) (hm : m = tl.length) : IntsAt w (.slice (some ⟨r, off + 1, none⟩) m (cap - 1)) row tl := by
  subst hm
  obtain ⟨ad, cap', e, h1, h2, h3⟩ := h
  simp only [List.length_cons, Value.slice.injEq] at e
  obtain ⟨rfl, _, rfl⟩ := e
  refine ⟨_, _, rfl, by simp only [List.length_cons] at h1; omega, by omega, fun j y hj => ?_⟩
  obtain ⟨g, off', e1, e2, e3⟩ := h3 (j + 1) y (by simpa using hj)
  simp only [Option.some.injEq, Addr.mk.injEq] at e2
  obtain ⟨rfl, rfl, _⟩ := e2
  exact ⟨r, off + 1, e1, rfl, by rw [show off + 1 + j = off + (j + 1) by omega]; exact e3⟩

end Go.Proofs.Ytieohjibccjliaa
