/- What readers answer, in plain words; two writers beside one another. -/
import Derived.Test.YtocioaondjgceaaGreatDoorCodecK
set_option linter.unusedVariables false
set_option linter.unusedSimpArgs false
namespace Go.Proofs.YtocioaondjgceaaGreatDoor
open Go.RowKit

theorem fx_ok (l : List UInt8) (n : Nat) (h : n ≤ l.length) (h0 : 0 < n) : fx l 0 n = (l.take n, l.drop n, 0) := by
  unfold fx; rw [if_neg (by omega), if_neg (by omega)]; simp
theorem fx_torn (l : List UInt8) (n : Nat) (h : l.length < n) : fx l 0 n = ([], [], 10) := by
  unfold fx; rw [if_neg (by omega), if_pos (by omega)]
theorem fx_zero (l : List UInt8) (e : Int) : fx l e 0 = ([], l, e) := by unfold fx; rw [if_pos (by omega)]
theorem fx_err (l : List UInt8) (e n : Int) (h : e ≠ 0) : fx l e n = ([], l, e) := by unfold fx; rw [if_pos (Or.inl h)]
theorem fx_any (l : List UInt8) (n : Nat) (h : n ≤ l.length) : fx l 0 n = (l.take n, l.drop n, 0) := by
  by_cases h0 : n = 0
  · subst h0; rw [show ((0 : Nat) : Int) = 0 from rfl, fx_zero]; simp
  · exact fx_ok l n h (by omega)
theorem rU16_ok (l : List UInt8) (h : 2 ≤ l.length) : rU16 l 0 = (ofBe (l.take 2), l.drop 2, 0) := by unfold rU16; rw [show (2 : Int) = ((2 : Nat) : Int) from rfl, fx_ok _ 2 h (by decide)]
theorem rU16_short (l : List UInt8) (h : l.length < 2) : rU16 l 0 = (0, [], 10) := by unfold rU16; rw [show (2 : Int) = ((2 : Nat) : Int) from rfl, fx_torn _ 2 h]; rfl
theorem rU16_err (l : List UInt8) (e : Int) (h : e ≠ 0) : rU16 l e = (0, l, e) := by unfold rU16; rw [fx_err l e 2 h]; rfl
theorem rU32_ok (l : List UInt8) (h : 4 ≤ l.length) : rU32 l 0 = (ofBe (l.take 4), l.drop 4, 0) := by unfold rU32; rw [show (4 : Int) = ((4 : Nat) : Int) from rfl, fx_ok _ 4 h (by decide)]
theorem rU32_short (l : List UInt8) (h : l.length < 4) : rU32 l 0 = (0, [], 10) := by unfold rU32; rw [show (4 : Int) = ((4 : Nat) : Int) from rfl, fx_torn _ 4 h]; rfl
theorem rU32_err (l : List UInt8) (e : Int) (h : e ≠ 0) : rU32 l e = (0, l, e) := by unfold rU32; rw [fx_err l e 4 h]; rfl
theorem rU64_ok (l : List UInt8) (h : 8 ≤ l.length) : rU64 l 0 = (ofBe (l.take 8), l.drop 8, 0) := by unfold rU64; rw [show (8 : Int) = ((8 : Nat) : Int) from rfl, fx_ok _ 8 h (by decide)]
theorem rU64_short (l : List UInt8) (h : l.length < 8) : rU64 l 0 = (0, [], 10) := by unfold rU64; rw [show (8 : Int) = ((8 : Nat) : Int) from rfl, fx_torn _ 8 h]; rfl
theorem rU64_err (l : List UInt8) (e : Int) (h : e ≠ 0) : rU64 l e = (0, l, e) := by unfold rU64; rw [fx_err l e 8 h]; rfl
theorem rText_err (l : List UInt8) (e : Int) (h : e ≠ 0) : rText l e = ([], l, e) := by unfold rText; rw [rU16_err l e h]; exact fx_err l e 0 h
theorem rText_short (l : List UInt8) (h : l.length < 2) : rText l 0 = ([], [], 10) := by unfold rText; rw [rU16_short l h]; rfl
theorem rText_torn (l : List UInt8) (h : 2 ≤ l.length) (h2 : l.length < 2 + ofBe (l.take 2)) : rText l 0 = ([], [], 10) := by
  unfold rText; rw [rU16_ok l h]; exact fx_torn _ _ (by rw [List.length_drop]; omega)
theorem rText_ok (l : List UInt8) (h : 2 + ofBe (l.take 2) ≤ l.length) : rText l 0 = ((l.drop 2).take (ofBe (l.take 2)), l.drop (2 + ofBe (l.take 2)), 0) := by
  unfold rText; rw [rU16_ok l (by omega)]
  have := fx_any (l.drop 2) (ofBe (l.take 2)) (by rw [List.length_drop]; omega)
  rw [this, List.drop_drop]

/-- Two writers, new both. -/
theorem Wk.two (w : World) :
    Wk ((w.alloc (.cells #[.slice none 0 0, .int .i64 0] 90)).alloc (.cells #[.slice none 0 0, .int .i64 0] 90)) ((w.alloc (.cells #[.slice none 0 0, .int .i64 0] 90)).alloc (.cells #[.slice none 0 0, .int .i64 0] 90)) w.heap.size [] ∧
    Wk ((w.alloc (.cells #[.slice none 0 0, .int .i64 0] 90)).alloc (.cells #[.slice none 0 0, .int .i64 0] 90)) ((w.alloc (.cells #[.slice none 0 0, .int .i64 0] 90)).alloc (.cells #[.slice none 0 0, .int .i64 0] 90)) (w.heap.size + 1) [] := by
  refine ⟨⟨none, ⟨_, heap_alloc_lt (heap_alloc_new w _) _, World.ownsRow_nil _ _ _ _, rfl⟩, Newer.refl _ _, Upd.refl _ _⟩, ⟨none, ⟨_, heap_alloc_new2 w _ _, World.ownsRow_nil _ _ _ _, rfl⟩, Newer.refl _ _, Upd.refl _ _⟩⟩
/-- A writer that something else passes by. -/
theorem Wk.keep {w0 w w' : World} {b : Nat} {bs : List UInt8} {F : Nat → Prop} (h : Wk w0 w b bs) (hu : Upd F w w') (hb : ¬ F b) (hg : ∀ g, w0.heap.size ≤ g → ¬ F g) : ∃ r, Wr w' b r bs 0 ∧ Newer w0 none r := by
  obtain ⟨r, ⟨v, hh, hown, hr⟩, hn, hu0⟩ := h
  refine ⟨r, ⟨v, hu.heap hh hb, hu.owns hown (fun k hk => ?_), hr⟩, hn⟩
  rcases hn with rfl | ⟨g, rfl, hge⟩
  · rw [hr] at hk; simp at hk
  · rw [hr] at hk; simp at hk; subst hk; exact hg _ hge
/-- It begins anew, from the world at hand. -/
theorem Wk.anew {w0 w : World} {b : Nat} (h : Wk w0 w b []) (w' : World) (F : Nat → Prop) (hu : Upd F w w') (hb : ¬ F b) (hr : ∃ v, w.heap[b]? = some (.cells #[v, .int .i64 0] 90 (0, 0)) ∧ v.ownBlock = none ∧ w.ownsRow 0 5 1 v 0 []) : Wk w' w' b [] := by
  obtain ⟨v, hh, hv, ho⟩ := hr
  exact ⟨none, ⟨v, hu.heap hh hb, hu.owns ho (fun k hk => by rw [hv] at hk; simp at hk), hv⟩, Newer.refl _ _, Upd.refl _ _⟩
/-- A new writer, as it lies in memory. -/
theorem Wk.lies {w : World} {b : Nat} (hh : w.heap[b]? = some (.cells #[.slice none 0 0, .int .i64 0] 90 (0, 0))) : Wk w w b [] :=
  ⟨none, ⟨_, hh, World.ownsRow_nil _ _ _ _, rfl⟩, Newer.refl _ _, Upd.refl _ _⟩

end Go.Proofs.YtocioaondjgceaaGreatDoor
