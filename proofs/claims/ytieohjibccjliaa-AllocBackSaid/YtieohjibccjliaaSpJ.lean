/- The law's helpers: is, same, given. -/
import Derived.Test.YtieohjibccjliaaSpI
import Derived.Laws.StructEq
import Derived.BigQuiet
set_option linter.unusedVariables false
set_option linter.unusedSimpArgs false
namespace Go.Proofs.Ytieohjibccjliaa
open Go.RowKit Go.Shelf
set_option maxRecDepth 100000

section
variable {P : Program} {d : Nat} {xs ys : Array Value} {f : Field} {fs : List Field} {a b : Value} {r q : Bool} {w : World}
theorem fields_more (hn : f.name ≠ "_") (ha : (part f.type xs f.offset).run P w = .ok a w) (hb : (part f.type ys f.offset).run P w = .ok b w) (he : (Op.equalIn d f.type a b).run P w = .ok r w) (hr : (Op.eqFields d xs ys fs).run P w = .ok q w) : (Op.eqFields d xs ys (f :: fs)).run P w = .ok (r && q) w := by
  rw [Op.eqFields]
  simp only [if_pos hn, Sem.run_bind, ha, hb, he, Result.andThen_ok]
  cases r
  · simp
  · simpa using hr
theorem fields_eq {t : TypeId} {gs : Array Field} (hu : P.underlying t = some (.struct gs)) (hp : P.stoodInHeld t = false) (h : (Op.eqFields d xs ys gs.toList).run P w = .ok r w) : (Op.equalIn (d + 1) t (.agg xs) (.agg ys)).run P w = .ok r w := by
  have hf : P.fieldsOf t = gs := by simp [Program.fieldsOf, hu]
  rw [run_equalIn_struct (P := P) w d t xs ys (by rw [hf]; exact hu) hp, hf]
  exact h
theorem fields_none : (Op.eqFields d xs ys []).run P w = .ok true w := by simp [Op.eqFields]
end
theorem eq_ex (d : Nat) (w : World) (a b c e : Int) : (Op.equalIn (d + 2) 99 (.agg #[.int .i64 a, .int .i64 b]) (.agg #[.int .i64 c, .int .i64 e])).run Try.prog w = .ok (a == c && (b == e && true)) w := by
  refine fields_eq Try.underlying99 (by kernel_rfl) ?_
  refine fields_more (by decide) (by go_simp; rfl) (by go_simp; rfl) (by go_simp) ?_
  exact fields_more (by decide) (by go_simp; rfl) (by go_simp; rfl) (by go_simp) fields_none
/-- A row of ints, to be read. -/
def IntsAt (w : World) (v : Value) (row : Option Nat) (xs : List Int) : Prop :=
  ∃ ad cap, v = .slice ad xs.length cap ∧ xs.length ≤ cap ∧ cap ≤ maxLen ∧ ∀ j x, xs[j]? = some x → ∃ g off, row = some g ∧ ad = some ⟨g, off, none⟩ ∧ w.cell? ⟨g, off + j, none⟩ = some (.int .i64 x)
theorem IntsAt.upd {F : Nat → Prop} {w w' : World} {v : Value} {row : Option Nat} {xs : List Int} (h : IntsAt w v row xs) (hu : Upd F w w') (hr : ∀ g, row = some g → ¬ F g) : IntsAt w' v row xs := by
  obtain ⟨ad, cap, h1, h2, h3, h4⟩ := h
  refine ⟨ad, cap, h1, h2, h3, fun j x hj => ?_⟩
  obtain ⟨g, off, e1, e2, e3⟩ := h4 j x hj
  exact ⟨g, off, e1, e2, hu.cell e3 (hr g e1)⟩
theorem IntsAt.of_owns {w : World} {B : Nat} {v : Value} {xs : List Int} (h : w.ownsRow B 3 1 v xs.length (xs.map (Value.int .i64))) : IntsAt w v v.ownBlock xs ∧ ∀ g, v.ownBlock = some g → B ≤ g := by
  rcases h.2 with ⟨rfl, hn⟩ | ⟨g, cap, cur, rfl, hge, hg, hncp, hcpm, hsz, htake⟩
  · obtain rfl := List.eq_nil_of_length_eq_zero hn
    exact ⟨⟨none, 0, rfl, Nat.le_refl _, Nat.zero_le _, fun j x hj => by cases hj⟩, fun g e => by cases e⟩
  · refine ⟨⟨_, cap, rfl, hncp, hcpm, fun j x hj => ⟨g, 0, rfl, rfl, ?_⟩⟩, fun r e => by simp [Value.ownBlock] at e; omega⟩
    have := h.cells (g := g) rfl j (.int .i64 x) (by rw [List.getElem?_map, hj]; rfl)
    rw [Addr.add_lit] at this
    exact this
end Go.Proofs.Ytieohjibccjliaa
