/- The law's helpers: is, same, given. -/
import Derived.Test.YtoblihckojnffaaSpI
import Derived.Laws.StructEq
import Derived.BigQuiet
set_option linter.unusedVariables false
set_option linter.unusedSimpArgs false
namespace Go.Proofs.Ytoblihckojnffaa
open Go.RowKit Go.Shelf
set_option maxRecDepth 100000

section
variable {P : Program} {d : Nat} {xs ys : Array Value} {f : Field} {fs : List Field} {a b : Value} {r q : Bool} {w : World}
theorem fields_more (hn : f.name ≠ "_") (ha : (part f.type xs f.offset).run P w = .ok a w) (hb : (part f.type ys f.offset).run P w = .ok b w) (he : (Op.equalIn d f.type a b).run P w = .ok r w) (hr : (Op.eqFields d xs ys fs).run P w = .ok q w) : (Op.eqFields d xs ys (f :: fs)).run P w = .ok (r && q) w := by
  rw [Op.eqFields]
  simp only [if_pos hn, Sem.run_bind, ha, hb, he, Result.andThen_ok]
  cases r
  · simp
  · simpa using hr
theorem fields_eq {t : TypeId} {gs : Array Field} (hu : P.underlying t = some (.struct gs)) (hp : P.stoodInHeld t = false) (h : (Op.eqFields d xs ys gs.toList).run P w = .ok r w) : (Op.equalIn (d + 1) t (.agg xs) (.agg ys)).run P w = .ok r w := by
  have hf : P.fieldsOf t = gs := by simp [Program.fieldsOf, hu]
  rw [run_equalIn_struct (P := P) w d t xs ys (by rw [hf]; exact hu) hp, hf]
  exact h
theorem fields_none : (Op.eqFields d xs ys []).run P w = .ok true w := by simp [Op.eqFields]
end
theorem eq_ex (d : Nat) (w : World) (a b c e : Int) : (Op.equalIn (d + 2) 63 (.agg #[.int .i64 a, .int .i64 b]) (.agg #[.int .i64 c, .int .i64 e])).run Try.prog w = .ok (a == c && (b == e && true)) w := by
  refine fields_eq Try.underlying63 (by kernel_rfl) ?_
  refine fields_more (by decide) (by go_simp; rfl) (by go_simp; rfl) (by go_simp) ?_
  exact fields_more (by decide) (by go_simp; rfl) (by go_simp; rfl) (by go_simp) fields_none
/-- A row of ints, to be read. -/
def IntsAt (w : World) (v : Value) (row : Option Nat) (xs : List Int) : Prop :=
  ∃ ad cap, v = .slice ad xs.length cap ∧ xs.length ≤ cap ∧ cap ≤ maxLen ∧ ∀ j x, xs[j]? = some x → ∃ g off, row = some g ∧ ad = some ⟨g, off, none⟩ ∧ w.cell? ⟨g, off + j, none⟩ = some (.int .i64 x)
theorem IntsAt.upd {F : Nat → Prop} {w w' : World} {v : Value} {row : Option Nat} {xs : List Int} (h : IntsAt w v row xs) (hu : Upd F w w') (hr : ∀ g, row = some g → ¬ F g) : IntsAt w' v row xs := by
  obtain ⟨ad, cap, h1, h2, h3, h4⟩ := h
  refine ⟨ad, cap, h1, h2, h3, fun j x hj => ?_⟩
  obtain ⟨g, off, e1, e2, e3⟩ := h4 j x hj
  exact ⟨g, off, e1, e2, hu.cell e3 (hr g e1)⟩
theorem IntsAt.of_owns {w : World} {B : Nat} {v : Value} {xs : List Int} (h : w.ownsRow B 3 1 v xs.length (xs.map (Value.int .i64))) : IntsAt w v v.ownBlock xs ∧ ∀ g, v.ownBlock = some g → B ≤ g := by
  rcases h.2 with ⟨rfl, hn⟩ | ⟨g, cap, cur, rfl, hge, hg, hncp, hcpm, hsz, htake⟩
  · obtain rfl := List.eq_nil_of_length_eq_zero hn
    exact ⟨⟨none, 0, rfl, Nat.le_refl _, Nat.zero_le _, fun j x hj => by cases hj⟩, fun g e => by cases e⟩
  · refine ⟨⟨_, cap, rfl, hncp, hcpm, fun j x hj => ⟨g, 0, rfl, rfl, ?_⟩⟩, fun r e => by simp [Value.ownBlock] at e; omega⟩
    have := h.cells (g := g) rfl j (.int .i64 x) (by rw [List.getElem?_map, hj]; rfl)
    rw [Addr.add_lit] at this
    exact this
theorem is_eq {w : World} {v u : Value} {r1 r2 : Option Nat} {xs ys : List Int} (h1 : IntsAt w v r1 xs) (h2 : IntsAt w u r2 ys) (hl : xs.length ≤ 100000) :
    Calls Try.prog 23 #[v, u] w fun e w' => e = .returned (.bool (decide (xs = ys))) ∧ Upd (fun _ => False) w w' := by
  obtain ⟨ad, cap, rfl, a1, a2, a3⟩ := h1
  obtain ⟨ae, cbp, rfl, b1, b2, b3⟩ := h2
  by_cases hlen : xs.length = ys.length
  · obtain ⟨N, hN⟩ : ∃ N, N = xs.length := ⟨_, rfl⟩
    rw [← hlen, ← hN]
    rw [← hN] at hl
    have HN := Lib.hid hN
    have HA := Lib.hid a3
    have HB := Lib.hid b3
    have HL := Lib.hid hlen
    have hb1 : ((N : Int) == (N : Int)) = true := by simp
    clear hN a3 b3 hlen a1 a2 b1 b2
    go_enter Try.func23, Try.ntmps23
    go_wp2
    go_loopg [5] N (fun g s5 wr => ∃ i : Nat, s5 = .int .i64 i ∧ i + g = N ∧ Hid (xs.take i = ys.take i) ∧ Hid (Upd (fun _ => False) w wr))
    case atStart => exact ⟨0, rfl, by omega, Lib.hid (by simp), Lib.hid (Upd.refl _ _)⟩
    case round =>
      obtain ⟨i, rfl, hig, hT, hU⟩ := hrel
      cases gk with
      | zero =>
        obtain rfl : i = N := by omega
        go_wp2
        go_ret
        refine ⟨?_, hU.out⟩
        have e := hT.out
        rw [List.take_of_length_le (by have := HN.out; omega), List.take_of_length_le (by have := HN.out; have := HL.out; omega)] at e
        rw [decide_eq_true e]
        rfl
      | succ g =>
        have hil : i < xs.length := by have := HN.out; omega
        have hil2 : i < ys.length := by have := HL.out; omega
        obtain ⟨g1, o1, q1, rfl, q3⟩ := HA.out i _ (List.getElem?_eq_getElem hil)
        obtain ⟨g2, o2, q4, rfl, q6⟩ := HB.out i _ (List.getElem?_eq_getElem hil2)
        have c1 := hU.out.cell q3 (fun f => f)
        have c2 := hU.out.cell q6 (fun f => f)
        have hlt : i < N := by omega
        have hd : decide ((i : Int) < (N : Int)) = true := decide_eq_true (by omega)
        have hw : IntKind.i64.wrap ((i : Int) + 1) = (i : Int) + 1 := IntWalk.i64_in _ (by omega)
        have ht1 := List.take_succ_eq_append_getElem hil
        have ht2 := List.take_succ_eq_append_getElem hil2
        have hx1 : xs[i]? = some xs[i] := List.getElem?_eq_getElem hil
        have hx2 : ys[i]? = some ys[i] := List.getElem?_eq_getElem hil2
        clear q3 q6
        generalize xs[i] = p at c1 ht1 hx1
        generalize ys[i] = q at c2 ht2 hx2
        have HT1 := Lib.hid ht1
        have HT2 := Lib.hid ht2
        have HX1 := Lib.hid hx1
        have HX2 := Lib.hid hx2
        clear ht1 ht2 hx1 hx2 hil hil2
        by_cases hpq : p = q
        · subst hpq
          have hne : (p != p) = false := by simp
          go_wp2
          go_quiet (fail)
          go_wp2
          go_roundg g
          case measure => omega
          case rel => exact ⟨i + 1, by rw [Int.natCast_add]; rfl, by omega, Lib.hid (by rw [HT1.out, HT2.out, hT.out]), Lib.hid (hU.out.drewN _)⟩
        · have hne : (p != q) = true := by simpa using hpq
          go_wp2
          go_quiet (fail)
          go_wp2
          go_ret
          refine ⟨?_, hU.out.drewN _⟩
          have : ¬ xs = ys := fun e => by have h1 := HX1.out; rw [e, HX2.out] at h1; exact hpq (Option.some.inj h1).symm
          rw [decide_eq_false this]
          rfl
  · have hb : ((xs.length : Int) == (ys.length : Int)) = false := by simp; omega
    have hb2 : ((xs.length : Int) != (ys.length : Int)) = true := by simp; omega
    rw [decide_eq_false (fun e => hlen (by rw [e]))]
    clear a3 b3
    go_enter Try.func23, Try.ntmps23
    go_wp2
    go_ret
    exact ⟨rfl, Upd.refl _ _⟩

end Go.Proofs.Ytoblihckojnffaa
