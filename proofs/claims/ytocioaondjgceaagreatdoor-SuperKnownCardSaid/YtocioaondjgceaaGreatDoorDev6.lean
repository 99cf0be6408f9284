/- A device: settle. -/
import Derived.Test.YtocioaondjgceaaGreatDoorDev5
set_option linter.unusedVariables false
set_option linter.unusedSimpArgs false
namespace Go.Proofs.YtocioaondjgceaaGreatDoor
open Go.RowKit Go.Maps

section
variable {P : Program}
theorem wpStill_bin {ops : Array Oper} {rest : List Oper} {o : Oper} {a : Act} {w : World} {Q : Act → Prop} (hgd : o.guard = none) (b : BinOp) (t t2 : TypeId) (x y : Operand) (ho : o.op = .binOp b t x y t2)
    (xv yv : Value) (hx : a.eval x = xv) (hy : a.eval y = yv) (hq : (eqGuard b t x y xv yv).run P w = .ok () w) (v : Value) (hr : (binOp b t xv yv).run P w = .ok v w) (h : wpStill P ops w Q rest (a.put o.dst v)) : wpStill P ops w Q (o :: rest) a :=
  wpStill_step fun K hK => by
    have hw : Region.wanted o (yielded ops a.tmps) = true := by simp [Region.wanted, hgd]
    rw [if_pos hw]
    unfold Oper.still execOp
    simp only [ho, hx, hy, Sem.run_bind, Sem.run_pure, Result.andThen_ok, hq, hr]
    exact ⟨rfl, hK _ h⟩
end

theorem guard_sec (x y : Operand) (a b : List UInt8) (w : World) : (eqGuard .neq 81 x y (secV a) (secV b)).run Tryz.prog w = .ok () w := by kernel_rfl
theorem SureAt.store {w : World} {bs cap : Nat} {d : List Dv.Cel} (h : SureAt w bs cap d) (hok : Dv.Ok d) (k : Nat) (hk : k < d.length) (l : List UInt8) (hl : l.length = 128) (o : Option (List UInt8)) :
    ∃ w', (storeVar 81 ⟨bs, k * 128, none⟩ (secV l)).run Tryz.prog w = .ok () w' ∧ SureAt w' bs cap (d.set k (l, o)) ∧ Upd (fun i => i = bs) w w' := by
  obtain ⟨cs, hb, h1, h2, h3⟩ := h
  have hfit : k * 128 + (bytesV l).length ≤ cs.size := by rw [bytesV_length, hl, h1]; omega
  have hr := run_store_sub (P := Tryz.prog) w bs (k * 128) 81 81 cs (bytesV l) hb (by rw [bytesV_length, hl]; exact info_sec) hfit (bytesV_one l)
  refine ⟨_, hr, ⟨_, setRow_at hb _, ?_, by rw [List.length_set]; exact h2, ?_⟩, (Upd.refl (fun i => i = bs) w).setRow (fun _ => rfl) _⟩
  · have e1 : (bytesV l).length = 128 := by rw [bytesV_length, hl]
    rw [e1, h1] at hfit
    rw [List.size_toArray, List.length_append, List.length_append, List.length_take, List.length_drop, Array.length_toList, e1, h1]
    omega
  · intro k2 c hc j v hv
    have hj : j < 128 := by
      have := (List.getElem?_eq_some_iff.1 hv).1
      rw [bytesV_length] at this
      have hk2 : k2 < (d.set k (l, o)).length := (List.getElem?_eq_some_iff.1 hc).1
      by_cases e : k2 = k
      · subst e
        rw [List.getElem?_set_self hk] at hc
        simp only [Option.some.injEq] at hc
        subst hc
        rw [show ((l, o) : Dv.Cel).1 = l from rfl, hl] at this
        exact this
      · rw [List.getElem?_set_ne (fun f => e f.symm)] at hc
        have := (hok.2.2 c (List.mem_of_getElem? hc)).1
        omega
    rw [List.getElem?_toArray]
    have lt1 : (cs.toList.take (k * 128)).length = k * 128 := by rw [List.length_take, Array.length_toList]; omega
    by_cases e : k2 = k
    · subst e
      rw [List.getElem?_set_self hk] at hc
      simp only [Option.some.injEq] at hc
      subst hc
      rw [List.append_assoc, List.getElem?_append_right (by rw [lt1]; omega), lt1, List.getElem?_append_left (by rw [bytesV_length, hl]; omega), show k2 * 128 + j - k2 * 128 = j by omega]
      exact hv
    · rw [List.getElem?_set_ne (fun f => e f.symm)] at hc
      have := h3 k2 c hc j v hv
      by_cases hlt : k2 < k
      · rw [List.append_assoc, List.getElem?_append_left (by rw [lt1]; omega), List.getElem?_take_of_lt (by omega)]
        simpa using this
      · rw [List.getElem?_append_right (by rw [List.length_append, lt1, bytesV_length, hl]; omega), List.length_append, lt1, bytesV_length, hl, List.getElem?_drop, show k * 128 + 128 + (k2 * 128 + j - (k * 128 + 128)) = k2 * 128 + j by omega]
        simpa using this
theorem SureAt.same {w : World} {bs cap : Nat} {d : List Dv.Cel} (h : SureAt w bs cap d) (k : Nat) (hk : k < d.length) (o : Option (List UInt8)) : SureAt w bs cap (d.set k ((Dv.cell d k).1, o)) := by
  obtain ⟨cs, hb, h1, h2, h3⟩ := h
  refine ⟨cs, hb, h1, by rw [List.length_set]; exact h2, fun k2 c hc j v hv => ?_⟩
  by_cases e : k2 = k
  · subst e
    rw [List.getElem?_set_self hk] at hc
    simp only [Option.some.injEq] at hc
    subst hc
    exact h3 k2 _ (cell_at d k2 hk) j v hv
  · rw [List.getElem?_set_ne (fun f => e f.symm)] at hc
    exact h3 k2 c hc j v hv
theorem ok_set {d : List Dv.Cel} (h : Dv.Ok d) (k : Nat) (l : List UInt8) (hl : l.length = 128) (o : Option (List UInt8)) (ho : ∀ y, o = some y → y.length = 128) : Dv.Ok (d.set k (l, o)) := by
  refine ⟨by rw [List.length_set]; exact h.1, by rw [List.length_set]; exact h.2.1, fun x hx => ?_⟩
  rcases List.mem_or_eq_of_mem_set hx with hx | rfl
  · exact h.2.2 x hx
  · exact ⟨hl, ho⟩
theorem mix_len (n : Nat) (x s : List UInt8) (hx : x.length = 128) (hs : s.length = 128) : (Dv.mixB n x s).length = 128 := by unfold Dv.mixB; rw [List.length_append, List.length_take, List.length_drop]; omega
/-- What is behind the loop's body: the sector is sure, and waits no more. -/
theorem settled {w w5 w6 : World} {b bs bm cap : Nat} {dc : List Dv.Cel} {k : Nat} {mix : List UInt8} (h : DevAt w b bs bm cap dc) (hk : k < dc.length) (hm : mix.length = 128) (h5 : SureAt w5 bs cap (dc.set k (mix, none))) (u5 : Upd (fun i => i = bs) w w5)
    (h6 : WaitsAt w6 bm (dc.set k (mix, none))) (g6 : w5.grownBy w6 (some bm)) : DevAt w6 b bs bm cap (dc.set k (mix, none)) ∧ Upd (fun i => i = bs ∨ i = bm) w w6 := by
  have u6 : Upd (fun i => i = bs ∨ i = bm) w w6 := (u5.mono (fun _ _ f => Or.inl f)).grown g6 (fun j hj _ => Or.inr (by simpa using hj.symm))
  refine ⟨⟨ok_set h.ok k mix hm none (fun y hy => by cases hy), h.fits, ?_, ?_, h6⟩, u6⟩
  · rw [List.length_set]
    exact u6.heap h.dev (fun f => f.elim h.bs_ne h.bm_ne)
  · have ug : Upd (fun i => i = bm) w5 w6 := ((Upd.refl _ w5)).grown g6 (fun j hj _ => by simpa using hj.symm)
    exact h5.upd ug h.sm_ne

/-- The sorted keys' row. -/
def KRow (w : World) (lo : Nat) (ad : Option Addr) (ks : List Nat) : Prop := ∀ i, i < ks.length → ∃ g, ad = some ⟨g, 0, none⟩ ∧ lo ≤ g ∧ w.cell? ⟨g, i, none⟩ = some (.int .i64 ((ks.getD i 0 : Nat) : Int))
theorem KRow.upd {F : Nat → Prop} {w w' : World} {lo : Nat} {ad : Option Addr} {ks : List Nat} (h : KRow w lo ad ks) (hu : Upd F w w') (hF : ∀ k, F k → k < lo) : KRow w' lo ad ks := fun i hi => by
  obtain ⟨g, h1, h2, h3⟩ := h i hi
  exact ⟨g, h1, h2, hu.cell h3 (fun f => by have := hF _ f; simp only at this; omega)⟩

end Go.Proofs.YtocioaondjgceaaGreatDoor
