/- The fuse: New. -/
import Derived.Test.YtocioaondjgceaaGreatDoorFz2
import Derived.Maps.AppendAt
set_option linter.unusedVariables false
set_option linter.unusedSimpArgs false
namespace Go.Proofs.YtocioaondjgceaaGreatDoor
open Go.RowKit Go.Maps

theorem Tryz.infoI64 : (Tryz.prog.info? 3).map (fun i => (i.zero, i.size, i.bytes)) = some (some (.int .i64 0), 1, 8) := by kernel_rfl
def intsV (ks : List Int) : List Value := ks.map fun x => .int .i64 x
/-- Numbers that came in, or none. -/
structure FNums (w : World) (ad : Option Addr) (cp : Nat) (ks : List Int) : Prop where
  len : ks.length ≤ 1000000
  row : ∀ j, j < ks.length → ∃ p : Addr, ad = some p ∧ w.cell? (p.add j) = some (.int .i64 (ks.getD j 0))
  nil : ad = none → cp = 0
theorem append_nn {P : Program} (w : World) (t ty e : TypeId) (i : TypeInfo) (ht : P.underlying t = some (.slice e)) (hi : P.info? e = some i) : (Builtin.append_ #[t, t] ty #[.slice none 0 0, .slice none 0 0]).run P w = .ok (.slice none 0 0) w := by
  simp [Builtin.append_, run_underlying ht, sizeOf, typeInfo, hi, Builtin.lenOf, Builtin.firstCells, loadCells, loadCellsFrom]
theorem wpList_append_by2 {P : Program} {ops : Array Oper} {rest : List Oper} {o : Oper} {a : Act} {w w' : World} {Q : Exit → Act → World → Prop} (hgd : o.guard = none) (s x : Operand) (t : TypeId)
    (ho : o.op = .call { callee := .builtin .append, args := #[s, x], argTypes := #[t, t] }) (vs vx v' : Value) (hs : a.eval s = vs) (hx : a.eval x = vx) (hrun : (Builtin.append_ #[t, t] o.type #[vs, vx]).run P w = .ok v' w')
    (h : wpList P ops Q rest (a.put o.dst v') w') : wpList P ops Q (o :: rest) a w :=
  wpList_plain hgd fun _ hK => by
    unfold Oper.wp execOp
    simp only [ho, resolve, invoke, builtin, Sem.run_bind, Sem.run_pure, Result.andThen_ok, List.map_toArray, List.map_cons, List.map_nil, hs, hx, hrun]
    exact hK _ _ h

/-- append([]int(nil), ks...) -/
theorem append_nums {w : World} {ad : Option Addr} {cp : Nat} {ks : List Int} (h : FNums w ad cp ks) (ty : TypeId) : ∃ cad cc w', (Builtin.append_ #[40, 40] ty #[.slice none 0 0, .slice ad ks.length cp]).run Tryz.prog w = .ok (.slice cad ks.length cc) w' ∧ Upd (fun _ => False) w w' ∧
    (ks = [] ∨ ∃ g cs, cad = some ⟨g, 0, none⟩ ∧ w.heap.size ≤ g ∧ w'.heap[g]? = some (.cells cs 3 (0, 0)) ∧ ∀ j, j < ks.length → cs[j]? = some (.int .i64 (ks.getD j 0))) := by
  obtain ⟨i0, hi, hq0, hq1, hq2⟩ := info_parts Tryz.infoI64
  cases ad with
  | none =>
    have hk : ks = [] := by
      rcases ks with _ | ⟨x, ks⟩
      · rfl
      · obtain ⟨p, e, _⟩ := h.row 0 (by simp)
        cases e
    subst hk
    have := h.nil rfl
    subst this
    exact ⟨none, 0, w, append_nn w _ ty _ i0 Tryz.underlying40 hi, Upd.refl _ _, Or.inl rfl⟩
  | some a =>
    have hlen := h.len
    obtain ⟨v', w', hrun, hown, hgr, _, _⟩ := run_append_own_at (P := Tryz.prog) w w.heap.size 40 ty 3 i0 _ 1 8 Tryz.underlying40 hi hq0 hq1 hq2 (by kernel_rfl) (by omega)
      (.slice none 0 0) 0 [] (World.ownsRow_nil _ _ _ _) a ks.length cp (intsV ks) (by simp [intsV])
      (fun j u hj => by
        have hjl : j < ks.length := by have := (List.getElem?_eq_some_iff.1 hj).1; simpa [intsV] using this
        obtain ⟨p, e, hc⟩ := h.row j hjl
        cases e
        rw [hc]
        unfold intsV at hj
        rw [List.getElem?_map, List.getElem?_eq_getElem hjl] at hj
        rw [← hj, List.getD_eq_getElem?_getD, List.getElem?_eq_getElem hjl]; rfl)
      (fun u hu => by unfold intsV at hu; rw [List.mem_map] at hu; obtain ⟨x, _, rfl⟩ := hu; rfl) (by unfold maxLen; omega) (by omega) (Nat.le_refl _)
    rw [Nat.zero_add, List.nil_append] at hown
    have hu : Upd (fun _ => False) w w' := (Upd.refl (fun _ => False) w).grown hgr (fun k hk _ => by simp [Value.ownBlock] at hk)
    rcases hown.2 with ⟨e1, e2⟩ | ⟨g, cp2, cur, e, hge, hg, hncp, hcpm, hsz, htake⟩
    · have hk : ks = [] := List.eq_nil_of_length_eq_zero e2
      subst hk
      rw [e1] at hrun
      exact ⟨none, 0, w', hrun, hu, Or.inl rfl⟩
    · rw [e] at hrun
      refine ⟨some ⟨g, 0, none⟩, cp2, w', hrun, hu, Or.inr ⟨g, cur, rfl, hge, hg, fun j hj => ?_⟩⟩
      have : (intsV ks)[j]? = some (.int .i64 (ks.getD j 0)) := by
        unfold intsV
        rw [List.getElem?_map, List.getElem?_eq_getElem hj, List.getD_eq_getElem?_getD, List.getElem?_eq_getElem hj]; rfl
      rw [← this, ← htake, List.getElem?_take_of_lt (by omega)]; simp

def NewP (w : World) (b bs bm cap : Nat) (d : List Dv.Cel) (q : Int) (ks : List Int) (e : Ending) (w' : World) : Prop := ∃ bf cad cc, e = .returned (.pointer (some ⟨bf, 0, none⟩)) ∧ w.heap.size ≤ bf ∧ FD w' bf b bs bm cap cad cc ⟨q, 0, true, ks⟩ d ∧ Upd (fun _ => False) w w'
set_option maxHeartbeats 1000000 in
set_option maxRecDepth 100000 in
theorem fuse_New {w : World} {b bs bm cap : Nat} {d : List Dv.Cel} (hd : DevAt w b bs bm cap d) (n : Int) (hn : -9223372036854775808 ≤ n) (hn2 : n ≤ 9223372036854775807) {ad : Option Addr} {cp : Nat} {ks : List Int} (hk : FNums w ad cp ks) :
    Calls Tryz.prog 12 #[.pointer (some ⟨b, 0, none⟩), .int .i64 n, .slice ad ks.length cp] w (NewP w b bs bm cap d (max n (-1)) ks) := by
  have hlen := hk.len
  have HA := Lib.hid (append_nums hk 40)
  have HDv := Lib.hid hd
  obtain ⟨m, hm⟩ : ∃ m, m = ks.length := ⟨_, rfl⟩
  rw [← hm] at HA ⊢
  have HM := Lib.hid hm
  obtain ⟨q, hq⟩ : ∃ q, q = max n (-1) := ⟨_, rfl⟩
  have hq0 : -1 ≤ q := by omega
  have hq1 : q ≤ 9223372036854775807 := by omega
  have y1 : max n (-1) = q := hq.symm
  have HE : Hid (∀ (w2 : World) (cad : Option Addr) (cc : Nat), Upd (fun _ => False) w w2 → (ks = [] ∨ ∃ g cs, cad = some ⟨g, 0, none⟩ ∧ w.heap.size ≤ g ∧ w2.heap[g]? = some (.cells cs 3 (0, 0)) ∧ ∀ j, j < m → cs[j]? = some (.int .i64 (ks.getD j 0))) →
      FD (w2.alloc (.cells #[.pointer (some ⟨b, 0, none⟩), .slice cad m cc, .int .i64 q, .int .i64 0, .bool true] 70)) w2.heap.size b bs bm cap cad cc ⟨q, 0, true, ks⟩ d) := by
    refine Lib.hid (fun w2 cad cc hu hc => ⟨⟨hq0, hq1, by show ks.length ≤ _; omega⟩, ?_, ?_, (hd.upd hu (fun f => f) (fun f => f) (fun f => f)).upd ((Upd.refl (fun _ => False) w2).alloc _) (fun f => f) (fun f => f) (fun f => f)⟩)
    · rw [heap_alloc_new, hm]; rfl
    · rcases hc with hc | ⟨g, cs, e, h1, h2, h3⟩
      · exact Or.inl hc
      · exact Or.inr ⟨g, cs, e, heap_alloc_lt h2 _, fun j hj => h3 j (by rw [hm]; exact hj)⟩
  rw [← hq]
  clear hd hk hm hq
  obtain ⟨cad, cc, w2, hrun, hu, hc⟩ := HA.out
  have HR := Lib.hid hrun
  have HU := Lib.hid hu
  have HC := Lib.hid hc
  clear hrun hu hc
  by_cases hb : n < -1
  · go_enter Tryz.func12, Tryz.ntmps12
    go_wp2_with (at_builtin; refine wpList_append_by2 rfl _ (.tmp 10) 40 rfl _ _ _ rfl rfl HR.out ?_)
    go_ret
    exact ⟨_, cad, cc, rfl, HU.out.size, HE.out w2 cad cc HU.out HC.out, HU.out.alloc _⟩
  · go_enter Tryz.func12, Tryz.ntmps12
    go_wp2_with (at_builtin; refine wpList_append_by2 rfl _ (.tmp 10) 40 rfl _ _ _ rfl rfl HR.out ?_)
    go_ret
    exact ⟨_, cad, cc, rfl, HU.out.size, HE.out w2 cad cc HU.out HC.out, HU.out.alloc _⟩
theorem nofuse_New (n : Int) (v : Value) (w : World) : Calls Tryz.prog 12 #[.pointer none, .int .i64 n, v] w fun e w' => e = .returned (.pointer none) ∧ w = w' := by
  go_enter Tryz.func12, Tryz.ntmps12
  go_wp2
  go_ret
  exact ⟨rfl, rfl⟩

end Go.Proofs.YtocioaondjgceaaGreatDoor
