/- A device: steps of a region that draws its order, with what it makes behind letters. -/
import Derived.Test.YtocioaondjgceaaGreatDoorDev6
import Derived.Deep.RegionHeld
set_option linter.unusedVariables false
set_option linter.unusedSimpArgs false
namespace Go.Proofs.YtocioaondjgceaaGreatDoor
open Go.RowKit Go.Maps

section
variable {P : Program} {ops : Array Oper} {S : World → Prop}
theorem yi_load {o : Oper} {a : Act} (hgd : o.guard = none) (ty : TypeId) (x : Operand) (ho : o.op = .load ty x) (p : Addr) (hx : a.eval x = .pointer (some p)) (v : Value) (hr : ∀ w, S w → (loadVar ty p).run P w = .ok v w) : YieldsIf P ops S o v a :=
  Or.inl ⟨by simp [Region.wanted, hgd], fun w hS => by
    unfold execOp
    simp only [ho, hx, Instr.loadAt, Instr.sureAddr, Sem.run_bind, Sem.run_pure, Result.andThen_ok, hr w hS]⟩
theorem yi_lookup {o : Oper} {a : Act} (hgd : o.guard = none) (t : TypeId) (m k : Operand) (c : Bool) (ho : o.op = .lookup t m k c) (mv kv : Value) (hm : a.eval m = mv) (hk : a.eval k = kv) (v : Value)
    (hr : ∀ w, S w → (Instr.lookup t mv kv c).run P w = .ok v w) : YieldsIf P ops S o v a :=
  Or.inl ⟨by simp [Region.wanted, hgd], fun w hS => by
    unfold execOp
    simp only [ho, hm, hk, Sem.run_bind, Sem.run_pure, Result.andThen_ok, hr w hS]⟩
end

theorem heap_setRow_ne (w : World) (g k : Nat) (cs : Array Value) (h : k ≠ g) : (w.setRow g cs).heap[k]? = w.heap[k]? := by simp [World.setRow, Array.getElem?_modify, Ne.symm h]

/-- A sector's own variable, made since. -/
def NewAt (wr w : World) (g : Nat) (l : List UInt8) : Prop := wr.heap.size ≤ g ∧ w.heap[g]? = some (.cells (bytesV l).toArray 81 (0, 0))
theorem step_alloc_new {ops : Array Oper} {o : Oper} {a : Act} {wr w : World} {K : Act → World → Prop} {Q : Exit → Act → World → Prop} {E : Prop} (d : Option Tmp) (hd : o.dst = d) (hgd : o.guard = none) (ho : o.op = .alloc 81) (hu : Upd (fun _ => False) wr w)
    (h : ∀ g W, Upd (fun _ => False) wr W → NewAt wr W g zeros → (∀ j l, NewAt wr w j l → j ≠ g ∧ NewAt wr W j l) → K (a.put d (.pointer (some ⟨g, 0, none⟩))) W) :
    if Region.wanted o (yielded ops a.tmps) = true then Oper.wp Tryz.prog o a w K Q else E := by
  have hw : Region.wanted o (yielded ops a.tmps) = true := by simp [Region.wanted, hgd]
  rw [if_pos hw]
  subst hd
  obtain ⟨Z, hZ⟩ := alloc_any
  have hr := (hZ w).1
  have hz := (hZ w).2
  unfold Oper.wp execOp
  simp only [ho, Sem.run_bind, Sem.run_pure, Result.andThen_ok, hr]
  refine h w.heap.size _ (hu.alloc _) ⟨hu.size, by rw [← hz]; exact heap_alloc_new _ _⟩ (fun j l hj => ⟨fun e => ?_, hj.1, heap_alloc_lt hj.2 _⟩)
  have := lt_of_heap hj.2
  omega
theorem step_store_new {ops : Array Oper} {o : Oper} {a : Act} {wr w : World} {K : Act → World → Prop} {Q : Exit → Act → World → Prop} {E : Prop} (hd : o.dst = none) (hgd : o.guard = none) (x y : Operand) (ho : o.op = .store 81 x y) (hu : Upd (fun _ => False) wr w)
    (g : Nat) (l0 l : List UInt8) (hg : NewAt wr w g l0) (h0 : l0.length = 128) (hl : l.length = 128) (hx : a.eval x = .pointer (some ⟨g, 0, none⟩)) (hy : a.eval y = secV l)
    (h : ∀ W, Upd (fun _ => False) wr W → NewAt wr W g l → (∀ j l, j ≠ g → NewAt wr w j l → NewAt wr W j l) → K a W) :
    if Region.wanted o (yielded ops a.tmps) = true then Oper.wp Tryz.prog o a w K Q else E := by
  refine step_store_by hgd 81 x y ho ⟨g, 0, none⟩ hx (secV l) hy (store_new h0 hl hg.2) ?_
  rw [hd]
  refine h _ (hu.setRow (fun hh => by have := hg.1; omega) _) ⟨hg.1, setRow_at hg.2 _⟩ (fun j l2 hne hj => ⟨hj.1, ?_⟩)
  rw [heap_setRow_ne _ _ _ _ hne]; exact hj.2

theorem take_first {P : Program} {md : Region.Mode} {ops : Array Oper} {Q : Exit → Act → World → Prop} {S : World → Prop} {i : Nat} (d : Option Tmp) {oi : Oper} {v : Value} {fuel : Nat} {listed : Array Bool} {a : Act} {w : World} (hi : ops[i]? = some oi) (hd : oi.dst = d)
    (hs : Region.noSelect ops = true) (hf : Region.free md ops listed i = true) (hr : (Region.ready md ops listed).contains i = true)
    (hQ : ∀ c a w, Q (.panic c) (a.put d v) w → Q (.panic c) a w) (hy : YieldsIf P ops S oi v a) (hS : S w)
    (h : wpAnyH P md ops Q S fuel (listed.setIfInBounds i true) (a.put d v) w) : wpAnyH P md ops Q S (fuel + 1) listed a w := by
  subst hd
  exact wpAnyH_take hi hs hf hr hQ hy hS h

theorem info_u8 : (Tryz.prog.info? 5).map (·.size) = some 1 := by kernel_rfl
theorem step_copy_new {ops : Array Oper} {o : Oper} {a : Act} {wr w : World} {K : Act → World → Prop} {Q : Exit → Act → World → Prop} {E : Prop} (d : Option Tmp) (hd : o.dst = d) (hgd : o.guard = none) (x y : Operand)
    (ho : o.op = .call { callee := .builtin .copy, args := #[x, y], argTypes := #[82, 82] }) (hu : Upd (fun _ => False) wr w) (pa pb m cm : Nat) (lx ls : List UInt8) (na : NewAt wr w pa lx) (nb : NewAt wr w pb ls)
    (hlx : lx.length = 128) (hls : ls.length = 128) (hm : m ≤ 128) (hx : a.eval x = .slice (some ⟨pb, 0, none⟩) 128 128) (hy : a.eval y = .slice (some ⟨pa, 0, none⟩) m cm)
    (h : ∀ W, Upd (fun _ => False) wr W → NewAt wr W pb (lx.take m ++ ls.drop m) → K (a.put d (.int .i64 (m : Int))) W) :
    if Region.wanted o (yielded ops a.tmps) = true then Oper.wp Tryz.prog o a w K Q else E := by
  subst hd
  have ln : ((bytesV lx).take m).length = m := by rw [List.length_take, bytesV_length, hlx]; omega
  refine step_copy_splice hgd x y 82 82 ho 5 Tryz.underlying82 info_u8 (some ⟨pb, 0, none⟩) (some ⟨pa, 0, none⟩) 128 128 m cm hx hy pb 0 (bytesV ls) 81 nb.2 ((bytesV lx).take m) (by rw [ln]; exact (Nat.min_eq_left hm).symm)
    (fun hp => ⟨rfl, ⟨pa, 0, none⟩, rfl, fun j v hv => ?_⟩) (by rw [ln, bytesV_length, hls]; omega) (fun v hv => bytesV_one lx v (List.mem_of_mem_take hv)) wr.heap.size wr (hu.below (Nat.le_refl _) (fun _ f => f.elim)) nb.1 (fun W hW hB => ?_)
  · have hj : j < m := by have := (List.getElem?_eq_some_iff.1 hv).1; rw [ln] at this; exact this
    rw [List.getElem?_take_of_lt hj] at hv
    have hadd : (⟨pa, 0, none⟩ : Addr).add j = ⟨pa, j, none⟩ := by unfold Addr.add; split <;> simp_all
    rw [hadd, cell_of_row w pa j _ _ _ na.2]
    simpa using hv
  · have := h W ((Upd.of_below hB).mono (fun i hi f => by omega)) ⟨nb.1, by
      have := hW.out
      rw [this]
      unfold splice
      rw [ln, Nat.zero_add, List.take_zero, List.nil_append, bytesV_append]
      unfold bytesV
      rw [List.map_take, List.map_drop]⟩
    rw [show goInt ((bytesV lx).take m).length = .int .i64 (m : Int) by rw [ln]; rfl]
    exact this

theorem yi_bin {P : Program} {ops : Array Oper} {S : World → Prop} {o : Oper} {a : Act} (hgd : o.guard = none) (b : BinOp) (t t2 : TypeId) (x y : Operand) (ho : o.op = .binOp b t x y t2) (xv yv : Value) (hx : a.eval x = xv) (hy : a.eval y = yv)
    (hq : ∀ w, (eqGuard b t x y xv yv).run P w = .ok () w) (v : Value) (hr : ∀ w, (binOp b t xv yv).run P w = .ok v w) : YieldsIf P ops S o v a :=
  Or.inl ⟨by simp [Region.wanted, hgd], fun w hS => by
    unfold execOp
    simp only [ho, hx, hy, Sem.run_bind, Sem.run_pure, Result.andThen_ok, hq w, hr w]⟩
theorem step_min {P : Program} {ops : Array Oper} {o : Oper} {a : Act} {w : World} {K : Act → World → Prop} {Q : Exit → Act → World → Prop} {E : Prop} (d : Option Tmp) (hd : o.dst = d) (hgd : o.guard = none) (x y : Operand) (t1 t2 : TypeId)
    (ho : o.op = .call { callee := .builtin .min, args := #[x, y], argTypes := #[t1, t2] }) (u v m : Nat) (hm : min u v = m) (hx : a.eval x = .int .i64 (u : Int)) (hy : a.eval y = .int .i64 (v : Int))
    (h : K (a.put d (.int .i64 (m : Int))) w) : if Region.wanted o (yielded ops a.tmps) = true then Oper.wp P o a w K Q else E := by
  have hw : Region.wanted o (yielded ops a.tmps) = true := by simp [Region.wanted, hgd]
  rw [if_pos hw]
  subst hd
  have e : (if v < u then (v : Int) else (u : Int)) = (m : Int) := by subst hm; split <;> omega
  unfold Oper.wp
  simp [execOp, ho, resolve, invoke, builtin, hx, hy, run_min_int2, Result.andThen]
  rw [e]
  exact h
theorem wpList_delete_by {P : Program} {ops : Array Oper} {rest : List Oper} {o : Oper} {a : Act} {w w' : World} {Q : Exit → Act → World → Prop} (hgd : o.guard = none) (x y : Operand) (t1 t2 : TypeId)
    (ho : o.op = .call { callee := .builtin .delete, args := #[x, y], argTypes := #[t1, t2] }) (mv kv : Value) (hx : a.eval x = mv) (hy : a.eval y = kv) (hr : (Builtin.delete_ #[t1, t2] o.type #[mv, kv]).run P w = .ok (.tuple #[]) w')
    (h : wpList P ops Q rest (a.put o.dst (.tuple #[])) w') : wpList P ops Q (o :: rest) a w :=
  wpList_plain hgd fun _ hK => by
    unfold Oper.wp
    simp [execOp, ho, resolve, invoke, builtin, hx, hy, hr, Result.andThen]
    exact hK _ _ h

theorem step_call_at {P : Program} {ops : Array Oper} {o : Oper} {a : Act} {w : World} {K : Act → World → Prop} {Q : Exit → Act → World → Prop} {E : Prop} (d : Option Tmp) (hd : o.dst = d) (hgd : o.guard = none) (x y : Operand) (t : TypeId)
    (ho : o.op = .call { callee := .value x, args := #[y], argTypes := #[t] }) (f : FuncId) (he : Enters P f) (caps : Array Value) (hx : a.eval x = .func (.func f) #[] caps) (v : Value) (hv : a.eval y = v) (r : Value) (R : World → Prop)
    (hc : Calls P f (#[v] ++ caps) w fun e w' => e = .returned r ∧ R w') (h : ∀ w', R w' → K (a.put d r) w') : if Region.wanted o (yielded ops a.tmps) = true then Oper.wp P o a w K Q else E := by
  subst hd
  exact step_call_func hgd x y t ho f he caps hx v hv r R hc h

theorem wpList_delete_waits {ops : Array Oper} {rest : List Oper} {o : Oper} {a : Act} {w : World} {Q : Exit → Act → World → Prop} (hgd : o.guard = none) (x y : Operand)
    (ho : o.op = .call { callee := .builtin .delete, args := #[x, y], argTypes := #[66, 3] }) {bm : Nat} {dc : List Dv.Cel} (hW : WaitsAt w bm dc) (k : Nat) (hk : k < dc.length) (hl : dc.length ≤ 4096) (s : List UInt8)
    (hx : a.eval x = .map (some bm)) (hy : a.eval y = .int .i64 (k : Int))
    (h : ∀ w', WaitsAt w' bm (dc.set k (s, none)) → w.grownBy w' (some bm) → wpList Tryz.prog ops Q rest (a.put o.dst (.tuple #[])) w') : wpList Tryz.prog ops Q (o :: rest) a w := by
  obtain ⟨w', h1, h2, h3⟩ := hW.del k hk hl s o.type
  exact wpList_delete_by hgd x y _ _ ho _ _ hx hy h1 (h w' h2 h3)

theorem step_store_at {P : Program} {ops : Array Oper} {o : Oper} {a : Act} {w w' : World} {K : Act → World → Prop} {Q : Exit → Act → World → Prop} {E : Prop} (hd : o.dst = none) (hgd : o.guard = none) (ty : TypeId) (x y : Operand) (ho : o.op = .store ty x y)
    (p : Addr) (hx : a.eval x = .pointer (some p)) (v : Value) (hy : a.eval y = v) (hr : (storeVar ty p v).run P w = .ok () w') (h : K a w') :
    if Region.wanted o (yielded ops a.tmps) = true then Oper.wp P o a w K Q else E := by
  refine step_store_by hgd ty x y ho p hx v hy hr ?_
  rw [hd]
  exact h

/-- What follows a region that makes two sectors, named. -/
theorem two_new {P : Program} {md : Region.Mode} {ops : Array Oper} {Q : Exit → Act → World → Prop} {S : World → Prop} {fuel : Nat} {listed : Array Bool} {a : Act} {w : World} (F : Nat → Nat → World → Prop) (dx dy : Option Tmp)
    (hc : ∀ pa pb W, F pa pb W → Q .normal ((a.put dx (.pointer (some ⟨pa, 0, none⟩))).put dy (.pointer (some ⟨pb, 0, none⟩))) W)
    (h : (∀ pa pb W, F pa pb W → Q .normal ((a.put dx (.pointer (some ⟨pa, 0, none⟩))).put dy (.pointer (some ⟨pb, 0, none⟩))) W) → wpAnyH P md ops Q S fuel listed a w) : wpAnyH P md ops Q S fuel listed a w := h hc

end Go.Proofs.YtocioaondjgceaaGreatDoor
