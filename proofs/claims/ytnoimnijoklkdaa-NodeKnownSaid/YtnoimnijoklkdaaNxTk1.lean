/- Texts that belong together: YtnoimnijoklkdaaReg, YtnoimnijoklkdaaNxTk1. -/
import Derived.Test.YtnoimnijoklkdaaBase
import Derived.Deep.RegionHeld
import Derived.OrdersHeld
import Derived.Shelf.Abstract
import Derived.Deep.WholeRow
import Derived.Laws.Tables
import Derived.Maps.OwnSet
import Derived.Maps.OwnOps
import Derived.Test.YtnoimnijoklkdaaPx0
import Derived.Test.YtnoimnijoklkdaaPx10
import Derived.Test.YtnoimnijoklkdaaNxChk
import Derived.Great.BuildSlice
/- Words for a region that draws its order, walked in the text's order: guards, reads, calls of Go functions. -/
set_option linter.unusedVariables false
set_option linter.unusedSimpArgs false
namespace Go.Proofs.Ytnoimnijoklkdaa
open Go.RowKit Go.Shelf

theorem take_first {P : Program} {md : Region.Mode} {ops : Array Oper} {Q : Exit → Act → World → Prop} {S : World → Prop} {i : Nat} (d : Option Tmp) {oi : Oper} {v : Value} {fuel : Nat} {listed : Array Bool} {a : Act} {w : World} (hi : ops[i]? = some oi) (hd : oi.dst = d)
    (hs : Region.noSelect ops = true) (hf : Region.free md ops listed i = true) (hr : (Region.ready md ops listed).contains i = true)
    (hQ : ∀ c a w, Q (.panic c) (a.put d v) w → Q (.panic c) a w) (hy : YieldsIf P ops S oi v a) (hS : S w)
    (h : wpAnyH P md ops Q S fuel (listed.setIfInBounds i true) (a.put d v) w) : wpAnyH P md ops Q S (fuel + 1) listed a w := by
  subst hd
  exact wpAnyH_take hi hs hf hr hQ hy hS h

/-- A Go function is called inside such a region (its guard, if any, holds). -/
theorem step_fn {P : Program} {ops : Array Oper} {o : Oper} {a : Act} {w : World} {K : Act → World → Prop} {Q : Exit → Act → World → Prop} {E : Prop} (d : Option Tmp) (hd : o.dst = d) (hw : Region.wanted o (yielded ops a.tmps) = true) (f : FuncId) (he : Enters P f) (xs : Array Operand) (ts : Array TypeId)
    (ho : o.op = .call { callee := .value (.func f), args := xs, argTypes := ts }) (vs : Array Value) (hv0 : xs.toList.map a.eval = vs.toList) (R : Value → World → Prop)
    (hc : Calls P f vs w fun e w' => ∃ r, e = .returned r ∧ R r w') (h : ∀ r w', R r w' → K (a.put d r) w') : if Region.wanted o (yielded ops a.tmps) = true then Oper.wp P o a w K Q else E := by
  subst hd
  have hv : xs.map a.eval = vs := by apply Array.toList_inj.1; rw [Array.toList_map]; exact hv0
  rw [if_pos hw]
  have hx : a.eval (.func f) = .func (.func f) #[] #[] := rfl
  have hrun : (execOp a.eval o).run P w = .ok (.enter f vs) w := by
    unfold execOp
    simp [ho, resolve, invoke, hx, hv, Deferred.ofValue, Result.andThen, he _ w]
  unfold Oper.wp
  rw [hrun, Oper.upon_enter]
  refine hc.mono ?_
  rintro e w' ⟨r, rfl, hr⟩
  exact h r w' hr

namespace Rg
section
variable {P : Program}
theorem step_load {ops : Array Oper} {o : Oper} {a : Act} {w : World} {K : Act → World → Prop} {Q : Exit → Act → World → Prop} {E : Prop} (d : Option Tmp) (hd : o.dst = d) (hw : Region.wanted o (yielded ops a.tmps) = true) (ty : TypeId) (x : Operand) (ho : o.op = .load ty x)
    (p : Addr) (hx : a.eval x = .pointer (some p)) (v : Value) (hr : (loadVar ty p).run P w = .ok v w) (h : K (a.put d v) w) :
    if Region.wanted o (yielded ops a.tmps) = true then Oper.wp P o a w K Q else E := by
  subst hd
  rw [if_pos hw]
  unfold Oper.wp execOp
  simp only [ho, hx, Instr.loadAt, Instr.sureAddr, Sem.run_bind, Sem.run_pure, Result.andThen_ok, hr]
  exact h
theorem step_store {ops : Array Oper} {o : Oper} {a : Act} {w w' : World} {K : Act → World → Prop} {Q : Exit → Act → World → Prop} {E : Prop} (hd : o.dst = none) (hw : Region.wanted o (yielded ops a.tmps) = true) (ty : TypeId) (x y : Operand) (ho : o.op = .store ty x y)
    (p : Addr) (hx : a.eval x = .pointer (some p)) (v : Value) (hy : a.eval y = v) (hr : (storeVar ty p v).run P w = .ok () w') (h : K (a.put none undef) w') :
    if Region.wanted o (yielded ops a.tmps) = true then Oper.wp P o a w K Q else E := by
  rw [if_pos hw]
  unfold Oper.wp execOp
  simp only [ho, hx, hy, Instr.storeAt, Instr.sureAddr, Sem.run_bind, Sem.run_pure, Result.andThen_ok, hr]
  rw [← hd] at h
  exact h
end
end Rg

end Go.Proofs.Ytnoimnijoklkdaa

/- node.read: words; must. -/
set_option linter.unusedVariables false
set_option linter.unusedSimpArgs false
namespace Go.Proofs.Ytnoimnijoklkdaa.Px
open Go.RowKit Go.Shelf Go.Proofs.YtnoimnijoklkdaaW.PrintWords Go.Proofs.YtnoimnijoklkdaaW.PrintLast

/-- So many things, or those ahead of the first error. -/
def many {α : Type} (R : List UInt8 → Int → α × List UInt8 × Int) : Nat → List UInt8 → Int → List α × List UInt8 × Int
  | 0, l, e => ([], l, e)
  | n + 1, l, e => if (R l e).2.2 ≠ 0 then ([], (R l e).2) else ((R l e).1 :: (many R n (R l e).2.1 (R l e).2.2).1, (many R n (R l e).2.1 (R l e).2.2).2)
def strR (l : List UInt8) (e : Int) : ByteArray × List UInt8 × Int := (⟨(rText l e).1.toArray⟩, (rText l e).2)
def kidR (l : List UInt8) (e : Int) : Int × List UInt8 × Int := (((rU16 l e).1 : Nat), (rU16 l e).2)
def entR (l : List UInt8) (e : Int) : S75 × List UInt8 × Int :=
  let a := rText l e
  let b := rText a.2.1 a.2.2
  (⟨⟨a.1.toArray⟩, ⟨b.1.toArray⟩⟩, b.2)
theorem rU8_le (l : List UInt8) (e : Int) : (rU8 l e).2.1.length ≤ l.length := fx_len _ _ _
theorem rU16_le (l : List UInt8) (e : Int) : (rU16 l e).2.1.length ≤ l.length := fx_len _ _ _
theorem rText_rest (l : List UInt8) (e : Int) : (rText l e).2.1.length ≤ l.length := Nat.le_trans (fx_len _ _ _) (rU16_le l e)
theorem entR_le (l : List UInt8) (e : Int) : (entR l e).2.1.length ≤ l.length := Nat.le_trans (rText_rest _ _) (rText_rest _ _)
theorem many_len {α : Type} {R : List UInt8 → Int → α × List UInt8 × Int} (hR : ∀ l e, (R l e).2.1.length ≤ l.length) : ∀ (n : Nat) (l : List UInt8) (e : Int), (many R n l e).1.length ≤ n ∧ (many R n l e).2.1.length ≤ l.length
  | 0, _, _ => ⟨Nat.le_refl _, Nat.le_refl _⟩
  | n + 1, l, e => by
    unfold many
    have := many_len hR n (R l e).2.1 (R l e).2.2
    have := hR l e
    split
    · exact ⟨Nat.zero_le _, this⟩
    · exact ⟨by simp; omega, by dsimp only; omega⟩
theorem many_err {α : Type} {R : List UInt8 → Int → α × List UInt8 × Int} (hR : ∀ l e, e ≠ 0 → (R l e).2 = (l, e)) (n : Nat) (l : List UInt8) (e : Int) (he : e ≠ 0) : (many R n l e).2 = (l, e) := by
  cases n with
  | zero => rfl
  | succ n =>
    unfold many
    rw [if_pos (by rw [hR l e he]; exact he), hR l e he]
theorem strR_err (l : List UInt8) (e : Int) (he : e ≠ 0) : (strR l e).2 = (l, e) := by unfold strR; rw [rText_err l e he]
structure Rn where
  leaf : Bool
  es : List S75
  ps : List ByteArray
  ks : List Int
  ts : List ByteArray
def zRn : Rn := ⟨false, [], [], [], []⟩
/-- What read reads: a node without its buffer, its messages' texts; what is left; why not (10: torn, 4: no such kind). -/
def leafN (l : List UInt8) (e : Int) : Rn × List UInt8 × Int :=
  let c := rU16 l e
  let es := many entR c.1 c.2.1 c.2.2
  if es.2.2 ≠ 0 then (zRn, [], 10) else (⟨true, es.1, [], [], []⟩, es.2.1, 0)
def innerN (l : List UInt8) (e : Int) : Rn × List UInt8 × Int :=
  let m := rU8 l e
  let ks := many kidR m.1 m.2.1 m.2.2
  let ps := many strR (m.1 - 1) ks.2.1 ks.2.2
  let c := rU16 ps.2.1 ps.2.2
  let ts := many strR c.1 c.2.1 c.2.2
  if ts.2.2 ≠ 0 then (zRn, [], 10) else (⟨false, [], ps.1, ks.1, ts.1⟩, ts.2.1, 0)
def rdN (l : List UInt8) : Rn × List UInt8 × Int :=
  let a := rU8 l 0
  if a.2.2 ≠ 0 then (zRn, [], 10) else if a.1 = 1 then leafN a.2.1 a.2.2 else if a.1 = 2 then innerN a.2.1 a.2.2 else (zRn, [], 4)

def tornV (c : Int) : Value := .iface 62 (.agg #[.int .i64 c])
theorem must_ok (br : Nat) (l : List UInt8) (w : World) (h : Rd w br l 0) : Calls Try.prog 57 #[.pointer (some ⟨br, 0, none⟩)] w fun e w' => e = .returned (.tuple #[]) ∧ w' = w := by
  have HE := Lib.hid (Reader_Err br l 0 w h)
  go_enter Try.func57, Try.ntmps57
  go_wp2_with (fail)
  refine HE.out.mono ?_
  rintro e w1 ⟨rfl, rfl⟩
  go_wp2
  go_end0
  exact ⟨rfl, rfl⟩
theorem must_bad (br : Nat) (l : List UInt8) (er : Int) (w : World) (h : Rd w br l er) (he : er ≠ 0) : Calls Try.prog 57 #[.pointer (some ⟨br, 0, none⟩)] w fun e w' => e = .panicked [{ v := tornV 10, recovered := false }] ∧ w' = w := by
  have HE := Lib.hid (Reader_Err br l er w h)
  have hb : (er != 0) = true := by simpa using he
  have hu := Try.underlying62
  clear he
  go_enter Try.func57, Try.ntmps57
  go_wp2_with (fail)
  refine HE.out.mono ?_
  rintro e w1 ⟨rfl, rfl⟩
  go_wp2
  exact ⟨rfl, rfl, rfl⟩
end Go.Proofs.Ytnoimnijoklkdaa.Px
