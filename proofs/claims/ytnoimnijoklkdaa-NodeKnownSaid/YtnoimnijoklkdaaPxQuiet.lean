/- Texts that belong together: YtnoimnijoklkdaaNd1, YtnoimnijoklkdaaPxQuiet. -/
import Derived.Test.YtnoimnijoklkdaaProg
import Derived.Test.YtnoimnijoklkdaaBase
import Derived.Laws.Externs
import Derived.Test.YtnoimnijoklkdaaPx0
/- What metas are, as lists of bytes, and the walks of number.Quiet, meta.Check, meta.Take. -/
set_option linter.unusedVariables false
set_option linter.unusedSimpArgs false
namespace Go.Proofs.Ytnoimnijoklkdaa
open Go.RowKit
namespace Nd

def nanN (x : Nat) : Bool := decide (9218868437227405312 < x % 9223372036854775808)
def quietN (x : Nat) : Nat := if nanN x = true then 9221120237041090561 else x
def metaChk (k sz mk : Nat) : Int := if k ≠ 1 ∧ k ≠ 2 then 4 else if 2048 < sz then 4 else if k = 2 ∧ 0 < sz then 4 else if quietN mk ≠ mk then 4 else 0

theorem order_self (d : Ieee.Datum) : (d.order d == some .eq) = !d.isNaN := by
  cases d with
  | number s m i => simp [Ieee.Datum.order, Ieee.Datum.isNaN, compare, compareOfLessAndEq]
  | infinity s => simp [Ieee.Datum.order, Ieee.Datum.isNaN, compare, compareOfLessAndEq]
  | nan s f => rfl
theorem floatEq_self (x : Nat) : Op.floatEq .f64 x x = !nanN x := by
  unfold Op.floatEq Ieee.Format.order
  rw [order_self]
  congr 1
  unfold Ieee.Format.read nanN
  have h1 : (FloatKind.f64.format).infRung = 9218868437227405312 := by decide
  have h2 : (FloatKind.f64.format).signWeight = 9223372036854775808 := by decide
  have h3 : (FloatKind.f64.format).binade = 4503599627370496 := by decide
  simp only [h1, h2, h3]
  split
  · simp [Ieee.Datum.isNaN]; omega
  · split
    · simp [Ieee.Datum.isNaN]; omega
    · split
      · simp [Ieee.Datum.isNaN]; omega
      · simp [Ieee.Datum.isNaN]; omega

theorem frombits (x : Nat) (w : World) : (callFunc 124 #[.int .u64 (x : Int)]).run Try.prog w = .ok (.value (.float .f64 x)) w := by
  rw [run_callFunc_extern (e := Extern.MathFloatBits.float64frombits) Try.func124 (by kernel_rfl) (by kernel_rfl) (by kernel_rfl) (by kernel_rfl)]
  rfl

set_option maxRecDepth 100000 in
theorem quiet_walk (x : Nat) (w : World) :
    Calls Try.prog 122 #[.int .u64 (x : Int)] w fun e w' => e = .returned (.int .u64 (quietN x : Nat)) ∧ w' = w := by
  have hf := frombits x
  have hu := Try.underlying180
  have he : (FloatKind.f64.format.order x x != some Ordering.eq) = nanN x := by
    have := floatEq_self x
    unfold Op.floatEq at this
    show (!(FloatKind.f64.format.order x x == some Ordering.eq)) = nanN x
    rw [this, Bool.not_not]
  unfold quietN
  cases hn : nanN x <;> rw [hn] at he
  · go_enter Try.func122, Try.ntmps122
    go_wp2
    go_ret
    exact ⟨rfl, rfl⟩
  · go_enter Try.func122, Try.ntmps122
    go_wp2
    go_ret
    exact ⟨rfl, rfl⟩
end Nd
end Go.Proofs.Ytnoimnijoklkdaa

/- number.Quiet for the printer. -/
set_option linter.unusedVariables false
namespace Go.Proofs.Ytnoimnijoklkdaa.Px
open Go.RowKit
def number_Quiet.f (a0 : Int) : Option Int := if 0 ≤ a0 then some (Nd.quietN a0.toNat : Nat) else none
theorem number_Quiet.calls (a0 : Int) (r : Int) (w : World) (h : number_Quiet.f a0 = some r) :
    Calls Try.prog 122 #[.int .u64 a0] w fun e w' => e = .returned (.int .u64 r) ∧ Below w.heap.size w w' := by
  unfold number_Quiet.f at h
  split at h
  · rename_i hc
    obtain ⟨n, rfl⟩ := Int.eq_ofNat_of_zero_le hc
    obtain rfl := Option.some.inj h
    exact (Nd.quiet_walk n w).mono fun e w' ⟨he, hw⟩ => ⟨by rw [he, Int.toNat_natCast], by rw [hw]; exact Below.refl _ _⟩
  · cases h
end Go.Proofs.Ytnoimnijoklkdaa.Px
