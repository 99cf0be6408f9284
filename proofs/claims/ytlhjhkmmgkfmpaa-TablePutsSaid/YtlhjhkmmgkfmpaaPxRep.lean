/- strings.Repeat for the printer. -/
import Derived.Test.YtlhjhkmmgkfmpaaShelf
set_option linter.unusedVariables false
namespace Go.Proofs.Ytlhjhkmmgkfmpaa.Px
open Go.RowKit
def strings_Repeat.f (a0 : ByteArray) (a1 : Int) : Option ByteArray := if 0 ≤ a1 ∧ a1 ≤ 1000000000 ∧ a0.size * a1.toNat ≤ 140737488355328 then some ⟨(Lib.repeatL a0.data.toList a1.toNat).toArray⟩ else none
theorem strings_Repeat.calls (a0 : ByteArray) (a1 : Int) (r : ByteArray) (w : World) (h : strings_Repeat.f a0 a1 = some r) :
    Calls Try.prog 48 #[.string a0, .int .i64 a1] w fun e w' => e = .returned (.string r) ∧ Below w.heap.size w w' := by
  unfold strings_Repeat.f at h
  split at h
  · rename_i hc
    obtain ⟨h1, h2, h3⟩ := hc
    obtain ⟨n, rfl⟩ := Int.eq_ofNat_of_zero_le h1
    obtain rfl := Option.some.inj h
    exact Try.strings_Repeat a0 n w (by omega) h3
  · cases h
end Go.Proofs.Ytlhjhkmmgkfmpaa.Px
