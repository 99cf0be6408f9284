/- TableTakes, plain: whatever bytes are taken, both Takes tell the same table and the same error (no condition but the statement's own bound). -/
import Derived.Test.YtlhjhkmmgkfmpaaPx21
import Derived.Test.YtlhjhkmmgkfmpaaPxPlain
namespace Go.Proofs.Ytlhjhkmmgkfmpaa.Pure
open Go.RowKit Go.Proofs.Ytlhjhkmmgkfmpaa.Px Go.Proofs.YtlhjhkmmgkfmpaaW.PrintWords Go.Proofs.YtlhjhkmmgkfmpaaW.PrintLast

theorem TableTakes : rillbedlaw24_TableTakes.Pure := by
  intro s _
  refine ⟨70000, ?_⟩
  unfold rillbedlaw24_TableTakes.f
  by_cases hs : (s.size : Int) > 3000
  · rw [if_pos hs]; rfl
  · rw [if_neg hs]
    have h1 : table_Take.f s = some ((tkP s.data.toList).1.1, (tkP s.data.toList).1.2.1, (tkP s.data.toList).1.2.2, (tkP s.data.toList).2) := by
      unfold table_Take.f; rw [if_pos (by omega)]
    have h2 : rillbedref24_Take.f s = some ((rtkP s.data.toList).1.1, (rtkP s.data.toList).1.2.1, (rtkP s.data.toList).1.2.2, (rtkP s.data.toList).2) := by
      unfold rillbedref24_Take.f; rw [if_pos (by omega)]
    rw [take_same] at h2
    dsimp only at h2
    have hl := tkP_len s.data.toList
    generalize tkP s.data.toList = T at *
    rw [h1, h2]
    simp only [Option.bind_some]
    rw [their_eq T.1.1 T.1.2.1 T.1.2.2 (by omega) (by omega) 70000 (by omega)]
    simp only [Option.bind_some]
    rw [same_refl T.1.1 _ _ (by rw [List.length_map]; omega) (by rw [List.length_map]; omega) 70000 (by rw [List.length_map, List.length_map]; omega)]
    simp [rillbedlaw24_works.f]

end Go.Proofs.Ytlhjhkmmgkfmpaa.Pure
