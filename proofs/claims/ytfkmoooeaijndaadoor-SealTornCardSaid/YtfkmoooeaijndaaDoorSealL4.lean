/- The walk of SealTorn, for every input. -/
import Derived.Test.YtfkmoooeaijndaaDoorSealL3
set_option linter.unusedVariables false
set_option linter.unusedSimpArgs false
namespace Go.Proofs.YtfkmoooeaijndaaDoor
open Go.RowKit

set_option maxHeartbeats 1600000 in
set_option maxRecDepth 100000 in
theorem walk_SealTorn (ga ia : Nat) (sa : List UInt8) (ma : Nat) (gb ib : Nat) (sb : List UInt8) (mb : Nat) (ci : Int) (w : World) (hga : ga < 18446744073709551616) (hia : ia < 4294967296) (hsa : sa.length ≤ 9223372036854775807) (hma : ma < 256)
    (hgb : gb < 18446744073709551616) (hib : ib < 4294967296) (hsb : sb.length ≤ 9223372036854775807) (hmb : mb < 256) (hc0 : 0 ≤ ci) (hc1 : ci ≤ 65535) (hT : Fours w) (hg : 0 < w.heap.size) :
    Calls Tryd.prog 8 #[.agg #[.int .u64 ga, .int .u32 ia, .string ⟨sa.toArray⟩, .int .u8 ma], .agg #[.int .u64 gb, .int .u32 ib, .string ⟨sb.toArray⟩, .int .u8 mb], .int .u16 ci] w (TrueR w) := by
  obtain ⟨c, rfl⟩ := Int.eq_ofNat_of_zero_le hc0
  by_cases hl : 2000 < sa.length ∨ 2000 < sb.length
  · have hu0 := ((Upd.refl (fun _ => False) w).alloc (.cells #[.int .u64 ga, .int .u32 ia, .string ⟨sa.toArray⟩, .int .u8 ma] 57)).alloc (.cells #[.int .u64 gb, .int .u32 ib, .string ⟨sb.toArray⟩, .int .u8 mb] 57)
    have hT0 := Lib.hid (hT.upd hu0 (fun f => f))
    clear hT
    have ha := heap_alloc_lt (heap_alloc_new w (.cells #[.int .u64 ga, .int .u32 ia, .string ⟨sa.toArray⟩, .int .u8 ma] 57)) (.cells #[.int .u64 gb, .int .u32 ib, .string ⟨sb.toArray⟩, .int .u8 mb] 57)
    have hb := heap_alloc_new2 w (.cells #[.int .u64 ga, .int .u32 ia, .string ⟨sa.toArray⟩, .int .u8 ma] 57) (.cells #[.int .u64 gb, .int .u32 ib, .string ⟨sb.toArray⟩, .int .u8 mb] 57)
    have a2 := cell_heap ha 2 (.string ⟨sa.toArray⟩) rfl
    have b2 := cell_heap hb 2 (.string ⟨sb.toArray⟩) rfl
    by_cases hx : 2000 < sa.length
    · clear hl
      go_enter Tryd.func8, Tryd.ntmps8
      go_wp2_with (fail)
      refine (law_works _ hT0.out (by simp)).mono ?_
      rintro e w1 ⟨rfl, u1⟩
      go_wp2
      go_ret
      exact ⟨rfl, by repeat (first | exact Upd.refl _ _ | refine Upd.alloc ?_ _ | refine Upd.drew ?_ | refine Upd.trans ?_ (by assumption) (fun _ _ f => f))⟩
    · have hy : 2000 < sb.length := by omega
      clear hl
      go_enter Tryd.func8, Tryd.ntmps8
      go_wp2_with (fail)
      refine (law_works _ hT0.out (by simp)).mono ?_
      rintro e w1 ⟨rfl, u1⟩
      go_wp2
      go_ret
      exact ⟨rfl, by repeat (first | exact Upd.refl _ _ | refine Upd.alloc ?_ _ | refine Upd.drew ?_ | refine Upd.trans ?_ (by assumption) (fun _ _ f => f))⟩
  · have l1 : sa.length ≤ 2000 := by omega
    have l2 : sb.length ≤ 2000 := by omega
    by_cases he : ga = gb ∧ ia = ib
    · obtain ⟨x, ex, lx, _⟩ := stamp_told ga ia sa (max sa.length sb.length - sa.length + ma % 64) (26 + max sa.length sb.length + ma % 64) hga hia (by omega) (by omega)
      obtain ⟨y, ey, ly, _⟩ := stamp_told gb ib sb (max sa.length sb.length - sb.length + ma % 64) (26 + max sa.length sb.length + ma % 64) hgb hib (by omega) (by omega)
      exact torn_same ga ia gb ib sa ma sb mb c _ _ w hma (by omega) l1 l2 rfl rfl x y ex ey lx ly hga hia hgb hib he.1 he.2 hT hg
    · obtain ⟨x, y, ex, ey, lx, ly, h⟩ := torn_texts ga ia gb ib sa sb (max sa.length sb.length - sa.length + ma % 64) (max sa.length sb.length - sb.length + ma % 64) (26 + max sa.length sb.length + ma % 64) hga hia hgb hib (by omega) (by omega) (by omega) he
        (c % (26 + max sa.length sb.length + ma % 64 + 1)) (by have := Nat.mod_lt c (show 0 < 26 + max sa.length sb.length + ma % 64 + 1 by omega); omega)
      by_cases h1 : x.take (c % (26 + max sa.length sb.length + ma % 64 + 1)) ++ y.drop (c % (26 + max sa.length sb.length + ma % 64 + 1)) = x
      · exact torn_x ga ia gb ib sa ma sb mb c _ _ w hma (by omega) l1 l2 rfl rfl x y ex ey lx ly hga hia hgb hib he h1 hT hg
      · by_cases h2 : x.take (c % (26 + max sa.length sb.length + ma % 64 + 1)) ++ y.drop (c % (26 + max sa.length sb.length + ma % 64 + 1)) = y
        · exact torn_y ga ia gb ib sa ma sb mb c _ _ w hma (by omega) l1 l2 rfl rfl x y ex ey lx ly hga hia hgb hib he h1 h2 hT hg
        · exact torn_no ga ia gb ib sa ma sb mb c _ _ w hma (by omega) l1 l2 rfl rfl x y ex ey lx ly hga hia hgb hib he h1 h2 (h.resolve_left h1 |>.resolve_left h2) hT hg

end Go.Proofs.YtfkmoooeaijndaaDoor
