/- The statements' own helpers: sealed, fails, stamped, none, padded, works. -/
import Derived.Test.YtfkmoooeaijndaaDoorSeal9
set_option linter.unusedVariables false
set_option linter.unusedSimpArgs false
namespace Go.Proofs.YtfkmoooeaijndaaDoor
open Go.RowKit

/-- true, and the old memory is as it was. -/
def TrueR (w : World) (e : Ending) (w' : World) : Prop := e = .returned (.bool true) ∧ Upd (fun _ => False) w w'

theorem law_sealed (s : List UInt8) (w : World) (hs : s.length ≤ 1000000) (hT : Fours w) (hg : 0 < w.heap.size) :
    Calls Tryd.prog 21 #[.string ⟨s.toArray⟩] w (StrR (Sl.close s).1 w) := by
  have h := sl_Seal s w hs hT hg
  generalize Sl.close s = q at h
  obtain ⟨t, e⟩ := q
  have H := Lib.hid h
  clear h hT
  go_enter Tryd.func21, Tryd.ntmps21
  go_wp2_with (fail)
  refine H.out.mono ?_
  rintro e w1 ⟨rfl, u1⟩
  go_wp2
  go_ret
  exact ⟨rfl, u1⟩
theorem law_fails (s : List UInt8) (want : Int) (w : World) (hs : s.length ≤ 1000000) (hT : Fours w) (hg : 0 < w.heap.size) (hw : Sl.openS s = ([], [], want)) :
    Calls Tryd.prog 22 #[.string ⟨s.toArray⟩, .int .i64 want] w (TrueR w) := by
  have h := sl_Open s w hs hT hg
  rw [hw] at h
  have H := Lib.hid h
  clear h hT hw
  go_enter Tryd.func22, Tryd.ntmps22
  go_wp2_with (fail)
  refine H.out.mono ?_
  rintro e w1 ⟨rfl, u1⟩
  go_wp2
  go_ret
  exact ⟨rfl, u1⟩
theorem law_stamped (g i : Nat) (s : List UInt8) (n : Int) (w : World) (hg : g < 18446744073709551616) (hi : i < 4294967296) (hs : s.length ≤ 1000000) :
    Calls Tryd.prog 23 #[.agg #[.int .u64 g, .int .u32 i], .string ⟨s.toArray⟩, .int .i64 n] w (StrR (Sl.stamp g i s n).1 w) := by
  have h := fun w => sl_Stamp g i g i s n w rfl rfl hg hi hs
  generalize Sl.stamp g i s n = q at h
  obtain ⟨t, e⟩ := q
  have H := Lib.hid h
  clear h
  go_enter Tryd.func23, Tryd.ntmps23
  go_wp2_with (fail)
  refine (H.out _).mono ?_
  rintro e w1 ⟨rfl, u1⟩
  go_wp2
  go_ret
  exact ⟨rfl, by repeat (first | exact Upd.refl _ _ | refine Upd.alloc ?_ _ | refine Upd.drew ?_ | refine Upd.trans ?_ (by assumption) (fun _ _ f => f))⟩
theorem law_none (s : List UInt8) (want : Int) (w : World) (hs : s.length ≤ 1000000) (hw : Sl.unstampR s = (0, 0, [], want)) :
    Calls Tryd.prog 24 #[.string ⟨s.toArray⟩, .int .i64 want] w (TrueR w) := by
  have h := sl_Unstamp s w hs
  rw [unstamp_eq, hw] at h
  have H := Lib.hid h
  clear h hw
  go_enter Tryd.func24, Tryd.ntmps24
  go_wp2_with (fail)
  refine H.out.mono ?_
  rintro e w1 ⟨rfl, u1⟩
  go_wp2
  go_ret
  exact ⟨rfl, u1⟩
theorem law_padded (s : List UInt8) (n : Int) (t : List UInt8) (w : World) (hs : s.length ≤ 1000000) (hw : Sl.pad s n = (t, 0)) :
    Calls Tryd.prog 25 #[.string ⟨s.toArray⟩, .int .i64 n] w (StrR t w) := by
  have h := sl_Pad s n w hs
  rw [hw] at h
  have H := Lib.hid h
  clear h hw
  go_enter Tryd.func25, Tryd.ntmps25
  go_wp2_with (fail)
  refine H.out.mono ?_
  rintro e w1 ⟨rfl, u1⟩
  go_wp2
  go_ret
  exact ⟨rfl, u1⟩
theorem law_padded_no (s : List UInt8) (n : Int) (w : World) (hs : s.length ≤ 1000000) (hw : Sl.pad s n = ([], 2)) :
    Calls Tryd.prog 25 #[.string ⟨s.toArray⟩, .int .i64 n] w (StrR [110, 111, 110, 101] w) := by
  have h := sl_Pad s n w hs
  rw [hw] at h
  have H := Lib.hid h
  clear h hw
  go_enter Tryd.func25, Tryd.ntmps25
  go_wp2_with (fail)
  refine H.out.mono ?_
  rintro e w1 ⟨rfl, u1⟩
  go_wp2
  go_ret
  exact ⟨rfl, u1⟩

set_option maxRecDepth 100000 in
theorem law_works (w : World) (hT : Fours w) (hg : 0 < w.heap.size) : Calls Tryd.prog 10 #[] w (TrueR w) := by
  have h1 := fun w hT hg => law_sealed [97] w (by decide) hT hg
  have h2 := fun w hT hg => sl_Open ((Sl.close [97]).1 ++ [120, 121]) w (by decide +kernel) hT hg
  rw [show Sl.openS ((Sl.close [97]).1 ++ [120, 121]) = ([97], [120, 121], 0) by decide +kernel] at h2
  have h3 := fun w hT hg => law_fails [] 10 w (by decide) hT hg rfl
  have h4 := fun w => law_padded [97, 98, 99] 4 [97, 98, 99, 0] w (by decide) (by decide +kernel)
  have h5 := fun w => rep0 25 w (by decide)
  have h6 := fun w => law_none (List.replicate 25 0) 10 w (by simp) (by unfold Sl.unstampR; rw [if_pos (by simp)])
  have h7 := fun w => law_stamped 1 2 [97] 28 w (by decide) (by decide) (by decide)
  obtain ⟨S, hS⟩ : ∃ S, S = (Sl.close [97]).1 := ⟨_, rfl⟩
  have hSl : S.length = 7 := by rw [hS]; decide +kernel
  obtain ⟨Z, hZ⟩ : ∃ Z, Z = List.replicate 25 (0 : UInt8) := ⟨_, rfl⟩
  obtain ⟨P, hP⟩ : ∃ P, P = (Sl.stamp 1 2 [97] 28).1 := ⟨_, rfl⟩
  have hPl : P.length = 28 := by rw [hP]; decide +kernel
  rw [← hS] at h1 h2
  rw [← hZ] at h5 h6
  rw [← hP] at h7
  have hcat := append_list S [120, 121]
  have H1 := Lib.hid h1
  have H2 := Lib.hid h2
  have H3 := Lib.hid h3
  have H4 := Lib.hid h4
  have H5 := Lib.hid h5
  have H6 := Lib.hid h6
  have H7 := Lib.hid h7
  have HT := Lib.hid hT
  clear h1 h2 h3 h4 h5 h6 h7 hT hS hZ hP
  go_enter Tryd.func10, Tryd.ntmps10
  go_wp2_with (fail)
  refine (H1.out _ HT.out hg).mono ?_
  rintro e w1 ⟨rfl, u1⟩
  have hT1 := Lib.hid (HT.out.upd u1 (fun f => f))
  have g1 := u1.size
  go_wp2_with (fail)
  refine (H2.out _ hT1.out (by omega)).mono ?_
  rintro e w2 ⟨rfl, u2⟩
  have hT2 := Lib.hid (hT1.out.upd u2 (fun f => f))
  have g2 := u2.size
  go_wp2_with (fail)
  refine (H3.out _ hT2.out (by omega)).mono ?_
  rintro e w3 ⟨rfl, u3⟩
  go_wp2_with (fail)
  refine (H4.out _).mono ?_
  rintro e w4 ⟨rfl, u4⟩
  go_wp2_with (fail)
  refine (H5.out _).mono ?_
  rintro e w5 ⟨rfl, u5⟩
  go_wp2_with (fail)
  refine (H6.out _).mono ?_
  rintro e w6 ⟨rfl, u6⟩
  go_wp2_with (fail)
  refine (H7.out _).mono ?_
  rintro e w7 ⟨rfl, u7⟩
  go_wp2
  go_ret
  exact ⟨rfl, by repeat (first | exact Upd.refl _ _ | refine Upd.alloc ?_ _ | refine Upd.drew ?_ | refine Upd.trans ?_ (by assumption) (fun _ _ f => f))⟩

end Go.Proofs.YtfkmoooeaijndaaDoor
