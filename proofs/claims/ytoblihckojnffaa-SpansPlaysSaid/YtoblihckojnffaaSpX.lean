/- one: an act of both sets. -/
import Derived.Test.YtoblihckojnffaaSpW
set_option linter.unusedVariables false
set_option linter.unusedSimpArgs false
namespace Go.Proofs.Ytoblihckojnffaa
open Go.RowKit Go.Shelf
set_option maxRecDepth 100000

/-- both sets, alike -/
structure Both (w0 w : World) (b r g cap : Nat) (n : Int) (l : List Ex) : Prop where
  set : New0 w0 w b n l
  ok : SpOk n l
  ref : RHas w0 w r g cap n l
theorem Both.later {w0 w w' : World} {b r g cap : Nat} {n : Int} {l : List Ex} (h : Both w0 w b r g cap n l) (hu : Upd (fun _ => False) w w') : Both w0 w' b r g cap n l := ⟨h.set.later hu, h.ok, h.ref.upd (F := fun _ => False) hu⟩
def OneP (w0 : World) (n : Int) (e : Ending) (w' : World) : Prop :=
  ∃ b r g cap l, e = .returned (.tuple #[.pointer (some ⟨b, 0, none⟩), .pointer (some ⟨r, 0, none⟩), .bool true]) ∧ Both w0 w' b r g cap n l
theorem one_ok {w0 w : World} {b r g cap : Nat} {n : Int} {l : List Ex} (h : Both w0 w b r g cap n l) (what : Nat) (hw : what < 256) (a bb ask : Int) :
    Calls Try.prog 9 #[.pointer (some ⟨b, 0, none⟩), .pointer (some ⟨r, 0, none⟩), .agg #[.int .u8 (what : Int), .int .i64 a, .int .i64 bb, .int .i64 ask]] w (OneP w0 n) := by
  obtain ⟨v, hv⟩ : ∃ v, v = what % 5 := ⟨_, rfl⟩
  have e5 : Int.tmod (what : Int) 5 = (v : Int) := by rw [hv]; exact (Int.ofNat_tmod what 5).symm
  have hv5 : v < 5 := by omega
  have hu : Upd (fun _ => False) w (w.alloc (.cells #[.int .u8 (what : Int), .int .i64 a, .int .i64 bb, .int .i64 ask] 31)) := (Upd.refl _ _).alloc _
  have HFa := Lib.hid (h.later hu)
  have HBx := Lib.hid (heap_alloc_new w (.cells #[.int .u8 (what : Int), .int .i64 a, .int .i64 bb, .int .i64 ask] 31))
  clear hu h hv
  obtain rfl | rfl | rfl | rfl | rfl : v = 0 ∨ v = 1 ∨ v = 2 ∨ v = 3 ∨ v = 4 := by omega
  · go_enter Try.func9, Try.ntmps9
    go_wp2_with (fail)
    refine (k_give HFa.out.set HFa.out.ok a).mono ?_
    rintro e w2 ⟨rfl, hp, hk⟩
    have hbx := hk _ _ _ _ (by decide) (by decide) HBx.out
    have hr := HFa.out.ref.keeps hk
    have c1 := cell_heap hbx 1 _ rfl
    have HP := Lib.hid hp
    have HOK := Lib.hid (giveA_spec HFa.out.ok a).1
    have HR := Lib.hid hr
    have HG := Lib.hid (play_give hr HFa.out.ok a)
    generalize (giveA n l a).1 = l2 at HP HOK HG
    generalize (giveA n l a).2 = c at HG ⊢
    have hcc : (c == c) = true := by simp
    clear hbx hk hp hr
    go_wp2_with (fail)
    refine HG.out.mono ?_
    rintro e w3 ⟨rfl, k1, k2⟩
    have HF := Lib.hid (show Both w0 w3 b r g cap n l2 from ⟨HP.out.by_ref HR.out k2, HOK.out, k1⟩)
    clear k1 k2
    go_wp2
    go_ret3
    exact ⟨_, _, _, _, _, rfl, HF.out⟩
  · go_enter Try.func9, Try.ntmps9
    go_wp2_with (fail)
    refine (k_give HFa.out.set HFa.out.ok a).mono ?_
    rintro e w2 ⟨rfl, hp, hk⟩
    have hbx := hk _ _ _ _ (by decide) (by decide) HBx.out
    have hr := HFa.out.ref.keeps hk
    have c1 := cell_heap hbx 1 _ rfl
    have HP := Lib.hid hp
    have HOK := Lib.hid (giveA_spec HFa.out.ok a).1
    have HR := Lib.hid hr
    have HG := Lib.hid (play_give hr HFa.out.ok a)
    generalize (giveA n l a).1 = l2 at HP HOK HG
    generalize (giveA n l a).2 = c at HG ⊢
    have hcc : (c == c) = true := by simp
    clear hbx hk hp hr
    go_wp2_with (fail)
    refine HG.out.mono ?_
    rintro e w3 ⟨rfl, k1, k2⟩
    have HF := Lib.hid (show Both w0 w3 b r g cap n l2 from ⟨HP.out.by_ref HR.out k2, HOK.out, k1⟩)
    clear k1 k2
    go_wp2
    go_ret3
    exact ⟨_, _, _, _, _, rfl, HF.out⟩
  · go_enter Try.func9, Try.ntmps9
    go_wp2_with (fail)
    refine (k_fill HFa.out.set HFa.out.ok a bb).mono ?_
    rintro e w2 ⟨rfl, hp, hk⟩
    have hbx := hk _ _ _ _ (by decide) (by decide) HBx.out
    have hr := HFa.out.ref.keeps hk
    have c1 := cell_heap hbx 1 _ rfl
    have c2 := cell_heap hbx 2 _ rfl
    have HP := Lib.hid hp
    have HOK := Lib.hid (fillA_spec HFa.out.ok a bb).1
    have HR := Lib.hid hr
    have HG := Lib.hid (play_fill hr HFa.out.ok a bb)
    generalize (fillA n l a bb).1 = l2 at HP HOK HG
    generalize (fillA n l a bb).2 = c at HG ⊢
    have hcc : (c == c) = true := by simp
    clear hbx hk hp hr
    go_wp2_with (fail)
    refine HG.out.mono ?_
    rintro e w3 ⟨rfl, k1, k2⟩
    have HF := Lib.hid (show Both w0 w3 b r g cap n l2 from ⟨HP.out.by_ref HR.out k2, HOK.out, k1⟩)
    clear k1 k2
    go_wp2
    go_ret3
    exact ⟨_, _, _, _, _, rfl, HF.out⟩
  · go_enter Try.func9, Try.ntmps9
    go_wp2_with (fail)
    refine (k_take HFa.out.set HFa.out.ok a).mono ?_
    rintro e w2 ⟨vt, rt, rfl, hi, hrt, hp, hk⟩
    obtain ⟨adt, cpt, rfl, _⟩ := id hi
    have hbx := hk _ _ _ _ (by decide) (by decide) HBx.out
    have hr := HFa.out.ref.keeps hk
    have hgt := HFa.out.ref.gt
    have c1 := cell_heap hbx 1 _ rfl
    have HP := Lib.hid hp
    have HI := Lib.hid hi
    have HRT := Lib.hid (show ∀ x, rt = some x → x ≠ g from fun x e => by have := hrt x e; omega)
    have HOK := Lib.hid (takeA_spec HFa.out.ok a).1
    have HR := Lib.hid hr
    have HG := Lib.hid (play_take hr HFa.out.ok a)
    have HTL := Lib.hid (show (takeA l a).1.length ≤ 100000 by
      by_cases hc : (takeA l a).2.1 = 0
      · have := (takeA_len HFa.out.ok a hc); have h2 := HFa.out.ok.cnt; have h3 := HFa.out.ok.1; omega
      · rw [((takeA_spec HFa.out.ok a).2.1 hc).2]; simp)
    generalize (takeA l a).2.2 = l2 at HP HOK HG
    generalize (takeA l a).2.1 = c at HG ⊢
    generalize (takeA l a).1 = t at HI HG HTL ⊢
    have hcc : (c == c) = true := by simp
    clear hbx hk hp hr hi hrt hgt
    go_wp2_with (fail)
    refine HG.out.mono ?_
    rintro e w3 ⟨vu, ru, rfl, k0, k1, k2⟩
    obtain ⟨adu, cpu, rfl, _⟩ := id k0
    have HF := Lib.hid (show Both w0 w3 b r g cap n l2 from ⟨HP.out.by_ref HR.out k2, HOK.out, k1⟩)
    have HS := Lib.hid (ref_Same (HI.out.upd k2 (fun x e f => HRT.out x e f)) k0 HTL.out)
    rw [decide_eq_true (show t = t from rfl)] at HS
    clear k0 k1 k2
    go_wp2_with (fail)
    refine HS.out.mono ?_
    rintro e w4 ⟨rfl, u4⟩
    have HF4 := Lib.hid (HF.out.later u4)
    clear u4
    go_wp2
    go_ret3
    exact ⟨_, _, _, _, _, rfl, HF4.out⟩
  · go_enter Try.func9, Try.ntmps9
    go_wp2_with (fail)
    refine (k_copy HFa.out.set HFa.out.ok).mono ?_
    rintro e w2 ⟨b2, rfl, hp, hk⟩
    have HP := Lib.hid hp
    have HG := Lib.hid (play_copy (HFa.out.ref.upd (F := fun _ => False) hk) hp.upd.size)
    have HOK := Lib.hid HFa.out.ok
    clear hk hp
    go_wp2_with (fail)
    refine HG.out.mono ?_
    rintro e w3 ⟨r2, g2, cap2, rfl, k1, k2⟩
    have HF := Lib.hid (show Both w0 w3 b2 r2 g2 cap2 n l from ⟨HP.out.later k2, HOK.out, k1⟩)
    clear k1 k2
    go_wp2
    go_ret3
    exact ⟨_, _, _, _, _, rfl, HF.out⟩

end Go.Proofs.Ytoblihckojnffaa
