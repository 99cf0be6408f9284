/- NodeKnown: its walk (printed by gen_nxkn2.py). -/
import Derived.Test.YtnoimnijoklkdaaNxKn0
import Derived.Test.YtnoimnijoklkdaaNxFew
import Derived.Test.YtnoimnijoklkdaaPx29
set_option linter.unusedVariables false
set_option linter.unusedSimpArgs false
namespace Go.Proofs.Ytnoimnijoklkdaa.Px
open Go.RowKit Go.Proofs.YtnoimnijoklkdaaW.PrintWords Go.Proofs.YtnoimnijoklkdaaW.PrintLast

theorem rdC {w : World} {base : Nat} {A : Option Addr} {c : Nat} {xs : List S59} (h : Kd.R k59 59 w base (fun _ => True) (.slice A xs.length c) xs) : Kd.C k59 w A xs.length xs ∧ xs.length ≤ c := by
  obtain ⟨A', c', hA, hc, hC⟩ := Kd.R_reads h
  cases hA
  exact ⟨hC, hc⟩
theorem c12 {w : World} {base : Nat} {A : Option Addr} {c : Nat} {xs : List S59} (hx : xs = ms13) (h : Kd.R k59 59 w base (fun _ => True) (.slice A xs.length c) xs) : Kd.C k59 w A ms12.length ms12 := by
  subst hx
  exact Kd.C_take (m := 12) (rdC h).1 (by decide)
theorem xsz {xs : List S59} {m : S59} {i : Nat} (h : xs = List.replicate i m) (hi : i < 13) : (xs.length + 1) * 56 ≤ 140737488355328 := by rw [h, List.length_replicate]; omega
theorem setCell_size (w : World) (p : Addr) (v : Value) : (w.setCell p v).heap.size = w.heap.size := by simp [World.setCell]
set_option maxHeartbeats 32000000 in
set_option maxRecDepth 100000 in
theorem known_walk (w : World) : Calls Try.prog 7 #[] w fun e w' => e = .returned (.bool true) ∧ Below w.heap.size w w' := by
  have hun := Try.underlying28
  have hum := Try.underlying59
  have HK := Lib.hid (kn_nil w)
  go_enter Try.func7, Try.ntmps7
  go_wp2_with (fail)
  refine (inner_walk _).mono ?_
  rintro e w1 ⟨g01, g02, g03, rfl, hk⟩
  replace HK := Lib.hid (hk _ _ HK.out)
  clear hk
  go_upto_region 2 with (fail)
  obtain ⟨nn, hnn⟩ : ∃ x, w1.heap.size = x := ⟨_, rfl⟩
  rw [hnn] at ⊢
  have q0 := kn_alloc2 HK.out hnn #[.bool false, .slice none 0 0, .slice (some ⟨g02, 0, none⟩) 1 1, .slice (some ⟨g01, 0, none⟩) 2 2, .slice (some ⟨g03, 0, none⟩) 1 1] 28
  replace HK := Lib.hid q0.1
  clear q0 hnn
  generalize (w1.alloc (.cells #[.bool false, .slice none 0 0, .slice (some ⟨g02, 0, none⟩) 1 1, .slice (some ⟨g01, 0, none⟩) 2 2, .slice (some ⟨g03, 0, none⟩) 1 1] 28)) = w2 at *
  go_wp2_with (fail)
  refine (rillbedlaw18_works.calls 40 true _ (works_true 40 (by decide))).mono ?_
  rintro e w3 ⟨rfl, hb⟩
  replace HK := Lib.hid (kn_below HK.out hb)
  clear hb
  go_wp2_with (fail)
  refine (rillbedlaw18_puts.calls 40 true none 0 ([] : List S75) none 0 ([] : List ByteArray) none 0 ([] : List Int) none 0 ([] : List S59) ⟨#[1, 0, 0]⟩ true _ (Kd.C_nil _ _) (Nat.le_refl _) (Kd.C_nil _ _) (Nat.le_refl _) (Kd.C_nil _ _) (Nat.le_refl _) (Kd.C_nil _ _) (Nat.le_refl _) (by decide +kernel)).mono ?_
  rintro e w4 ⟨rfl, hb⟩
  replace HK := Lib.hid (kn_below HK.out hb)
  clear hb
  obtain ⟨d0, d1, d2, d3, d4⟩ := cells5 (kn_get HK.out 0 rfl)
  go_wp2_with (fail)
  clear d0 d1 d2 d3 d4
  refine (node_Kid.calls 40 false none 0 ([] : List S75) (some ⟨g02, 0, none⟩) 1 [(⟨#[109]⟩ : ByteArray)] (some ⟨g01, 0, none⟩) 2 [(3 : Int), 4] (some ⟨g03, 0, none⟩) 1 [(⟨2, ⟨#[120]⟩, ⟨#[]⟩, ⟨#[]⟩⟩ : S59)] ⟨#[97]⟩ 0 _ (Kd.C_nil _ _) (Nat.le_refl _) (C_str [(⟨#[109]⟩ : ByteArray)] (kn_get HK.out 2 rfl) (by decide)) (Nat.le_refl _) (C_int [(3 : Int), 4] (kn_get HK.out 3 rfl) (by decide)) (Nat.le_refl _) (C_msg [(⟨2, ⟨#[120]⟩, ⟨#[]⟩, ⟨#[]⟩⟩ : S59)] (kn_get HK.out 1 rfl) (by decide)) (Nat.le_refl _) (by decide +kernel)).mono ?_
  rintro e w5 ⟨rfl, hb⟩
  replace HK := Lib.hid (kn_below HK.out hb)
  clear hb
  obtain ⟨d0, d1, d2, d3, d4⟩ := cells5 (kn_get HK.out 0 rfl)
  go_wp2_with (fail)
  clear d0 d1 d2 d3 d4
  refine (node_Kid.calls 40 false none 0 ([] : List S75) (some ⟨g02, 0, none⟩) 1 [(⟨#[109]⟩ : ByteArray)] (some ⟨g01, 0, none⟩) 2 [(3 : Int), 4] (some ⟨g03, 0, none⟩) 1 [(⟨2, ⟨#[120]⟩, ⟨#[]⟩, ⟨#[]⟩⟩ : S59)] ⟨#[109]⟩ 1 _ (Kd.C_nil _ _) (Nat.le_refl _) (C_str [(⟨#[109]⟩ : ByteArray)] (kn_get HK.out 2 rfl) (by decide)) (Nat.le_refl _) (C_int [(3 : Int), 4] (kn_get HK.out 3 rfl) (by decide)) (Nat.le_refl _) (C_msg [(⟨2, ⟨#[120]⟩, ⟨#[]⟩, ⟨#[]⟩⟩ : S59)] (kn_get HK.out 1 rfl) (by decide)) (Nat.le_refl _) (by decide +kernel)).mono ?_
  rintro e w6 ⟨rfl, hb⟩
  replace HK := Lib.hid (kn_below HK.out hb)
  clear hb
  obtain ⟨d0, d1, d2, d3, d4⟩ := cells5 (kn_get HK.out 0 rfl)
  go_wp2_with (fail)
  clear d0 d1 d2 d3 d4
  refine (node_Kid.calls 40 false none 0 ([] : List S75) (some ⟨g02, 0, none⟩) 1 [(⟨#[109]⟩ : ByteArray)] (some ⟨g01, 0, none⟩) 2 [(3 : Int), 4] (some ⟨g03, 0, none⟩) 1 [(⟨2, ⟨#[120]⟩, ⟨#[]⟩, ⟨#[]⟩⟩ : S59)] ⟨#[122]⟩ 1 _ (Kd.C_nil _ _) (Nat.le_refl _) (C_str [(⟨#[109]⟩ : ByteArray)] (kn_get HK.out 2 rfl) (by decide)) (Nat.le_refl _) (C_int [(3 : Int), 4] (kn_get HK.out 3 rfl) (by decide)) (Nat.le_refl _) (C_msg [(⟨2, ⟨#[120]⟩, ⟨#[]⟩, ⟨#[]⟩⟩ : S59)] (kn_get HK.out 1 rfl) (by decide)) (Nat.le_refl _) (by decide +kernel)).mono ?_
  rintro e w7 ⟨rfl, hb⟩
  replace HK := Lib.hid (kn_below HK.out hb)
  clear hb
  go_wp2_with (fail)
  refine (leaf_walk _).mono ?_
  rintro e w8 ⟨g11, rfl, hk⟩
  replace HK := Lib.hid (hk _ _ HK.out)
  clear hk
  go_wp2_with (fail)
  refine (node_Kid.calls 40 true (some ⟨g11, 0, none⟩) 1 [(⟨⟨#[97]⟩, ⟨#[49]⟩⟩ : S75)] none 0 ([] : List ByteArray) none 0 ([] : List Int) none 0 ([] : List S59) ⟨#[97]⟩ (-1) _ (C_ent [(⟨⟨#[97]⟩, ⟨#[49]⟩⟩ : S75)] (kn_get HK.out 0 rfl) (by decide)) (Nat.le_refl _) (Kd.C_nil _ _) (Nat.le_refl _) (Kd.C_nil _ _) (Nat.le_refl _) (Kd.C_nil _ _) (Nat.le_refl _) (by decide +kernel)).mono ?_
  rintro e w9 ⟨rfl, hb⟩
  replace HK := Lib.hid (kn_below HK.out hb)
  clear hb
  obtain ⟨d0, d1, d2, d3, d4⟩ := cells5 (kn_get HK.out 1 rfl)
  go_wp2_with (fail)
  clear d0 d1 d2 d3 d4
  refine (rillbedlaw18_span.calls 40 false none 0 ([] : List S75) (some ⟨g02, 0, none⟩) 1 [(⟨#[109]⟩ : ByteArray)] (some ⟨g01, 0, none⟩) 2 [(3 : Int), 4] (some ⟨g03, 0, none⟩) 1 [(⟨2, ⟨#[120]⟩, ⟨#[]⟩, ⟨#[]⟩⟩ : S59)] 1 ⟨#[109]⟩ ⟨#[]⟩ true _ (Kd.C_nil _ _) (Nat.le_refl _) (C_str [(⟨#[109]⟩ : ByteArray)] (kn_get HK.out 3 rfl) (by decide)) (Nat.le_refl _) (C_int [(3 : Int), 4] (kn_get HK.out 4 rfl) (by decide)) (Nat.le_refl _) (C_msg [(⟨2, ⟨#[120]⟩, ⟨#[]⟩, ⟨#[]⟩⟩ : S59)] (kn_get HK.out 2 rfl) (by decide)) (Nat.le_refl _) (by decide +kernel)).mono ?_
  rintro e w10 ⟨rfl, hb⟩
  replace HK := Lib.hid (kn_below HK.out hb)
  clear hb
  obtain ⟨d0, d1, d2, d3, d4⟩ := cells5 (kn_get HK.out 1 rfl)
  go_wp2_with (fail)
  clear d0 d1 d2 d3 d4
  refine (rillbedlaw18_span.calls 40 false none 0 ([] : List S75) (some ⟨g02, 0, none⟩) 1 [(⟨#[109]⟩ : ByteArray)] (some ⟨g01, 0, none⟩) 2 [(3 : Int), 4] (some ⟨g03, 0, none⟩) 1 [(⟨2, ⟨#[120]⟩, ⟨#[]⟩, ⟨#[]⟩⟩ : S59)] 0 ⟨#[98]⟩ ⟨#[109]⟩ true _ (Kd.C_nil _ _) (Nat.le_refl _) (C_str [(⟨#[109]⟩ : ByteArray)] (kn_get HK.out 3 rfl) (by decide)) (Nat.le_refl _) (C_int [(3 : Int), 4] (kn_get HK.out 4 rfl) (by decide)) (Nat.le_refl _) (C_msg [(⟨2, ⟨#[120]⟩, ⟨#[]⟩, ⟨#[]⟩⟩ : S59)] (kn_get HK.out 2 rfl) (by decide)) (Nat.le_refl _) (by decide +kernel)).mono ?_
  rintro e w11 ⟨rfl, hb⟩
  replace HK := Lib.hid (kn_below HK.out hb)
  clear hb
  obtain ⟨d0, d1, d2, d3, d4⟩ := cells5 (kn_get HK.out 1 rfl)
  go_wp2_with (fail)
  clear d0 d1 d2 d3 d4
  refine (rillbedlaw18_span.calls 40 false none 0 ([] : List S75) (some ⟨g02, 0, none⟩) 1 [(⟨#[109]⟩ : ByteArray)] (some ⟨g01, 0, none⟩) 2 [(3 : Int), 4] (some ⟨g03, 0, none⟩) 1 [(⟨2, ⟨#[120]⟩, ⟨#[]⟩, ⟨#[]⟩⟩ : S59)] 2 ⟨#[]⟩ ⟨#[]⟩ true _ (Kd.C_nil _ _) (Nat.le_refl _) (C_str [(⟨#[109]⟩ : ByteArray)] (kn_get HK.out 3 rfl) (by decide)) (Nat.le_refl _) (C_int [(3 : Int), 4] (kn_get HK.out 4 rfl) (by decide)) (Nat.le_refl _) (C_msg [(⟨2, ⟨#[120]⟩, ⟨#[]⟩, ⟨#[]⟩⟩ : S59)] (kn_get HK.out 2 rfl) (by decide)) (Nat.le_refl _) (by decide +kernel)).mono ?_
  rintro e w12 ⟨rfl, hb⟩
  replace HK := Lib.hid (kn_below HK.out hb)
  clear hb
  obtain ⟨d0, d1, d2, d3, d4⟩ := cells5 (kn_get HK.out 1 rfl)
  go_wp2_with (fail)
  clear d0 d1 d2 d3 d4
  refine (rillbedlaw18_span.calls 40 false none 0 ([] : List S75) (some ⟨g02, 0, none⟩) 1 [(⟨#[109]⟩ : ByteArray)] (some ⟨g01, 0, none⟩) 2 [(3 : Int), 4] (some ⟨g03, 0, none⟩) 1 [(⟨2, ⟨#[120]⟩, ⟨#[]⟩, ⟨#[]⟩⟩ : S59)] (-1) ⟨#[]⟩ ⟨#[]⟩ true _ (Kd.C_nil _ _) (Nat.le_refl _) (C_str [(⟨#[109]⟩ : ByteArray)] (kn_get HK.out 3 rfl) (by decide)) (Nat.le_refl _) (C_int [(3 : Int), 4] (kn_get HK.out 4 rfl) (by decide)) (Nat.le_refl _) (C_msg [(⟨2, ⟨#[120]⟩, ⟨#[]⟩, ⟨#[]⟩⟩ : S59)] (kn_get HK.out 2 rfl) (by decide)) (Nat.le_refl _) (by decide +kernel)).mono ?_
  rintro e w13 ⟨rfl, hb⟩
  replace HK := Lib.hid (kn_below HK.out hb)
  clear hb
  go_wp2_with (fail)
  refine (leaf_walk _).mono ?_
  rintro e w14 ⟨g21, rfl, hk⟩
  replace HK := Lib.hid (hk _ _ HK.out)
  clear hk
  go_wp2_with (fail)
  refine (rillbedlaw18_span.calls 40 true (some ⟨g21, 0, none⟩) 1 [(⟨⟨#[97]⟩, ⟨#[49]⟩⟩ : S75)] none 0 ([] : List ByteArray) none 0 ([] : List Int) none 0 ([] : List S59) 0 ⟨#[]⟩ ⟨#[]⟩ true _ (C_ent [(⟨⟨#[97]⟩, ⟨#[49]⟩⟩ : S75)] (kn_get HK.out 0 rfl) (by decide)) (Nat.le_refl _) (Kd.C_nil _ _) (Nat.le_refl _) (Kd.C_nil _ _) (Nat.le_refl _) (Kd.C_nil _ _) (Nat.le_refl _) (by decide +kernel)).mono ?_
  rintro e w15 ⟨rfl, hb⟩
  replace HK := Lib.hid (kn_below HK.out hb)
  clear hb
  go_wp2_with (fail)
  refine (inner_walk _).mono ?_
  rintro e w16 ⟨g31, g32, g33, rfl, hk⟩
  replace HK := Lib.hid (hk _ _ HK.out)
  clear hk
  go_wp2_with (fail)
  refine (inner_walk _).mono ?_
  rintro e w17 ⟨g41, g42, g43, rfl, hk⟩
  replace HK := Lib.hid (hk _ _ HK.out)
  clear hk
  go_wp2_with (fail)
  refine (inner_walk _).mono ?_
  rintro e w18 ⟨g51, g52, g53, rfl, hk⟩
  replace HK := Lib.hid (hk _ _ HK.out)
  clear hk
  go_wp2_with (fail)
  refine (inner_walk _).mono ?_
  rintro e w19 ⟨g61, g62, g63, rfl, hk⟩
  replace HK := Lib.hid (hk _ _ HK.out)
  clear hk
  go_wp2_with (fail)
  refine (leaf_walk _).mono ?_
  rintro e w20 ⟨g71, rfl, hk⟩
  replace HK := Lib.hid (hk _ _ HK.out)
  clear hk
  go_wp2_with (fail)
  refine (inner_walk _).mono ?_
  rintro e w21 ⟨g81, g82, g83, rfl, hk⟩
  replace HK := Lib.hid (hk _ _ HK.out)
  clear hk
  go_upto_region 5 with (fail)
  obtain ⟨na, hna⟩ : ∃ x, w21.heap.size = x := ⟨_, rfl⟩
  rw [hna] at ⊢
  obtain ⟨nb, hnb⟩ : ∃ x, na + 1 = x := ⟨_, rfl⟩
  rw [hnb] at ⊢
  obtain ⟨nc, hnc⟩ : ∃ x, nb + 1 = x := ⟨_, rfl⟩
  rw [hnc] at ⊢
  obtain ⟨nd, hnd⟩ : ∃ x, nc + 1 = x := ⟨_, rfl⟩
  rw [hnd] at ⊢
  obtain ⟨ne, hne⟩ : ∃ x, nd + 1 = x := ⟨_, rfl⟩
  rw [hne] at ⊢
  obtain ⟨nf, hnf⟩ : ∃ x, ne + 1 = x := ⟨_, rfl⟩
  rw [hnf] at ⊢
  have q0 := kn_alloc2 HK.out hna #[.bool false, .slice none 0 0, .slice (some ⟨g32, 0, none⟩) 1 1, .slice (some ⟨g31, 0, none⟩) 2 2, .slice (some ⟨g33, 0, none⟩) 1 1] 28
  have q1 := kn_alloc2 q0.1 (q0.2.trans hnb) #[.bool false, .slice none 0 0, .slice (some ⟨g42, 0, none⟩) 1 1, .slice (some ⟨g41, 0, none⟩) 2 2, .slice (some ⟨g43, 0, none⟩) 1 1] 28
  have q2 := kn_alloc2 q1.1 (q1.2.trans hnc) #[.bool false, .slice none 0 0, .slice (some ⟨g52, 0, none⟩) 1 1, .slice (some ⟨g51, 0, none⟩) 2 2, .slice (some ⟨g53, 0, none⟩) 1 1] 28
  have q3 := kn_alloc2 q2.1 (q2.2.trans hnd) #[.bool false, .slice none 0 0, .slice (some ⟨g62, 0, none⟩) 1 1, .slice (some ⟨g61, 0, none⟩) 2 2, .slice (some ⟨g63, 0, none⟩) 1 1] 28
  have q4 := kn_alloc2 q3.1 (q3.2.trans hne) #[.bool true, .slice (some ⟨g71, 0, none⟩) 1 1, .slice none 0 0, .slice none 0 0, .slice none 0 0] 28
  have q5 := kn_alloc2 q4.1 (q4.2.trans hnf) #[.bool false, .slice none 0 0, .slice (some ⟨g82, 0, none⟩) 1 1, .slice (some ⟨g81, 0, none⟩) 2 2, .slice (some ⟨g83, 0, none⟩) 1 1] 28
  replace HK := Lib.hid q5.1
  clear q0 q1 q2 q3 q4 q5 hna hnb hnc hnd hne hnf
  generalize ((((((w21.alloc (.cells #[.bool false, .slice none 0 0, .slice (some ⟨g32, 0, none⟩) 1 1, .slice (some ⟨g31, 0, none⟩) 2 2, .slice (some ⟨g33, 0, none⟩) 1 1] 28)).alloc (.cells #[.bool false, .slice none 0 0, .slice (some ⟨g42, 0, none⟩) 1 1, .slice (some ⟨g41, 0, none⟩) 2 2, .slice (some ⟨g43, 0, none⟩) 1 1] 28)).alloc (.cells #[.bool false, .slice none 0 0, .slice (some ⟨g52, 0, none⟩) 1 1, .slice (some ⟨g51, 0, none⟩) 2 2, .slice (some ⟨g53, 0, none⟩) 1 1] 28)).alloc (.cells #[.bool false, .slice none 0 0, .slice (some ⟨g62, 0, none⟩) 1 1, .slice (some ⟨g61, 0, none⟩) 2 2, .slice (some ⟨g63, 0, none⟩) 1 1] 28)).alloc (.cells #[.bool true, .slice (some ⟨g71, 0, none⟩) 1 1, .slice none 0 0, .slice none 0 0, .slice none 0 0] 28)).alloc (.cells #[.bool false, .slice none 0 0, .slice (some ⟨g82, 0, none⟩) 1 1, .slice (some ⟨g81, 0, none⟩) 2 2, .slice (some ⟨g83, 0, none⟩) 1 1] 28)) = w22 at *
  obtain ⟨d0, d1, d2, d3, d4⟩ := cells5 (kn_get HK.out 5 rfl)
  obtain ⟨f0, f1, f2, f3, f4⟩ := free5 (kn_get HK.out 5 rfl)
  go_upto_region 6 with (fail)
  clear d0 d1 d2 d3 d4 f0 f1 f2 f3 f4
  replace HK : Hid (Kn w [(nf, .cells #[.bool false, .slice none 0 0, .slice (some ⟨g82, 0, none⟩) 1 1, .slice (some ⟨g81, 0, none⟩) 2 2, .slice (some ⟨g83, 0, none⟩) 1 1] 28 (0, 0)), (ne, .cells #[.bool true, .slice (some ⟨g71, 0, none⟩) 1 1, .slice none 0 0, .slice none 0 0, .slice none 0 0] 28 (0, 0)), (nd, .cells #[.bool false, .slice none 0 0, .slice (some ⟨g62, 0, none⟩) 1 1, .slice (some ⟨g61, 0, none⟩) 2 2, .slice (some ⟨g63, 0, none⟩) 1 1] 28 (0, 0)), (nc, .cells #[.bool false, .slice none 0 0, .slice (some ⟨g52, 0, none⟩) 1 1, .slice (some ⟨g51, 0, none⟩) 2 2, .slice (some ⟨g53, 0, none⟩) 1 1] 28 (0, 0)), (nb, .cells #[.bool false, .slice none 0 0, .slice (some ⟨g42, 0, none⟩) 1 1, .slice (some ⟨g41, 0, none⟩) 2 2, .slice (some ⟨g43, 0, none⟩) 1 1] 28 (0, 0)), (na, .cells #[.bool false, .slice none 0 0, .slice (some ⟨g32, 0, none⟩) 1 1, .slice none 0 0, .slice (some ⟨g33, 0, none⟩) 1 1] 28 (0, 0)), (g83, .cells #[.int .i64 2, .string ⟨#[120]⟩, .string ⟨#[]⟩, .string ⟨#[]⟩] 59 (0, 0)), (g82, .cells #[.string ⟨#[109]⟩] 9 (0, 0)), (g81, .cells #[.int .i64 3, .int .i64 4] 3 (0, 0)), (g71, .cells #[.string ⟨#[97]⟩, .string ⟨#[49]⟩] 75 (0, 0)), (g63, .cells #[.int .i64 2, .string ⟨#[120]⟩, .string ⟨#[]⟩, .string ⟨#[]⟩] 59 (0, 0)), (g62, .cells #[.string ⟨#[109]⟩] 9 (0, 0)), (g61, .cells #[.int .i64 3, .int .i64 4] 3 (0, 0)), (g53, .cells #[.int .i64 2, .string ⟨#[120]⟩, .string ⟨#[]⟩, .string ⟨#[]⟩] 59 (0, 0)), (g52, .cells #[.string ⟨#[109]⟩] 9 (0, 0)), (g51, .cells #[.int .i64 3, .int .i64 4] 3 (0, 0)), (g43, .cells #[.int .i64 2, .string ⟨#[120]⟩, .string ⟨#[]⟩, .string ⟨#[]⟩] 59 (0, 0)), (g42, .cells #[.string ⟨#[109]⟩] 9 (0, 0)), (g41, .cells #[.int .i64 3, .int .i64 4] 3 (0, 0)), (g33, .cells #[.int .i64 2, .string ⟨#[120]⟩, .string ⟨#[]⟩, .string ⟨#[]⟩] 59 (0, 0)), (g32, .cells #[.string ⟨#[109]⟩] 9 (0, 0)), (g31, .cells #[.int .i64 3, .int .i64 4] 3 (0, 0)), (g21, .cells #[.string ⟨#[97]⟩, .string ⟨#[49]⟩] 75 (0, 0)), (g11, .cells #[.string ⟨#[97]⟩, .string ⟨#[49]⟩] 75 (0, 0)), (nn, .cells #[.bool false, .slice none 0 0, .slice (some ⟨g02, 0, none⟩) 1 1, .slice (some ⟨g01, 0, none⟩) 2 2, .slice (some ⟨g03, 0, none⟩) 1 1] 28 (0, 0)), (g03, .cells #[.int .i64 2, .string ⟨#[120]⟩, .string ⟨#[]⟩, .string ⟨#[]⟩] 59 (0, 0)), (g02, .cells #[.string ⟨#[109]⟩] 9 (0, 0)), (g01, .cells #[.int .i64 3, .int .i64 4] 3 (0, 0))] _) := Lib.hid (kn_set HK.out 5 rfl 3 (.slice none 0 0))
  generalize w22.setCell ⟨na, 3, none⟩ (.slice none 0 0) = w23 at *
  obtain ⟨d0, d1, d2, d3, d4⟩ := cells5 (kn_get HK.out 4 rfl)
  obtain ⟨f0, f1, f2, f3, f4⟩ := free5 (kn_get HK.out 4 rfl)
  go_upto_region 7 with (fail)
  clear d0 d1 d2 d3 d4 f0 f1 f2 f3 f4
  replace HK : Hid (Kn w [(nf, .cells #[.bool false, .slice none 0 0, .slice (some ⟨g82, 0, none⟩) 1 1, .slice (some ⟨g81, 0, none⟩) 2 2, .slice (some ⟨g83, 0, none⟩) 1 1] 28 (0, 0)), (ne, .cells #[.bool true, .slice (some ⟨g71, 0, none⟩) 1 1, .slice none 0 0, .slice none 0 0, .slice none 0 0] 28 (0, 0)), (nd, .cells #[.bool false, .slice none 0 0, .slice (some ⟨g62, 0, none⟩) 1 1, .slice (some ⟨g61, 0, none⟩) 2 2, .slice (some ⟨g63, 0, none⟩) 1 1] 28 (0, 0)), (nc, .cells #[.bool false, .slice none 0 0, .slice (some ⟨g52, 0, none⟩) 1 1, .slice (some ⟨g51, 0, none⟩) 2 2, .slice (some ⟨g53, 0, none⟩) 1 1] 28 (0, 0)), (nb, .cells #[.bool false, .slice none 0 0, .slice none 0 0, .slice (some ⟨g41, 0, none⟩) 2 2, .slice (some ⟨g43, 0, none⟩) 1 1] 28 (0, 0)), (na, .cells #[.bool false, .slice none 0 0, .slice (some ⟨g32, 0, none⟩) 1 1, .slice none 0 0, .slice (some ⟨g33, 0, none⟩) 1 1] 28 (0, 0)), (g83, .cells #[.int .i64 2, .string ⟨#[120]⟩, .string ⟨#[]⟩, .string ⟨#[]⟩] 59 (0, 0)), (g82, .cells #[.string ⟨#[109]⟩] 9 (0, 0)), (g81, .cells #[.int .i64 3, .int .i64 4] 3 (0, 0)), (g71, .cells #[.string ⟨#[97]⟩, .string ⟨#[49]⟩] 75 (0, 0)), (g63, .cells #[.int .i64 2, .string ⟨#[120]⟩, .string ⟨#[]⟩, .string ⟨#[]⟩] 59 (0, 0)), (g62, .cells #[.string ⟨#[109]⟩] 9 (0, 0)), (g61, .cells #[.int .i64 3, .int .i64 4] 3 (0, 0)), (g53, .cells #[.int .i64 2, .string ⟨#[120]⟩, .string ⟨#[]⟩, .string ⟨#[]⟩] 59 (0, 0)), (g52, .cells #[.string ⟨#[109]⟩] 9 (0, 0)), (g51, .cells #[.int .i64 3, .int .i64 4] 3 (0, 0)), (g43, .cells #[.int .i64 2, .string ⟨#[120]⟩, .string ⟨#[]⟩, .string ⟨#[]⟩] 59 (0, 0)), (g42, .cells #[.string ⟨#[109]⟩] 9 (0, 0)), (g41, .cells #[.int .i64 3, .int .i64 4] 3 (0, 0)), (g33, .cells #[.int .i64 2, .string ⟨#[120]⟩, .string ⟨#[]⟩, .string ⟨#[]⟩] 59 (0, 0)), (g32, .cells #[.string ⟨#[109]⟩] 9 (0, 0)), (g31, .cells #[.int .i64 3, .int .i64 4] 3 (0, 0)), (g21, .cells #[.string ⟨#[97]⟩, .string ⟨#[49]⟩] 75 (0, 0)), (g11, .cells #[.string ⟨#[97]⟩, .string ⟨#[49]⟩] 75 (0, 0)), (nn, .cells #[.bool false, .slice none 0 0, .slice (some ⟨g02, 0, none⟩) 1 1, .slice (some ⟨g01, 0, none⟩) 2 2, .slice (some ⟨g03, 0, none⟩) 1 1] 28 (0, 0)), (g03, .cells #[.int .i64 2, .string ⟨#[120]⟩, .string ⟨#[]⟩, .string ⟨#[]⟩] 59 (0, 0)), (g02, .cells #[.string ⟨#[109]⟩] 9 (0, 0)), (g01, .cells #[.int .i64 3, .int .i64 4] 3 (0, 0))] _) := Lib.hid (kn_set HK.out 4 rfl 2 (.slice none 0 0))
  generalize w23.setCell ⟨nb, 2, none⟩ (.slice none 0 0) = w24 at *
  obtain ⟨d0, d1, d2, d3, d4⟩ := cells5 (kn_get HK.out 3 rfl)
  have cg510 := cell_heap (kn_get HK.out 15 rfl) 0 _ rfl
  have eg510 := free_heap (kn_get HK.out 15 rfl) 0
  go_upto_region 8 with (fail)
  clear d0 d1 d2 d3 d4 cg510 eg510
  replace HK : Hid (Kn w [(nf, .cells #[.bool false, .slice none 0 0, .slice (some ⟨g82, 0, none⟩) 1 1, .slice (some ⟨g81, 0, none⟩) 2 2, .slice (some ⟨g83, 0, none⟩) 1 1] 28 (0, 0)), (ne, .cells #[.bool true, .slice (some ⟨g71, 0, none⟩) 1 1, .slice none 0 0, .slice none 0 0, .slice none 0 0] 28 (0, 0)), (nd, .cells #[.bool false, .slice none 0 0, .slice (some ⟨g62, 0, none⟩) 1 1, .slice (some ⟨g61, 0, none⟩) 2 2, .slice (some ⟨g63, 0, none⟩) 1 1] 28 (0, 0)), (nc, .cells #[.bool false, .slice none 0 0, .slice (some ⟨g52, 0, none⟩) 1 1, .slice (some ⟨g51, 0, none⟩) 2 2, .slice (some ⟨g53, 0, none⟩) 1 1] 28 (0, 0)), (nb, .cells #[.bool false, .slice none 0 0, .slice none 0 0, .slice (some ⟨g41, 0, none⟩) 2 2, .slice (some ⟨g43, 0, none⟩) 1 1] 28 (0, 0)), (na, .cells #[.bool false, .slice none 0 0, .slice (some ⟨g32, 0, none⟩) 1 1, .slice none 0 0, .slice (some ⟨g33, 0, none⟩) 1 1] 28 (0, 0)), (g83, .cells #[.int .i64 2, .string ⟨#[120]⟩, .string ⟨#[]⟩, .string ⟨#[]⟩] 59 (0, 0)), (g82, .cells #[.string ⟨#[109]⟩] 9 (0, 0)), (g81, .cells #[.int .i64 3, .int .i64 4] 3 (0, 0)), (g71, .cells #[.string ⟨#[97]⟩, .string ⟨#[49]⟩] 75 (0, 0)), (g63, .cells #[.int .i64 2, .string ⟨#[120]⟩, .string ⟨#[]⟩, .string ⟨#[]⟩] 59 (0, 0)), (g62, .cells #[.string ⟨#[109]⟩] 9 (0, 0)), (g61, .cells #[.int .i64 3, .int .i64 4] 3 (0, 0)), (g53, .cells #[.int .i64 2, .string ⟨#[120]⟩, .string ⟨#[]⟩, .string ⟨#[]⟩] 59 (0, 0)), (g52, .cells #[.string ⟨#[109]⟩] 9 (0, 0)), (g51, .cells #[.int .i64 0, .int .i64 4] 3 (0, 0)), (g43, .cells #[.int .i64 2, .string ⟨#[120]⟩, .string ⟨#[]⟩, .string ⟨#[]⟩] 59 (0, 0)), (g42, .cells #[.string ⟨#[109]⟩] 9 (0, 0)), (g41, .cells #[.int .i64 3, .int .i64 4] 3 (0, 0)), (g33, .cells #[.int .i64 2, .string ⟨#[120]⟩, .string ⟨#[]⟩, .string ⟨#[]⟩] 59 (0, 0)), (g32, .cells #[.string ⟨#[109]⟩] 9 (0, 0)), (g31, .cells #[.int .i64 3, .int .i64 4] 3 (0, 0)), (g21, .cells #[.string ⟨#[97]⟩, .string ⟨#[49]⟩] 75 (0, 0)), (g11, .cells #[.string ⟨#[97]⟩, .string ⟨#[49]⟩] 75 (0, 0)), (nn, .cells #[.bool false, .slice none 0 0, .slice (some ⟨g02, 0, none⟩) 1 1, .slice (some ⟨g01, 0, none⟩) 2 2, .slice (some ⟨g03, 0, none⟩) 1 1] 28 (0, 0)), (g03, .cells #[.int .i64 2, .string ⟨#[120]⟩, .string ⟨#[]⟩, .string ⟨#[]⟩] 59 (0, 0)), (g02, .cells #[.string ⟨#[109]⟩] 9 (0, 0)), (g01, .cells #[.int .i64 3, .int .i64 4] 3 (0, 0))] _) := Lib.hid (kn_set HK.out 15 rfl 0 (.int .i64 0))
  generalize w24.setCell ⟨g51, 0, none⟩ (.int .i64 0) = w25 at *
  obtain ⟨d0, d1, d2, d3, d4⟩ := cells5 (kn_get HK.out 2 rfl)
  have cg630 := cell_heap (kn_get HK.out 10 rfl) 0 _ rfl
  have eg630 := free_heap (kn_get HK.out 10 rfl) 0
  go_upto_region 9 with (fail)
  clear d0 d1 d2 d3 d4 cg630 eg630
  replace HK : Hid (Kn w [(nf, .cells #[.bool false, .slice none 0 0, .slice (some ⟨g82, 0, none⟩) 1 1, .slice (some ⟨g81, 0, none⟩) 2 2, .slice (some ⟨g83, 0, none⟩) 1 1] 28 (0, 0)), (ne, .cells #[.bool true, .slice (some ⟨g71, 0, none⟩) 1 1, .slice none 0 0, .slice none 0 0, .slice none 0 0] 28 (0, 0)), (nd, .cells #[.bool false, .slice none 0 0, .slice (some ⟨g62, 0, none⟩) 1 1, .slice (some ⟨g61, 0, none⟩) 2 2, .slice (some ⟨g63, 0, none⟩) 1 1] 28 (0, 0)), (nc, .cells #[.bool false, .slice none 0 0, .slice (some ⟨g52, 0, none⟩) 1 1, .slice (some ⟨g51, 0, none⟩) 2 2, .slice (some ⟨g53, 0, none⟩) 1 1] 28 (0, 0)), (nb, .cells #[.bool false, .slice none 0 0, .slice none 0 0, .slice (some ⟨g41, 0, none⟩) 2 2, .slice (some ⟨g43, 0, none⟩) 1 1] 28 (0, 0)), (na, .cells #[.bool false, .slice none 0 0, .slice (some ⟨g32, 0, none⟩) 1 1, .slice none 0 0, .slice (some ⟨g33, 0, none⟩) 1 1] 28 (0, 0)), (g83, .cells #[.int .i64 2, .string ⟨#[120]⟩, .string ⟨#[]⟩, .string ⟨#[]⟩] 59 (0, 0)), (g82, .cells #[.string ⟨#[109]⟩] 9 (0, 0)), (g81, .cells #[.int .i64 3, .int .i64 4] 3 (0, 0)), (g71, .cells #[.string ⟨#[97]⟩, .string ⟨#[49]⟩] 75 (0, 0)), (g63, .cells #[.int .i64 5, .string ⟨#[120]⟩, .string ⟨#[]⟩, .string ⟨#[]⟩] 59 (0, 0)), (g62, .cells #[.string ⟨#[109]⟩] 9 (0, 0)), (g61, .cells #[.int .i64 3, .int .i64 4] 3 (0, 0)), (g53, .cells #[.int .i64 2, .string ⟨#[120]⟩, .string ⟨#[]⟩, .string ⟨#[]⟩] 59 (0, 0)), (g52, .cells #[.string ⟨#[109]⟩] 9 (0, 0)), (g51, .cells #[.int .i64 0, .int .i64 4] 3 (0, 0)), (g43, .cells #[.int .i64 2, .string ⟨#[120]⟩, .string ⟨#[]⟩, .string ⟨#[]⟩] 59 (0, 0)), (g42, .cells #[.string ⟨#[109]⟩] 9 (0, 0)), (g41, .cells #[.int .i64 3, .int .i64 4] 3 (0, 0)), (g33, .cells #[.int .i64 2, .string ⟨#[120]⟩, .string ⟨#[]⟩, .string ⟨#[]⟩] 59 (0, 0)), (g32, .cells #[.string ⟨#[109]⟩] 9 (0, 0)), (g31, .cells #[.int .i64 3, .int .i64 4] 3 (0, 0)), (g21, .cells #[.string ⟨#[97]⟩, .string ⟨#[49]⟩] 75 (0, 0)), (g11, .cells #[.string ⟨#[97]⟩, .string ⟨#[49]⟩] 75 (0, 0)), (nn, .cells #[.bool false, .slice none 0 0, .slice (some ⟨g02, 0, none⟩) 1 1, .slice (some ⟨g01, 0, none⟩) 2 2, .slice (some ⟨g03, 0, none⟩) 1 1] 28 (0, 0)), (g03, .cells #[.int .i64 2, .string ⟨#[120]⟩, .string ⟨#[]⟩, .string ⟨#[]⟩] 59 (0, 0)), (g02, .cells #[.string ⟨#[109]⟩] 9 (0, 0)), (g01, .cells #[.int .i64 3, .int .i64 4] 3 (0, 0))] _) := Lib.hid (kn_set HK.out 10 rfl 0 (.int .i64 5))
  generalize w25.setCell ⟨g63, 0, none⟩ (.int .i64 5) = w26 at *
  obtain ⟨h9, hh9⟩ : ∃ x, w26.heap.size = x := ⟨_, rfl⟩
  obtain ⟨w27, hW⟩ : ∃ x, w26.alloc (.cells #[.int .i64 1] 3) = x := ⟨_, rfl⟩
  have q := (kn_alloc2 HK.out hh9 #[.int .i64 1] 3).1
  rw [hW] at q
  replace HK := Lib.hid q
  clear q
  obtain ⟨d0, d1, d2, d3, d4⟩ := cells5 (kn_get HK.out 2 rfl)
  obtain ⟨f0, f1, f2, f3, f4⟩ := free5 (kn_get HK.out 2 rfl)
  go_upto_region 10 with (fail)
  clear d0 d1 d2 d3 d4 f0 f1 f2 f3 f4 hW hh9
  replace HK : Hid (Kn w [(h9, .cells #[.int .i64 1] 3 (0, 0)), (nf, .cells #[.bool false, .slice none 0 0, .slice (some ⟨g82, 0, none⟩) 1 1, .slice (some ⟨g81, 0, none⟩) 2 2, .slice (some ⟨g83, 0, none⟩) 1 1] 28 (0, 0)), (ne, .cells #[.bool true, .slice (some ⟨g71, 0, none⟩) 1 1, .slice none 0 0, .slice (some ⟨h9, 0, none⟩) 1 1, .slice none 0 0] 28 (0, 0)), (nd, .cells #[.bool false, .slice none 0 0, .slice (some ⟨g62, 0, none⟩) 1 1, .slice (some ⟨g61, 0, none⟩) 2 2, .slice (some ⟨g63, 0, none⟩) 1 1] 28 (0, 0)), (nc, .cells #[.bool false, .slice none 0 0, .slice (some ⟨g52, 0, none⟩) 1 1, .slice (some ⟨g51, 0, none⟩) 2 2, .slice (some ⟨g53, 0, none⟩) 1 1] 28 (0, 0)), (nb, .cells #[.bool false, .slice none 0 0, .slice none 0 0, .slice (some ⟨g41, 0, none⟩) 2 2, .slice (some ⟨g43, 0, none⟩) 1 1] 28 (0, 0)), (na, .cells #[.bool false, .slice none 0 0, .slice (some ⟨g32, 0, none⟩) 1 1, .slice none 0 0, .slice (some ⟨g33, 0, none⟩) 1 1] 28 (0, 0)), (g83, .cells #[.int .i64 2, .string ⟨#[120]⟩, .string ⟨#[]⟩, .string ⟨#[]⟩] 59 (0, 0)), (g82, .cells #[.string ⟨#[109]⟩] 9 (0, 0)), (g81, .cells #[.int .i64 3, .int .i64 4] 3 (0, 0)), (g71, .cells #[.string ⟨#[97]⟩, .string ⟨#[49]⟩] 75 (0, 0)), (g63, .cells #[.int .i64 5, .string ⟨#[120]⟩, .string ⟨#[]⟩, .string ⟨#[]⟩] 59 (0, 0)), (g62, .cells #[.string ⟨#[109]⟩] 9 (0, 0)), (g61, .cells #[.int .i64 3, .int .i64 4] 3 (0, 0)), (g53, .cells #[.int .i64 2, .string ⟨#[120]⟩, .string ⟨#[]⟩, .string ⟨#[]⟩] 59 (0, 0)), (g52, .cells #[.string ⟨#[109]⟩] 9 (0, 0)), (g51, .cells #[.int .i64 0, .int .i64 4] 3 (0, 0)), (g43, .cells #[.int .i64 2, .string ⟨#[120]⟩, .string ⟨#[]⟩, .string ⟨#[]⟩] 59 (0, 0)), (g42, .cells #[.string ⟨#[109]⟩] 9 (0, 0)), (g41, .cells #[.int .i64 3, .int .i64 4] 3 (0, 0)), (g33, .cells #[.int .i64 2, .string ⟨#[120]⟩, .string ⟨#[]⟩, .string ⟨#[]⟩] 59 (0, 0)), (g32, .cells #[.string ⟨#[109]⟩] 9 (0, 0)), (g31, .cells #[.int .i64 3, .int .i64 4] 3 (0, 0)), (g21, .cells #[.string ⟨#[97]⟩, .string ⟨#[49]⟩] 75 (0, 0)), (g11, .cells #[.string ⟨#[97]⟩, .string ⟨#[49]⟩] 75 (0, 0)), (nn, .cells #[.bool false, .slice none 0 0, .slice (some ⟨g02, 0, none⟩) 1 1, .slice (some ⟨g01, 0, none⟩) 2 2, .slice (some ⟨g03, 0, none⟩) 1 1] 28 (0, 0)), (g03, .cells #[.int .i64 2, .string ⟨#[120]⟩, .string ⟨#[]⟩, .string ⟨#[]⟩] 59 (0, 0)), (g02, .cells #[.string ⟨#[109]⟩] 9 (0, 0)), (g01, .cells #[.int .i64 3, .int .i64 4] 3 (0, 0))] _) := Lib.hid (kn_set HK.out 2 rfl 3 (.slice (some ⟨h9, 0, none⟩) 1 1))
  generalize w27.setCell ⟨ne, 3, none⟩ (.slice (some ⟨h9, 0, none⟩) 1 1) = w28 at *
  go_wp2_with (fail)
  refine (leaf_walk _).mono ?_
  rintro e w29 ⟨g101, rfl, hk⟩
  replace HK := Lib.hid (hk _ _ HK.out)
  clear hk
  have hfd := field_ents g101
  obtain ⟨d0, d1, d2, d3, d4⟩ := cells5 (kn_get HK.out 2 rfl)
  obtain ⟨f0, f1, f2, f3, f4⟩ := free5 (kn_get HK.out 2 rfl)
  go_upto_region 11 with (fail)
  clear d0 d1 d2 d3 d4 f0 f1 f2 f3 f4
  replace HK : Hid (Kn w [(g101, .cells #[.string ⟨#[97]⟩, .string ⟨#[49]⟩] 75 (0, 0)), (h9, .cells #[.int .i64 1] 3 (0, 0)), (nf, .cells #[.bool false, .slice (some ⟨g101, 0, none⟩) 1 1, .slice (some ⟨g82, 0, none⟩) 1 1, .slice (some ⟨g81, 0, none⟩) 2 2, .slice (some ⟨g83, 0, none⟩) 1 1] 28 (0, 0)), (ne, .cells #[.bool true, .slice (some ⟨g71, 0, none⟩) 1 1, .slice none 0 0, .slice (some ⟨h9, 0, none⟩) 1 1, .slice none 0 0] 28 (0, 0)), (nd, .cells #[.bool false, .slice none 0 0, .slice (some ⟨g62, 0, none⟩) 1 1, .slice (some ⟨g61, 0, none⟩) 2 2, .slice (some ⟨g63, 0, none⟩) 1 1] 28 (0, 0)), (nc, .cells #[.bool false, .slice none 0 0, .slice (some ⟨g52, 0, none⟩) 1 1, .slice (some ⟨g51, 0, none⟩) 2 2, .slice (some ⟨g53, 0, none⟩) 1 1] 28 (0, 0)), (nb, .cells #[.bool false, .slice none 0 0, .slice none 0 0, .slice (some ⟨g41, 0, none⟩) 2 2, .slice (some ⟨g43, 0, none⟩) 1 1] 28 (0, 0)), (na, .cells #[.bool false, .slice none 0 0, .slice (some ⟨g32, 0, none⟩) 1 1, .slice none 0 0, .slice (some ⟨g33, 0, none⟩) 1 1] 28 (0, 0)), (g83, .cells #[.int .i64 2, .string ⟨#[120]⟩, .string ⟨#[]⟩, .string ⟨#[]⟩] 59 (0, 0)), (g82, .cells #[.string ⟨#[109]⟩] 9 (0, 0)), (g81, .cells #[.int .i64 3, .int .i64 4] 3 (0, 0)), (g71, .cells #[.string ⟨#[97]⟩, .string ⟨#[49]⟩] 75 (0, 0)), (g63, .cells #[.int .i64 5, .string ⟨#[120]⟩, .string ⟨#[]⟩, .string ⟨#[]⟩] 59 (0, 0)), (g62, .cells #[.string ⟨#[109]⟩] 9 (0, 0)), (g61, .cells #[.int .i64 3, .int .i64 4] 3 (0, 0)), (g53, .cells #[.int .i64 2, .string ⟨#[120]⟩, .string ⟨#[]⟩, .string ⟨#[]⟩] 59 (0, 0)), (g52, .cells #[.string ⟨#[109]⟩] 9 (0, 0)), (g51, .cells #[.int .i64 0, .int .i64 4] 3 (0, 0)), (g43, .cells #[.int .i64 2, .string ⟨#[120]⟩, .string ⟨#[]⟩, .string ⟨#[]⟩] 59 (0, 0)), (g42, .cells #[.string ⟨#[109]⟩] 9 (0, 0)), (g41, .cells #[.int .i64 3, .int .i64 4] 3 (0, 0)), (g33, .cells #[.int .i64 2, .string ⟨#[120]⟩, .string ⟨#[]⟩, .string ⟨#[]⟩] 59 (0, 0)), (g32, .cells #[.string ⟨#[109]⟩] 9 (0, 0)), (g31, .cells #[.int .i64 3, .int .i64 4] 3 (0, 0)), (g21, .cells #[.string ⟨#[97]⟩, .string ⟨#[49]⟩] 75 (0, 0)), (g11, .cells #[.string ⟨#[97]⟩, .string ⟨#[49]⟩] 75 (0, 0)), (nn, .cells #[.bool false, .slice none 0 0, .slice (some ⟨g02, 0, none⟩) 1 1, .slice (some ⟨g01, 0, none⟩) 2 2, .slice (some ⟨g03, 0, none⟩) 1 1] 28 (0, 0)), (g03, .cells #[.int .i64 2, .string ⟨#[120]⟩, .string ⟨#[]⟩, .string ⟨#[]⟩] 59 (0, 0)), (g02, .cells #[.string ⟨#[109]⟩] 9 (0, 0)), (g01, .cells #[.int .i64 3, .int .i64 4] 3 (0, 0))] _) := Lib.hid (kn_set HK.out 2 rfl 1 (.slice (some ⟨g101, 0, none⟩) 1 1))
  generalize w29.setCell ⟨nf, 1, none⟩ (.slice (some ⟨g101, 0, none⟩) 1 1) = w30 at *
  go_upto_region 12 with (fail)
  obtain ⟨h1, hh1⟩ : ∃ x, w30.heap.size = x := ⟨_, rfl⟩
  rw [hh1] at ⊢
  obtain ⟨h2, hh2⟩ : ∃ x, h1 + 1 = x := ⟨_, rfl⟩
  rw [hh2] at ⊢
  obtain ⟨ng, hng⟩ : ∃ x, h2 + 1 = x := ⟨_, rfl⟩
  rw [hng] at ⊢
  have q0 := kn_alloc2 HK.out hh1 #[.int .i64 1, .int .i64 2, .int .i64 3] 3
  have q1 := kn_alloc2 q0.1 (q0.2.trans hh2) #[.string ⟨#[98]⟩, .string ⟨#[98]⟩] 9
  have q2 := kn_alloc2 q1.1 (q1.2.trans hng) #[.bool false, .slice none 0 0, .slice (some ⟨h2, 0, none⟩) 2 2, .slice (some ⟨h1, 0, none⟩) 3 3, .slice none 0 0] 28
  replace HK := Lib.hid q2.1
  clear q0 q1 q2 hh1 hh2 hng
  generalize (((w30.alloc (.cells #[.int .i64 1, .int .i64 2, .int .i64 3] 3)).alloc (.cells #[.string ⟨#[98]⟩, .string ⟨#[98]⟩] 9)).alloc (.cells #[.bool false, .slice none 0 0, .slice (some ⟨h2, 0, none⟩) 2 2, .slice (some ⟨h1, 0, none⟩) 3 3, .slice none 0 0] 28)) = w31 at *
  have hm1 := make_ints
  have hm2 := make_strs
  go_cut [9] from 95 to 97 (fun s9 wx => ∃ nh tI tS : Nat, s9 = .pointer (some ⟨nh, 0, none⟩) ∧ Kn w [(nh, .cells #[.bool false, .slice none 0 0, .slice (some ⟨tS, 0, none⟩) 8 8, .slice (some ⟨tI, 0, none⟩) 9 9, .slice none 0 0] 28 (0, 0)), (tI, .cells #[.int .i64 0, .int .i64 0, .int .i64 0, .int .i64 0, .int .i64 0, .int .i64 0, .int .i64 0, .int .i64 0, .int .i64 0] 3 (0, 0)), (tS, .cells #[.string ⟨#[]⟩, .string ⟨#[]⟩, .string ⟨#[]⟩, .string ⟨#[]⟩, .string ⟨#[]⟩, .string ⟨#[]⟩, .string ⟨#[]⟩, .string ⟨#[]⟩] 9 (0, 0)), (ng, .cells #[.bool false, .slice none 0 0, .slice (some ⟨h2, 0, none⟩) 2 2, .slice (some ⟨h1, 0, none⟩) 3 3, .slice none 0 0] 28 (0, 0)), (h2, .cells #[.string ⟨#[98]⟩, .string ⟨#[98]⟩] 9 (0, 0)), (h1, .cells #[.int .i64 1, .int .i64 2, .int .i64 3] 3 (0, 0)), (g101, .cells #[.string ⟨#[97]⟩, .string ⟨#[49]⟩] 75 (0, 0)), (h9, .cells #[.int .i64 1] 3 (0, 0)), (nf, .cells #[.bool false, .slice (some ⟨g101, 0, none⟩) 1 1, .slice (some ⟨g82, 0, none⟩) 1 1, .slice (some ⟨g81, 0, none⟩) 2 2, .slice (some ⟨g83, 0, none⟩) 1 1] 28 (0, 0)), (ne, .cells #[.bool true, .slice (some ⟨g71, 0, none⟩) 1 1, .slice none 0 0, .slice (some ⟨h9, 0, none⟩) 1 1, .slice none 0 0] 28 (0, 0)), (nd, .cells #[.bool false, .slice none 0 0, .slice (some ⟨g62, 0, none⟩) 1 1, .slice (some ⟨g61, 0, none⟩) 2 2, .slice (some ⟨g63, 0, none⟩) 1 1] 28 (0, 0)), (nc, .cells #[.bool false, .slice none 0 0, .slice (some ⟨g52, 0, none⟩) 1 1, .slice (some ⟨g51, 0, none⟩) 2 2, .slice (some ⟨g53, 0, none⟩) 1 1] 28 (0, 0)), (nb, .cells #[.bool false, .slice none 0 0, .slice none 0 0, .slice (some ⟨g41, 0, none⟩) 2 2, .slice (some ⟨g43, 0, none⟩) 1 1] 28 (0, 0)), (na, .cells #[.bool false, .slice none 0 0, .slice (some ⟨g32, 0, none⟩) 1 1, .slice none 0 0, .slice (some ⟨g33, 0, none⟩) 1 1] 28 (0, 0)), (g83, .cells #[.int .i64 2, .string ⟨#[120]⟩, .string ⟨#[]⟩, .string ⟨#[]⟩] 59 (0, 0)), (g82, .cells #[.string ⟨#[109]⟩] 9 (0, 0)), (g81, .cells #[.int .i64 3, .int .i64 4] 3 (0, 0)), (g71, .cells #[.string ⟨#[97]⟩, .string ⟨#[49]⟩] 75 (0, 0)), (g63, .cells #[.int .i64 5, .string ⟨#[120]⟩, .string ⟨#[]⟩, .string ⟨#[]⟩] 59 (0, 0)), (g62, .cells #[.string ⟨#[109]⟩] 9 (0, 0)), (g61, .cells #[.int .i64 3, .int .i64 4] 3 (0, 0)), (g53, .cells #[.int .i64 2, .string ⟨#[120]⟩, .string ⟨#[]⟩, .string ⟨#[]⟩] 59 (0, 0)), (g52, .cells #[.string ⟨#[109]⟩] 9 (0, 0)), (g51, .cells #[.int .i64 0, .int .i64 4] 3 (0, 0)), (g43, .cells #[.int .i64 2, .string ⟨#[120]⟩, .string ⟨#[]⟩, .string ⟨#[]⟩] 59 (0, 0)), (g42, .cells #[.string ⟨#[109]⟩] 9 (0, 0)), (g41, .cells #[.int .i64 3, .int .i64 4] 3 (0, 0)), (g33, .cells #[.int .i64 2, .string ⟨#[120]⟩, .string ⟨#[]⟩, .string ⟨#[]⟩] 59 (0, 0)), (g32, .cells #[.string ⟨#[109]⟩] 9 (0, 0)), (g31, .cells #[.int .i64 3, .int .i64 4] 3 (0, 0)), (g21, .cells #[.string ⟨#[97]⟩, .string ⟨#[49]⟩] 75 (0, 0)), (g11, .cells #[.string ⟨#[97]⟩, .string ⟨#[49]⟩] 75 (0, 0)), (nn, .cells #[.bool false, .slice none 0 0, .slice (some ⟨g02, 0, none⟩) 1 1, .slice (some ⟨g01, 0, none⟩) 2 2, .slice (some ⟨g03, 0, none⟩) 1 1] 28 (0, 0)), (g03, .cells #[.int .i64 2, .string ⟨#[120]⟩, .string ⟨#[]⟩, .string ⟨#[]⟩] 59 (0, 0)), (g02, .cells #[.string ⟨#[109]⟩] 9 (0, 0)), (g01, .cells #[.int .i64 3, .int .i64 4] 3 (0, 0))] wx)
  case first =>
    go_region
    all_goals (go_wp2_with (fail))
    all_goals go_meet
    all_goals first
      | exact ⟨w31.heap.size, w31.heap.size + 1, w31.heap.size + 1 + 1, rfl, kn_drew (kn_perm (kn_alloc3 HK.out #[.bool false, .slice none 0 0, .slice (some ⟨w31.heap.size + 1 + 1, 0, none⟩) 8 8, .slice (some ⟨w31.heap.size + 1, 0, none⟩) 9 9, .slice none 0 0] 28 #[.int .i64 0, .int .i64 0, .int .i64 0, .int .i64 0, .int .i64 0, .int .i64 0, .int .i64 0, .int .i64 0, .int .i64 0] 3 #[.string ⟨#[]⟩, .string ⟨#[]⟩, .string ⟨#[]⟩, .string ⟨#[]⟩, .string ⟨#[]⟩, .string ⟨#[]⟩, .string ⟨#[]⟩, .string ⟨#[]⟩] 9) (p321 _ _ _ _))⟩
      | exact ⟨w31.heap.size, w31.heap.size + 1 + 1, w31.heap.size + 1, rfl, kn_drew (kn_perm (kn_alloc3 HK.out #[.bool false, .slice none 0 0, .slice (some ⟨w31.heap.size + 1, 0, none⟩) 8 8, .slice (some ⟨w31.heap.size + 1 + 1, 0, none⟩) 9 9, .slice none 0 0] 28 #[.string ⟨#[]⟩, .string ⟨#[]⟩, .string ⟨#[]⟩, .string ⟨#[]⟩, .string ⟨#[]⟩, .string ⟨#[]⟩, .string ⟨#[]⟩, .string ⟨#[]⟩] 9 #[.int .i64 0, .int .i64 0, .int .i64 0, .int .i64 0, .int .i64 0, .int .i64 0, .int .i64 0, .int .i64 0, .int .i64 0] 3) (p312 _ _ _ _))⟩
      | exact ⟨w31.heap.size + 1, w31.heap.size, w31.heap.size + 1 + 1, rfl, kn_drew (kn_perm (kn_alloc3 HK.out #[.int .i64 0, .int .i64 0, .int .i64 0, .int .i64 0, .int .i64 0, .int .i64 0, .int .i64 0, .int .i64 0, .int .i64 0] 3 #[.bool false, .slice none 0 0, .slice (some ⟨w31.heap.size + 1 + 1, 0, none⟩) 8 8, .slice (some ⟨w31.heap.size, 0, none⟩) 9 9, .slice none 0 0] 28 #[.string ⟨#[]⟩, .string ⟨#[]⟩, .string ⟨#[]⟩, .string ⟨#[]⟩, .string ⟨#[]⟩, .string ⟨#[]⟩, .string ⟨#[]⟩, .string ⟨#[]⟩] 9) (p231 _ _ _ _))⟩
      | exact ⟨w31.heap.size + 1 + 1, w31.heap.size, w31.heap.size + 1, rfl, kn_drew (kn_perm (kn_alloc3 HK.out #[.int .i64 0, .int .i64 0, .int .i64 0, .int .i64 0, .int .i64 0, .int .i64 0, .int .i64 0, .int .i64 0, .int .i64 0] 3 #[.string ⟨#[]⟩, .string ⟨#[]⟩, .string ⟨#[]⟩, .string ⟨#[]⟩, .string ⟨#[]⟩, .string ⟨#[]⟩, .string ⟨#[]⟩, .string ⟨#[]⟩] 9 #[.bool false, .slice none 0 0, .slice (some ⟨w31.heap.size + 1, 0, none⟩) 8 8, .slice (some ⟨w31.heap.size, 0, none⟩) 9 9, .slice none 0 0] 28) (p132 _ _ _ _))⟩
      | exact ⟨w31.heap.size + 1, w31.heap.size + 1 + 1, w31.heap.size, rfl, kn_drew (kn_perm (kn_alloc3 HK.out #[.string ⟨#[]⟩, .string ⟨#[]⟩, .string ⟨#[]⟩, .string ⟨#[]⟩, .string ⟨#[]⟩, .string ⟨#[]⟩, .string ⟨#[]⟩, .string ⟨#[]⟩] 9 #[.bool false, .slice none 0 0, .slice (some ⟨w31.heap.size, 0, none⟩) 8 8, .slice (some ⟨w31.heap.size + 1 + 1, 0, none⟩) 9 9, .slice none 0 0] 28 #[.int .i64 0, .int .i64 0, .int .i64 0, .int .i64 0, .int .i64 0, .int .i64 0, .int .i64 0, .int .i64 0, .int .i64 0] 3) (p213 _ _ _ _))⟩
      | exact ⟨w31.heap.size + 1 + 1, w31.heap.size + 1, w31.heap.size, rfl, kn_drew (kn_perm (kn_alloc3 HK.out #[.string ⟨#[]⟩, .string ⟨#[]⟩, .string ⟨#[]⟩, .string ⟨#[]⟩, .string ⟨#[]⟩, .string ⟨#[]⟩, .string ⟨#[]⟩, .string ⟨#[]⟩] 9 #[.int .i64 0, .int .i64 0, .int .i64 0, .int .i64 0, .int .i64 0, .int .i64 0, .int .i64 0, .int .i64 0, .int .i64 0] 3 #[.bool false, .slice none 0 0, .slice (some ⟨w31.heap.size, 0, none⟩) 8 8, .slice (some ⟨w31.heap.size + 1, 0, none⟩) 9 9, .slice none 0 0] 28) (List.Perm.refl _))⟩
  case rest =>
  obtain ⟨nh, tI, tS, rfl, hk⟩ := hcut
  replace HK := Lib.hid hk
  clear hk hm1 hm2
  obtain ⟨d0, d1, d2, d3, d4⟩ := cells5 (kn_get HK.out 13 rfl)
  go_wp2_with (fail)
  clear d0 d1 d2 d3 d4
  refine (rillbedlaw18_refused.calls false none 0 ([] : List S75) (some ⟨g32, 0, none⟩) 1 [(⟨#[109]⟩ : ByteArray)] none 0 ([] : List Int) (some ⟨g33, 0, none⟩) 1 [(⟨2, ⟨#[120]⟩, ⟨#[]⟩, ⟨#[]⟩⟩ : S59)]  true _ (Kd.C_nil _ _) (Nat.le_refl _) (C_str [(⟨#[109]⟩ : ByteArray)] (kn_get HK.out 28 rfl) (by decide)) (Nat.le_refl _) (Kd.C_nil _ _) (Nat.le_refl _) (C_msg [(⟨2, ⟨#[120]⟩, ⟨#[]⟩, ⟨#[]⟩⟩ : S59)] (kn_get HK.out 27 rfl) (by decide)) (Nat.le_refl _) (by decide +kernel)).mono ?_
  rintro e w32 ⟨rfl, hb⟩
  replace HK := Lib.hid (kn_below HK.out hb)
  clear hb
  obtain ⟨d0, d1, d2, d3, d4⟩ := cells5 (kn_get HK.out 12 rfl)
  go_wp2_with (fail)
  clear d0 d1 d2 d3 d4
  refine (rillbedlaw18_refused.calls false none 0 ([] : List S75) none 0 ([] : List ByteArray) (some ⟨g41, 0, none⟩) 2 [(3 : Int), 4] (some ⟨g43, 0, none⟩) 1 [(⟨2, ⟨#[120]⟩, ⟨#[]⟩, ⟨#[]⟩⟩ : S59)]  true _ (Kd.C_nil _ _) (Nat.le_refl _) (Kd.C_nil _ _) (Nat.le_refl _) (C_int [(3 : Int), 4] (kn_get HK.out 26 rfl) (by decide)) (Nat.le_refl _) (C_msg [(⟨2, ⟨#[120]⟩, ⟨#[]⟩, ⟨#[]⟩⟩ : S59)] (kn_get HK.out 24 rfl) (by decide)) (Nat.le_refl _) (by decide +kernel)).mono ?_
  rintro e w33 ⟨rfl, hb⟩
  replace HK := Lib.hid (kn_below HK.out hb)
  clear hb
  obtain ⟨d0, d1, d2, d3, d4⟩ := cells5 (kn_get HK.out 11 rfl)
  go_wp2_with (fail)
  clear d0 d1 d2 d3 d4
  refine (rillbedlaw18_refused.calls false none 0 ([] : List S75) (some ⟨g52, 0, none⟩) 1 [(⟨#[109]⟩ : ByteArray)] (some ⟨g51, 0, none⟩) 2 [(0 : Int), 4] (some ⟨g53, 0, none⟩) 1 [(⟨2, ⟨#[120]⟩, ⟨#[]⟩, ⟨#[]⟩⟩ : S59)]  true _ (Kd.C_nil _ _) (Nat.le_refl _) (C_str [(⟨#[109]⟩ : ByteArray)] (kn_get HK.out 22 rfl) (by decide)) (Nat.le_refl _) (C_int [(0 : Int), 4] (kn_get HK.out 23 rfl) (by decide)) (Nat.le_refl _) (C_msg [(⟨2, ⟨#[120]⟩, ⟨#[]⟩, ⟨#[]⟩⟩ : S59)] (kn_get HK.out 21 rfl) (by decide)) (Nat.le_refl _) (by decide +kernel)).mono ?_
  rintro e w34 ⟨rfl, hb⟩
  replace HK := Lib.hid (kn_below HK.out hb)
  clear hb
  obtain ⟨d0, d1, d2, d3, d4⟩ := cells5 (kn_get HK.out 10 rfl)
  go_wp2_with (fail)
  clear d0 d1 d2 d3 d4
  refine (rillbedlaw18_refused.calls false none 0 ([] : List S75) (some ⟨g62, 0, none⟩) 1 [(⟨#[109]⟩ : ByteArray)] (some ⟨g61, 0, none⟩) 2 [(3 : Int), 4] (some ⟨g63, 0, none⟩) 1 [(⟨5, ⟨#[120]⟩, ⟨#[]⟩, ⟨#[]⟩⟩ : S59)]  true _ (Kd.C_nil _ _) (Nat.le_refl _) (C_str [(⟨#[109]⟩ : ByteArray)] (kn_get HK.out 19 rfl) (by decide)) (Nat.le_refl _) (C_int [(3 : Int), 4] (kn_get HK.out 20 rfl) (by decide)) (Nat.le_refl _) (C_msg [(⟨5, ⟨#[120]⟩, ⟨#[]⟩, ⟨#[]⟩⟩ : S59)] (kn_get HK.out 18 rfl) (by decide)) (Nat.le_refl _) (by decide +kernel)).mono ?_
  rintro e w35 ⟨rfl, hb⟩
  replace HK := Lib.hid (kn_below HK.out hb)
  clear hb
  obtain ⟨d0, d1, d2, d3, d4⟩ := cells5 (kn_get HK.out 9 rfl)
  go_wp2_with (fail)
  clear d0 d1 d2 d3 d4
  refine (rillbedlaw18_refused.calls true (some ⟨g71, 0, none⟩) 1 [(⟨⟨#[97]⟩, ⟨#[49]⟩⟩ : S75)] none 0 ([] : List ByteArray) (some ⟨h9, 0, none⟩) 1 [(1 : Int)] none 0 ([] : List S59)  true _ (C_ent [(⟨⟨#[97]⟩, ⟨#[49]⟩⟩ : S75)] (kn_get HK.out 17 rfl) (by decide)) (Nat.le_refl _) (Kd.C_nil _ _) (Nat.le_refl _) (C_int [(1 : Int)] (kn_get HK.out 7 rfl) (by decide)) (Nat.le_refl _) (Kd.C_nil _ _) (Nat.le_refl _) (by decide +kernel)).mono ?_
  rintro e w36 ⟨rfl, hb⟩
  replace HK := Lib.hid (kn_below HK.out hb)
  clear hb
  obtain ⟨d0, d1, d2, d3, d4⟩ := cells5 (kn_get HK.out 8 rfl)
  go_wp2_with (fail)
  clear d0 d1 d2 d3 d4
  refine (rillbedlaw18_refused.calls false (some ⟨g101, 0, none⟩) 1 [(⟨⟨#[97]⟩, ⟨#[49]⟩⟩ : S75)] (some ⟨g82, 0, none⟩) 1 [(⟨#[109]⟩ : ByteArray)] (some ⟨g81, 0, none⟩) 2 [(3 : Int), 4] (some ⟨g83, 0, none⟩) 1 [(⟨2, ⟨#[120]⟩, ⟨#[]⟩, ⟨#[]⟩⟩ : S59)]  true _ (C_ent [(⟨⟨#[97]⟩, ⟨#[49]⟩⟩ : S75)] (kn_get HK.out 6 rfl) (by decide)) (Nat.le_refl _) (C_str [(⟨#[109]⟩ : ByteArray)] (kn_get HK.out 15 rfl) (by decide)) (Nat.le_refl _) (C_int [(3 : Int), 4] (kn_get HK.out 16 rfl) (by decide)) (Nat.le_refl _) (C_msg [(⟨2, ⟨#[120]⟩, ⟨#[]⟩, ⟨#[]⟩⟩ : S59)] (kn_get HK.out 14 rfl) (by decide)) (Nat.le_refl _) (by decide +kernel)).mono ?_
  rintro e w37 ⟨rfl, hb⟩
  replace HK := Lib.hid (kn_below HK.out hb)
  clear hb
  obtain ⟨d0, d1, d2, d3, d4⟩ := cells5 (kn_get HK.out 3 rfl)
  go_wp2_with (fail)
  clear d0 d1 d2 d3 d4
  refine (rillbedlaw18_refused.calls false none 0 ([] : List S75) (some ⟨h2, 0, none⟩) 2 [(⟨#[98]⟩ : ByteArray), ⟨#[98]⟩] (some ⟨h1, 0, none⟩) 3 [(1 : Int), 2, 3] none 0 ([] : List S59)  true _ (Kd.C_nil _ _) (Nat.le_refl _) (C_str [(⟨#[98]⟩ : ByteArray), ⟨#[98]⟩] (kn_get HK.out 4 rfl) (by decide)) (Nat.le_refl _) (C_int [(1 : Int), 2, 3] (kn_get HK.out 5 rfl) (by decide)) (Nat.le_refl _) (Kd.C_nil _ _) (Nat.le_refl _) (by decide +kernel)).mono ?_
  rintro e w38 ⟨rfl, hb⟩
  replace HK := Lib.hid (kn_below HK.out hb)
  clear hb
  obtain ⟨d0, d1, d2, d3, d4⟩ := cells5 (kn_get HK.out 0 rfl)
  go_wp2_with (fail)
  clear d0 d1 d2 d3 d4
  refine (rillbedlaw18_refused.calls false none 0 ([] : List S75) (some ⟨tS, 0, none⟩) 8 [(⟨#[]⟩ : ByteArray), ⟨#[]⟩, ⟨#[]⟩, ⟨#[]⟩, ⟨#[]⟩, ⟨#[]⟩, ⟨#[]⟩, ⟨#[]⟩] (some ⟨tI, 0, none⟩) 9 [(0 : Int), 0, 0, 0, 0, 0, 0, 0, 0] none 0 ([] : List S59)  true _ (Kd.C_nil _ _) (Nat.le_refl _) (C_str [(⟨#[]⟩ : ByteArray), ⟨#[]⟩, ⟨#[]⟩, ⟨#[]⟩, ⟨#[]⟩, ⟨#[]⟩, ⟨#[]⟩, ⟨#[]⟩] (kn_get HK.out 2 rfl) (by decide)) (Nat.le_refl _) (C_int [(0 : Int), 0, 0, 0, 0, 0, 0, 0, 0] (kn_get HK.out 1 rfl) (by decide)) (Nat.le_refl _) (Kd.C_nil _ _) (Nat.le_refl _) (by decide +kernel)).mono ?_
  rintro e w39 ⟨rfl, hb⟩
  replace HK := Lib.hid (kn_below HK.out hb)
  clear hb
  go_wp2_with (fail)
  refine (rillbedlaw18_refused.calls false none 0 ([] : List S75) none 0 ([] : List ByteArray) none 0 ([] : List Int) none 0 ([] : List S59)  true _ (Kd.C_nil _ _) (Nat.le_refl _) (Kd.C_nil _ _) (Nat.le_refl _) (Kd.C_nil _ _) (Nat.le_refl _) (Kd.C_nil _ _) (Nat.le_refl _) (by decide +kernel)).mono ?_
  rintro e w40 ⟨rfl, hb⟩
  replace HK := Lib.hid (kn_below HK.out hb)
  clear hb
  go_wp2_with (fail)
  refine (inner_walk _).mono ?_
  rintro e w41 ⟨g151, g152, g153, rfl, hk⟩
  replace HK := Lib.hid (hk _ _ HK.out)
  clear hk
  go_upto_region 16 with (fail)
  obtain ⟨nx, hnx⟩ : ∃ x, w41.heap.size = x := ⟨_, rfl⟩
  rw [hnx] at ⊢
  have q0 := kn_alloc2 HK.out hnx #[.bool false, .slice none 0 0, .slice (some ⟨g152, 0, none⟩) 1 1, .slice (some ⟨g151, 0, none⟩) 2 2, .slice (some ⟨g153, 0, none⟩) 1 1] 28
  replace HK := Lib.hid q0.1
  clear q0 hnx
  generalize (w41.alloc (.cells #[.bool false, .slice none 0 0, .slice (some ⟨g152, 0, none⟩) 1 1, .slice (some ⟨g151, 0, none⟩) 2 2, .slice (some ⟨g153, 0, none⟩) 1 1] 28)) = w42 at *
  obtain ⟨d0, d1, d2, d3, d4⟩ := cells5 (kn_get HK.out 0 rfl)
  have cg1510 := cell_heap (kn_get HK.out 3 rfl) 0 _ rfl
  have eg1510 := free_heap (kn_get HK.out 3 rfl) 0
  go_upto_region 17 with (fail)
  clear d0 d1 d2 d3 d4 cg1510 eg1510
  replace HK : Hid (Kn w [(nx, .cells #[.bool false, .slice none 0 0, .slice (some ⟨g152, 0, none⟩) 1 1, .slice (some ⟨g151, 0, none⟩) 2 2, .slice (some ⟨g153, 0, none⟩) 1 1] 28 (0, 0)), (g153, .cells #[.int .i64 2, .string ⟨#[120]⟩, .string ⟨#[]⟩, .string ⟨#[]⟩] 59 (0, 0)), (g152, .cells #[.string ⟨#[109]⟩] 9 (0, 0)), (g151, .cells #[.int .i64 65536, .int .i64 4] 3 (0, 0)), (nh, .cells #[.bool false, .slice none 0 0, .slice (some ⟨tS, 0, none⟩) 8 8, .slice (some ⟨tI, 0, none⟩) 9 9, .slice none 0 0] 28 (0, 0)), (tI, .cells #[.int .i64 0, .int .i64 0, .int .i64 0, .int .i64 0, .int .i64 0, .int .i64 0, .int .i64 0, .int .i64 0, .int .i64 0] 3 (0, 0)), (tS, .cells #[.string ⟨#[]⟩, .string ⟨#[]⟩, .string ⟨#[]⟩, .string ⟨#[]⟩, .string ⟨#[]⟩, .string ⟨#[]⟩, .string ⟨#[]⟩, .string ⟨#[]⟩] 9 (0, 0)), (ng, .cells #[.bool false, .slice none 0 0, .slice (some ⟨h2, 0, none⟩) 2 2, .slice (some ⟨h1, 0, none⟩) 3 3, .slice none 0 0] 28 (0, 0)), (h2, .cells #[.string ⟨#[98]⟩, .string ⟨#[98]⟩] 9 (0, 0)), (h1, .cells #[.int .i64 1, .int .i64 2, .int .i64 3] 3 (0, 0)), (g101, .cells #[.string ⟨#[97]⟩, .string ⟨#[49]⟩] 75 (0, 0)), (h9, .cells #[.int .i64 1] 3 (0, 0)), (nf, .cells #[.bool false, .slice (some ⟨g101, 0, none⟩) 1 1, .slice (some ⟨g82, 0, none⟩) 1 1, .slice (some ⟨g81, 0, none⟩) 2 2, .slice (some ⟨g83, 0, none⟩) 1 1] 28 (0, 0)), (ne, .cells #[.bool true, .slice (some ⟨g71, 0, none⟩) 1 1, .slice none 0 0, .slice (some ⟨h9, 0, none⟩) 1 1, .slice none 0 0] 28 (0, 0)), (nd, .cells #[.bool false, .slice none 0 0, .slice (some ⟨g62, 0, none⟩) 1 1, .slice (some ⟨g61, 0, none⟩) 2 2, .slice (some ⟨g63, 0, none⟩) 1 1] 28 (0, 0)), (nc, .cells #[.bool false, .slice none 0 0, .slice (some ⟨g52, 0, none⟩) 1 1, .slice (some ⟨g51, 0, none⟩) 2 2, .slice (some ⟨g53, 0, none⟩) 1 1] 28 (0, 0)), (nb, .cells #[.bool false, .slice none 0 0, .slice none 0 0, .slice (some ⟨g41, 0, none⟩) 2 2, .slice (some ⟨g43, 0, none⟩) 1 1] 28 (0, 0)), (na, .cells #[.bool false, .slice none 0 0, .slice (some ⟨g32, 0, none⟩) 1 1, .slice none 0 0, .slice (some ⟨g33, 0, none⟩) 1 1] 28 (0, 0)), (g83, .cells #[.int .i64 2, .string ⟨#[120]⟩, .string ⟨#[]⟩, .string ⟨#[]⟩] 59 (0, 0)), (g82, .cells #[.string ⟨#[109]⟩] 9 (0, 0)), (g81, .cells #[.int .i64 3, .int .i64 4] 3 (0, 0)), (g71, .cells #[.string ⟨#[97]⟩, .string ⟨#[49]⟩] 75 (0, 0)), (g63, .cells #[.int .i64 5, .string ⟨#[120]⟩, .string ⟨#[]⟩, .string ⟨#[]⟩] 59 (0, 0)), (g62, .cells #[.string ⟨#[109]⟩] 9 (0, 0)), (g61, .cells #[.int .i64 3, .int .i64 4] 3 (0, 0)), (g53, .cells #[.int .i64 2, .string ⟨#[120]⟩, .string ⟨#[]⟩, .string ⟨#[]⟩] 59 (0, 0)), (g52, .cells #[.string ⟨#[109]⟩] 9 (0, 0)), (g51, .cells #[.int .i64 0, .int .i64 4] 3 (0, 0)), (g43, .cells #[.int .i64 2, .string ⟨#[120]⟩, .string ⟨#[]⟩, .string ⟨#[]⟩] 59 (0, 0)), (g42, .cells #[.string ⟨#[109]⟩] 9 (0, 0)), (g41, .cells #[.int .i64 3, .int .i64 4] 3 (0, 0)), (g33, .cells #[.int .i64 2, .string ⟨#[120]⟩, .string ⟨#[]⟩, .string ⟨#[]⟩] 59 (0, 0)), (g32, .cells #[.string ⟨#[109]⟩] 9 (0, 0)), (g31, .cells #[.int .i64 3, .int .i64 4] 3 (0, 0)), (g21, .cells #[.string ⟨#[97]⟩, .string ⟨#[49]⟩] 75 (0, 0)), (g11, .cells #[.string ⟨#[97]⟩, .string ⟨#[49]⟩] 75 (0, 0)), (nn, .cells #[.bool false, .slice none 0 0, .slice (some ⟨g02, 0, none⟩) 1 1, .slice (some ⟨g01, 0, none⟩) 2 2, .slice (some ⟨g03, 0, none⟩) 1 1] 28 (0, 0)), (g03, .cells #[.int .i64 2, .string ⟨#[120]⟩, .string ⟨#[]⟩, .string ⟨#[]⟩] 59 (0, 0)), (g02, .cells #[.string ⟨#[109]⟩] 9 (0, 0)), (g01, .cells #[.int .i64 3, .int .i64 4] 3 (0, 0))] _) := Lib.hid (kn_set HK.out 3 rfl 0 (.int .i64 65536))
  generalize w42.setCell ⟨g151, 0, none⟩ (.int .i64 65536) = w43 at *
  obtain ⟨d0, d1, d2, d3, d4⟩ := cells5 (kn_get HK.out 0 rfl)
  go_wp2_with (fail)
  clear d0 d1 d2 d3 d4
  refine (node_Put.calls false none 0 ([] : List S75) (some ⟨g152, 0, none⟩) 1 [(⟨#[109]⟩ : ByteArray)] (some ⟨g151, 0, none⟩) 2 [(65536 : Int), 4] (some ⟨g153, 0, none⟩) 1 [(⟨2, ⟨#[120]⟩, ⟨#[]⟩, ⟨#[]⟩⟩ : S59)]  ⟨#[]⟩ 4 _ (Kd.C_nil _ _) (Nat.le_refl _) (C_str [(⟨#[109]⟩ : ByteArray)] (kn_get HK.out 2 rfl) (by decide)) (Nat.le_refl _) (C_int [(65536 : Int), 4] (kn_get HK.out 3 rfl) (by decide)) (Nat.le_refl _) (C_msg [(⟨2, ⟨#[120]⟩, ⟨#[]⟩, ⟨#[]⟩⟩ : S59)] (kn_get HK.out 1 rfl) (by decide)) (Nat.le_refl _) (by decide +kernel)).mono ?_
  rintro e w44 ⟨rfl, hb⟩
  replace HK := Lib.hid (kn_below HK.out hb)
  clear hb
  go_upto_region 19 with (fail)
  obtain ⟨h18, hh18⟩ : ∃ x, w44.heap.size = x := ⟨_, rfl⟩
  rw [hh18] at ⊢
  obtain ⟨nl, hnl⟩ : ∃ x, h18 + 1 = x := ⟨_, rfl⟩
  rw [hnl] at ⊢
  have q0 := kn_alloc2 HK.out hh18 #[.int .i64 1] 3
  have q1 := kn_alloc2 q0.1 (q0.2.trans hnl) #[.bool false, .slice none 0 0, .slice none 0 0, .slice (some ⟨h18, 0, none⟩) 1 1, .slice none 0 0] 28
  replace HK := Lib.hid q1.1
  clear q0 q1 hh18 hnl
  generalize ((w44.alloc (.cells #[.int .i64 1] 3)).alloc (.cells #[.bool false, .slice none 0 0, .slice none 0 0, .slice (some ⟨h18, 0, none⟩) 1 1, .slice none 0 0] 28)) = w45 at *
  obtain ⟨RX, hRX⟩ : ∃ RX, RX = repX := ⟨_, rfl⟩
  have HREP := Lib.hid (show strings_Repeat.f ⟨#[120]⟩ 108 = some RX by rw [hRX]; exact rep_x)
  have HRX := Lib.hid hRX
  clear hRX
  have HLT := Lib.hid (kn_lt HK.out)
  have HS0 := Lib.hid HK.out.2.2.1.size
  have HK0 : Hid (Kn w [(nl, .cells #[.bool false, .slice none 0 0, .slice none 0 0, .slice (some ⟨h18, 0, none⟩) 1 1, .slice none 0 0] 28 (0, 0)), (h18, .cells #[.int .i64 1] 3 (0, 0)), (nx, .cells #[.bool false, .slice none 0 0, .slice (some ⟨g152, 0, none⟩) 1 1, .slice (some ⟨g151, 0, none⟩) 2 2, .slice (some ⟨g153, 0, none⟩) 1 1] 28 (0, 0)), (g153, .cells #[.int .i64 2, .string ⟨#[120]⟩, .string ⟨#[]⟩, .string ⟨#[]⟩] 59 (0, 0)), (g152, .cells #[.string ⟨#[109]⟩] 9 (0, 0)), (g151, .cells #[.int .i64 65536, .int .i64 4] 3 (0, 0)), (nh, .cells #[.bool false, .slice none 0 0, .slice (some ⟨tS, 0, none⟩) 8 8, .slice (some ⟨tI, 0, none⟩) 9 9, .slice none 0 0] 28 (0, 0)), (tI, .cells #[.int .i64 0, .int .i64 0, .int .i64 0, .int .i64 0, .int .i64 0, .int .i64 0, .int .i64 0, .int .i64 0, .int .i64 0] 3 (0, 0)), (tS, .cells #[.string ⟨#[]⟩, .string ⟨#[]⟩, .string ⟨#[]⟩, .string ⟨#[]⟩, .string ⟨#[]⟩, .string ⟨#[]⟩, .string ⟨#[]⟩, .string ⟨#[]⟩] 9 (0, 0)), (ng, .cells #[.bool false, .slice none 0 0, .slice (some ⟨h2, 0, none⟩) 2 2, .slice (some ⟨h1, 0, none⟩) 3 3, .slice none 0 0] 28 (0, 0)), (h2, .cells #[.string ⟨#[98]⟩, .string ⟨#[98]⟩] 9 (0, 0)), (h1, .cells #[.int .i64 1, .int .i64 2, .int .i64 3] 3 (0, 0)), (g101, .cells #[.string ⟨#[97]⟩, .string ⟨#[49]⟩] 75 (0, 0)), (h9, .cells #[.int .i64 1] 3 (0, 0)), (nf, .cells #[.bool false, .slice (some ⟨g101, 0, none⟩) 1 1, .slice (some ⟨g82, 0, none⟩) 1 1, .slice (some ⟨g81, 0, none⟩) 2 2, .slice (some ⟨g83, 0, none⟩) 1 1] 28 (0, 0)), (ne, .cells #[.bool true, .slice (some ⟨g71, 0, none⟩) 1 1, .slice none 0 0, .slice (some ⟨h9, 0, none⟩) 1 1, .slice none 0 0] 28 (0, 0)), (nd, .cells #[.bool false, .slice none 0 0, .slice (some ⟨g62, 0, none⟩) 1 1, .slice (some ⟨g61, 0, none⟩) 2 2, .slice (some ⟨g63, 0, none⟩) 1 1] 28 (0, 0)), (nc, .cells #[.bool false, .slice none 0 0, .slice (some ⟨g52, 0, none⟩) 1 1, .slice (some ⟨g51, 0, none⟩) 2 2, .slice (some ⟨g53, 0, none⟩) 1 1] 28 (0, 0)), (nb, .cells #[.bool false, .slice none 0 0, .slice none 0 0, .slice (some ⟨g41, 0, none⟩) 2 2, .slice (some ⟨g43, 0, none⟩) 1 1] 28 (0, 0)), (na, .cells #[.bool false, .slice none 0 0, .slice (some ⟨g32, 0, none⟩) 1 1, .slice none 0 0, .slice (some ⟨g33, 0, none⟩) 1 1] 28 (0, 0)), (g83, .cells #[.int .i64 2, .string ⟨#[120]⟩, .string ⟨#[]⟩, .string ⟨#[]⟩] 59 (0, 0)), (g82, .cells #[.string ⟨#[109]⟩] 9 (0, 0)), (g81, .cells #[.int .i64 3, .int .i64 4] 3 (0, 0)), (g71, .cells #[.string ⟨#[97]⟩, .string ⟨#[49]⟩] 75 (0, 0)), (g63, .cells #[.int .i64 5, .string ⟨#[120]⟩, .string ⟨#[]⟩, .string ⟨#[]⟩] 59 (0, 0)), (g62, .cells #[.string ⟨#[109]⟩] 9 (0, 0)), (g61, .cells #[.int .i64 3, .int .i64 4] 3 (0, 0)), (g53, .cells #[.int .i64 2, .string ⟨#[120]⟩, .string ⟨#[]⟩, .string ⟨#[]⟩] 59 (0, 0)), (g52, .cells #[.string ⟨#[109]⟩] 9 (0, 0)), (g51, .cells #[.int .i64 0, .int .i64 4] 3 (0, 0)), (g43, .cells #[.int .i64 2, .string ⟨#[120]⟩, .string ⟨#[]⟩, .string ⟨#[]⟩] 59 (0, 0)), (g42, .cells #[.string ⟨#[109]⟩] 9 (0, 0)), (g41, .cells #[.int .i64 3, .int .i64 4] 3 (0, 0)), (g33, .cells #[.int .i64 2, .string ⟨#[120]⟩, .string ⟨#[]⟩, .string ⟨#[]⟩] 59 (0, 0)), (g32, .cells #[.string ⟨#[109]⟩] 9 (0, 0)), (g31, .cells #[.int .i64 3, .int .i64 4] 3 (0, 0)), (g21, .cells #[.string ⟨#[97]⟩, .string ⟨#[49]⟩] 75 (0, 0)), (g11, .cells #[.string ⟨#[97]⟩, .string ⟨#[49]⟩] 75 (0, 0)), (nn, .cells #[.bool false, .slice none 0 0, .slice (some ⟨g02, 0, none⟩) 1 1, .slice (some ⟨g01, 0, none⟩) 2 2, .slice (some ⟨g03, 0, none⟩) 1 1] 28 (0, 0)), (g03, .cells #[.int .i64 2, .string ⟨#[120]⟩, .string ⟨#[]⟩, .string ⟨#[]⟩] 59 (0, 0)), (g02, .cells #[.string ⟨#[109]⟩] 9 (0, 0)), (g01, .cells #[.int .i64 3, .int .i64 4] 3 (0, 0))] w45) := HK
  clear HK
  go_wp2_with (fail)
  go_loopg [14] 13 (fun g v14 wr => ∃ (i : Nat) (A : Option Addr) (c : Nat) (ms : List S59), v14 = .int .i64 i ∧ i + g = 13 ∧ Hid (Kn w [(nl, .cells #[.bool false, .slice none 0 0, .slice none 0 0, .slice (some ⟨h18, 0, none⟩) 1 1, .slice A ms.length c] 28 (0, 0)), (h18, .cells #[.int .i64 1] 3 (0, 0)), (nx, .cells #[.bool false, .slice none 0 0, .slice (some ⟨g152, 0, none⟩) 1 1, .slice (some ⟨g151, 0, none⟩) 2 2, .slice (some ⟨g153, 0, none⟩) 1 1] 28 (0, 0)), (g153, .cells #[.int .i64 2, .string ⟨#[120]⟩, .string ⟨#[]⟩, .string ⟨#[]⟩] 59 (0, 0)), (g152, .cells #[.string ⟨#[109]⟩] 9 (0, 0)), (g151, .cells #[.int .i64 65536, .int .i64 4] 3 (0, 0)), (nh, .cells #[.bool false, .slice none 0 0, .slice (some ⟨tS, 0, none⟩) 8 8, .slice (some ⟨tI, 0, none⟩) 9 9, .slice none 0 0] 28 (0, 0)), (tI, .cells #[.int .i64 0, .int .i64 0, .int .i64 0, .int .i64 0, .int .i64 0, .int .i64 0, .int .i64 0, .int .i64 0, .int .i64 0] 3 (0, 0)), (tS, .cells #[.string ⟨#[]⟩, .string ⟨#[]⟩, .string ⟨#[]⟩, .string ⟨#[]⟩, .string ⟨#[]⟩, .string ⟨#[]⟩, .string ⟨#[]⟩, .string ⟨#[]⟩] 9 (0, 0)), (ng, .cells #[.bool false, .slice none 0 0, .slice (some ⟨h2, 0, none⟩) 2 2, .slice (some ⟨h1, 0, none⟩) 3 3, .slice none 0 0] 28 (0, 0)), (h2, .cells #[.string ⟨#[98]⟩, .string ⟨#[98]⟩] 9 (0, 0)), (h1, .cells #[.int .i64 1, .int .i64 2, .int .i64 3] 3 (0, 0)), (g101, .cells #[.string ⟨#[97]⟩, .string ⟨#[49]⟩] 75 (0, 0)), (h9, .cells #[.int .i64 1] 3 (0, 0)), (nf, .cells #[.bool false, .slice (some ⟨g101, 0, none⟩) 1 1, .slice (some ⟨g82, 0, none⟩) 1 1, .slice (some ⟨g81, 0, none⟩) 2 2, .slice (some ⟨g83, 0, none⟩) 1 1] 28 (0, 0)), (ne, .cells #[.bool true, .slice (some ⟨g71, 0, none⟩) 1 1, .slice none 0 0, .slice (some ⟨h9, 0, none⟩) 1 1, .slice none 0 0] 28 (0, 0)), (nd, .cells #[.bool false, .slice none 0 0, .slice (some ⟨g62, 0, none⟩) 1 1, .slice (some ⟨g61, 0, none⟩) 2 2, .slice (some ⟨g63, 0, none⟩) 1 1] 28 (0, 0)), (nc, .cells #[.bool false, .slice none 0 0, .slice (some ⟨g52, 0, none⟩) 1 1, .slice (some ⟨g51, 0, none⟩) 2 2, .slice (some ⟨g53, 0, none⟩) 1 1] 28 (0, 0)), (nb, .cells #[.bool false, .slice none 0 0, .slice none 0 0, .slice (some ⟨g41, 0, none⟩) 2 2, .slice (some ⟨g43, 0, none⟩) 1 1] 28 (0, 0)), (na, .cells #[.bool false, .slice none 0 0, .slice (some ⟨g32, 0, none⟩) 1 1, .slice none 0 0, .slice (some ⟨g33, 0, none⟩) 1 1] 28 (0, 0)), (g83, .cells #[.int .i64 2, .string ⟨#[120]⟩, .string ⟨#[]⟩, .string ⟨#[]⟩] 59 (0, 0)), (g82, .cells #[.string ⟨#[109]⟩] 9 (0, 0)), (g81, .cells #[.int .i64 3, .int .i64 4] 3 (0, 0)), (g71, .cells #[.string ⟨#[97]⟩, .string ⟨#[49]⟩] 75 (0, 0)), (g63, .cells #[.int .i64 5, .string ⟨#[120]⟩, .string ⟨#[]⟩, .string ⟨#[]⟩] 59 (0, 0)), (g62, .cells #[.string ⟨#[109]⟩] 9 (0, 0)), (g61, .cells #[.int .i64 3, .int .i64 4] 3 (0, 0)), (g53, .cells #[.int .i64 2, .string ⟨#[120]⟩, .string ⟨#[]⟩, .string ⟨#[]⟩] 59 (0, 0)), (g52, .cells #[.string ⟨#[109]⟩] 9 (0, 0)), (g51, .cells #[.int .i64 0, .int .i64 4] 3 (0, 0)), (g43, .cells #[.int .i64 2, .string ⟨#[120]⟩, .string ⟨#[]⟩, .string ⟨#[]⟩] 59 (0, 0)), (g42, .cells #[.string ⟨#[109]⟩] 9 (0, 0)), (g41, .cells #[.int .i64 3, .int .i64 4] 3 (0, 0)), (g33, .cells #[.int .i64 2, .string ⟨#[120]⟩, .string ⟨#[]⟩, .string ⟨#[]⟩] 59 (0, 0)), (g32, .cells #[.string ⟨#[109]⟩] 9 (0, 0)), (g31, .cells #[.int .i64 3, .int .i64 4] 3 (0, 0)), (g21, .cells #[.string ⟨#[97]⟩, .string ⟨#[49]⟩] 75 (0, 0)), (g11, .cells #[.string ⟨#[97]⟩, .string ⟨#[49]⟩] 75 (0, 0)), (nn, .cells #[.bool false, .slice none 0 0, .slice (some ⟨g02, 0, none⟩) 1 1, .slice (some ⟨g01, 0, none⟩) 2 2, .slice (some ⟨g03, 0, none⟩) 1 1] 28 (0, 0)), (g03, .cells #[.int .i64 2, .string ⟨#[120]⟩, .string ⟨#[]⟩, .string ⟨#[]⟩] 59 (0, 0)), (g02, .cells #[.string ⟨#[109]⟩] 9 (0, 0)), (g01, .cells #[.int .i64 3, .int .i64 4] 3 (0, 0))] wr) ∧ Hid (Kd.R k59 59 wr w45.heap.size (fun _ => True) (.slice A ms.length c) ms) ∧ Hid (ms = List.replicate i (⟨2, RX, ⟨#[]⟩, ⟨#[]⟩⟩ : S59)) ∧ Hid (w45.heap.size ≤ wr.heap.size))
  case atStart => exact ⟨0, none, 0, [], rfl, rfl, HK0, Lib.hid (Kd.R_nil _ _ _ _ _), Lib.hid rfl, Lib.hid (Nat.le_refl _)⟩
  case round =>
    clear HK0
    obtain ⟨i, A, c, xs, rfl, hig, HK, HR, HM, LW⟩ := hrel
    cases gk with
    | zero =>
      obtain rfl := step_zero hig
      have hlt : decide (((13 : Nat) : Int) < 13) = false := rfl
      have HX := Lib.hid (show xs = ms13 by rw [HM.out, HRX.out]; rfl)
      have HLX := Lib.hid (show xs.length = 13 ∧ 12 ≤ xs.length by rw [HX.out]; exact ⟨rfl, by decide⟩)
      obtain ⟨ad, c', hA⟩ := Kd.R_slice1 HR.out (by rw [HLX.out.1]; decide)
      cases hA
      have HC13 := Lib.hid (rdC HR.out).2
      have HLC := Lib.hid (show ms12.length ≤ c from Nat.le_trans HLX.out.2 HC13.out)
      obtain ⟨d0, d1, d2, d3, d4⟩ := cells5 (kn_get HK.out 0 rfl)
      go_wp2_with (fail)
      clear d0 d1 d2 d3 d4 hlt
      refine (node_Put.calls false none 0 ([] : List S75) none 0 ([] : List ByteArray) (some ⟨h18, 0, none⟩) 1 [(1 : Int)] (some ad) c xs ⟨#[]⟩ 3 _ (Kd.C_nil _ _) (Nat.le_refl _) (Kd.C_nil _ _) (Nat.le_refl _) (C_int [(1 : Int)] (kn_get HK.out 1 rfl) (by decide)) (Nat.le_refl _) (rdC HR.out).1 (rdC HR.out).2 (by rw [HX.out]; exact put_long)).mono ?_
      rintro e w46 ⟨rfl, hb⟩
      replace HK := Lib.hid (kn_below HK.out hb)
      replace HR := Lib.hid (Kd.R_below HR.out hb)
      clear hb
      have h12 : (12 : Int) ≤ (c : Int) := by have := HC13.out; have := HLX.out.1; omega
      have h12b : decide ((12 : Int) ≤ (c : Int)) = true := decide_eq_true h12
      have h12c : (12 : Nat) ≤ c := by omega
      obtain ⟨h24, hh24⟩ : ∃ x, w46.heap.size = x := ⟨_, rfl⟩
      obtain ⟨w47, hW⟩ : ∃ x, w46.alloc (.cells #[.int .i64 1] 3) = x := ⟨_, rfl⟩
      have q := (kn_alloc2 HK.out hh24 #[.int .i64 1] 3).1
      rw [hW] at q
      replace HK := Lib.hid q
      clear q
      have qr := Kd.R_alloc HR.out (.cells #[.int .i64 1] 3)
      rw [hW] at qr
      replace HR := Lib.hid qr
      clear qr
      obtain ⟨d0, d1, d2, d3, d4⟩ := cells5 (kn_get HK.out 1 rfl)
      go_wp2_with (fail)
      obtain ⟨UU, hU⟩ : ∃ UU, UU = (⟨(textN false [] [] [1] ms12).toArray⟩ : ByteArray) := ⟨_, rfl⟩
      have HPU := Lib.hid (show node_Put.f false [] [] [1] ms12 = some (UU, 0) by rw [hU]; exact put_12)
      have HUS := Lib.hid (show (UU.size : Int) = 1362 by rw [hU]; exact u_12)
      obtain ⟨RY, hRY⟩ : ∃ RY, RY = repY := ⟨_, rfl⟩
      have HRP := Lib.hid (show strings_Repeat.f ⟨#[1]⟩ 1441 = some RY by rw [hRY]; exact rep_y)
      have HFY := Lib.hid (show rillbedlaw18_fails.f 40 RY 3 = some true by rw [hRY]; exact fails_y)
      clear hU hRY
      clear d0 d1 d2 d3 d4 hW hh24
      refine (node_Put.calls false none 0 ([] : List S75) none 0 ([] : List ByteArray) (some ⟨h24, 0, none⟩) 1 [(1 : Int)] (some ad) c ms12 UU 0 _ (Kd.C_nil _ _) (Nat.le_refl _) (Kd.C_nil _ _) (Nat.le_refl _) (C_int [(1 : Int)] (kn_get HK.out 0 rfl) (by decide)) (Nat.le_refl _) (c12 HX.out HR.out) (HLC.out) HPU.out).mono ?_
      rintro e w48 ⟨rfl, hb⟩
      replace HK := Lib.hid (kn_below HK.out hb)
      replace HR := Lib.hid (Kd.R_below HR.out hb)
      clear hb
      obtain ⟨d0, d1, d2, d3, d4⟩ := cells5 (kn_get HK.out 3 rfl)
      go_wp2_with (fail)
      clear d0 d1 d2 d3 d4
      refine (node_Check.calls false none 0 ([] : List S75) (some ⟨g152, 0, none⟩) 1 [(⟨#[109]⟩ : ByteArray)] (some ⟨g151, 0, none⟩) 2 [(65536 : Int), 4] (some ⟨g153, 0, none⟩) 1 [(⟨2, ⟨#[120]⟩, ⟨#[]⟩, ⟨#[]⟩⟩ : S59)]  0 _ (Kd.C_nil _ _) (Nat.le_refl _) (C_str [(⟨#[109]⟩ : ByteArray)] (kn_get HK.out 5 rfl) (by decide)) (Nat.le_refl _) (C_int [(65536 : Int), 4] (kn_get HK.out 6 rfl) (by decide)) (Nat.le_refl _) (C_msg [(⟨2, ⟨#[120]⟩, ⟨#[]⟩, ⟨#[]⟩⟩ : S59)] (kn_get HK.out 4 rfl) (by decide)) (Nat.le_refl _) (by decide +kernel)).mono ?_
      rintro e w49 ⟨rfl, hb⟩
      replace HK := Lib.hid (kn_below HK.out hb)
      replace HR := Lib.hid (Kd.R_below HR.out hb)
      clear hb
      obtain ⟨d0, d1, d2, d3, d4⟩ := cells5 (kn_get HK.out 3 rfl)
      go_wp2_with (fail)
      clear d0 d1 d2 d3 d4
      refine (node_Size.calls false none 0 ([] : List S75) (some ⟨g152, 0, none⟩) 1 [(⟨#[109]⟩ : ByteArray)] (some ⟨g151, 0, none⟩) 2 [(65536 : Int), 4] (some ⟨g153, 0, none⟩) 1 [(⟨2, ⟨#[120]⟩, ⟨#[]⟩, ⟨#[]⟩⟩ : S59)]  0 _ (Kd.C_nil _ _) (Nat.le_refl _) (C_str [(⟨#[109]⟩ : ByteArray)] (kn_get HK.out 5 rfl) (by decide)) (Nat.le_refl _) (C_int [(65536 : Int), 4] (kn_get HK.out 6 rfl) (by decide)) (Nat.le_refl _) (C_msg [(⟨2, ⟨#[120]⟩, ⟨#[]⟩, ⟨#[]⟩⟩ : S59)] (kn_get HK.out 4 rfl) (by decide)) (Nat.le_refl _) (by decide +kernel)).mono ?_
      rintro e w50 ⟨rfl, hb⟩
      replace HK := Lib.hid (kn_below HK.out hb)
      replace HR := Lib.hid (Kd.R_below HR.out hb)
      clear hb
      obtain ⟨d0, d1, d2, d3, d4⟩ := cells5 (kn_get HK.out 1 rfl)
      go_wp2_with (fail)
      clear d0 d1 d2 d3 d4
      refine (node_Size.calls false none 0 ([] : List S75) none 0 ([] : List ByteArray) (some ⟨h18, 0, none⟩) 1 [(1 : Int)] (some ad) c xs 1475 _ (Kd.C_nil _ _) (Nat.le_refl _) (Kd.C_nil _ _) (Nat.le_refl _) (C_int [(1 : Int)] (kn_get HK.out 2 rfl) (by decide)) (Nat.le_refl _) (rdC HR.out).1 (rdC HR.out).2 (by rw [HX.out]; exact size_long)).mono ?_
      rintro e w51 ⟨rfl, hb⟩
      replace HK := Lib.hid (kn_below HK.out hb)
      replace HR := Lib.hid (Kd.R_below HR.out hb)
      clear hb
      obtain ⟨h25, hh25⟩ : ∃ x, w51.heap.size = x := ⟨_, rfl⟩
      obtain ⟨w52, hW⟩ : ∃ x, w51.alloc (.cells #[.int .i64 1] 3) = x := ⟨_, rfl⟩
      have q := (kn_alloc2 HK.out hh25 #[.int .i64 1] 3).1
      rw [hW] at q
      replace HK := Lib.hid q
      clear q
      have qr := Kd.R_alloc HR.out (.cells #[.int .i64 1] 3)
      rw [hW] at qr
      replace HR := Lib.hid qr
      clear qr
      obtain ⟨d0, d1, d2, d3, d4⟩ := cells5 (kn_get HK.out 2 rfl)
      go_wp2_with (fail)
      clear d0 d1 d2 d3 d4 hW hh25
      refine (node_Size.calls false none 0 ([] : List S75) none 0 ([] : List ByteArray) (some ⟨h25, 0, none⟩) 1 [(1 : Int)] (some ad) c ms12 1362 _ (Kd.C_nil _ _) (Nat.le_refl _) (Kd.C_nil _ _) (Nat.le_refl _) (C_int [(1 : Int)] (kn_get HK.out 0 rfl) (by decide)) (Nat.le_refl _) (c12 HX.out HR.out) (HLC.out) size_12).mono ?_
      rintro e w53 ⟨rfl, hb⟩
      replace HK := Lib.hid (kn_below HK.out hb)
      replace HR := Lib.hid (Kd.R_below HR.out hb)
      clear hb
      have hus := HUS.out
      have hus2 : ((1362 : Int) == 1362) = true := rfl
      go_wp2_with (fail)
      refine (rillbedlaw18_fails.calls 40 ⟨#[3]⟩ 4 true _ (by decide +kernel)).mono ?_
      rintro e w54 ⟨rfl, hb⟩
      replace HK := Lib.hid (kn_below HK.out hb)
      replace HR := Lib.hid (Kd.R_below HR.out hb)
      clear hb
      go_wp2_with (fail)
      refine (rillbedlaw18_fails.calls 40 ⟨#[1, 0, 1]⟩ 10 true _ (by decide +kernel)).mono ?_
      rintro e w55 ⟨rfl, hb⟩
      replace HK := Lib.hid (kn_below HK.out hb)
      replace HR := Lib.hid (Kd.R_below HR.out hb)
      clear hb
      go_wp2_with (fail)
      refine (rillbedlaw18_fails.calls 40 ⟨#[1, 0, 0, 0]⟩ 4 true _ (by decide +kernel)).mono ?_
      rintro e w56 ⟨rfl, hb⟩
      replace HK := Lib.hid (kn_below HK.out hb)
      replace HR := Lib.hid (Kd.R_below HR.out hb)
      clear hb
      go_wp2_with (fail)
      refine (rillbedlaw18_fails.calls 40 ⟨#[2, 1, 0, 0, 0, 0]⟩ 4 true _ (by decide +kernel)).mono ?_
      rintro e w57 ⟨rfl, hb⟩
      replace HK := Lib.hid (kn_below HK.out hb)
      replace HR := Lib.hid (Kd.R_below HR.out hb)
      clear hb
      go_wp2_with (fail)
      refine (rillbedlaw18_fails.calls 40 ⟨#[2, 0, 0, 0]⟩ 4 true _ (by decide +kernel)).mono ?_
      rintro e w58 ⟨rfl, hb⟩
      replace HK := Lib.hid (kn_below HK.out hb)
      replace HR := Lib.hid (Kd.R_below HR.out hb)
      clear hb
      go_wp2_with (fail)
      refine (strings_Repeat.calls ⟨#[1]⟩ 1441 RY _ HRP.out).mono ?_
      rintro e w59 ⟨rfl, hb⟩
      replace HK := Lib.hid (kn_below HK.out hb)
      replace HR := Lib.hid (Kd.R_below HR.out hb)
      clear hb
      go_wp2_with (fail)
      refine (rillbedlaw18_fails.calls 40 RY 3 true _ HFY.out).mono ?_
      rintro e w60 ⟨rfl, hb⟩
      replace HK := Lib.hid (kn_below HK.out hb)
      replace HR := Lib.hid (Kd.R_below HR.out hb)
      clear hb
      go_wp2_with (fail)
      refine (rillbedlaw18_works.calls 40 true _ (works_true 40 (by decide))).mono ?_
      rintro e w61 ⟨rfl, hb⟩
      replace HK := Lib.hid (kn_below HK.out hb)
      replace HR := Lib.hid (Kd.R_below HR.out hb)
      clear hb
      go_wp2
      go_ret
      exact ⟨rfl, HK.out.2.2.1.below (Nat.le_refl _) (fun _ f => f.elim)⟩
    | succ g =>
      have hi := step_lt hig
      have hlt : decide ((i : Int) < 13) = true := decide_eq_true (by omega)
      have hltn : decide (i < 13) = true := decide_eq_true hi
      have hwi := wrap_next hig (by decide)
      have HIG := Lib.hid (step_sum hig)
      have HSZ := Lib.hid (show (xs.length + 1) * 56 ≤ 140737488355328 from xsz HM.out hi)
      clear hi hig
      go_wp2
      refine wp_region_held_drew (S := fun _ => True) (by kernel_rfl) trivial (fun hS => ?_)
      refine take_first (i := 0) (some 156) (v := ?_) rfl rfl (by kernel_rfl) (by kernel_rfl) (by kernel_rfl) (fun _ _ _ h => h) (Or.inl ⟨by rfl, ?_⟩) hS ?_
      rotate_left
      · intro w' hSw; go_simp; try with_reducible rfl
      simp only [Act.put, List.setIfInBounds_toArray, List.set_cons_zero, List.set_cons_succ]
      refine wpAnyH_ready (rs := [1, 2]) (by kernel_rfl) (by simp) ?_
      refine AllReadyH.cons rfl (fun K hK => ?_) (AllReadyH.cons rfl (fun K hK => ?_) AllReadyH.nil)
      · have dummy : True := trivial
        refine Rg.step_load (some 157) rfl (by rfl) 26 (.tmp 156) rfl ⟨nl, 4, none⟩ rfl (.slice A xs.length c) (by have q := cell_heap (kn_get (kn_drew HK.out) 0 rfl) 4 (.slice A xs.length c) rfl; go_simp) (hK.out _ _ trivial (fun hS => ?_))
        clear hK K
        simp only [Act.put, List.setIfInBounds_toArray, List.set_cons_zero, List.set_cons_succ]
        refine wpAnyH_ready (rs := [2]) (by kernel_rfl) (by simp) ?_
        refine AllReadyH.cons rfl (fun K hK => ?_) AllReadyH.nil
        refine step_fn (some 158) rfl (by rfl) 29 rep_enters #[.const (.string ⟨#[120]⟩), .const (.int .i64 108)] #[9, 3] rfl #[.string ⟨#[120]⟩, .int .i64 108] rfl (fun r w' => r = .string RX ∧ Below wr.drew.heap.size wr.drew w') ((strings_Repeat.calls ⟨#[120]⟩ 108 RX _ HREP.out).mono fun e w' h => ⟨_, h.1, rfl, h.2⟩) (fun r w1 hr => ?_)
        obtain ⟨rfl, hb⟩ := hr
        refine hK.out _ _ trivial (fun hS => ?_)
        clear hK K
        simp only [Act.put, List.setIfInBounds_toArray, List.set_cons_zero, List.set_cons_succ]
        replace HK := Lib.hid (kn_below (kn_drew HK.out) hb)
        replace HR := Lib.hid (Kd.R_below (Kd.R_drew HR.out) hb)
        replace LW := Lib.hid (Nat.le_trans LW.out hb.size)
        clear hb
        refine take_first (i := 3) (some 159) (v := ?_) rfl rfl (by kernel_rfl) (by kernel_rfl) (by kernel_rfl) (fun _ _ _ h => h) (Or.inl ⟨by rfl, ?_⟩) hS ?_
        rotate_left
        · intro w' hSw; go_simp; try with_reducible rfl
        simp only [Act.put, List.setIfInBounds_toArray, List.set_cons_zero, List.set_cons_succ]
        refine wpAnyH_ready (rs := [4]) (by kernel_rfl) (by simp) ?_
        refine AllReadyH.cons rfl (fun K hK => ?_) AllReadyH.nil
        refine step_build4 (some 160) rfl (by rfl) 26 59 (.tmp 159) rfl Try.underlying26 info59 (.int .i64 2) (.string RX) (.string ⟨#[]⟩) (.string ⟨#[]⟩) rfl (hK.out _ _ trivial (fun hS => ?_))
        clear hK K
        simp only [Act.put, List.setIfInBounds_toArray, List.set_cons_zero, List.set_cons_succ]
        refine wpAnyH_ready (rs := [5]) (by kernel_rfl) (by simp) ?_
        refine AllReadyH.cons rfl (fun K hK => ?_) AllReadyH.nil
        refine Kd.R_append_step k59 (w0 := w1) w45.heap.size (by rfl) (.tmp 157) (.tmp 160) 26 59 (.agg #[.int .i64 0, .string ⟨#[]⟩, .string ⟨#[]⟩, .string ⟨#[]⟩]) 56 rfl Try.underlying26 info59 rfl (by decide) (by decide) (.slice A xs.length c) xs (⟨2, RX, ⟨#[]⟩, ⟨#[]⟩⟩ : S59) [.int .i64 2, .string RX, .string ⟨#[]⟩, .string ⟨#[]⟩] (fun _ => True) (fun _ => False) rfl rfl (k59_mkM _ _ _ (⟨2, RX, ⟨#[]⟩, ⟨#[]⟩⟩ : S59)) (fun _ hk => hk.elim) (fun _ _ => trivial) HR.out (Below.refl _ _) LW.out HSZ.out ?_
        intro v2 w5 hK3 hb3 hg3 hat3
        obtain ⟨XS, hXS⟩ : ∃ XS, XS = xs ++ [(⟨2, RX, ⟨#[]⟩, ⟨#[]⟩⟩ : S59)] := ⟨_, rfl⟩
        rw [← hXS] at hK3
        have HXS := Lib.hid hXS
        clear hXS
        obtain ⟨A2, c2, rfl⟩ := Kd.R_slice hK3
        have HK5 := Lib.hid (kn_belowB HK.out HLT.out HS0.out hb3)
        have LW5 := Lib.hid (Nat.le_trans LW.out hb3.size)
        have hN5 := kn_get HK5.out 0 rfl
        refine hK.out _ _ trivial (fun hS => ?_)
        clear hK K
        simp only [Act.put, List.setIfInBounds_toArray, List.set_cons_zero, List.set_cons_succ]
        refine take_first (i := 6) (some 162) (v := ?_) rfl rfl (by kernel_rfl) (by kernel_rfl) (by kernel_rfl) (fun _ _ _ h => h) (Or.inl ⟨by rfl, ?_⟩) hS ?_
        rotate_left
        · intro w' hSw; go_simp; try with_reducible rfl
        simp only [Act.put, List.setIfInBounds_toArray, List.set_cons_zero, List.set_cons_succ]
        refine wpAnyH_ready (rs := [7]) (by kernel_rfl) (by simp) ?_
        refine AllReadyH.cons rfl (fun K hK => ?_) AllReadyH.nil
        refine Rg.step_store rfl (by rfl) 26 (.tmp 162) (.tmp 161) rfl ⟨nl, 4, none⟩ rfl (.slice A2 XS.length c2) rfl (by have q := cell_heap hN5 4 (.slice A xs.length c) rfl; have q2 := free_heap hN5 4; go_simp; rfl) (hK.out _ _ trivial (fun hS => ?_))
        clear hK K
        simp only [Act.put, List.setIfInBounds_toArray, List.set_cons_zero, List.set_cons_succ]
        refine wpAnyH_done (by kernel_rfl) ?_ _
        have HK6 : Hid (Kn w [(nl, .cells #[.bool false, .slice none 0 0, .slice none 0 0, .slice (some ⟨h18, 0, none⟩) 1 1, .slice A2 XS.length c2] 28 (0, 0)), (h18, .cells #[.int .i64 1] 3 (0, 0)), (nx, .cells #[.bool false, .slice none 0 0, .slice (some ⟨g152, 0, none⟩) 1 1, .slice (some ⟨g151, 0, none⟩) 2 2, .slice (some ⟨g153, 0, none⟩) 1 1] 28 (0, 0)), (g153, .cells #[.int .i64 2, .string ⟨#[120]⟩, .string ⟨#[]⟩, .string ⟨#[]⟩] 59 (0, 0)), (g152, .cells #[.string ⟨#[109]⟩] 9 (0, 0)), (g151, .cells #[.int .i64 65536, .int .i64 4] 3 (0, 0)), (nh, .cells #[.bool false, .slice none 0 0, .slice (some ⟨tS, 0, none⟩) 8 8, .slice (some ⟨tI, 0, none⟩) 9 9, .slice none 0 0] 28 (0, 0)), (tI, .cells #[.int .i64 0, .int .i64 0, .int .i64 0, .int .i64 0, .int .i64 0, .int .i64 0, .int .i64 0, .int .i64 0, .int .i64 0] 3 (0, 0)), (tS, .cells #[.string ⟨#[]⟩, .string ⟨#[]⟩, .string ⟨#[]⟩, .string ⟨#[]⟩, .string ⟨#[]⟩, .string ⟨#[]⟩, .string ⟨#[]⟩, .string ⟨#[]⟩] 9 (0, 0)), (ng, .cells #[.bool false, .slice none 0 0, .slice (some ⟨h2, 0, none⟩) 2 2, .slice (some ⟨h1, 0, none⟩) 3 3, .slice none 0 0] 28 (0, 0)), (h2, .cells #[.string ⟨#[98]⟩, .string ⟨#[98]⟩] 9 (0, 0)), (h1, .cells #[.int .i64 1, .int .i64 2, .int .i64 3] 3 (0, 0)), (g101, .cells #[.string ⟨#[97]⟩, .string ⟨#[49]⟩] 75 (0, 0)), (h9, .cells #[.int .i64 1] 3 (0, 0)), (nf, .cells #[.bool false, .slice (some ⟨g101, 0, none⟩) 1 1, .slice (some ⟨g82, 0, none⟩) 1 1, .slice (some ⟨g81, 0, none⟩) 2 2, .slice (some ⟨g83, 0, none⟩) 1 1] 28 (0, 0)), (ne, .cells #[.bool true, .slice (some ⟨g71, 0, none⟩) 1 1, .slice none 0 0, .slice (some ⟨h9, 0, none⟩) 1 1, .slice none 0 0] 28 (0, 0)), (nd, .cells #[.bool false, .slice none 0 0, .slice (some ⟨g62, 0, none⟩) 1 1, .slice (some ⟨g61, 0, none⟩) 2 2, .slice (some ⟨g63, 0, none⟩) 1 1] 28 (0, 0)), (nc, .cells #[.bool false, .slice none 0 0, .slice (some ⟨g52, 0, none⟩) 1 1, .slice (some ⟨g51, 0, none⟩) 2 2, .slice (some ⟨g53, 0, none⟩) 1 1] 28 (0, 0)), (nb, .cells #[.bool false, .slice none 0 0, .slice none 0 0, .slice (some ⟨g41, 0, none⟩) 2 2, .slice (some ⟨g43, 0, none⟩) 1 1] 28 (0, 0)), (na, .cells #[.bool false, .slice none 0 0, .slice (some ⟨g32, 0, none⟩) 1 1, .slice none 0 0, .slice (some ⟨g33, 0, none⟩) 1 1] 28 (0, 0)), (g83, .cells #[.int .i64 2, .string ⟨#[120]⟩, .string ⟨#[]⟩, .string ⟨#[]⟩] 59 (0, 0)), (g82, .cells #[.string ⟨#[109]⟩] 9 (0, 0)), (g81, .cells #[.int .i64 3, .int .i64 4] 3 (0, 0)), (g71, .cells #[.string ⟨#[97]⟩, .string ⟨#[49]⟩] 75 (0, 0)), (g63, .cells #[.int .i64 5, .string ⟨#[120]⟩, .string ⟨#[]⟩, .string ⟨#[]⟩] 59 (0, 0)), (g62, .cells #[.string ⟨#[109]⟩] 9 (0, 0)), (g61, .cells #[.int .i64 3, .int .i64 4] 3 (0, 0)), (g53, .cells #[.int .i64 2, .string ⟨#[120]⟩, .string ⟨#[]⟩, .string ⟨#[]⟩] 59 (0, 0)), (g52, .cells #[.string ⟨#[109]⟩] 9 (0, 0)), (g51, .cells #[.int .i64 0, .int .i64 4] 3 (0, 0)), (g43, .cells #[.int .i64 2, .string ⟨#[120]⟩, .string ⟨#[]⟩, .string ⟨#[]⟩] 59 (0, 0)), (g42, .cells #[.string ⟨#[109]⟩] 9 (0, 0)), (g41, .cells #[.int .i64 3, .int .i64 4] 3 (0, 0)), (g33, .cells #[.int .i64 2, .string ⟨#[120]⟩, .string ⟨#[]⟩, .string ⟨#[]⟩] 59 (0, 0)), (g32, .cells #[.string ⟨#[109]⟩] 9 (0, 0)), (g31, .cells #[.int .i64 3, .int .i64 4] 3 (0, 0)), (g21, .cells #[.string ⟨#[97]⟩, .string ⟨#[49]⟩] 75 (0, 0)), (g11, .cells #[.string ⟨#[97]⟩, .string ⟨#[49]⟩] 75 (0, 0)), (nn, .cells #[.bool false, .slice none 0 0, .slice (some ⟨g02, 0, none⟩) 1 1, .slice (some ⟨g01, 0, none⟩) 2 2, .slice (some ⟨g03, 0, none⟩) 1 1] 28 (0, 0)), (g03, .cells #[.int .i64 2, .string ⟨#[120]⟩, .string ⟨#[]⟩, .string ⟨#[]⟩] 59 (0, 0)), (g02, .cells #[.string ⟨#[109]⟩] 9 (0, 0)), (g01, .cells #[.int .i64 3, .int .i64 4] 3 (0, 0))] _) := Lib.hid (kn_set HK5.out 0 rfl 4 (.slice A2 XS.length c2))
        have HR6 := Lib.hid (R_set1 hK3 (p := ⟨nl, 4, none⟩) (HLT.out nl (List.Mem.head _)) (.slice A2 XS.length c2))
        have LW6 : Hid (w45.heap.size ≤ (w5.setCell ⟨nl, 4, none⟩ (.slice A2 XS.length c2)).heap.size) := Lib.hid (Nat.le_trans LW5.out (Nat.le_of_eq (setCell_size _ _ _).symm))
        have hxl := Lib.hid (show XS = List.replicate (i + 1) (⟨2, RX, ⟨#[]⟩, ⟨#[]⟩⟩ : S59) by rw [HXS.out, HM.out, List.replicate_succ'])
        clear hK3 hb3 hg3 hat3 hN5 HK5 LW5 HK HR LW
        generalize w5.setCell ⟨nl, 4, none⟩ (.slice A2 XS.length c2) = w6 at *
        go_wp2
        go_roundg g
        case measure => exact Nat.lt_succ_self _
        case rel => exact ⟨i + 1, A2, c2, XS, by go_num, HIG.out, HK6, HR6, hxl, LW6⟩
      · have dummy : True := trivial
        refine step_fn (some 158) rfl (by rfl) 29 rep_enters #[.const (.string ⟨#[120]⟩), .const (.int .i64 108)] #[9, 3] rfl #[.string ⟨#[120]⟩, .int .i64 108] rfl (fun r w' => r = .string RX ∧ Below wr.drew.heap.size wr.drew w') ((strings_Repeat.calls ⟨#[120]⟩ 108 RX _ HREP.out).mono fun e w' h => ⟨_, h.1, rfl, h.2⟩) (fun r w1 hr => ?_)
        obtain ⟨rfl, hb⟩ := hr
        refine hK.out _ _ trivial (fun hS => ?_)
        clear hK K
        simp only [Act.put, List.setIfInBounds_toArray, List.set_cons_zero, List.set_cons_succ]
        replace HK := Lib.hid (kn_below (kn_drew HK.out) hb)
        replace HR := Lib.hid (Kd.R_below (Kd.R_drew HR.out) hb)
        replace LW := Lib.hid (Nat.le_trans LW.out hb.size)
        clear hb
        refine take_first (i := 3) (some 159) (v := ?_) rfl rfl (by kernel_rfl) (by kernel_rfl) (by kernel_rfl) (fun _ _ _ h => h) (Or.inl ⟨by rfl, ?_⟩) hS ?_
        rotate_left
        · intro w' hSw; go_simp; try with_reducible rfl
        simp only [Act.put, List.setIfInBounds_toArray, List.set_cons_zero, List.set_cons_succ]
        refine wpAnyH_ready (rs := [1, 4]) (by kernel_rfl) (by simp) ?_
        refine AllReadyH.cons rfl (fun K hK => ?_) (AllReadyH.cons rfl (fun K hK => ?_) AllReadyH.nil)
        · have dummy : True := trivial
          refine Rg.step_load (some 157) rfl (by rfl) 26 (.tmp 156) rfl ⟨nl, 4, none⟩ rfl (.slice A xs.length c) (by have q := cell_heap (kn_get HK.out 0 rfl) 4 (.slice A xs.length c) rfl; go_simp) (hK.out _ _ trivial (fun hS => ?_))
          clear hK K
          simp only [Act.put, List.setIfInBounds_toArray, List.set_cons_zero, List.set_cons_succ]
          refine wpAnyH_ready (rs := [4]) (by kernel_rfl) (by simp) ?_
          refine AllReadyH.cons rfl (fun K hK => ?_) AllReadyH.nil
          refine step_build4 (some 160) rfl (by rfl) 26 59 (.tmp 159) rfl Try.underlying26 info59 (.int .i64 2) (.string RX) (.string ⟨#[]⟩) (.string ⟨#[]⟩) rfl (hK.out _ _ trivial (fun hS => ?_))
          clear hK K
          simp only [Act.put, List.setIfInBounds_toArray, List.set_cons_zero, List.set_cons_succ]
          refine wpAnyH_ready (rs := [5]) (by kernel_rfl) (by simp) ?_
          refine AllReadyH.cons rfl (fun K hK => ?_) AllReadyH.nil
          refine Kd.R_append_step k59 (w0 := w1) w45.heap.size (by rfl) (.tmp 157) (.tmp 160) 26 59 (.agg #[.int .i64 0, .string ⟨#[]⟩, .string ⟨#[]⟩, .string ⟨#[]⟩]) 56 rfl Try.underlying26 info59 rfl (by decide) (by decide) (.slice A xs.length c) xs (⟨2, RX, ⟨#[]⟩, ⟨#[]⟩⟩ : S59) [.int .i64 2, .string RX, .string ⟨#[]⟩, .string ⟨#[]⟩] (fun _ => True) (fun _ => False) rfl rfl (k59_mkM _ _ _ (⟨2, RX, ⟨#[]⟩, ⟨#[]⟩⟩ : S59)) (fun _ hk => hk.elim) (fun _ _ => trivial) HR.out (Below.refl _ _) LW.out HSZ.out ?_
          intro v2 w5 hK3 hb3 hg3 hat3
          obtain ⟨XS, hXS⟩ : ∃ XS, XS = xs ++ [(⟨2, RX, ⟨#[]⟩, ⟨#[]⟩⟩ : S59)] := ⟨_, rfl⟩
          rw [← hXS] at hK3
          have HXS := Lib.hid hXS
          clear hXS
          obtain ⟨A2, c2, rfl⟩ := Kd.R_slice hK3
          have HK5 := Lib.hid (kn_belowB HK.out HLT.out HS0.out hb3)
          have LW5 := Lib.hid (Nat.le_trans LW.out hb3.size)
          have hN5 := kn_get HK5.out 0 rfl
          refine hK.out _ _ trivial (fun hS => ?_)
          clear hK K
          simp only [Act.put, List.setIfInBounds_toArray, List.set_cons_zero, List.set_cons_succ]
          refine take_first (i := 6) (some 162) (v := ?_) rfl rfl (by kernel_rfl) (by kernel_rfl) (by kernel_rfl) (fun _ _ _ h => h) (Or.inl ⟨by rfl, ?_⟩) hS ?_
          rotate_left
          · intro w' hSw; go_simp; try with_reducible rfl
          simp only [Act.put, List.setIfInBounds_toArray, List.set_cons_zero, List.set_cons_succ]
          refine wpAnyH_ready (rs := [7]) (by kernel_rfl) (by simp) ?_
          refine AllReadyH.cons rfl (fun K hK => ?_) AllReadyH.nil
          refine Rg.step_store rfl (by rfl) 26 (.tmp 162) (.tmp 161) rfl ⟨nl, 4, none⟩ rfl (.slice A2 XS.length c2) rfl (by have q := cell_heap hN5 4 (.slice A xs.length c) rfl; have q2 := free_heap hN5 4; go_simp; rfl) (hK.out _ _ trivial (fun hS => ?_))
          clear hK K
          simp only [Act.put, List.setIfInBounds_toArray, List.set_cons_zero, List.set_cons_succ]
          refine wpAnyH_done (by kernel_rfl) ?_ _
          have HK6 : Hid (Kn w [(nl, .cells #[.bool false, .slice none 0 0, .slice none 0 0, .slice (some ⟨h18, 0, none⟩) 1 1, .slice A2 XS.length c2] 28 (0, 0)), (h18, .cells #[.int .i64 1] 3 (0, 0)), (nx, .cells #[.bool false, .slice none 0 0, .slice (some ⟨g152, 0, none⟩) 1 1, .slice (some ⟨g151, 0, none⟩) 2 2, .slice (some ⟨g153, 0, none⟩) 1 1] 28 (0, 0)), (g153, .cells #[.int .i64 2, .string ⟨#[120]⟩, .string ⟨#[]⟩, .string ⟨#[]⟩] 59 (0, 0)), (g152, .cells #[.string ⟨#[109]⟩] 9 (0, 0)), (g151, .cells #[.int .i64 65536, .int .i64 4] 3 (0, 0)), (nh, .cells #[.bool false, .slice none 0 0, .slice (some ⟨tS, 0, none⟩) 8 8, .slice (some ⟨tI, 0, none⟩) 9 9, .slice none 0 0] 28 (0, 0)), (tI, .cells #[.int .i64 0, .int .i64 0, .int .i64 0, .int .i64 0, .int .i64 0, .int .i64 0, .int .i64 0, .int .i64 0, .int .i64 0] 3 (0, 0)), (tS, .cells #[.string ⟨#[]⟩, .string ⟨#[]⟩, .string ⟨#[]⟩, .string ⟨#[]⟩, .string ⟨#[]⟩, .string ⟨#[]⟩, .string ⟨#[]⟩, .string ⟨#[]⟩] 9 (0, 0)), (ng, .cells #[.bool false, .slice none 0 0, .slice (some ⟨h2, 0, none⟩) 2 2, .slice (some ⟨h1, 0, none⟩) 3 3, .slice none 0 0] 28 (0, 0)), (h2, .cells #[.string ⟨#[98]⟩, .string ⟨#[98]⟩] 9 (0, 0)), (h1, .cells #[.int .i64 1, .int .i64 2, .int .i64 3] 3 (0, 0)), (g101, .cells #[.string ⟨#[97]⟩, .string ⟨#[49]⟩] 75 (0, 0)), (h9, .cells #[.int .i64 1] 3 (0, 0)), (nf, .cells #[.bool false, .slice (some ⟨g101, 0, none⟩) 1 1, .slice (some ⟨g82, 0, none⟩) 1 1, .slice (some ⟨g81, 0, none⟩) 2 2, .slice (some ⟨g83, 0, none⟩) 1 1] 28 (0, 0)), (ne, .cells #[.bool true, .slice (some ⟨g71, 0, none⟩) 1 1, .slice none 0 0, .slice (some ⟨h9, 0, none⟩) 1 1, .slice none 0 0] 28 (0, 0)), (nd, .cells #[.bool false, .slice none 0 0, .slice (some ⟨g62, 0, none⟩) 1 1, .slice (some ⟨g61, 0, none⟩) 2 2, .slice (some ⟨g63, 0, none⟩) 1 1] 28 (0, 0)), (nc, .cells #[.bool false, .slice none 0 0, .slice (some ⟨g52, 0, none⟩) 1 1, .slice (some ⟨g51, 0, none⟩) 2 2, .slice (some ⟨g53, 0, none⟩) 1 1] 28 (0, 0)), (nb, .cells #[.bool false, .slice none 0 0, .slice none 0 0, .slice (some ⟨g41, 0, none⟩) 2 2, .slice (some ⟨g43, 0, none⟩) 1 1] 28 (0, 0)), (na, .cells #[.bool false, .slice none 0 0, .slice (some ⟨g32, 0, none⟩) 1 1, .slice none 0 0, .slice (some ⟨g33, 0, none⟩) 1 1] 28 (0, 0)), (g83, .cells #[.int .i64 2, .string ⟨#[120]⟩, .string ⟨#[]⟩, .string ⟨#[]⟩] 59 (0, 0)), (g82, .cells #[.string ⟨#[109]⟩] 9 (0, 0)), (g81, .cells #[.int .i64 3, .int .i64 4] 3 (0, 0)), (g71, .cells #[.string ⟨#[97]⟩, .string ⟨#[49]⟩] 75 (0, 0)), (g63, .cells #[.int .i64 5, .string ⟨#[120]⟩, .string ⟨#[]⟩, .string ⟨#[]⟩] 59 (0, 0)), (g62, .cells #[.string ⟨#[109]⟩] 9 (0, 0)), (g61, .cells #[.int .i64 3, .int .i64 4] 3 (0, 0)), (g53, .cells #[.int .i64 2, .string ⟨#[120]⟩, .string ⟨#[]⟩, .string ⟨#[]⟩] 59 (0, 0)), (g52, .cells #[.string ⟨#[109]⟩] 9 (0, 0)), (g51, .cells #[.int .i64 0, .int .i64 4] 3 (0, 0)), (g43, .cells #[.int .i64 2, .string ⟨#[120]⟩, .string ⟨#[]⟩, .string ⟨#[]⟩] 59 (0, 0)), (g42, .cells #[.string ⟨#[109]⟩] 9 (0, 0)), (g41, .cells #[.int .i64 3, .int .i64 4] 3 (0, 0)), (g33, .cells #[.int .i64 2, .string ⟨#[120]⟩, .string ⟨#[]⟩, .string ⟨#[]⟩] 59 (0, 0)), (g32, .cells #[.string ⟨#[109]⟩] 9 (0, 0)), (g31, .cells #[.int .i64 3, .int .i64 4] 3 (0, 0)), (g21, .cells #[.string ⟨#[97]⟩, .string ⟨#[49]⟩] 75 (0, 0)), (g11, .cells #[.string ⟨#[97]⟩, .string ⟨#[49]⟩] 75 (0, 0)), (nn, .cells #[.bool false, .slice none 0 0, .slice (some ⟨g02, 0, none⟩) 1 1, .slice (some ⟨g01, 0, none⟩) 2 2, .slice (some ⟨g03, 0, none⟩) 1 1] 28 (0, 0)), (g03, .cells #[.int .i64 2, .string ⟨#[120]⟩, .string ⟨#[]⟩, .string ⟨#[]⟩] 59 (0, 0)), (g02, .cells #[.string ⟨#[109]⟩] 9 (0, 0)), (g01, .cells #[.int .i64 3, .int .i64 4] 3 (0, 0))] _) := Lib.hid (kn_set HK5.out 0 rfl 4 (.slice A2 XS.length c2))
          have HR6 := Lib.hid (R_set1 hK3 (p := ⟨nl, 4, none⟩) (HLT.out nl (List.Mem.head _)) (.slice A2 XS.length c2))
          have LW6 : Hid (w45.heap.size ≤ (w5.setCell ⟨nl, 4, none⟩ (.slice A2 XS.length c2)).heap.size) := Lib.hid (Nat.le_trans LW5.out (Nat.le_of_eq (setCell_size _ _ _).symm))
          have hxl := Lib.hid (show XS = List.replicate (i + 1) (⟨2, RX, ⟨#[]⟩, ⟨#[]⟩⟩ : S59) by rw [HXS.out, HM.out, List.replicate_succ'])
          clear hK3 hb3 hg3 hat3 hN5 HK5 LW5 HK HR LW
          generalize w5.setCell ⟨nl, 4, none⟩ (.slice A2 XS.length c2) = w6 at *
          go_wp2
          go_roundg g
          case measure => exact Nat.lt_succ_self _
          case rel => exact ⟨i + 1, A2, c2, XS, by go_num, HIG.out, HK6, HR6, hxl, LW6⟩
        · have dummy : True := trivial
          refine step_build4 (some 160) rfl (by rfl) 26 59 (.tmp 159) rfl Try.underlying26 info59 (.int .i64 2) (.string RX) (.string ⟨#[]⟩) (.string ⟨#[]⟩) rfl (hK.out _ _ trivial (fun hS => ?_))
          clear hK K
          simp only [Act.put, List.setIfInBounds_toArray, List.set_cons_zero, List.set_cons_succ]
          refine wpAnyH_ready (rs := [1]) (by kernel_rfl) (by simp) ?_
          refine AllReadyH.cons rfl (fun K hK => ?_) AllReadyH.nil
          refine Rg.step_load (some 157) rfl (by rfl) 26 (.tmp 156) rfl ⟨nl, 4, none⟩ rfl (.slice A xs.length c) (by have q := cell_heap (kn_get (kn_alloc HK.out [.int .i64 2, .string RX, .string ⟨#[]⟩, .string ⟨#[]⟩].toArray 59) 1 rfl) 4 (.slice A xs.length c) rfl; go_simp) (hK.out _ _ trivial (fun hS => ?_))
          clear hK K
          simp only [Act.put, List.setIfInBounds_toArray, List.set_cons_zero, List.set_cons_succ]
          refine wpAnyH_ready (rs := [5]) (by kernel_rfl) (by simp) ?_
          refine AllReadyH.cons rfl (fun K hK => ?_) AllReadyH.nil
          refine Kd.R_append_step k59 (w0 := w1) w45.heap.size (by rfl) (.tmp 157) (.tmp 160) 26 59 (.agg #[.int .i64 0, .string ⟨#[]⟩, .string ⟨#[]⟩, .string ⟨#[]⟩]) 56 rfl Try.underlying26 info59 rfl (by decide) (by decide) (.slice A xs.length c) xs (⟨2, RX, ⟨#[]⟩, ⟨#[]⟩⟩ : S59) [.int .i64 2, .string RX, .string ⟨#[]⟩, .string ⟨#[]⟩] (fun _ => True) (fun _ => False) rfl rfl (k59_mkM _ _ _ (⟨2, RX, ⟨#[]⟩, ⟨#[]⟩⟩ : S59)) (fun _ hk => hk.elim) (fun _ _ => trivial) HR.out (Below.refl _ _) LW.out HSZ.out ?_
          intro v2 w5 hK3 hb3 hg3 hat3
          obtain ⟨XS, hXS⟩ : ∃ XS, XS = xs ++ [(⟨2, RX, ⟨#[]⟩, ⟨#[]⟩⟩ : S59)] := ⟨_, rfl⟩
          rw [← hXS] at hK3
          have HXS := Lib.hid hXS
          clear hXS
          obtain ⟨A2, c2, rfl⟩ := Kd.R_slice hK3
          have HK5 := Lib.hid (kn_belowB HK.out HLT.out HS0.out hb3)
          have LW5 := Lib.hid (Nat.le_trans LW.out hb3.size)
          have hN5 := kn_get HK5.out 0 rfl
          refine hK.out _ _ trivial (fun hS => ?_)
          clear hK K
          simp only [Act.put, List.setIfInBounds_toArray, List.set_cons_zero, List.set_cons_succ]
          refine take_first (i := 6) (some 162) (v := ?_) rfl rfl (by kernel_rfl) (by kernel_rfl) (by kernel_rfl) (fun _ _ _ h => h) (Or.inl ⟨by rfl, ?_⟩) hS ?_
          rotate_left
          · intro w' hSw; go_simp; try with_reducible rfl
          simp only [Act.put, List.setIfInBounds_toArray, List.set_cons_zero, List.set_cons_succ]
          refine wpAnyH_ready (rs := [7]) (by kernel_rfl) (by simp) ?_
          refine AllReadyH.cons rfl (fun K hK => ?_) AllReadyH.nil
          refine Rg.step_store rfl (by rfl) 26 (.tmp 162) (.tmp 161) rfl ⟨nl, 4, none⟩ rfl (.slice A2 XS.length c2) rfl (by have q := cell_heap hN5 4 (.slice A xs.length c) rfl; have q2 := free_heap hN5 4; go_simp; rfl) (hK.out _ _ trivial (fun hS => ?_))
          clear hK K
          simp only [Act.put, List.setIfInBounds_toArray, List.set_cons_zero, List.set_cons_succ]
          refine wpAnyH_done (by kernel_rfl) ?_ _
          have HK6 : Hid (Kn w [(nl, .cells #[.bool false, .slice none 0 0, .slice none 0 0, .slice (some ⟨h18, 0, none⟩) 1 1, .slice A2 XS.length c2] 28 (0, 0)), (h18, .cells #[.int .i64 1] 3 (0, 0)), (nx, .cells #[.bool false, .slice none 0 0, .slice (some ⟨g152, 0, none⟩) 1 1, .slice (some ⟨g151, 0, none⟩) 2 2, .slice (some ⟨g153, 0, none⟩) 1 1] 28 (0, 0)), (g153, .cells #[.int .i64 2, .string ⟨#[120]⟩, .string ⟨#[]⟩, .string ⟨#[]⟩] 59 (0, 0)), (g152, .cells #[.string ⟨#[109]⟩] 9 (0, 0)), (g151, .cells #[.int .i64 65536, .int .i64 4] 3 (0, 0)), (nh, .cells #[.bool false, .slice none 0 0, .slice (some ⟨tS, 0, none⟩) 8 8, .slice (some ⟨tI, 0, none⟩) 9 9, .slice none 0 0] 28 (0, 0)), (tI, .cells #[.int .i64 0, .int .i64 0, .int .i64 0, .int .i64 0, .int .i64 0, .int .i64 0, .int .i64 0, .int .i64 0, .int .i64 0] 3 (0, 0)), (tS, .cells #[.string ⟨#[]⟩, .string ⟨#[]⟩, .string ⟨#[]⟩, .string ⟨#[]⟩, .string ⟨#[]⟩, .string ⟨#[]⟩, .string ⟨#[]⟩, .string ⟨#[]⟩] 9 (0, 0)), (ng, .cells #[.bool false, .slice none 0 0, .slice (some ⟨h2, 0, none⟩) 2 2, .slice (some ⟨h1, 0, none⟩) 3 3, .slice none 0 0] 28 (0, 0)), (h2, .cells #[.string ⟨#[98]⟩, .string ⟨#[98]⟩] 9 (0, 0)), (h1, .cells #[.int .i64 1, .int .i64 2, .int .i64 3] 3 (0, 0)), (g101, .cells #[.string ⟨#[97]⟩, .string ⟨#[49]⟩] 75 (0, 0)), (h9, .cells #[.int .i64 1] 3 (0, 0)), (nf, .cells #[.bool false, .slice (some ⟨g101, 0, none⟩) 1 1, .slice (some ⟨g82, 0, none⟩) 1 1, .slice (some ⟨g81, 0, none⟩) 2 2, .slice (some ⟨g83, 0, none⟩) 1 1] 28 (0, 0)), (ne, .cells #[.bool true, .slice (some ⟨g71, 0, none⟩) 1 1, .slice none 0 0, .slice (some ⟨h9, 0, none⟩) 1 1, .slice none 0 0] 28 (0, 0)), (nd, .cells #[.bool false, .slice none 0 0, .slice (some ⟨g62, 0, none⟩) 1 1, .slice (some ⟨g61, 0, none⟩) 2 2, .slice (some ⟨g63, 0, none⟩) 1 1] 28 (0, 0)), (nc, .cells #[.bool false, .slice none 0 0, .slice (some ⟨g52, 0, none⟩) 1 1, .slice (some ⟨g51, 0, none⟩) 2 2, .slice (some ⟨g53, 0, none⟩) 1 1] 28 (0, 0)), (nb, .cells #[.bool false, .slice none 0 0, .slice none 0 0, .slice (some ⟨g41, 0, none⟩) 2 2, .slice (some ⟨g43, 0, none⟩) 1 1] 28 (0, 0)), (na, .cells #[.bool false, .slice none 0 0, .slice (some ⟨g32, 0, none⟩) 1 1, .slice none 0 0, .slice (some ⟨g33, 0, none⟩) 1 1] 28 (0, 0)), (g83, .cells #[.int .i64 2, .string ⟨#[120]⟩, .string ⟨#[]⟩, .string ⟨#[]⟩] 59 (0, 0)), (g82, .cells #[.string ⟨#[109]⟩] 9 (0, 0)), (g81, .cells #[.int .i64 3, .int .i64 4] 3 (0, 0)), (g71, .cells #[.string ⟨#[97]⟩, .string ⟨#[49]⟩] 75 (0, 0)), (g63, .cells #[.int .i64 5, .string ⟨#[120]⟩, .string ⟨#[]⟩, .string ⟨#[]⟩] 59 (0, 0)), (g62, .cells #[.string ⟨#[109]⟩] 9 (0, 0)), (g61, .cells #[.int .i64 3, .int .i64 4] 3 (0, 0)), (g53, .cells #[.int .i64 2, .string ⟨#[120]⟩, .string ⟨#[]⟩, .string ⟨#[]⟩] 59 (0, 0)), (g52, .cells #[.string ⟨#[109]⟩] 9 (0, 0)), (g51, .cells #[.int .i64 0, .int .i64 4] 3 (0, 0)), (g43, .cells #[.int .i64 2, .string ⟨#[120]⟩, .string ⟨#[]⟩, .string ⟨#[]⟩] 59 (0, 0)), (g42, .cells #[.string ⟨#[109]⟩] 9 (0, 0)), (g41, .cells #[.int .i64 3, .int .i64 4] 3 (0, 0)), (g33, .cells #[.int .i64 2, .string ⟨#[120]⟩, .string ⟨#[]⟩, .string ⟨#[]⟩] 59 (0, 0)), (g32, .cells #[.string ⟨#[109]⟩] 9 (0, 0)), (g31, .cells #[.int .i64 3, .int .i64 4] 3 (0, 0)), (g21, .cells #[.string ⟨#[97]⟩, .string ⟨#[49]⟩] 75 (0, 0)), (g11, .cells #[.string ⟨#[97]⟩, .string ⟨#[49]⟩] 75 (0, 0)), (nn, .cells #[.bool false, .slice none 0 0, .slice (some ⟨g02, 0, none⟩) 1 1, .slice (some ⟨g01, 0, none⟩) 2 2, .slice (some ⟨g03, 0, none⟩) 1 1] 28 (0, 0)), (g03, .cells #[.int .i64 2, .string ⟨#[120]⟩, .string ⟨#[]⟩, .string ⟨#[]⟩] 59 (0, 0)), (g02, .cells #[.string ⟨#[109]⟩] 9 (0, 0)), (g01, .cells #[.int .i64 3, .int .i64 4] 3 (0, 0))] _) := Lib.hid (kn_set HK5.out 0 rfl 4 (.slice A2 XS.length c2))
          have HR6 := Lib.hid (R_set1 hK3 (p := ⟨nl, 4, none⟩) (HLT.out nl (List.Mem.head _)) (.slice A2 XS.length c2))
          have LW6 : Hid (w45.heap.size ≤ (w5.setCell ⟨nl, 4, none⟩ (.slice A2 XS.length c2)).heap.size) := Lib.hid (Nat.le_trans LW5.out (Nat.le_of_eq (setCell_size _ _ _).symm))
          have hxl := Lib.hid (show XS = List.replicate (i + 1) (⟨2, RX, ⟨#[]⟩, ⟨#[]⟩⟩ : S59) by rw [HXS.out, HM.out, List.replicate_succ'])
          clear hK3 hb3 hg3 hat3 hN5 HK5 LW5 HK HR LW
          generalize w5.setCell ⟨nl, 4, none⟩ (.slice A2 XS.length c2) = w6 at *
          go_wp2
          go_roundg g
          case measure => exact Nat.lt_succ_self _
          case rel => exact ⟨i + 1, A2, c2, XS, by go_num, HIG.out, HK6, HR6, hxl, LW6⟩
end Go.Proofs.Ytnoimnijoklkdaa.Px
