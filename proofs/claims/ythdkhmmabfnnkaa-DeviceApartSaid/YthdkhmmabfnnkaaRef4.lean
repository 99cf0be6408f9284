/- The document's device: Crash. -/
import Derived.Test.YthdkhmmabfnnkaaRef3
import Derived.Outline
set_option linter.unusedVariables false
set_option linter.unusedSimpArgs false
namespace Go.Proofs.Ythdkhmmabfnnkaa
open Go.RowKit Go.Maps

namespace Rv
def refC (ks : List Int) (q : Nat) : Nat :=
  if ks = [] then 0 else
    let v := Int.tmod (ks.getD (q % ks.length) 0) 130
    min (if v < 0 then v + 130 else v).toNat 128
def crS (c : Nat) (x : Sec) : Sec := ⟨(Dv.full x.shows).take c ++ (Dv.full x.sure).drop c, [], false⟩
def crashF (c : Nat → Nat) : Nat → List Sec → List Sec
  | _, [] => []
  | q, x :: r => if x.waits then crS (c q) x :: crashF c (q + 1) r else x :: crashF c q r
theorem crashF_len (c : Nat → Nat) : ∀ (r : List Sec) (q : Nat), (crashF c q r).length = r.length
  | [], _ => rfl
  | x :: r, q => by unfold crashF; split <;> simp [crashF_len c r]
theorem crashF_snoc (c : Nat → Nat) (x : Sec) : ∀ (r : List Sec) (q : Nat), crashF c q (r ++ [x]) = crashF c q r ++ [if x.waits then crS (c (q + waitsN r)) x else x]
  | [], q => by simp only [List.nil_append, crashF, waitsN, List.filter_nil, List.length_nil, Nat.add_zero]; split <;> rfl
  | y :: r, q => by
    have ih := crashF_snoc c x r
    cases hy : y.waits with
    | true =>
      rw [List.cons_append, crashF, crashF, if_pos hy, if_pos hy, ih]
      have : waitsN (y :: r) = waitsN r + 1 := by simp [waitsN, List.filter_cons, hy]
      rw [this, show q + 1 + waitsN r = q + (waitsN r + 1) by omega]; rfl
    | false =>
      rw [List.cons_append, crashF, crashF, if_neg (by simp [hy]), if_neg (by simp [hy]), ih]
      have : waitsN (y :: r) = waitsN r := by simp [waitsN, List.filter_cons, hy]
      rw [this]; rfl
def crashAt (c : Nat → Nat) (r : List Sec) (k : Nat) : List Sec := crashF c 0 (r.take k) ++ r.drop k
theorem crashAt_len (c : Nat → Nat) (r : List Sec) (k : Nat) (hk : k ≤ r.length) : (crashAt c r k).length = r.length := by
  unfold crashAt; simp [crashF_len]; omega
theorem crashAt_cell (c : Nat → Nat) (r : List Sec) (k : Nat) (hk : k < r.length) : cell (crashAt c r k) k = cell r k := by
  unfold cell crashAt
  rw [List.getD_eq_getElem?_getD, List.getD_eq_getElem?_getD, List.getElem?_append_right (by simp [crashF_len]; omega)]
  simp [crashF_len, Nat.min_eq_left (Nat.le_of_lt hk)]
theorem crashAt_succ (c : Nat → Nat) (r : List Sec) (k : Nat) (hk : k < r.length) : crashAt c r (k + 1) = (crashAt c r k).set k (if (cell r k).waits then crS (c (waitsN (r.take k))) (cell r k) else cell r k) := by
  unfold crashAt
  rw [List.set_append_right _ _ (by simp [crashF_len]; omega)]
  rw [List.take_add_one, cell_at r k hk]
  have : r.drop k = cell r k :: r.drop (k + 1) := by
    rw [List.drop_eq_getElem_cons hk]
    congr 1
    have := cell_at r k hk
    rw [List.getElem?_eq_getElem hk] at this
    exact Option.some.inj this
  rw [this, Option.toList_some, crashF_snoc, Nat.zero_add]
  simp [crashF_len, Nat.min_eq_left (Nat.le_of_lt hk)]
theorem crashAt_all (c : Nat → Nat) (r : List Sec) (k : Nat) (hk : r.length ≤ k) : crashAt c r k = crashF c 0 r := by
  unfold crashAt; rw [List.take_of_length_le hk, List.drop_of_length_le hk, List.append_nil]
theorem crS_ok (c : Nat) (x : Sec) (hx : x.sure.length ≤ 128 ∧ x.shows.length ≤ 128) : (crS c x).sure.length ≤ 128 ∧ (crS c x).shows.length ≤ 128 := by
  have h1 := Dv.full_len x.shows hx.2
  have h2 := Dv.full_len x.sure hx.1
  refine ⟨?_, Nat.zero_le _⟩
  show ((Dv.full x.shows).take c ++ (Dv.full x.sure).drop c).length ≤ 128
  rw [List.length_append, List.length_take, List.length_drop]; omega
end Rv

theorem noref_Crash (v : Value) (w : World) : Calls Try.prog 35 #[.pointer none, v] w fun e w' => e = .returned (.tuple #[]) ∧ w = w' := by
  go_enter Try.func35, Try.ntmps35
  go_wp2
  refine bodyPost_ret (results_none rfl _ _ _) rfl ?_
  exact ⟨rfl, rfl⟩
theorem noref_Barrier (w : World) : Calls Try.prog 34 #[.pointer none] w fun e w' => e = .returned (.tuple #[]) ∧ w = w' := by
  go_enter Try.func34, Try.ntmps34
  go_wp2
  refine bodyPost_ret (results_none rfl _ _ _) rfl ?_
  exact ⟨rfl, rfl⟩

/-- A device, and the numbers that Crash is told. -/
structure Told (w : World) (ad : Option Addr) (ks : List Int) (g : Nat) : Prop where
  row : ∀ j, j < ks.length → ∃ a : Addr, ad = some a ∧ w.cell? (a.add j) = some (.int .i64 (ks.getD j 0))
  far : ∀ a : Addr, ad = some a → ks ≠ [] → a.block ≠ g
theorem block_add2 (a : Addr) (i : Nat) : (a.add i).block = a.block := by unfold Addr.add; split <;> rfl
theorem Told.upd {w w' : World} {ad : Option Addr} {ks : List Int} {g : Nat} (h : Told w ad ks g) (hu : Upd (fun i => i = g) w w') : Told w' ad ks g :=
  ⟨fun j hj => by obtain ⟨a, e, hc⟩ := h.row j hj; exact ⟨a, e, hu.cell hc (by rw [block_add2]; exact h.far a e (fun h => by rw [h] at hj; cases hj))⟩, h.far⟩

set_option maxHeartbeats 4000000 in
set_option maxRecDepth 100000 in
theorem ref_Crash {w : World} {b g cap : Nat} {r : List Rv.Sec} (h : RefAt w b g cap r) {ad : Option Addr} {cp : Nat} {ks : List Int} (hl : ks.length ≤ 9223372036854775807) (ht : Told w ad ks g) :
    Calls Try.prog 35 #[.pointer (some ⟨b, 0, none⟩), .slice ad ks.length cp] w fun e w' => e = .returned (.tuple #[]) ∧ RefAt w' b g cap (Rv.crashF (Rv.refC ks) 0 r) ∧ Upd (fun i => i = g) w w' := by
  have hl1 := h.ok.2.1
  have hne := h.ne
  obtain ⟨n, hn⟩ : ∃ n, n = r.length := ⟨_, rfl⟩
  rw [← hn] at hl1
  obtain ⟨m, hm⟩ : ∃ m, m = ks.length := ⟨_, rfl⟩
  rw [← hm] at hl ⊢
  have HM := Lib.hid hm
  have HN := Lib.hid hn
  have H := Lib.hid h
  have HT := Lib.hid ht
  clear h hn hm ht
  go_enter Try.func35, Try.ntmps35
  go_wp2
  go_loopw [4, 5] (fun c i wr => ∃ k : Nat, k ≤ n ∧ i = .int .i64 k ∧ c = .int .i64 (Rv.waitsN (r.take k) : Nat) ∧ RefAt wr b g cap (Rv.crashAt (Rv.refC ks) r k) ∧ Upd (fun i => i = g) w wr) (fun _ i _ => n - (intOf i).toNat)
  case atStart => exact ⟨0, Nat.zero_le _, rfl, rfl, H.out, Upd.refl _ _⟩
  case round =>
    obtain ⟨k, hk, rfl, rfl, hr, hu⟩ := hrel
    have hwl := Rv.waits_le r k
    have HR := Lib.hid hr
    have d0 := cell_heap hr.dev 0 (.slice (some ⟨g, 0, none⟩) _ cap) rfl
    rw [Rv.crashAt_len _ r k (by have := HN.out; omega), ← HN.out] at d0
    by_cases hlt : k < n
    · have hlt' : k < r.length := by have := HN.out; omega
      have hlt2 : k < (Rv.crashAt (Rv.refC ks) r k).length := by rw [Rv.crashAt_len _ r k (by omega)]; exact hlt'
      obtain ⟨c0, c1, c2⟩ := hr.cells k hlt2
      obtain ⟨o1, o2⟩ := Rv.cell_ok hr.ok k hlt2
      rw [Rv.crashAt_cell _ r k hlt'] at c0 c1 c2 o1 o2
      have hsucc := Rv.crashAt_succ (Rv.refC ks) r k hlt'
      have hws := Rv.waits_snoc r k hlt'
      have HX := Lib.hid (Rv.crashAt_cell (Rv.refC ks) r k hlt')
      generalize Rv.cell r k = x at c0 c1 c2 o1 o2 hsucc HX hws
      generalize Rv.waitsN (r.take k) = q at hsucc hws hwl ⊢
      obtain ⟨sa, sb, wq⟩ := x
      dsimp only at c0 c1 c2 o1 o2
      have HT2 := Lib.hid (HT.out.upd hu)
      have HU := Lib.hid hu
      clear hr hu
      cases wq
      · have hs2 : Rv.crashAt (Rv.refC ks) r (k + 1) = Rv.crashAt (Rv.refC ks) r k := by
          rw [hsucc]
          have := Rv.set_same (Rv.crashAt (Rv.refC ks) r k) k hlt2
          rw [HX.out] at this
          exact this
        have HS2 := Lib.hid hs2
        have HWS := Lib.hid hws
        clear hs2 hsucc hws
        go_wp2
        go_roundw
        case rel => exact ⟨k + 1, by omega, by go_num, by rw [HWS.out]; rfl, by rw [HS2.out]; exact HR.out, HU.out⟩
        case measure => simp [intOf]; omega
      · change Rv.waitsN (r.take (k + 1)) = q + 1 at hws
        change Rv.crashAt (Rv.refC ks) r (k + 1) = (Rv.crashAt (Rv.refC ks) r k).set k (Rv.crS (Rv.refC ks q) ⟨sa, sb, true⟩) at hsucc
        have HWS := Lib.hid hws
        obtain ⟨C, hC⟩ : ∃ C, C = Rv.refC ks q := ⟨_, rfl⟩
        have F1 := Lib.hid (fun w => ref_Full sa w o1)
        have F2 := Lib.hid (fun w => ref_Full sb w o2)
        have LA := Dv.full_len sa o1
        have LB := Dv.full_len sb o2
        have hcr : Rv.crS C ⟨sa, sb, true⟩ = ⟨(Dv.full sb).take C ++ (Dv.full sa).drop C, [], false⟩ := rfl
        rw [← hC, hcr] at hsucc
        have hco := Rv.crS_ok C ⟨sa, sb, true⟩ ⟨o1, o2⟩
        rw [hcr] at hco
        generalize Dv.full sa = fa at F1 LA hsucc hco hcr
        generalize Dv.full sb = fb at F2 LB hsucc hco hcr
        have HCO := Lib.hid hco
        have HSU := Lib.hid hsucc
        have LA1 : fa.toArray.size = 128 := by rw [List.size_toArray, LA]
        have LB1 : fb.toArray.size = 128 := by rw [List.size_toArray, LB]
        have hex : C ≤ 128 → (⟨fb.toArray⟩ : ByteArray).extract 0 C ++ (⟨fa.toArray⟩ : ByteArray).extract C 128 = ⟨(fb.take C ++ fa.drop C).toArray⟩ := by
          intro hc
          rw [ext_list, ext_list, append_list, List.drop_zero, Nat.sub_zero, List.take_of_length_le (l := fa.drop C) (by rw [List.length_drop]; omega)]
        have HEX := Lib.hid hex
        have z1 : C ≤ 128 → ((⟨fb.toArray⟩ : ByteArray).extract 0 C).size = C := fun hc => by rw [ext_list, size_list, List.length_take, List.length_drop]; omega
        have z2 : C ≤ 128 → ((⟨fa.toArray⟩ : ByteArray).extract C 128).size = 128 - C := fun hc => by rw [ext_list, size_list, List.length_take, List.length_drop]; omega
        have Z1 := Lib.hid z1
        have Z2 := Lib.hid z2
        have HEX0 := Lib.hid LA
        have HEX9 := Lib.hid LB
        clear hsucc hws hcr hco hex z1 z2 o1 o2 LA LB
        have hu0 := (Upd.refl (fun _ => False) wr).drew
        have EX0 : Hid ((⟨(fb.take 0 ++ fa.drop 0).toArray⟩ : ByteArray) = (⟨fa.toArray⟩ : ByteArray).extract 0 128) := by
          refine Lib.hid ?_; have := HEX0.out; rw [ext_list, List.take_zero, List.nil_append, List.drop_zero, Nat.sub_zero, List.take_of_length_le (by omega)]
        have EX9 : Hid ((⟨(fb.take 128 ++ fa.drop 128).toArray⟩ : ByteArray) = (⟨fb.toArray⟩ : ByteArray).extract 0 128) := by
          refine Lib.hid ?_; have := HEX0.out; rw [ext_list, List.drop_zero, Nat.sub_zero, List.drop_of_length_le (l := fa) (by omega), List.append_nil]
        by_cases hks : m = 0
        · have hk0 : ks = [] := List.eq_nil_of_length_eq_zero (by rw [← HM.out]; exact hks)
          have hC0 : C = 0 := by rw [hC]; unfold Rv.refC; rw [if_pos hk0]
          clear hC hk0
          subst hC0
          subst hks
          go_wp2
          go_region_held3 (fun w' => w'.cell? ⟨b, 0, none⟩ = some (.slice (some ⟨g, 0, none⟩) n cap) ∧ w'.cell? ⟨g, k * 3, none⟩ = some (.string ⟨sa.toArray⟩) ∧ w'.cell? ⟨g, k * 3 + 1, none⟩ = some (.string ⟨sb.toArray⟩) ∧ Upd (fun _ => False) wr w')
            (first
              | exact ⟨d0, c0, c1, hu0⟩
              | (have h := ‹_ ∧ _ ∧ _ ∧ Upd _ _ _›; exact ⟨u1.cell h.1 (fun f => f), u1.cell h.2.1 (fun f => f), u1.cell h.2.2.1 (fun f => f), h.2.2.2.trans u1 (fun _ _ f => f)⟩)
              | (have h := ‹_ ∧ _ ∧ _ ∧ Upd _ _ _›; exact ⟨u2.cell h.1 (fun f => f), u2.cell h.2.1 (fun f => f), u2.cell h.2.2.1 (fun f => f), h.2.2.2.trans u2 (fun _ _ f => f)⟩))
            (first
              | (go_at_call 50; (with_reducible refine (F1.out _).mono ?_); rintro e w1 ⟨rfl, u1⟩)
              | (go_at_call 50; (with_reducible refine (F2.out _).mono ?_); rintro e w2 ⟨rfl, u2⟩))
          have hS := ‹_ ∧ _ ∧ _ ∧ Upd _ _ _›
          obtain ⟨e0, e1, e2, hu1⟩ := hS
          obtain ⟨w2, hst, hr2, hu2⟩ := (HR.out.upd hu1.drew (fun f => f) (fun f => f)).store k hlt2 ⟨fb.take 0 ++ fa.drop 0, [], false⟩ HCO.out
          change (storeVar _ _ (.agg #[.string ⟨(fb.take 0 ++ fa.drop 0).toArray⟩, .string ⟨[].toArray⟩, .bool false])).run _ _ = _ at hst
          rw [EX0.out] at hst
          rw [← HSU.out] at hr2
          have HST := Lib.hid hst
          have z1 := Z1.out (by omega)
          have z2 := Z2.out (by omega)
          clear hst
          go_wp2
          go_still_tail 14, (by kernel_rfl)
          change wpList _ _ _ _ _ (World.drew _)
          refine wpList_store_by rfl 92 (.tmp 77) (.tmp 76) rfl ⟨g, k * 3, none⟩ rfl _ rfl HST.out ?_
          go_wp2
          go_roundw
          case rel => exact ⟨k + 1, by omega, by go_num, by rw [HWS.out]; go_num, hr2, (HU.out.trans hu1.drew (fun _ _ f => f.elim)).trans hu2 (fun _ _ f => f)⟩
          case measure => simp [intOf]; omega

        · have hk0 : ks ≠ [] := fun e => hks (by rw [HM.out, e]; rfl)
          have hm0 : 0 < m := by omega
          obtain ⟨p, hp⟩ : ∃ p, p = q % m := ⟨_, rfl⟩
          have hpm : p < m := by rw [hp]; exact Nat.mod_lt _ hm0
          obtain ⟨ga, rfl, hcell⟩ := HT2.out.row p (by have := HM.out; omega)
          obtain ⟨X, hX⟩ : ∃ X, X = ks.getD p 0 := ⟨_, rfl⟩
          obtain ⟨Y, hY⟩ : ∃ Y, Y = Int.tmod X 130 := ⟨_, rfl⟩
          have hY1 : -130 < Y := by rw [hY]; exact Int.lt_tmod_of_pos _ (by omega)
          have hY2 : Y < 130 := by rw [hY]; exact Int.tmod_lt_of_pos _ (by omega)
          have hcC : C = min (if Y < 0 then Y + 130 else Y).toNat 128 := by rw [hC]; unfold Rv.refC; rw [if_neg hk0, ← HM.out, ← hp, ← hX, ← hY]
          rw [← hX] at hcell
          have y1 : Int.tmod (q : Int) (m : Int) = (p : Int) := by rw [hp]; exact (Int.ofNat_tmod _ _).symm
          have y2 : Int.tmod X 130 = Y := hY.symm
          have z1 : (0 : Int) ≤ (p : Int) := by omega
          have z2 : (p : Int) < (m : Int) := by omega
          have z3 : (m : Int) ≠ 0 := by omega
          have hmp : (0 : Int) < (m : Int) := by omega
          clear hC hX hY hp hk0 hks
          by_cases hY0 : Y < 0
          · rw [if_pos hY0] at hcC
            by_cases hY9 : Y = -1
            · subst hY9
              have hC9 : C = 128 := by omega
              subst hC9
              clear hcC
              go_wp2
              go_region_held3 (fun w' => w'.cell? ⟨b, 0, none⟩ = some (.slice (some ⟨g, 0, none⟩) n cap) ∧ w'.cell? ⟨g, k * 3, none⟩ = some (.string ⟨sa.toArray⟩) ∧ w'.cell? ⟨g, k * 3 + 1, none⟩ = some (.string ⟨sb.toArray⟩) ∧ Upd (fun _ => False) wr w')
                (first
                  | exact ⟨d0, c0, c1, hu0⟩
                  | (have h := ‹_ ∧ _ ∧ _ ∧ Upd _ _ _›; exact ⟨u1.cell h.1 (fun f => f), u1.cell h.2.1 (fun f => f), u1.cell h.2.2.1 (fun f => f), h.2.2.2.trans u1 (fun _ _ f => f)⟩)
                  | (have h := ‹_ ∧ _ ∧ _ ∧ Upd _ _ _›; exact ⟨u2.cell h.1 (fun f => f), u2.cell h.2.1 (fun f => f), u2.cell h.2.2.1 (fun f => f), h.2.2.2.trans u2 (fun _ _ f => f)⟩))
                (first
                  | (go_at_call 50; (with_reducible refine (F1.out _).mono ?_); rintro e w1 ⟨rfl, u1⟩)
                  | (go_at_call 50; (with_reducible refine (F2.out _).mono ?_); rintro e w2 ⟨rfl, u2⟩))
              have hS := ‹_ ∧ _ ∧ _ ∧ Upd _ _ _›
              obtain ⟨e0, e1, e2, hu1⟩ := hS
              obtain ⟨w2, hst, hr2, hu2⟩ := (HR.out.upd hu1.drew (fun f => f) (fun f => f)).store k hlt2 ⟨fb.take 128 ++ fa.drop 128, [], false⟩ HCO.out
              change (storeVar _ _ (.agg #[.string ⟨(fb.take 128 ++ fa.drop 128).toArray⟩, .string ⟨[].toArray⟩, .bool false])).run _ _ = _ at hst
              rw [EX9.out] at hst
              rw [← HSU.out] at hr2
              have HST := Lib.hid hst
              have z1 := Z1.out (by omega)
              have z2 := Z2.out (by omega)
              clear hst
              go_wp2
              go_still_tail 14, (by kernel_rfl)
              change wpList _ _ _ _ _ (World.drew _)
              refine wpList_store_by rfl 92 (.tmp 77) (.tmp 76) rfl ⟨g, k * 3, none⟩ rfl _ rfl HST.out ?_
              go_wp2
              go_roundw
              case rel => exact ⟨k + 1, by omega, by go_num, by rw [HWS.out]; go_num, hr2, (HU.out.trans hu1.drew (fun _ _ f => f.elim)).trans hu2 (fun _ _ f => f)⟩
              case measure => simp [intOf]; omega

            · have hw : Y + 130 = (C : Int) := by omega
              have hw2 : IntKind.i64.wrap (Y + 130) = (C : Int) := by rw [hw]; exact IntWalk.i64_in _ (by omega)
              have hc8 : C ≤ 128 := by omega
              have HEXS := Lib.hid (HEX.out hc8).symm
              clear hcC hY9
              go_wp2
              go_region_held3 (fun w' => w'.cell? ⟨b, 0, none⟩ = some (.slice (some ⟨g, 0, none⟩) n cap) ∧ w'.cell? ⟨g, k * 3, none⟩ = some (.string ⟨sa.toArray⟩) ∧ w'.cell? ⟨g, k * 3 + 1, none⟩ = some (.string ⟨sb.toArray⟩) ∧ Upd (fun _ => False) wr w')
                (first
                  | exact ⟨d0, c0, c1, hu0⟩
                  | (have h := ‹_ ∧ _ ∧ _ ∧ Upd _ _ _›; exact ⟨u1.cell h.1 (fun f => f), u1.cell h.2.1 (fun f => f), u1.cell h.2.2.1 (fun f => f), h.2.2.2.trans u1 (fun _ _ f => f)⟩)
                  | (have h := ‹_ ∧ _ ∧ _ ∧ Upd _ _ _›; exact ⟨u2.cell h.1 (fun f => f), u2.cell h.2.1 (fun f => f), u2.cell h.2.2.1 (fun f => f), h.2.2.2.trans u2 (fun _ _ f => f)⟩))
                (first
                  | (go_at_call 50; (with_reducible refine (F1.out _).mono ?_); rintro e w1 ⟨rfl, u1⟩)
                  | (go_at_call 50; (with_reducible refine (F2.out _).mono ?_); rintro e w2 ⟨rfl, u2⟩))
              have hS := ‹_ ∧ _ ∧ _ ∧ Upd _ _ _›
              obtain ⟨e0, e1, e2, hu1⟩ := hS
              obtain ⟨w2, hst, hr2, hu2⟩ := (HR.out.upd hu1.drew (fun f => f) (fun f => f)).store k hlt2 ⟨fb.take C ++ fa.drop C, [], false⟩ HCO.out
              change (storeVar _ _ (.agg #[.string ⟨(fb.take C ++ fa.drop C).toArray⟩, .string ⟨[].toArray⟩, .bool false])).run _ _ = _ at hst
              rw [HEXS.out] at hst
              rw [← HSU.out] at hr2
              have HST := Lib.hid hst
              have z1 := Z1.out (by omega)
              have z2 := Z2.out (by omega)
              clear hst
              go_wp2
              go_still_tail 14, (by kernel_rfl)
              change wpList _ _ _ _ _ (World.drew _)
              refine wpList_store_by rfl 92 (.tmp 77) (.tmp 76) rfl ⟨g, k * 3, none⟩ rfl _ rfl HST.out ?_
              go_wp2
              go_roundw
              case rel => exact ⟨k + 1, by omega, by go_num, by rw [HWS.out]; go_num, hr2, (HU.out.trans hu1.drew (fun _ _ f => f.elim)).trans hu2 (fun _ _ f => f)⟩
              case measure => simp [intOf]; omega

          · rw [if_neg hY0] at hcC
            by_cases hY9 : Y = 129
            · subst hY9
              have hC9 : C = 128 := by omega
              subst hC9
              clear hcC
              go_wp2
              go_region_held3 (fun w' => w'.cell? ⟨b, 0, none⟩ = some (.slice (some ⟨g, 0, none⟩) n cap) ∧ w'.cell? ⟨g, k * 3, none⟩ = some (.string ⟨sa.toArray⟩) ∧ w'.cell? ⟨g, k * 3 + 1, none⟩ = some (.string ⟨sb.toArray⟩) ∧ Upd (fun _ => False) wr w')
                (first
                  | exact ⟨d0, c0, c1, hu0⟩
                  | (have h := ‹_ ∧ _ ∧ _ ∧ Upd _ _ _›; exact ⟨u1.cell h.1 (fun f => f), u1.cell h.2.1 (fun f => f), u1.cell h.2.2.1 (fun f => f), h.2.2.2.trans u1 (fun _ _ f => f)⟩)
                  | (have h := ‹_ ∧ _ ∧ _ ∧ Upd _ _ _›; exact ⟨u2.cell h.1 (fun f => f), u2.cell h.2.1 (fun f => f), u2.cell h.2.2.1 (fun f => f), h.2.2.2.trans u2 (fun _ _ f => f)⟩))
                (first
                  | (go_at_call 50; (with_reducible refine (F1.out _).mono ?_); rintro e w1 ⟨rfl, u1⟩)
                  | (go_at_call 50; (with_reducible refine (F2.out _).mono ?_); rintro e w2 ⟨rfl, u2⟩))
              have hS := ‹_ ∧ _ ∧ _ ∧ Upd _ _ _›
              obtain ⟨e0, e1, e2, hu1⟩ := hS
              obtain ⟨w2, hst, hr2, hu2⟩ := (HR.out.upd hu1.drew (fun f => f) (fun f => f)).store k hlt2 ⟨fb.take 128 ++ fa.drop 128, [], false⟩ HCO.out
              change (storeVar _ _ (.agg #[.string ⟨(fb.take 128 ++ fa.drop 128).toArray⟩, .string ⟨[].toArray⟩, .bool false])).run _ _ = _ at hst
              rw [EX9.out] at hst
              rw [← HSU.out] at hr2
              have HST := Lib.hid hst
              have z1 := Z1.out (by omega)
              have z2 := Z2.out (by omega)
              clear hst
              go_wp2
              go_still_tail 14, (by kernel_rfl)
              change wpList _ _ _ _ _ (World.drew _)
              refine wpList_store_by rfl 92 (.tmp 77) (.tmp 76) rfl ⟨g, k * 3, none⟩ rfl _ rfl HST.out ?_
              go_wp2
              go_roundw
              case rel => exact ⟨k + 1, by omega, by go_num, by rw [HWS.out]; go_num, hr2, (HU.out.trans hu1.drew (fun _ _ f => f.elim)).trans hu2 (fun _ _ f => f)⟩
              case measure => simp [intOf]; omega

            · have hw : Y = (C : Int) := by omega
              subst hw
              have hc8 : C ≤ 128 := by omega
              have HEXS := Lib.hid (HEX.out hc8).symm
              clear hcC hY9
              go_wp2
              go_region_held3 (fun w' => w'.cell? ⟨b, 0, none⟩ = some (.slice (some ⟨g, 0, none⟩) n cap) ∧ w'.cell? ⟨g, k * 3, none⟩ = some (.string ⟨sa.toArray⟩) ∧ w'.cell? ⟨g, k * 3 + 1, none⟩ = some (.string ⟨sb.toArray⟩) ∧ Upd (fun _ => False) wr w')
                (first
                  | exact ⟨d0, c0, c1, hu0⟩
                  | (have h := ‹_ ∧ _ ∧ _ ∧ Upd _ _ _›; exact ⟨u1.cell h.1 (fun f => f), u1.cell h.2.1 (fun f => f), u1.cell h.2.2.1 (fun f => f), h.2.2.2.trans u1 (fun _ _ f => f)⟩)
                  | (have h := ‹_ ∧ _ ∧ _ ∧ Upd _ _ _›; exact ⟨u2.cell h.1 (fun f => f), u2.cell h.2.1 (fun f => f), u2.cell h.2.2.1 (fun f => f), h.2.2.2.trans u2 (fun _ _ f => f)⟩))
                (first
                  | (go_at_call 50; (with_reducible refine (F1.out _).mono ?_); rintro e w1 ⟨rfl, u1⟩)
                  | (go_at_call 50; (with_reducible refine (F2.out _).mono ?_); rintro e w2 ⟨rfl, u2⟩))
              have hS := ‹_ ∧ _ ∧ _ ∧ Upd _ _ _›
              obtain ⟨e0, e1, e2, hu1⟩ := hS
              obtain ⟨w2, hst, hr2, hu2⟩ := (HR.out.upd hu1.drew (fun f => f) (fun f => f)).store k hlt2 ⟨fb.take C ++ fa.drop C, [], false⟩ HCO.out
              change (storeVar _ _ (.agg #[.string ⟨(fb.take C ++ fa.drop C).toArray⟩, .string ⟨[].toArray⟩, .bool false])).run _ _ = _ at hst
              rw [HEXS.out] at hst
              rw [← HSU.out] at hr2
              have HST := Lib.hid hst
              have z1 := Z1.out (by omega)
              have z2 := Z2.out (by omega)
              clear hst
              go_wp2
              go_still_tail 14, (by kernel_rfl)
              change wpList _ _ _ _ _ (World.drew _)
              refine wpList_store_by rfl 92 (.tmp 77) (.tmp 76) rfl ⟨g, k * 3, none⟩ rfl _ rfl HST.out ?_
              go_wp2
              go_roundw
              case rel => exact ⟨k + 1, by omega, by go_num, by rw [HWS.out]; go_num, hr2, (HU.out.trans hu1.drew (fun _ _ f => f.elim)).trans hu2 (fun _ _ f => f)⟩
              case measure => simp [intOf]; omega

    · have he : Rv.crashAt (Rv.refC ks) r k = Rv.crashF (Rv.refC ks) 0 r := Rv.crashAt_all _ r k (by have := HN.out; omega)
      have HE := Lib.hid he
      have HU := Lib.hid hu
      clear he hu hr
      go_wp2
      go_end0
      exact ⟨rfl, by rw [← HE.out]; exact HR.out, HU.out⟩

end Go.Proofs.Ythdkhmmabfnnkaa
