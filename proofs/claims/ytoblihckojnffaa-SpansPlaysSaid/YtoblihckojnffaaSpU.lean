/- The document's set: Take. -/
import Derived.Test.YtoblihckojnffaaSpT
set_option linter.unusedVariables false
set_option linter.unusedSimpArgs false
namespace Go.Proofs.Ytoblihckojnffaa
open Go.RowKit Go.Shelf
set_option maxRecDepth 100000

theorem RSet.upd {F : Nat → Prop} {w0 w w' : World} {r g cap : Nat} {bits : List Bool} (h : RSet w0 w r g cap bits) (hu : Upd F w w') (h1 : ¬ F r) (h2 : ¬ F g) : RSet w0 w' r g cap bits :=
  ⟨hu.heap h.set h1, h.row.upd hu h2, h.low, h.num, h.fit⟩
/-- a number is appended to an own row of ints -/
theorem push_int {w : World} {B : Nat} {v : Value} {m : Nat} {xs : List Int} (h : w.ownsRow B 3 1 v m (xs.map (Value.int .i64))) (hB : B ≤ w.heap.size) (hm : m ≤ 1000000) {S : Nat} (hS : S = w.heap.size) (x : Int) (ty : TypeId) :
    ∃ v' w', (Builtin.append_ #[44, 44] ty #[v, .slice (some ⟨S, 0, none⟩) 1 1]).run Try.prog (w.alloc (.cells #[.int .i64 x] 3)) = .ok v' w' ∧ w'.ownsRow B 3 1 v' (m + 1) ((xs ++ [x]).map (Value.int .i64)) ∧ Upd (fun i => v.ownBlock = some i) w w' ∧ ∃ g cap, v' = .slice (some ⟨g, 0, none⟩) (m + 1) cap := by
  subst hS
  obtain ⟨i0, hi, hq0, hq1, hq2⟩ := info_parts Try.infoI
  obtain ⟨v', w', hrun, hown, hgr, _, _⟩ := run_append_own_at (P := Try.prog) (w.alloc (.cells #[.int .i64 x] 3)) B 44 ty 3 i0 (.int .i64 0) 1 8 Try.underlying44 hi hq0 hq1 hq2 (by kernel_rfl) (by omega)
    v m (xs.map (Value.int .i64)) (h.alloc _) ⟨w.heap.size, 0, none⟩ 1 1 [.int .i64 x] rfl (cell_one_new _ _ _) (one_int _ _) (by unfold maxLen; omega) (by omega) (by have := (Upd.refl (fun _ => False) w).alloc (.cells #[.int .i64 x] 3); have := this.size; omega)
  refine ⟨v', w', hrun, by rw [List.map_append]; exact hown, (((Upd.refl _ _).alloc _).grown hgr (fun k e _ => e)), ?_⟩
  exact ownsRow_succ hown
theorem owns_upd {F : Nat → Prop} {w w' : World} {B : Nat} {e : TypeId} {size : Nat} {v : Value} {m : Nat} {xs : List Value} (h : w.ownsRow B e size v m xs) (hu : Upd F w w') (hn : ∀ x, v.ownBlock = some x → ¬ F x) : w'.ownsRow B e size v m xs := by
  obtain ⟨h1, h2⟩ := h
  refine ⟨h1, ?_⟩
  rcases h2 with h2 | ⟨g, cap, cur, rfl, hge, hg, h3⟩
  · exact .inl h2
  · exact .inr ⟨g, cap, cur, rfl, hge, hu.heap hg (hn g rfl), h3⟩
theorem takeB_at {bits : List Bool} {t : List Int} {m i : Nat} (h : ∀ j y, j < m → t[j]? = some y → y < (i : Int)) : (takeB bits t m)[i]? = bits[i]? := by
  rw [takeB_get]
  have : decide ((i : Int) ∉ t.take m) = true := decide_eq_true (fun hm => by
    obtain ⟨j, hj, e⟩ := List.getElem_of_mem hm
    rw [List.length_take] at hj
    rw [List.getElem_take] at e
    have := h j _ (by omega) (List.getElem?_eq_getElem (by omega))
    omega)
  rw [this]
  simp
theorem takeA_len {n : Int} {l : List Ex} (hok : SpOk n l) (k : Int) (hc : (takeA l k).2.1 = 0) : (((takeA l k).1.length : Nat) : Int) = k ∧ 1 ≤ k ∧ k ≤ cntE l := by
  revert hc
  have hfl := flat_len hok
  unfold takeA
  by_cases h1 : k < 1
  · rw [if_pos h1]; intro h; cases h
  rw [if_neg h1]
  by_cases h2 : cntE l < k
  · rw [if_pos h2]; intro h; cases h
  rw [if_neg h2]
  by_cases h3 : k = cntE l
  · rw [if_pos h3]; intro _; dsimp only; omega
  · rw [if_neg h3]; intro _; dsimp only; rw [List.length_take]; omega
theorem took_next {n : Int} {l : List Ex} {bits : List Bool} (hok : SpOk n l) (hs : Says n l bits) (k : Int) (hc : (takeA l k).2.1 = 0) (m i : Nat) (h1 : ∀ j y, j < m → (takeA l k).1[j]? = some y → y < (i : Int)) (h2 : ∀ y, (takeA l k).1[m]? = some y → (i : Int) ≤ y) (hm : m < (takeA l k).1.length) (hb : bits[i]? = some true) : (takeA l k).1[m]? = some (i : Int) := by
  obtain ⟨q1, q2, q3, q4⟩ := (takeA_spec hok k).2.2 hc
  generalize (takeA l k).1 = t at *
  have hy := List.getElem?_eq_getElem hm
  have h5 := h2 _ hy
  by_cases e : t[m] = (i : Int)
  · rw [hy, e]
  · exfalso
    have hil := (List.getElem?_eq_some_iff.1 hb).1
    have hh : hasB l (i : Int) = true := by have := hs.2 i hil; rw [hb] at this; exact (Option.some.inj this).symm
    have hmem := q4 t[m] (List.getElem_mem hm) i (by omega) hh
    obtain ⟨j, hj, e2⟩ := List.getElem_of_mem hmem
    by_cases hjm : j < m
    · have := h1 j _ hjm (List.getElem?_eq_getElem hj); omega
    · by_cases hjm2 : j = m
      · subst hjm2; exact e e2
      · have := List.pairwise_iff_getElem.1 q1 m j hm hj (by omega); omega
def TakeR (w0 w : World) (r g cap : Nat) (bits : List Bool) (a : List Int × Int × List Ex) (e : Ending) (w' : World) : Prop :=
  ∃ v row, e = .returned (.tuple #[v, .int .i64 a.2.1]) ∧ IntsAt w' v row a.1 ∧ (∀ x, row = some x → w.heap.size ≤ x) ∧ RSet w0 w' r g cap (takeB bits a.1 a.1.length) ∧ Upd (fun i => i = g) w w'
theorem takeB_nil (bits : List Bool) : takeB bits [] 0 = bits := takeB_none bits []
theorem ints_none (w : World) : IntsAt w (.slice none 0 0) none [] := ⟨none, 0, rfl, Nat.le_refl _, Nat.zero_le _, fun j x hj => by cases hj⟩
theorem ref_Take_low {w0 w : World} {r g cap : Nat} {bits : List Bool} (h : RSet w0 w r g cap bits) (k : Int) (hk : k < 1) : Calls Try.prog 26 #[.pointer (some ⟨r, 0, none⟩), .int .i64 k] w (TakeR w0 w r g cap bits ([], 2, [])) := by
  have HH := Lib.hid h
  clear h
  go_enter Try.func26, Try.ntmps26
  go_wp2
  go_ret2
  exact ⟨_, _, rfl, ints_none _, fun x e => (by cases e), by show RSet w0 _ r g cap (takeB bits [] 0); rw [takeB_nil]; exact HH.out, Upd.refl _ _⟩
theorem ref_Take_full {w0 w : World} {r g cap : Nat} {bits : List Bool} (h : RSet w0 w r g cap bits) (k : Int) (hk : 1 ≤ k) (hf : ((bits.count true : Nat) : Int) < k) : Calls Try.prog 26 #[.pointer (some ⟨r, 0, none⟩), .int .i64 k] w (TakeR w0 w r g cap bits ([], 7, [])) := by
  have HH := Lib.hid h
  have HC := Lib.hid (ref_Count h)
  have f1 : ¬ (k < 1) := by omega
  obtain ⟨C, hC⟩ : ∃ C, C = bits.count true := ⟨_, rfl⟩
  rw [← hC] at hf HC
  clear h hC
  go_enter Try.func26, Try.ntmps26
  go_wp2_with (fail)
  refine HC.out.mono ?_
  rintro e w1 ⟨rfl, rfl⟩
  go_wp2
  go_ret2
  exact ⟨_, _, rfl, ints_none _, fun x e => (by cases e), by show RSet w0 _ r g cap (takeB bits [] 0); rw [takeB_nil]; exact HH.out, Upd.refl _ _⟩
set_option maxHeartbeats 2000000 in
theorem ref_Take_ok {w0 w : World} {r g cap : Nat} {bits : List Bool} {n : Int} {l : List Ex} (h : RSet w0 w r g cap bits) (hok : SpOk n l) (hs : Says n l bits) (k : Int) (hc : (takeA l k).2.1 = 0) : Calls Try.prog 26 #[.pointer (some ⟨r, 0, none⟩), .int .i64 k] w (TakeR w0 w r g cap bits (takeA l k)) := by
  have HH := Lib.hid h
  have HC := Lib.hid (ref_Count h)
  obtain ⟨hl1, hl2, hl3⟩ := takeA_len hok k hc
  rw [← cnt_bits hok hs] at hl3
  have HT := Lib.hid (says_take hok hs k hc)
  have HNx := Lib.hid (fun m i => took_next hok hs k hc m i)
  have hn := h.num.2
  have c0 := cell_heap h.set 0 _ rfl
  generalize takeA l k = ta at *
  obtain ⟨t, c, l2⟩ := ta
  dsimp only at *
  subst hc
  obtain ⟨N, hN⟩ : ∃ N, N = bits.length := ⟨_, rfl⟩
  rw [← hN] at hn c0
  have HN := Lib.hid hN
  obtain ⟨L, hL⟩ : ∃ L, L = t.length := ⟨_, rfl⟩
  rw [← hL] at hl1
  have HL := Lib.hid hL
  obtain ⟨C, hC⟩ : ∃ C, C = bits.count true := ⟨_, rfl⟩
  rw [← hC] at HC hl3
  have f1 : ¬ (k < 1) := by omega
  have f2 : ¬ ((C : Int) < k) := by omega
  subst hl1
  have f3 : decide (C < L) = false := decide_eq_false (by omega)
  have f4 : decide ((C : Int) < (L : Int)) = false := decide_eq_false (by omega)
  have HL1 := Lib.hid hl2
  have hL4 : L ≤ 4096 := by have h1 := HT.out.short; have h2 := hs.1; rw [← hL] at h1; rw [← hN] at h2; omega
  clear h hs hok hC hL hN hl2 hl3
  go_enter Try.func26, Try.ntmps26
  go_wp2_with (fail)
  refine HC.out.mono ?_
  rintro e w1 ⟨rfl, rfl⟩
  go_wp2
  go_loopg [6, 7] N (fun p s6 s7 wr => ∃ i m : Nat, s7 = .int .i64 i ∧ i + p = N ∧ m ≤ L ∧ Hid (∀ j y, j < m → t[j]? = some y → y < (i : Int)) ∧ Hid (∀ y, t[m]? = some y → (i : Int) ≤ y) ∧ Hid (wr.ownsRow w.heap.size 3 1 s6 m ((t.take m).map (Value.int .i64))) ∧ Hid (RSet w0 wr r g cap (takeB bits t m)) ∧ Hid (Upd (fun i => i = g) w wr))
  case atStart => exact ⟨0, 0, rfl, by omega, Nat.zero_le _, Lib.hid (fun j y h => by omega), Lib.hid (fun y hy => by obtain ⟨T, rfl, _⟩ := HT.out.one 0 y hy; omega), Lib.hid (World.ownsRow_nil _ _ _ _), Lib.hid (by rw [takeB_none]; exact HH.out), Lib.hid (Upd.refl _ _)⟩
  case round =>
    obtain ⟨i, m, rfl, hip, hmL, hA, hB, hO, hS, hU⟩ := hrel
    have c1 := cell_heap hS.out.set 0 _ rfl
    rw [takeB_len, ← HN.out] at c1
    clear c0
    obtain ⟨ad, cp, rfl⟩ := own_form hO.out
    by_cases hmL2 : m = L
    · have hfin : TakeR w0 w r g cap bits (t, 0, l2) (.returned (.tuple #[.slice ad m cp, .int .i64 0])) wr := by
        have hO' := hO.out
        rw [hmL2, HL.out, List.take_length] at hO'
        obtain ⟨k1, k2⟩ := IntsAt.of_owns hO'
        refine ⟨_, _, rfl, ?_, k2, ?_, hU.out⟩
        · rw [hmL2, HL.out]; exact k1
        · have := hS.out; rw [hmL2, HL.out] at this; exact this
      have HF := Lib.hid hfin
      clear hfin
      have g1 : decide ((m : Int) < (L : Int)) = false := decide_eq_false (by omega)
      have g2 : ¬ ((m : Int) < (L : Int)) := by omega
      cases gk with
      | zero =>
        have hd : decide ((i : Int) < (N : Int)) = false := decide_eq_false (by omega)
        clear hmL2
        go_wp2
        go_ret2
        exact HF.out
      | succ p =>
        have hd : decide ((i : Int) < (N : Int)) = true := decide_eq_true (by omega)
        clear hmL2
        go_wp2
        go_ret2
        exact HF.out
    · have hmt : m < t.length := by have := HL.out; omega
      obtain ⟨Y, hY, hYb, hYt⟩ := HT.out.one m _ (List.getElem?_eq_getElem hmt)
      have hYe : t[m]? = some (Y : Int) := by rw [← hY]; exact List.getElem?_eq_getElem hmt
      have hiY := hB.out _ hYe
      have hYN : Y < N := by have := HN.out; omega
      have hat : (takeB bits t m)[i]? = bits[i]? := takeB_at hA.out
      have hil : i < bits.length := by have := HN.out; omega
      have hbi := List.getElem?_eq_getElem hil
      rw [hbi] at hat
      have cg := hS.out.row.at i _ hat
      have fg := hS.out.row.free i
      have g1 : decide ((m : Int) < (L : Int)) = true := decide_eq_true (by omega)
      have g2 : (m : Int) < (L : Int) := by omega
      have hd : decide ((i : Int) < (N : Int)) = true := decide_eq_true (by omega)
      have hiN : i < N := by omega
      have hw : IntKind.i64.wrap ((i : Int) + 1) = (i : Int) + 1 := IntWalk.i64_in _ (by omega)
      have HBI := Lib.hid hbi
      have HYE := Lib.hid hYe
      have HYT := Lib.hid hYt
      have HIL := Lib.hid hil
      clear hY hYe hYb hYt hat hbi hmt
      cases gk with
      | zero => omega
      | succ p =>
        generalize bits[i] = B at cg HBI
        clear hil
        cases B
        · have hne : (i : Int) + 1 ≤ (Y : Int) := by
            by_cases e : i = Y
            · exfalso
              subst e
              have h1 := HYT.out
              rw [takeB_at hA.out, HBI.out] at h1
              cases h1
            · omega
          have HE := Lib.hid hne
          clear hne hmL2 hiY
          go_wp2
          go_roundg p
          case measure => omega
          case rel => exact ⟨i + 1, m, by rw [Int.natCast_add]; rfl, by omega, hmL, Lib.hid (fun j y h1 h2 => by have := hA.out j y h1 h2; omega), Lib.hid (fun y hy => by rw [HYE.out] at hy; have := HE.out; have := Option.some.inj hy; omega), hO, hS, hU⟩
        · have hti := HNx.out m i hA.out hB.out (by have := HL.out; omega) HBI.out
          have hYi : Y = i := by have := HYE.out; rw [hti] at this; have := Option.some.inj this; omega
          obtain ⟨hS2, hU2⟩ := hS.out.put i false (by rw [takeB_len]; exact HIL.out)
          rw [takeB_step bits t m i hti HIL.out] at hS2
          have hgne : (Value.slice ad m cp).ownBlock ≠ some g := by
            obtain ⟨pad, hrow⟩ := hS.out.row
            exact owns_ne hO.out hrow (by decide)
          have hO2 : (wr.setCell ⟨g, i, none⟩ (.bool false)).ownsRow w.heap.size 3 1 (.slice ad m cp) m ((t.take m).map (Value.int .i64)) := owns_upd hO.out hU2 (fun x e f => by subst f; exact hgne e)
          have hB3 : w.heap.size ≤ (wr.setCell ⟨g, i, none⟩ (.bool false)).heap.size := by have := hU.out.size; have := hU2.size; omega
          have hpush := push_int hO2 hB3 (by omega) (S := wr.heap.size) (by simp) (i : Int)
          have HP := Lib.hid hpush
          have HS2 := Lib.hid hS2
          have HU2 := Lib.hid hU2
          have HTI := Lib.hid hti
          have HO2 := Lib.hid hO2
          clear hpush hS2 hU2 hti hO2 hB3 hgne hYi hmL2 hiY
          go_wp2_with (at_builtin; obtain ⟨v', w', hrun, hown', hup, g', cap', rfl⟩ := HP.out 44; refine wpList_append_by rfl (.tmp 42) (.tmp 44) 44 rfl _ _ _ rfl rfl hrun ?_)
          go_roundg p
          case measure => omega
          case rel => exact ⟨i + 1, m + 1, by rw [Int.natCast_add]; rfl, by omega, by omega, Lib.hid (fun j y h1 h2 => by
            by_cases e : j = m
            · subst e; rw [HTI.out] at h2; have := Option.some.inj h2; omega
            · have := hA.out j y (by omega) h2; omega), Lib.hid (fun y hy => by have := HT.out.up m _ y HTI.out hy; omega), Lib.hid (by rw [List.take_add_one, HTI.out]; exact hown'), Lib.hid (HS2.out.upd hup (fun e => owns_ne HO2.out HS2.out.set (by decide) e) (fun e => by obtain ⟨pad, hrow⟩ := HS2.out.row; exact owns_ne HO2.out hrow (by decide) e)), Lib.hid ((hU.out.trans HU2.out (fun _ _ f => f)).trans hup (fun x hx e => by
              exfalso
              rcases HO2.out.2 with ⟨e2, _⟩ | ⟨g2, cap2, cur2, e2, hge, _⟩
              · rw [e2] at e; cases e
              · rw [e2] at e; simp [Value.ownBlock] at e; omega))⟩

end Go.Proofs.Ytoblihckojnffaa
