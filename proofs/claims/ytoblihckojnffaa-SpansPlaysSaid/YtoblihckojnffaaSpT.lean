/- The document's set: a row of bools (rillbedref12): New, Has, Give, Fill, Count, Copy, Same. -/
import Derived.Test.YtoblihckojnffaaSpQ
set_option linter.unusedVariables false
set_option linter.unusedSimpArgs false
namespace Go.Proofs.Ytoblihckojnffaa
open Go.RowKit Go.Shelf
set_option maxRecDepth 100000

/-- A row of bools, and perhaps room behind it. -/
def RowB (w : World) (g : Nat) (bits : List Bool) : Prop := ∃ pad : List Value, w.heap[g]? = some (.cells ((bits.map Value.bool) ++ pad).toArray 4 (0, 0))
theorem RowB.at {w : World} {g : Nat} {bits : List Bool} (h : RowB w g bits) (k : Nat) (b : Bool) (hk : bits[k]? = some b) : w.cell? ⟨g, k, none⟩ = some (.bool b) := by
  obtain ⟨pad, h⟩ := h
  refine cell_heap h k _ ?_
  have hl := (List.getElem?_eq_some_iff.1 hk).1
  rw [List.getElem?_toArray, List.getElem?_append_left (by simpa using hl), List.getElem?_map, hk]
  rfl
theorem RowB.free {w : World} {g : Nat} {bits : List Bool} (h : RowB w g bits) (k : Nat) : w.frozen? ⟨g, k, none⟩ = false := by
  obtain ⟨pad, h⟩ := h
  exact free_heap h k
theorem RowB.upd {F : Nat → Prop} {w w' : World} {g : Nat} {bits : List Bool} (h : RowB w g bits) (hu : Upd F w w') (hn : ¬ F g) : RowB w' g bits := by
  obtain ⟨pad, h⟩ := h
  exact ⟨pad, hu.heap h hn⟩
theorem RowB.put {w : World} {g : Nat} {bits : List Bool} (h : RowB w g bits) (k : Nat) (c : Bool) (hk : k < bits.length) : RowB (w.setCell ⟨g, k, none⟩ (.bool c)) g (bits.set k c) := by
  obtain ⟨pad, h⟩ := h
  refine ⟨pad, ?_⟩
  rw [heap_setCell_eq h]
  congr 2
  rw [List.setIfInBounds_toArray, List.set_append_left _ _ (by simpa using hk)]
  simp
/-- The document's set. -/
structure RSet (w0 w : World) (r g cap : Nat) (bits : List Bool) : Prop where
  set : w.heap[r]? = some (.cells #[.slice (some ⟨g, 0, none⟩) bits.length cap] 55 (0, 0))
  row : RowB w g bits
  low : w0.heap.size ≤ r ∧ w0.heap.size ≤ g
  num : 1 ≤ bits.length ∧ bits.length ≤ 4096
  fit : bits.length ≤ cap ∧ cap ≤ maxLen
theorem RSet.ne {w0 w : World} {r g cap : Nat} {bits : List Bool} (h : RSet w0 w r g cap bits) : r ≠ g := by
  intro e
  obtain ⟨pad, hb⟩ := h.row
  subst e
  rw [h.set] at hb
  simp only [Option.some.injEq, Obj.cells.injEq] at hb
  exact absurd hb.2.1 (by decide)
theorem RSet.later {w0 w w' : World} {r g cap : Nat} {bits : List Bool} (h : RSet w0 w r g cap bits) (hu : Upd (fun _ => False) w w') : RSet w0 w' r g cap bits :=
  ⟨hu.heap h.set (fun f => f), h.row.upd hu (fun f => f), h.low, h.num, h.fit⟩
theorem RSet.keeps {w0 w w' : World} {r g cap : Nat} {bits : List Bool} (h : RSet w0 w r g cap bits) (hk : Keeps w w') : RSet w0 w' r g cap bits :=
  ⟨hk _ _ _ _ (by decide) (by decide) h.set, by obtain ⟨pad, hb⟩ := h.row; exact ⟨pad, hk _ _ _ _ (by decide) (by decide) hb⟩, h.low, h.num, h.fit⟩
theorem RSet.put {w0 w : World} {r g cap : Nat} {bits : List Bool} (h : RSet w0 w r g cap bits) (k : Nat) (c : Bool) (hk : k < bits.length) : RSet w0 (w.setCell ⟨g, k, none⟩ (.bool c)) r g cap (bits.set k c) ∧ Upd (fun i => i = g) w (w.setCell ⟨g, k, none⟩ (.bool c)) := by
  have hu : Upd (fun i => i = g) w (w.setCell ⟨g, k, none⟩ (.bool c)) := (Upd.refl (fun i => i = g) w).setCell (p := ⟨g, k, none⟩) (fun _ => rfl) _
  exact ⟨⟨by rw [List.length_set]; exact hu.heap h.set h.ne, h.row.put k c hk, h.low, by rw [List.length_set]; exact h.num, by rw [List.length_set]; exact h.fit⟩, hu⟩
/-- what the document's set does, a set of the program's outlives -/
theorem New0.beside {w0 w w' : World} {b g : Nat} {n : Int} {l : List Ex} {bits : List Bool} (h : New0 w0 w b n l) (hr : RowB w g bits) (hg : w0.heap.size ≤ g) (hu : Upd (fun i => i = g) w w') : New0 w0 w' b n l := by
  obtain ⟨v, row, h1, h2⟩ := h.at_
  obtain ⟨pad, hr⟩ := hr
  have hgb : b ≠ g := by
    intro e
    subst e
    have := h1.set
    rw [hr] at this
    simp at this
  exact ⟨h.upd.trans hu (fun i hi e => by omega), h.low, v, row, h1.upd hu hgb (fun r e f => by subst f; exact h1.row.ne hr (by decide) e), h2⟩
/-! ### New -/
theorem ref_New_no (w : World) (n : Int) (h : n < 1 ∨ 4096 < n) : Calls Try.prog 7 #[.int .i64 n] w fun e w' => e = .returned (.pointer none) ∧ w = w' := by
  by_cases h1 : n < 1
  · clear h
    go_enter Try.func7, Try.ntmps7
    go_wp2
    go_ret
    exact ⟨rfl, rfl⟩
  · have h2 : 4096 < n := by omega
    clear h
    go_enter Try.func7, Try.ntmps7
    go_wp2
    go_ret
    exact ⟨rfl, rfl⟩
theorem ref_New (w : World) (n : Nat) (h : 1 ≤ n ∧ n ≤ 4096) : Calls Try.prog 7 #[.int .i64 (n : Int)] w fun e w' => ∃ r g, e = .returned (.pointer (some ⟨r, 0, none⟩)) ∧ RSet w w' r g n (List.replicate n false) ∧ Upd (fun _ => False) w w' := by
  obtain ⟨h1, h2⟩ := h
  have hmk := make_bools n (by omega)
  obtain ⟨Z, hZ⟩ : ∃ Z, Z = ((List.replicate n false).map Value.bool).toArray := ⟨_, rfl⟩
  rw [← hZ] at hmk
  have HZ := Lib.hid hZ
  have f1 : ¬ ((n : Int) < 1) := by omega
  have f2 : ¬ (4096 < (n : Int)) := by omega
  clear hZ
  go_enter Try.func7, Try.ntmps7
  go_wp2
  go_ret
  have u1 : Upd (fun _ => False) w (w.alloc (.cells Z 4)) := (Upd.refl _ _).alloc _
  have u2 : Upd (fun _ => False) (w.alloc (.cells Z 4)) ((w.alloc (.cells Z 4)).alloc (.cells #[.slice (some ⟨w.heap.size, 0, none⟩) n n] 55)) := (Upd.refl _ _).alloc _
  refine ⟨_, rfl, ⟨w.heap.size, ⟨?_, ?_, ?_, ?_, ?_⟩⟩, u1.trans u2 (fun _ _ f => f)⟩
  · rw [List.length_replicate]
    exact heap_alloc_new2 _ _ _
  · exact ⟨[], by rw [List.append_nil, ← HZ.out]; exact u2.heap (heap_alloc_new _ _) (fun f => f)⟩
  · exact ⟨by omega, Nat.le_refl _⟩
  · rw [List.length_replicate]; exact ⟨h1, h2⟩
  · rw [List.length_replicate]; exact ⟨Nat.le_refl _, by unfold maxLen; omega⟩
/-! ### Has -/
def hasR (bits : List Bool) (a : Int) : Bool := decide (0 ≤ a) && decide (a < bits.length) && bits.getD a.toNat false
theorem ref_Has {w0 w : World} {r g cap : Nat} {bits : List Bool} (h : RSet w0 w r g cap bits) (a : Int) : Calls Try.prog 11 #[.pointer (some ⟨r, 0, none⟩), .int .i64 a] w fun e w' => e = .returned (.bool (hasR bits a)) ∧ w = w' := by
  have c0 := cell_heap h.set 0 _ rfl
  have hn := h.num.2
  by_cases h1 : a < 0
  · have hR : hasR bits a = false := by unfold hasR; rw [decide_eq_false (by omega)]; rfl
    rw [hR]
    clear h hR
    have f1 : decide ((0 : Int) ≤ a) = false := decide_eq_false (by omega)
    go_enter Try.func11, Try.ntmps11
    go_wp2
    go_ret
    exact ⟨rfl, rfl⟩
  obtain ⟨A, rfl⟩ := Int.eq_ofNat_of_zero_le (show 0 ≤ a by omega)
  have f0 : decide ((0 : Int) ≤ (A : Int)) = true := decide_eq_true (by omega)
  by_cases h2 : A < bits.length
  · have hc := h.row.at A _ (List.getElem?_eq_getElem h2)
    have hR : hasR bits A = bits[A] := by
      unfold hasR
      rw [f0, decide_eq_true (by omega), Int.toNat_natCast, List.getD_eq_getElem?_getD, List.getElem?_eq_getElem h2]
      rfl
    rw [hR]
    generalize bits[A] = B at hc
    clear h hR
    obtain ⟨N, hN⟩ : ∃ N, N = bits.length := ⟨_, rfl⟩
    rw [← hN] at c0 h2 hn
    clear hN
    have f2 : decide ((A : Int) < (N : Int)) = true := decide_eq_true (by omega)
    go_enter Try.func11, Try.ntmps11
    go_wp2
    go_ret
    exact ⟨rfl, rfl⟩
  · have hR : hasR bits A = false := by
      unfold hasR
      rw [decide_eq_false (show ¬ ((A : Int) < (bits.length : Int)) by omega), Bool.and_false]; rfl
    rw [hR]
    clear h hR
    obtain ⟨N, hN⟩ : ∃ N, N = bits.length := ⟨_, rfl⟩
    rw [← hN] at c0 h2 hn
    clear hN
    have f2 : decide ((A : Int) < (N : Int)) = false := decide_eq_false (by omega)
    go_enter Try.func11, Try.ntmps11
    go_wp2
    go_ret
    exact ⟨rfl, rfl⟩
/-! ### Give -/
theorem ref_Give_out {w0 w : World} {r g cap : Nat} {bits : List Bool} (h : RSet w0 w r g cap bits) (a : Int) (ha : a < 0 ∨ (bits.length : Int) ≤ a) : Calls Try.prog 24 #[.pointer (some ⟨r, 0, none⟩), .int .i64 a] w fun e w' => e = .returned (.int .i64 2) ∧ w = w' := by
  have c0 := cell_heap h.set 0 _ rfl
  have hn := h.num.2
  obtain ⟨N, hN⟩ : ∃ N, N = bits.length := ⟨_, rfl⟩
  rw [← hN] at c0 ha hn
  clear hN h
  by_cases h1 : a < 0
  · clear ha
    go_enter Try.func24, Try.ntmps24
    go_wp2
    go_ret
    exact ⟨rfl, rfl⟩
  · have h2 : (N : Int) ≤ a := by omega
    clear ha
    go_enter Try.func24, Try.ntmps24
    go_wp2
    go_ret
    exact ⟨rfl, rfl⟩
theorem ref_Give_in {w0 w : World} {r g cap : Nat} {bits : List Bool} (h : RSet w0 w r g cap bits) (A : Nat) (c : Bool) (hA : bits[A]? = some c) : Calls Try.prog 24 #[.pointer (some ⟨r, 0, none⟩), .int .i64 (A : Int)] w fun e w' => e = .returned (.int .i64 (if c = true then 6 else 0)) ∧ RSet w0 w' r g cap (if c = true then bits else bits.set A true) ∧ Upd (fun i => i = g) w w' := by
  have c0 := cell_heap h.set 0 _ rfl
  have hn := h.num.2
  have hAl := (List.getElem?_eq_some_iff.1 hA).1
  have cg := h.row.at A c hA
  have fg := h.row.free A
  have HH := Lib.hid h
  have HP := Lib.hid (h.put A true hAl)
  obtain ⟨N, hN⟩ : ∃ N, N = bits.length := ⟨_, rfl⟩
  rw [← hN] at c0 hAl hn
  have f1 : ¬ ((A : Int) < 0) := by omega
  have f2 : ¬ ((N : Int) ≤ (A : Int)) := by omega
  clear hN h hA
  cases c
  · rw [if_neg (by decide), if_neg (by decide)]
    go_enter Try.func24, Try.ntmps24
    go_wp2
    go_ret
    exact ⟨rfl, HP.out.1, HP.out.2⟩
  · rw [if_pos rfl, if_pos rfl]
    go_enter Try.func24, Try.ntmps24
    go_wp2
    go_ret
    exact ⟨rfl, HH.out, Upd.refl _ _⟩
/-! ### Fill -/
theorem ref_Fill_out {w0 w : World} {r g cap : Nat} {bits : List Bool} (h : RSet w0 w r g cap bits) (f t : Int) (ha : f < 0 ∨ t < f ∨ (bits.length : Int) < t) : Calls Try.prog 25 #[.pointer (some ⟨r, 0, none⟩), .int .i64 f, .int .i64 t] w fun e w' => e = .returned (.int .i64 2) ∧ w = w' := by
  have c0 := cell_heap h.set 0 _ rfl
  have hn := h.num.2
  obtain ⟨N, hN⟩ : ∃ N, N = bits.length := ⟨_, rfl⟩
  rw [← hN] at c0 ha hn
  clear hN h
  by_cases h1 : f < 0
  · clear ha
    go_enter Try.func25, Try.ntmps25
    go_wp2
    go_ret
    exact ⟨rfl, rfl⟩
  by_cases h2 : t < f
  · clear ha
    go_enter Try.func25, Try.ntmps25
    go_wp2
    go_ret
    exact ⟨rfl, rfl⟩
  · have h3 : (N : Int) < t := by omega
    clear ha
    go_enter Try.func25, Try.ntmps25
    go_wp2
    go_ret
    exact ⟨rfl, rfl⟩
theorem ref_Fill_there {w0 w : World} {r g cap : Nat} {bits : List Bool} (h : RSet w0 w r g cap bits) (F T k : Nat) (hFT : F ≤ T) (hT : T ≤ bits.length) (hk : F ≤ k ∧ k < T) (hkb : bits[k]? = some true) : Calls Try.prog 25 #[.pointer (some ⟨r, 0, none⟩), .int .i64 (F : Int), .int .i64 (T : Int)] w fun e w' => e = .returned (.int .i64 6) ∧ w = w' := by
  have c0 := cell_heap h.set 0 _ rfl
  have hn := h.num.2
  have HH := Lib.hid h
  obtain ⟨N, hN⟩ : ∃ N, N = bits.length := ⟨_, rfl⟩
  rw [← hN] at c0 hT hn
  have f1 : ¬ ((F : Int) < 0) := by omega
  have f2 : ¬ ((T : Int) < (F : Int)) := by omega
  have f3 : ¬ ((N : Int) < (T : Int)) := by omega
  have HN := Lib.hid hN
  have HK := Lib.hid hk
  have HKB := Lib.hid hkb
  clear hN h hk hkb
  go_enter Try.func25, Try.ntmps25
  go_wp2
  go_loopg [7] (T - F) (fun p s7 wr => ∃ K : Nat, s7 = .int .i64 K ∧ K + p = T ∧ Hid (K ≤ k) ∧ wr = w)
  case atStart => exact ⟨F, rfl, by omega, Lib.hid HK.out.1, rfl⟩
  case round =>
    obtain ⟨K, rfl, hKp, hKk, rfl⟩ := hrel
    have hKl : K < bits.length := by have := HK.out; have := hKk.out; have := HN.out; omega
    have hlt : K < T := by have := HK.out; have := hKk.out; omega
    have hKN : K < N := by omega
    have hw : IntKind.i64.wrap ((K : Int) + 1) = (K : Int) + 1 := IntWalk.i64_in _ (by omega)
    have hKe := List.getElem?_eq_getElem hKl
    have cg := HH.out.row.at K _ hKe
    have HKE := Lib.hid hKe
    have hd : decide ((K : Int) < (T : Int)) = true := decide_eq_true (by omega)
    clear hKe
    generalize bits[K] = c at cg HKE
    clear hKl
    cases gk with
    | zero => omega
    | succ p =>
      cases c
      · go_wp2
        go_roundg p
        case measure => omega
        case rel => exact ⟨K + 1, by rw [Int.natCast_add]; rfl, by omega, Lib.hid (by
          have h1 := hKk.out
          have : K ≠ k := by rintro rfl; have h2 := HKE.out; rw [HKB.out] at h2; cases h2
          omega), rfl⟩
      · go_wp2
        go_ret
        exact ⟨rfl, rfl⟩
theorem ref_Fill_in {w0 w : World} {r g cap : Nat} {bits : List Bool} (h : RSet w0 w r g cap bits) (F T : Nat) (hFT : F ≤ T) (hT : T ≤ bits.length) (hkb : ∀ k, F ≤ k → k < T → bits[k]? = some false) : Calls Try.prog 25 #[.pointer (some ⟨r, 0, none⟩), .int .i64 (F : Int), .int .i64 (T : Int)] w fun e w' => e = .returned (.int .i64 0) ∧ RSet w0 w' r g cap (fillB bits F T) ∧ Upd (fun i => i = g) w w' := by
  have c0 := cell_heap h.set 0 _ rfl
  have hn := h.num.2
  have HH := Lib.hid h
  obtain ⟨N, hN⟩ : ∃ N, N = bits.length := ⟨_, rfl⟩
  rw [← hN] at c0 hT hn
  have f1 : ¬ ((F : Int) < 0) := by omega
  have f2 : ¬ ((T : Int) < (F : Int)) := by omega
  have f3 : ¬ ((N : Int) < (T : Int)) := by omega
  have HN := Lib.hid hN
  have HKB := Lib.hid hkb
  have HC := Lib.hid c0
  clear hN h hkb
  go_enter Try.func25, Try.ntmps25
  go_wp2
  go_loopg [7] (T - F) (fun p s7 wr => ∃ K : Nat, s7 = .int .i64 K ∧ K + p = T ∧ F ≤ K ∧ wr = w)
  case atStart => exact ⟨F, rfl, by omega, Nat.le_refl _, rfl⟩
  case round =>
    obtain ⟨K, rfl, hKp, hFK, rfl⟩ := hrel
    cases gk with
    | zero =>
      obtain rfl : K = T := by omega
      have hd : decide ((K : Int) < (K : Int)) = false := decide_eq_false (by omega)
      clear hd
      go_wp2
      go_loopg [8] (K - F) (fun p s8 w1 => ∃ J : Nat, s8 = .int .i64 J ∧ J + p = K ∧ F ≤ J ∧ Hid (RSet w0 w1 r g cap (fillB bits F J)) ∧ Hid (Upd (fun i => i = g) wr w1))
      case atStart => exact ⟨F, rfl, by omega, Nat.le_refl _, Lib.hid (by rw [fillB_none]; exact HH.out), Lib.hid (Upd.refl _ _)⟩
      case round =>
        obtain ⟨J, rfl, hJp, hFJ, hS, hU⟩ := hrel
        have c1 := cell_heap hS.out.set 0 _ rfl
        rw [fillB_len, ← HN.out] at c1
        clear c0
        cases gk with
        | zero =>
          obtain rfl : J = K := by omega
          go_wp2
          go_ret
          exact ⟨rfl, hS.out, hU.out⟩
        | succ p =>
          have hJl : J < (fillB bits F J).length := by rw [fillB_len]; have := HN.out; omega
          have cg := hS.out.row.at J _ (List.getElem?_eq_getElem hJl)
          have fg := hS.out.row.free J
          have HP := Lib.hid (hS.out.put J true hJl)
          rw [fillB_step bits F J hFJ (by have := HN.out; omega)] at HP
          generalize (fillB bits F J)[J] = c at cg
          have hJN : J < N := by omega
          have hJK : J < K := by omega
          have hw : IntKind.i64.wrap ((J : Int) + 1) = (J : Int) + 1 := IntWalk.i64_in _ (by omega)
          clear hJl
          go_wp2
          go_roundg p
          case measure => omega
          case rel => exact ⟨J + 1, by rw [Int.natCast_add]; rfl, by omega, by omega, Lib.hid HP.out.1, Lib.hid (hU.out.trans HP.out.2 (fun _ _ f => f))⟩
    | succ p =>
      have hlt : K < T := by omega
      have hKN : K < N := by omega
      have hw : IntKind.i64.wrap ((K : Int) + 1) = (K : Int) + 1 := IntWalk.i64_in _ (by omega)
      have cg := HH.out.row.at K _ (HKB.out K hFK hlt)
      go_wp2
      go_roundg p
      case measure => omega
      case rel => exact ⟨K + 1, by rw [Int.natCast_add]; rfl, by omega, by omega, rfl⟩
/-! ### Count -/
theorem ref_Count {w0 w : World} {r g cap : Nat} {bits : List Bool} (h : RSet w0 w r g cap bits) : Calls Try.prog 13 #[.pointer (some ⟨r, 0, none⟩)] w fun e w' => e = .returned (.int .i64 (bits.count true : Nat)) ∧ w = w' := by
  have c0 := cell_heap h.set 0 _ rfl
  have hn := h.num.2
  have HH := Lib.hid h
  obtain ⟨N, hN⟩ : ∃ N, N = bits.length := ⟨_, rfl⟩
  rw [← hN] at c0 hn
  have HN := Lib.hid hN
  clear hN h
  go_enter Try.func13, Try.ntmps13
  go_wp2
  go_loopg [3, 4] N (fun p s3 s4 wr => ∃ k : Nat, s4 = .int .i64 k ∧ k + p = N ∧ s3 = .int .i64 ((bits.take k).count true : Nat) ∧ wr = w)
  case atStart => exact ⟨0, rfl, by omega, rfl, rfl⟩
  case round =>
    obtain ⟨k, rfl, hkp, rfl, rfl⟩ := hrel
    cases gk with
    | zero =>
      obtain rfl : N = k := by omega
      rw [List.take_of_length_le (by have := HN.out; omega)]
      obtain ⟨CT, hCT⟩ : ∃ CT, CT = bits.count true := ⟨_, rfl⟩
      rw [← hCT]
      have HCT := Lib.hid hCT
      clear hCT
      go_wp2
      go_ret
      exact ⟨by rw [← HCT.out]; rfl, rfl⟩
    | succ p =>
      have hkl : k < bits.length := by have := HN.out; omega
      have hbk := List.getElem?_eq_getElem hkl
      have cg := HH.out.row.at k _ hbk
      have hcnt : (bits.take (k + 1)).count true = (bits.take k).count true + (if bits[k] = true then 1 else 0) := by
        rw [List.take_add_one, hbk, List.count_append]
        congr 1
        cases bits[k] <;> rfl
      have hcl : (bits.take k).count true ≤ 4096 := Nat.le_trans (List.count_le_length) (by rw [List.length_take]; omega)
      have HCNT := Lib.hid hcnt
      generalize bits[k] = B at cg HCNT
      generalize (bits.take k).count true = c at HCNT hcl
      have hlt : k < N := by omega
      have hw : IntKind.i64.wrap ((k : Int) + 1) = (k : Int) + 1 := IntWalk.i64_in _ (by omega)
      have hw2 : IntKind.i64.wrap ((c : Int) + 1) = (c : Int) + 1 := IntWalk.i64_in _ (by omega)
      clear hcnt hbk hkl
      cases B
      · go_wp2
        go_roundg p
        case measure => omega
        case rel => exact ⟨k + 1, by rw [Int.natCast_add]; rfl, by omega, by rw [HCNT.out]; rfl, rfl⟩
      · go_wp2
        go_roundg p
        case measure => omega
        case rel => exact ⟨k + 1, by rw [Int.natCast_add]; rfl, by omega, by rw [HCNT.out]; rfl, rfl⟩
/-! ### Copy -/
theorem owned_bools {w : World} {B : Nat} {v : Value} {bits : List Bool} {N : Nat} (h : w.ownsRow B 4 1 v N (bits.map Value.bool)) (hN : N = bits.length) (h1 : 1 ≤ N) : ∃ g cap, v = .slice (some ⟨g, 0, none⟩) N cap ∧ B ≤ g ∧ N ≤ cap ∧ cap ≤ maxLen ∧ RowB w g bits := by
  rcases h.2 with ⟨rfl, hn⟩ | ⟨g, cap, cur, rfl, hge, hg, hncp, hcpm, hsz, htake⟩
  · omega
  · refine ⟨g, cap, rfl, hge, hncp, hcpm, cur.toList.drop N, ?_⟩
    rw [hg]
    congr 2
    rw [Nat.mul_one] at htake
    rw [← htake, List.take_append_drop]
theorem ref_Copy {w0 w : World} {r g cap : Nat} {bits : List Bool} (h : RSet w0 w r g cap bits) (hs : w0.heap.size ≤ w.heap.size) : Calls Try.prog 28 #[.pointer (some ⟨r, 0, none⟩)] w fun e w' => ∃ r' g' cap', e = .returned (.pointer (some ⟨r', 0, none⟩)) ∧ RSet w0 w' r' g' cap' bits ∧ Upd (fun _ => False) w w' := by
  have c0 := cell_heap h.set 0 _ rfl
  obtain ⟨hn1, hn2⟩ := h.num
  obtain ⟨i0, hi, hq0, hq1, hq2⟩ := info_parts Try.infoBool
  have happ := fun ty => run_append_own_at (P := Try.prog) w w.heap.size 40 ty 4 i0 (.bool false) 1 1 Try.underlying40 hi hq0 hq1 hq2 (by kernel_rfl) (by omega)
    (.slice none 0 0) 0 [] (World.ownsRow_nil w _ 4 1) ⟨g, 0, none⟩ bits.length cap (bits.map Value.bool) (by simp)
    (fun j u hj => by
      rw [List.getElem?_map] at hj
      cases hb : bits[j]? with
      | none => rw [hb] at hj; cases hj
      | some c =>
        rw [hb] at hj
        cases hj
        have hadd : (⟨g, 0, none⟩ : Addr).add j = ⟨g, j, none⟩ := by unfold Addr.add; split <;> simp_all
        rw [hadd]
        exact h.row.at j c hb) (fun v hv => by obtain ⟨c, _, rfl⟩ := List.mem_map.1 hv; rfl) (by unfold maxLen; omega) (by omega) (Nat.le_refl _)
  have HA := Lib.hid happ
  have HB := Lib.hid hn1
  have HB2 := Lib.hid hn2
  obtain ⟨N, hN⟩ : ∃ N, N = bits.length := ⟨_, rfl⟩
  rw [← hN] at c0 HA
  have HN := Lib.hid hN
  clear hN h happ hn1 hn2
  go_enter Try.func28, Try.ntmps28
  go_wp2_with (at_builtin; obtain ⟨v', w', hrun, hown', hgr, _, _⟩ := HA.out 40; rw [Nat.zero_add, List.nil_append] at hown'; obtain ⟨g', cap', rfl, k1, k2, k3, k4⟩ := owned_bools hown' HN.out (by have := HB.out; have := HN.out; omega); refine wpList_append_by rfl (.tmp 4) (.tmp 8) 40 rfl _ _ _ rfl rfl hrun ?_)
  go_ret
  have u1 : Upd (fun _ => False) w w' := (Upd.refl _ _).grown hgr (fun k hk hlt => by simp [Value.ownBlock] at hk)
  have u2 : Upd (fun _ => False) w' (w'.alloc (.cells #[.slice (some ⟨g', 0, none⟩) N cap'] 55)) := (Upd.refl _ _).alloc _
  refine ⟨_, rfl, ⟨g', cap', ⟨?_, k4.upd u2 (fun f => f), ⟨?_, by omega⟩, ⟨HB.out, HB2.out⟩, ⟨by have := HN.out; omega, k3⟩⟩⟩, u1.trans u2 (fun _ _ f => f)⟩
  · rw [← HN.out]; exact heap_alloc_new _ _
  · have := u1.size; omega
/-! ### Same -/
theorem ref_Same {w : World} {v u : Value} {r1 r2 : Option Nat} {xs ys : List Int} (h1 : IntsAt w v r1 xs) (h2 : IntsAt w u r2 ys) (hl : xs.length ≤ 100000) :
    Calls Try.prog 27 #[v, u] w fun e w' => e = .returned (.bool (decide (xs = ys))) ∧ Upd (fun _ => False) w w' := by
  obtain ⟨ad, cap, rfl, a1, a2, a3⟩ := h1
  obtain ⟨ae, cbp, rfl, b1, b2, b3⟩ := h2
  by_cases hlen : xs.length = ys.length
  · obtain ⟨N, hN⟩ : ∃ N, N = xs.length := ⟨_, rfl⟩
    rw [← hlen, ← hN]
    rw [← hN] at hl
    have HN := Lib.hid hN
    have HA := Lib.hid a3
    have HB := Lib.hid b3
    have HL := Lib.hid hlen
    have hb1 : ((N : Int) == (N : Int)) = true := by simp
    clear hN a3 b3 hlen a1 a2 b1 b2
    go_enter Try.func27, Try.ntmps27
    go_wp2
    go_loopg [5] N (fun g s5 wr => ∃ i : Nat, s5 = .int .i64 i ∧ i + g = N ∧ Hid (xs.take i = ys.take i) ∧ Hid (Upd (fun _ => False) w wr))
    case atStart => exact ⟨0, rfl, by omega, Lib.hid (by simp), Lib.hid (Upd.refl _ _)⟩
    case round =>
      obtain ⟨i, rfl, hig, hT, hU⟩ := hrel
      cases gk with
      | zero =>
        obtain rfl : i = N := by omega
        go_wp2
        go_ret
        refine ⟨?_, hU.out⟩
        have e := hT.out
        rw [List.take_of_length_le (by have := HN.out; omega), List.take_of_length_le (by have := HN.out; have := HL.out; omega)] at e
        rw [decide_eq_true e]
        rfl
      | succ g =>
        have hil : i < xs.length := by have := HN.out; omega
        have hil2 : i < ys.length := by have := HL.out; omega
        obtain ⟨g1, o1, q1, rfl, q3⟩ := HA.out i _ (List.getElem?_eq_getElem hil)
        obtain ⟨g2, o2, q4, rfl, q6⟩ := HB.out i _ (List.getElem?_eq_getElem hil2)
        have c1 := hU.out.cell q3 (fun f => f)
        have c2 := hU.out.cell q6 (fun f => f)
        have hlt : i < N := by omega
        have hd : decide ((i : Int) < (N : Int)) = true := decide_eq_true (by omega)
        have hw : IntKind.i64.wrap ((i : Int) + 1) = (i : Int) + 1 := IntWalk.i64_in _ (by omega)
        have ht1 := List.take_succ_eq_append_getElem hil
        have ht2 := List.take_succ_eq_append_getElem hil2
        have hx1 : xs[i]? = some xs[i] := List.getElem?_eq_getElem hil
        have hx2 : ys[i]? = some ys[i] := List.getElem?_eq_getElem hil2
        clear q3 q6
        generalize xs[i] = p at c1 ht1 hx1
        generalize ys[i] = q at c2 ht2 hx2
        have HT1 := Lib.hid ht1
        have HT2 := Lib.hid ht2
        have HX1 := Lib.hid hx1
        have HX2 := Lib.hid hx2
        clear ht1 ht2 hx1 hx2 hil hil2
        by_cases hpq : p = q
        · subst hpq
          have hne : (p != p) = false := by simp
          go_wp2
          go_quiet (fail)
          go_wp2
          go_roundg g
          case measure => omega
          case rel => exact ⟨i + 1, by rw [Int.natCast_add]; rfl, by omega, Lib.hid (by rw [HT1.out, HT2.out, hT.out]), Lib.hid (hU.out.drewN _)⟩
        · have hne : (p != q) = true := by simpa using hpq
          go_wp2
          go_quiet (fail)
          go_wp2
          go_ret
          refine ⟨?_, hU.out.drewN _⟩
          have : ¬ xs = ys := fun e => by have h1 := HX1.out; rw [e, HX2.out] at h1; exact hpq (Option.some.inj h1).symm
          rw [decide_eq_false this]
          rfl
  · have hb : ((xs.length : Int) == (ys.length : Int)) = false := by simp; omega
    have hb2 : ((xs.length : Int) != (ys.length : Int)) = true := by simp; omega
    rw [decide_eq_false (fun e => hlen (by rw [e]))]
    clear a3 b3
    go_enter Try.func27, Try.ntmps27
    go_wp2
    go_ret
    exact ⟨rfl, Upd.refl _ _⟩


end Go.Proofs.Ytoblihckojnffaa
