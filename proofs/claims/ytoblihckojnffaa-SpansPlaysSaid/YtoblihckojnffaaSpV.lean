/- The document's set: List. -/
import Derived.Test.YtoblihckojnffaaSpU
set_option linter.unusedVariables false
set_option linter.unusedSimpArgs false
namespace Go.Proofs.Ytoblihckojnffaa
open Go.RowKit Go.Shelf
set_option maxRecDepth 100000

theorem Try.infoP2 : (Try.prog.info? 50).map (fun i => (i.zero, i.size, i.bytes)) = some (some (.agg #[.int .i64 0, .int .i64 0]), 2, 16) := by kernel_rfl
theorem PairsAt.of_owns {w : World} {B : Nat} {v : Value} {xs : List Ex} (h : w.ownsRow B 50 2 v xs.length (exs xs)) : PairsAt w v v.ownBlock xs ∧ ∀ g, v.ownBlock = some g → B ≤ g := by
  rcases h.2 with ⟨rfl, hn⟩ | ⟨g, cap, cur, rfl, hge, hg, hncp, hcpm, hsz, htake⟩
  · obtain rfl := List.eq_nil_of_length_eq_zero hn
    exact ⟨⟨none, 0, rfl, Nat.le_refl _, Nat.zero_le _, fun j x hj => by cases hj⟩, fun g e => by cases e⟩
  · refine ⟨⟨_, cap, rfl, hncp, hcpm, fun j x hj => ⟨g, 0, rfl, rfl, ?_⟩⟩, fun r e => by simp [Value.ownBlock] at e; omega⟩
    obtain ⟨e1, e2⟩ := exs_get xs j x hj
    have h1 := h.cells (g := g) rfl _ _ e1
    have h2 := h.cells (g := g) rfl _ _ e2
    rw [Addr.add_lit, Nat.mul_comm] at h1 h2
    rw [Nat.zero_add] at h1 h2 ⊢
    exact ⟨h1, h2⟩
/-- a pair is appended to an own row of pairs -/
theorem push_pair {w : World} {B : Nat} {v : Value} {m : Nat} {xs : List Ex} (h : w.ownsRow B 50 2 v m (exs xs)) (hB : B ≤ w.heap.size) (hm : m ≤ 1000000) {S : Nat} (hS : S = w.heap.size) (a b : Int) (ty : TypeId) :
    ∃ v' w', (Builtin.append_ #[37, 37] ty #[v, .slice (some ⟨S, 0, none⟩) 1 1]).run Try.prog (w.alloc (.cells #[.int .i64 a, .int .i64 b] 50)) = .ok v' w' ∧ w'.ownsRow B 50 2 v' (m + 1) (exs (xs ++ [(a, b)])) ∧ Upd (fun i => v.ownBlock = some i) w w' ∧ ∃ g cap, v' = .slice (some ⟨g, 0, none⟩) (m + 1) cap := by
  subst hS
  obtain ⟨i0, hi, hq0, hq1, hq2⟩ := info_parts Try.infoP2
  obtain ⟨v', w', hrun, hown, hgr, _, _⟩ := run_append_own_at (P := Try.prog) (w.alloc (.cells #[.int .i64 a, .int .i64 b] 50)) B 37 ty 50 i0 (.agg #[.int .i64 0, .int .i64 0]) 2 16 Try.underlying37 hi hq0 hq1 hq2 (by kernel_rfl) (by omega)
    v m (exs xs) (h.alloc _) ⟨w.heap.size, 0, none⟩ 1 1 [.int .i64 a, .int .i64 b] rfl (fun j u hj => by
      rw [Addr.add_lit, Nat.zero_add]
      exact cell_heap (heap_alloc_new w _) j u (by simpa using hj)) (fun u hu => by simp at hu; rcases hu with rfl | rfl <;> rfl) (by unfold maxLen; omega) (by omega) (by have := (Upd.refl (fun _ => False) w).alloc (.cells #[.int .i64 a, .int .i64 b] 50); have := this.size; omega)
  refine ⟨v', w', hrun, by rw [exs_append]; exact hown, (((Upd.refl _ _).alloc _).grown hgr (fun k e _ => e)), ?_⟩
  exact ownsRow_succ hown
/-- where the walk over the bools stands: m spans lie before i -/
structure SpanAt (l : List Ex) (m i : Nat) : Prop where
  le : m ≤ l.length
  low : ∀ j x, j < m → l[j]? = some x → x.1 + x.2 < (i : Int)
  high : ∀ j x, m ≤ j → l[j]? = some x → (i : Int) ≤ x.1
theorem SpanAt.zero {n : Int} {l : List Ex} (hok : SpOk n l) : SpanAt l 0 0 := ⟨Nat.zero_le _, fun j x h => by omega, fun j x _ h => (hok.2.1 x (List.mem_of_getElem? h)).1⟩
theorem span_sorted {n : Int} {l : List Ex} (hok : SpOk n l) {j k : Nat} {x y : Ex} (hjk : j < k) (hx : l[j]? = some x) (hy : l[k]? = some y) : x.1 + x.2 < y.1 := by
  obtain ⟨h1, rfl⟩ := List.getElem?_eq_some_iff.1 hx
  obtain ⟨h2, rfl⟩ := List.getElem?_eq_some_iff.1 hy
  exact List.pairwise_iff_getElem.1 hok.2.2 j k h1 h2 hjk
theorem SpanAt.skip {n : Int} {l : List Ex} (hok : SpOk n l) {m i : Nat} (h : SpanAt l m i) (hb : hasB l (i : Int) = false) : SpanAt l m (i + 1) := by
  refine ⟨h.le, fun j x h1 h2 => by have := h.low j x h1 h2; omega, fun j x h1 h2 => ?_⟩
  have h3 := h.high j x h1 h2
  have h4 := hok.2.1 x (List.mem_of_getElem? h2)
  by_cases e : x.1 = (i : Int)
  · have : hasB l (i : Int) = true := (hasB_iff l i).2 ⟨x, List.mem_of_getElem? h2, by omega, by omega⟩
    rw [hb] at this; cases this
  · omega
theorem SpanAt.here {n : Int} {l : List Ex} (hok : SpOk n l) {m i : Nat} (h : SpanAt l m i) (hb : hasB l (i : Int) = true) : ∃ x, l[m]? = some x ∧ x.1 = (i : Int) ∧ 1 ≤ x.2 ∧ x.1 + x.2 ≤ n ∧ (∀ k : Int, x.1 ≤ k → k < x.1 + x.2 → hasB l k = true) ∧ hasB l (x.1 + x.2) = false ∧ ∀ e : Nat, (e : Int) = x.1 + x.2 → SpanAt l (m + 1) (e + 1) := by
  obtain ⟨x, hx, h1, h2⟩ := (hasB_iff l i).1 hb
  obtain ⟨j, hj, rfl⟩ := List.getElem_of_mem hx
  have hje := List.getElem?_eq_getElem hj
  have hjm : m ≤ j := by
    by_cases e : j < m
    · have := h.low j _ e hje; omega
    · omega
  have h3 := h.high j _ hjm hje
  have hjm2 : j = m := by
    by_cases e : j = m
    · exact e
    · exfalso
      have hm := List.getElem?_eq_getElem (show m < l.length by omega)
      have h4 := span_sorted hok (show m < j by omega) hm hje
      have h5 := h.high m _ (Nat.le_refl _) hm
      have h6 := hok.2.1 _ (List.getElem_mem (show m < l.length by omega))
      omega
  subst hjm2
  have h6 := hok.2.1 _ hx
  refine ⟨_, hje, by omega, h6.2.1, h6.2.2, fun k k1 k2 => (hasB_iff l k).2 ⟨_, hx, k1, k2⟩, ?_, fun e he => ⟨by omega, fun q y q1 q2 => ?_, fun q y q1 q2 => ?_⟩⟩
  · rw [← Bool.not_eq_true]
    intro hh
    obtain ⟨y, hy, y1, y2⟩ := (hasB_iff l _).1 hh
    obtain ⟨q, hq, rfl⟩ := List.getElem_of_mem hy
    have hqe := List.getElem?_eq_getElem hq
    by_cases e1 : q < j
    · have := h.low q _ e1 hqe; omega
    · by_cases e2 : q = j
      · subst e2; omega
      · have := span_sorted hok (show j < q by omega) hje hqe; omega
  · by_cases e1 : q = j
    · subst e1; rw [hje] at q2; have := Option.some.inj q2; subst this; omega
    · have := h.low q y (by omega) q2; omega
  · have := span_sorted hok (show j < q by omega) hje q2; omega
set_option maxHeartbeats 2000000 in
theorem ref_List {w0 w : World} {r g cap : Nat} {bits : List Bool} {n : Int} {l : List Ex} (h : RSet w0 w r g cap bits) (hok : SpOk n l) (hs : Says n l bits) : Calls Try.prog 16 #[.pointer (some ⟨r, 0, none⟩)] w fun e w' => ∃ v row, e = .returned v ∧ PairsAt w' v row l ∧ (∀ x, row = some x → w.heap.size ≤ x) ∧ Upd (fun _ => False) w w' := by
  have HH := Lib.hid h
  have HOK := Lib.hid hok
  have HS := Lib.hid hs
  have hn := h.num.2
  have c0 := cell_heap h.set 0 _ rfl
  obtain ⟨N, hN⟩ : ∃ N, N = bits.length := ⟨_, rfl⟩
  rw [← hN] at hn c0
  have HN := Lib.hid hN
  have HnN := Lib.hid (show n = (N : Int) by have := hs.1; omega)
  have HL4 := Lib.hid (show l.length ≤ 4096 by have := hok.len; have := hok.1; omega)
  clear h hok hs hN
  go_enter Try.func16, Try.ntmps16
  go_wp2
  go_loopg [3, 4] (N + 1) (fun p s3 s4 wr => ∃ i m : Nat, s4 = .int .i64 i ∧ i + p = N + 1 ∧ Hid (SpanAt l m i) ∧ Hid (wr.ownsRow w.heap.size 50 2 s3 m (exs (l.take m))) ∧ Hid (Upd (fun _ => False) w wr))
  case atStart => exact ⟨0, 0, rfl, by omega, Lib.hid (SpanAt.zero HOK.out), Lib.hid (World.ownsRow_nil _ _ _ _), Lib.hid (Upd.refl _ _)⟩
  case round =>
    obtain ⟨i, m, rfl, hip, hA, hO, hU⟩ := hrel
    have c1 := hU.out.cell c0 (fun f => f)
    obtain ⟨ad, cp, rfl⟩ := own_form hO.out
    by_cases hiN : i < N
    · have hd : decide ((i : Int) < (N : Int)) = true := decide_eq_true (by omega)
      have hw : IntKind.i64.wrap ((i : Int) + 1) = (i : Int) + 1 := IntWalk.i64_in _ (by omega)
      have hat := HS.out.2 i (by have := HN.out; omega)
      have cg := hU.out.cell (HH.out.row.at i _ hat) (fun f => f)
      clear hat
      by_cases hb : hasB l (i : Int) = true
      · rw [hb] at cg
        obtain ⟨x, hx, x1, x2, x3, x4, x5, x6⟩ := hA.out.here HOK.out hb
        obtain ⟨X, hX⟩ := Int.eq_ofNat_of_zero_le (show 0 ≤ x.1 + x.2 by omega)
        have HX := Lib.hid hx
        have HX1 := Lib.hid x1
        have HXX := Lib.hid hX
        have HX4 := Lib.hid x4
        have HX5 := Lib.hid x5
        have HX6 := Lib.hid (x6 X hX.symm)
        have hXN : X ≤ N := by have := HnN.out; omega
        have hiX : i < X := by omega
        have hml : m < l.length := (List.getElem?_eq_some_iff.1 hx).1
        have hm4 : m ≤ 4096 := by have := HL4.out; omega
        clear hx x1 x2 x3 x4 x5 x6 hb hX hml
        go_wp2
        go_loopg [5] (X - i) (fun q s5 w2 => ∃ K : Nat, s5 = .int .i64 K ∧ K + q = X ∧ i ≤ K ∧ w2 = wr)
        case atStart => exact ⟨i, rfl, by omega, Nat.le_refl _, rfl⟩
        case round =>
          obtain ⟨K, rfl, hKq, hiK, rfl⟩ := hrel
          cases gk with
          | zero =>
            obtain rfl : K = X := by omega
            have hpush := push_pair hO.out (show w.heap.size ≤ wr.heap.size from hU.out.size) (by omega) (S := wr.heap.size) rfl (i : Int) ((K : Int) - (i : Int))
            have hwk : IntKind.i64.wrap ((K : Int) - (i : Int)) = (K : Int) - (i : Int) := IntWalk.i64_in _ (by omega)
            have hwk1 : IntKind.i64.wrap ((K : Int) + 1) = (K : Int) + 1 := IntWalk.i64_in _ (by omega)
            have HP := Lib.hid hpush
            clear hpush cg
            have hfin : ∀ (v' : Value) (w' : World), w'.ownsRow w.heap.size 50 2 v' (m + 1) (exs (l.take m ++ [((i : Int), (K : Int) - (i : Int))])) → w'.ownsRow w.heap.size 50 2 v' (m + 1) (exs (l.take (m + 1))) := fun v' w' ho => by
              have e : l.take (m + 1) = l.take m ++ [((i : Int), (K : Int) - (i : Int))] := by
                rw [List.take_add_one, HX.out]
                have h1 := HX1.out
                have h2 := HXX.out
                rw [← h1, ← h2, show x.1 + x.2 - x.1 = x.2 by omega]
                rfl
              rw [e]; exact ho
            have hup2 : ∀ w', Upd (fun i => (Value.slice ad m cp).ownBlock = some i) wr w' → Upd (fun _ => False) w w' := fun w' hu => hU.out.trans hu (fun y hy e => by
              rcases hO.out.2 with ⟨e2, _⟩ | ⟨g2, cap2, cur2, e2, hge, _⟩
              · rw [e2] at e; cases e
              · rw [e2] at e; simp [Value.ownBlock] at e; omega)
            have HF := Lib.hid hfin
            have HU2 := Lib.hid hup2
            clear hfin hup2
            by_cases hKN : K < N
            · have hd2 : decide ((K : Int) < (N : Int)) = true := decide_eq_true (by omega)
              have hat := HS.out.2 K (by have := HN.out; omega)
              rw [show hasB l (K : Int) = false by rw [← HXX.out]; exact HX5.out] at hat
              have cg := hU.out.cell (HH.out.row.at K _ hat) (fun f => f)
              clear hat
              go_wp2_with (at_builtin; obtain ⟨v', w', hrun, hown', hup, g', cap', rfl⟩ := HP.out 37; refine wpList_append_by rfl (.tmp 42) (.tmp 48) 37 rfl _ _ _ rfl rfl hrun ?_)
              go_roundg (N - K)
              case measure => omega
              case rel => exact ⟨K + 1, m + 1, by rw [Int.natCast_add]; rfl, by omega, HX6, Lib.hid (HF.out _ _ hown'), Lib.hid (HU2.out _ hup)⟩
            · have hd2 : decide ((K : Int) < (N : Int)) = false := decide_eq_false (by omega)
              have hKN2 : ¬ ((K : Int) < (N : Int)) := by omega
              go_wp2_with (at_builtin; obtain ⟨v', w', hrun, hown', hup, g', cap', rfl⟩ := HP.out 37; refine wpList_append_by rfl (.tmp 42) (.tmp 48) 37 rfl _ _ _ rfl rfl hrun ?_)
              go_roundg (N - K)
              case measure => omega
              case rel => exact ⟨K + 1, m + 1, by rw [Int.natCast_add]; rfl, by omega, HX6, Lib.hid (HF.out _ _ hown'), Lib.hid (HU2.out _ hup)⟩
          | succ q =>
            have hKX : K < X := by omega
            have hKN : K < N := by omega
            have hd2 : decide ((K : Int) < (N : Int)) = true := decide_eq_true (by omega)
            have hat := HS.out.2 K (by have := HN.out; omega)
            rw [HX4.out (K : Int) (by have := HX1.out; omega) (by have := HXX.out; omega)] at hat
            have cg2 := hU.out.cell (HH.out.row.at K _ hat) (fun f => f)
            have hwk1 : IntKind.i64.wrap ((K : Int) + 1) = (K : Int) + 1 := IntWalk.i64_in _ (by omega)
            clear hat cg
            go_wp2
            go_roundg q
            case measure => omega
            case rel => exact ⟨K + 1, by rw [Int.natCast_add]; rfl, by omega, by omega, rfl⟩
      · rw [Bool.not_eq_true] at hb
        rw [hb] at cg
        have HA2 := Lib.hid (hA.out.skip HOK.out hb)
        clear hb
        go_wp2
        go_roundg (N - i)
        case measure => omega
        case rel => exact ⟨i + 1, m, by rw [Int.natCast_add]; rfl, by omega, HA2, hO, hU⟩
    · have hd : decide ((i : Int) < (N : Int)) = false := decide_eq_false (by omega)
      have hml : m = l.length := by
        by_cases e : m = l.length
        · exact e
        · exfalso
          have h1 := hA.out.le
          have hm := List.getElem?_eq_getElem (show m < l.length by omega)
          have h2 := hA.out.high m _ (Nat.le_refl _) hm
          have h3 := HOK.out.2.1 _ (List.getElem_mem (show m < l.length by omega))
          have := HnN.out
          omega
      have hO2 := hO.out
      rw [hml, List.take_length] at hO2
      obtain ⟨k1, k2⟩ := PairsAt.of_owns hO2
      rw [← hml] at k1 k2
      have K1 := Lib.hid k1
      have K2 := Lib.hid k2
      clear k1 k2 hO2 hml
      have hiN2 : ¬ ((i : Int) < (N : Int)) := by omega
      go_wp2
      go_ret
      exact ⟨_, rfl, _, K1.out, K2.out, hU.out⟩

end Go.Proofs.Ytoblihckojnffaa
