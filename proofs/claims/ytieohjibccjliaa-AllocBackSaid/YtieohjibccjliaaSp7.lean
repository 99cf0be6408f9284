/- slices.Insert of one span in the middle. -/
import Derived.Test.YtieohjibccjliaaSp6
set_option linter.unusedVariables false
set_option linter.unusedSimpArgs false
namespace Go.Proofs.Ytieohjibccjliaa
open Go.RowKit Go.Shelf Go.Lib

theorem exs_mid (a b : List Ex) (x : Ex) (j : Nat) : (exs (a ++ x :: b))[j]? = if j < a.length * 2 then (exs a)[j]? else if j < (a.length + 1) * 2 then (exV x)[j - a.length * 2]? else (exs b)[j - (a.length + 1) * 2]? := by
  rw [exs_append, exs_cons]
  split
  · rw [List.getElem?_append_left (by rw [exs_len]; omega)]
  · rw [List.getElem?_append_right (by rw [exs_len]; omega), exs_len]
    split
    · rw [List.getElem?_append_left (by rw [exs_one_len]; omega)]
    · rw [List.getElem?_append_right (by rw [exs_one_len]; omega), exs_one_len]
      congr 1
      omega
theorem exs_app (a b : List Ex) (j : Nat) : (exs (a ++ b))[j]? = if j < a.length * 2 then (exs a)[j]? else (exs b)[j - a.length * 2]? := by
  rw [exs_append]
  split
  · rw [List.getElem?_append_left (by rw [exs_len]; omega)]
  · rw [List.getElem?_append_right (by rw [exs_len]; omega), exs_len]
theorem info2 : (Try.prog.info? 99).map (·.size) = some 2 := by
  obtain ⟨i0, hi0, hq0, hq1, hq2⟩ := info_parts Try.infoEx
  rw [hi0]; simp [hq1]
set_option maxHeartbeats 1000000 in
set_option maxRecDepth 100000 in
theorem ins_mid_room {w : World} {r off cap : Nat} {a b : List Ex} {x : Ex} {vb : Nat} (h : RowAt w (.slice (some ⟨r, off, none⟩) (a ++ b).length cap) (some r) (a ++ b)) (hv : OneAt w vb x) (hne : vb ≠ r) (hl : (a ++ b).length ≤ 4096) (hroom : (a ++ b).length + 1 ≤ cap) (hb : b ≠ []) :
    Calls Try.prog 61 #[.slice (some ⟨r, off, none⟩) (a ++ b).length cap, .int .i64 (a.length : Nat), .slice (some ⟨vb, 0, none⟩) 1 1] w (InsP w (some r) (a ++ x :: b)) := by
  have t22 := Try.underlying93
  obtain ⟨cur, h3, h4, h5, h6, h7⟩ := h.open
  obtain ⟨i, hi⟩ : ∃ i, i = a.length := ⟨_, rfl⟩
  obtain ⟨m, hm⟩ : ∃ m, m = b.length := ⟨_, rfl⟩
  have hm0 : 0 < m := by rw [hm]; exact List.length_pos_iff.2 hb
  have hN : (a ++ b).length = i + m := by rw [List.length_append, hi, hm]
  rw [hN] at hl hroom h5 ⊢
  rw [← hi]
  have hov : ∀ lb cb, (callFunc 69 #[.slice (some ⟨vb, 0, none⟩) 1 1, .slice (some ⟨r, off + (i + 1) * 2, none⟩) lb cb]).run Try.prog w = .ok (.value (.bool false)) w := fun lb cb => by
    rw [run_callFunc_extern Try.func69 (by kernel_rfl) (by kernel_rfl) (by kernel_rfl) (e := Extern.SlicesOverlaps.overlaps #[93, 93] #[4]) (by kernel_rfl),
      Lib.run_overlaps_apart w 93 4 99 t22 2 (fun w => by obtain ⟨i0, hi0, hq0, hq1, hq2⟩ := info_parts Try.infoEx; simp [sizeOf, typeInfo, hi0, hq1]) ⟨vb, 0, none⟩ ⟨r, off + (i + 1) * 2, none⟩ 1 1 lb cb hne 99 99 2 cur.size
        (by simp [World.shape?, show w.heap[vb]? = _ from hv]) (by simp [World.shape?, h3]) (by omega) (free_heap hv 0) (free_heap hv 2)]
    rfl
  obtain ⟨news, hnews⟩ : ∃ news, news = exs b := ⟨_, rfl⟩
  have hlen : news.length = m * 2 := by rw [hnews, exs_len, hm]
  have hmem : ∀ u ∈ news, u.oneCell' = true := by rw [hnews]; exact exs_one b
  have hsz : ∀ j, j < cur.size → (w.cell? ⟨r, j, none⟩).isSome = true := fun j hj => by rw [cell_heap h3 j _ (Array.getElem?_eq_getElem hj)]; rfl
  have hcp1 : ∀ ty dc sc n1 n2, n1 = m → n2 = m + 1 → (Builtin.copy_ #[93, 93] ty #[.slice (some ⟨r, off + (i + 1) * 2, none⟩) n1 dc, .slice (some ⟨r, off + i * 2, none⟩) n2 sc]).run Try.prog w.drew = .ok (goInt (Nat.min n2 n1)) (w.drew.setCells r (off + (i + 1) * 2) news) := fun ty dc sc n1 n2 e1 e2 =>
    run_copy2 w.drew _ _ ty 99 r (off + (i + 1) * 2) n1 dc ⟨r, off + i * 2, none⟩ n2 sc news t22 info2 (by rw [hlen, e1, e2]; show m * 2 = Nat.min (m + 1) m * 2; simp [Nat.min_def])
      (fun j u hj => by
        rw [Addr.add_lit, Nat.add_assoc]
        refine cell_heap (heap_drew h3) _ _ (h7 _ _ ?_)
        rw [exs_app, if_neg (by omega), ← hi, Nat.add_sub_cancel_left, ← hnews]
        exact hj)
      (fun j hj => by rw [hlen] at hj; exact hsz _ (by omega)) (fun j hj => free_heap (heap_drew h3) _) hmem
  obtain ⟨W1, hW1⟩ : ∃ W1, W1 = w.drew.setCells r (off + (i + 1) * 2) news := ⟨_, rfl⟩
  obtain ⟨cur1, g1, g2, g3, g4, g5⟩ := setCells_heap r news (off + (i + 1) * 2) w.drew cur (heap_drew h3) (by rw [hlen]; omega)
  rw [← hW1] at g1
  have hv1 : OneAt W1 vb x := by
    have : Upd (fun k => k = r) w W1 := by rw [hW1]; exact upd_setCells (F := fun k => k = r) r (fun _ => rfl) _ _ _ (Upd.refl _ _).drew
    exact this.heap hv hne
  have hcp2 : ∀ ty dc n1, n1 = m + 1 → (Builtin.copy_ #[93, 93] ty #[.slice (some ⟨r, off + i * 2, none⟩) n1 dc, .slice (some ⟨vb, 0, none⟩) 1 1]).run Try.prog W1 = .ok (goInt (Nat.min 1 n1)) (W1.setCells r (off + i * 2) (exV x)) := fun ty dc n1 e1 =>
    run_copy2 W1 _ _ ty 99 r (off + i * 2) n1 dc ⟨vb, 0, none⟩ 1 1 (exV x) t22 info2 (by rw [e1, exs_one_len]; show 2 = Nat.min 1 (m + 1) * 2; simp [Nat.min_def]) hv1.cells'
      (fun j hj => by rw [exs_one_len] at hj; rw [cell_heap g1 _ _ (Array.getElem?_eq_getElem (by omega))]; rfl) (fun j hj => free_heap g1 _) (exV_one x)
  obtain ⟨cur2, k1, k2, k3, k4, k5⟩ := setCells_heap r (exV x) (off + i * 2) W1 cur1 g1 (by rw [exs_one_len]; omega)
  obtain ⟨W2, hW2⟩ : ∃ W2, W2 = W1.setCells r (off + i * 2) (exV x) := ⟨_, rfl⟩
  have hU : Upd (fun k => some r = some k) w W2 := by
    rw [hW2]
    refine upd_setCells (F := fun k => some r = some k) r (fun _ => rfl) _ _ _ ?_
    rw [hW1]
    exact upd_setCells (F := fun k => some r = some k) r (fun _ => rfl) _ _ _ (Upd.refl _ _).drew
  rw [← hW2] at hcp2 k1
  have hlen2 : (a ++ x :: b).length = i + m + 1 := by rw [List.length_append, List.length_cons, hi, hm]; omega
  have hRow : RowAt W2 (.slice (some ⟨r, off, none⟩) (a ++ x :: b).length cap) (some r) (a ++ x :: b) := by
    refine RowAt.mkAt k1 (by omega) (by omega) h6 fun j u hu => ?_
    rw [exs_mid, ← hi] at hu
    split at hu
    · rename_i hj
      rw [k3 _ (by omega), g3 _ (by omega)]
      refine h7 j u ?_
      rw [exs_app, ← hi, if_pos hj]
      exact hu
    · split at hu
      · have := k4 _ u hu
        rw [show off + i * 2 + (j - i * 2) = off + j by omega] at this
        exact this
      · rw [k5 _ (by rw [exs_one_len]; omega)]
        rw [← hnews] at hu
        have := g4 _ u hu
        rw [show off + (i + 1) * 2 + (j - (i + 1) * 2) = off + j by omega] at this
        exact this
  rw [hlen2] at hRow
  have HRow := Lib.hid hRow
  have HU := Lib.hid hU
  have HC1 := Lib.hid hcp1
  have HC2 := Lib.hid hcp2
  have HW1 := Lib.hid hW1
  have p1 : IntKind.i64.wrap ((i : Int) + 1) = (i : Int) + 1 := IntWalk.i64_in _ (by omega)
  have p2 : ¬ ((i : Int) = (i : Int) + (m : Int)) := by omega
  have p3 : (0 : Int) ≤ (i : Int) + 1 := by omega
  have p4 : (i : Int) + 1 ≤ (i : Int) + (m : Int) + 1 := by omega
  have p5 : cap ≤ 9223372036854775807 := by unfold maxLen at h6; omega
  have p6 : ¬ (cap = i + 1) := by omega
  have p7 : ¬ (cap = i) := by omega
  have p8 : ((i : Int) + 1).toNat = i + 1 := by omega
  have p9 : (i : Int) ≤ (i : Int) + (m : Int) + 1 := by omega
  have p10 : i ≤ cap := by omega
  have mixed : Try.prog.follows Departure.mixedOrders = true := by kernel_rfl
  clear h hv h3 h4 h5 h6 h7 g1 g2 g3 g4 g5 k1 k2 k3 k4 k5 hU hRow hN hi hm hnews hlen hmem hsz hcp1 hcp2 hW1 hW2 hv1 hlen2 hb
  go_enter Try.func61, Try.ntmps61
  go_wp2_with (simp only [hov])
  go_region_law_o (refine step_copy_runI rfl _ _ 93 93 rfl (.slice (some ⟨r, off + (i + 1) * 2, none⟩) m (cap - (i + 1))) (.slice (some ⟨r, off + i * 2, none⟩) (i + m + 1 - i) (cap - i)) (by simp [Act.eval, Act.put]) (by simp [Act.eval, Act.put]) (HC1.out _ _ _ _ _ rfl (by omega)) ?_; rw [← HW1.out])
  have hc2 := fun ty => HC2.out ty (cap - i) (i + m + 1 - i) (by omega)
  go_wp2
  go_ret
  exact ⟨_, _, rfl, HRow.out, .inl rfl, HU.out⟩

end Go.Proofs.Ytieohjibccjliaa
