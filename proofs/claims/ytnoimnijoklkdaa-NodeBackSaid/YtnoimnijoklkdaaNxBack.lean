/- The plain law of NodeBack. -/
import Derived.Test.YtnoimnijoklkdaaNxCd
import Derived.Test.YtnoimnijoklkdaaNxFew
import Derived.Test.YtnoimnijoklkdaaPx28
set_option linter.unusedVariables false
set_option linter.unusedSimpArgs false
namespace Go.Proofs.Ytnoimnijoklkdaa.Px
open Go.RowKit Go.Proofs.YtnoimnijoklkdaaW.PrintWords Go.Proofs.YtnoimnijoklkdaaW.PrintLast

def txt (m : S59) : ByteArray := ⟨(putM m.f0 m.f1 m.f2 m.f3).toArray⟩
theorem txt_list (m : S59) : (txt m).data.toList = putM m.f0 m.f1 m.f2 m.f3 := by unfold txt; simp
theorem msgTx_eq (m : S59) : msgTx m = tx (txt m) := by unfold msgTx tx; rw [txt_list]; unfold txt; rw [size_list]
theorem flat_msgs (bs : List S59) : bs.flatMap msgTx = (bs.map txt).flatMap tx := by
  induction bs with
  | nil => rfl
  | cons m bs ih => rw [List.flatMap_cons, List.map_cons, List.flatMap_cons, ih, msgTx_eq]
theorem msgs_put : ∀ bs : List S59, (∀ m ∈ bs, mayB m.f0 m.f1 m.f2 m.f3 = true ∧ m.f3.size < 65536) → msgs (bs.map txt) = some bs
  | [], _ => rfl
  | m :: bs, h => by
    have h1 := h m List.mem_cons_self
    rw [List.map_cons, msgs, txt_list, mtk_put m h1.1 h1.2, if_neg (fun h => h rfl), msgs_put bs (fun y hy => h y (List.mem_cons_of_mem _ hy))]
    rfl
theorem msgs_back : ∀ (ts : List ByteArray) (ms : List S59), msgs ts = some ms → ms.map txt = ts ∧ ∀ m ∈ ms, mayB m.f0 m.f1 m.f2 m.f3 = true
  | [], ms, h => by simp [msgs] at h; subst h; exact ⟨rfl, fun m hm => by cases hm⟩
  | t :: ts, ms, h => by
    unfold msgs at h
    split at h
    · cases h
    · rename_i h0
      obtain ⟨r, hr, rfl⟩ := Option.map_eq_some_iff.1 h
      obtain ⟨b1, b2⟩ := msgs_back ts r hr
      obtain ⟨c1, c2⟩ := mtk_back t.data.toList (Classical.byContradiction h0)
      refine ⟨?_, fun m hm => ?_⟩
      · rw [List.map_cons, b1]
        congr 1
        unfold txt
        rw [c2, mk_ba]
      · rcases List.mem_cons.1 hm with rfl | hm
        · exact c1
        · exact b2 m hm

theorem chk_leaf0 {es : List S75} {ps : List ByteArray} {ks : List Int} {bs : List S59} (h : chkN true es ps ks bs = 0) : ps = [] ∧ ks = [] ∧ bs = [] := by
  unfold chkN at h
  rw [if_pos rfl] at h
  split at h
  · cases h
  · rename_i h1
    exact ⟨List.length_eq_zero_iff.1 (by omega), List.length_eq_zero_iff.1 (by omega), List.length_eq_zero_iff.1 (by omega)⟩
theorem chk_inner0 {es : List S75} {ps : List ByteArray} {ks : List Int} {bs : List S59} (h : chkN false es ps ks bs = 0) : es = [] ∧ ks.length ≤ 8 ∧ ps.length = ks.length - 1 ∧ (∀ k ∈ ks, 1 ≤ k) ∧ ∀ m ∈ bs, mayB m.f0 m.f1 m.f2 m.f3 = true := by
  unfold chkN at h
  rw [if_neg (by decide)] at h
  split at h
  · cases h
  · rename_i h1
    split at h
    · cases h
    · split at h
      · cases h
      · rename_i h2 h3
        refine ⟨List.length_eq_zero_iff.1 (by omega), by omega, by omega, fun k hk => ?_, fun m hm => ?_⟩
        · have h4 : ks.any (fun k => decide (k < 1)) = false := by
            cases hb : ks.any (fun k => decide (k < 1)) with
            | false => rfl
            | true => exact absurd (.inr (.inr (.inr (.inr hb)))) h1
          have := List.any_eq_false.1 h4 k hk
          simp only [decide_eq_true_eq] at this
          omega
        · have h4 : bs.any msgBad = false := by simpa using h3
          have := List.any_eq_false.1 h4 m hm
          unfold msgBad at this
          simpa using this
theorem textR_ok {lf : Bool} {es : List S75} {ps : List ByteArray} {ks : List Int} {bs : List S59} (h : (textR lf es ps ks bs).2 = 0) : textR lf es ps ks bs = (textN lf es ps ks bs, 0) ∧ chkN lf es ps ks bs = 0 ∧ ∀ k ∈ ks, k ≤ 65535 := by
  unfold textR at h ⊢
  split at h
  · cases h
  · rename_i h1
    rw [if_neg h1]
    refine ⟨rfl, Classical.byContradiction fun h => h1 (.inl h), fun k hk => ?_⟩
    have h2 : ks.any farB = false := by
      cases hb : ks.any farB with
      | false => rfl
      | true => exact absurd (.inr hb) h1
    have := List.any_eq_false.1 h2 k hk
    unfold farB at this
    simp only [decide_eq_true_eq] at this
    omega
theorem text_inner (es : List S75) (ps : List ByteArray) (ks : List Int) (bs : List S59) : textN false es ps ks bs = be 1 2 ++ innT ((ks, ps), bs.map txt) := by
  unfold textN innT
  rw [if_neg (by decide), flat_msgs, List.length_map]
  simp only [List.append_assoc]
theorem text_leaf (es : List S75) (ps : List ByteArray) (ks : List Int) (bs : List S59) : textN true es ps ks bs = be 1 1 ++ (be 2 es.length ++ es.flatMap entTx) := by
  unfold textN
  rw [if_pos rfl, List.append_assoc]
theorem inn_ok {ps : List ByteArray} {ks : List Int} {bs : List S59} (h : chkN false [] ps ks bs = 0) (hk : ∀ k ∈ ks, k ≤ 65535) (hp : ∀ x ∈ ps, x.size ≤ 300) (hb : bs.length ≤ 100 ∧ ∀ m ∈ bs, okM m) : innP ((ks, ps), bs.map txt) := by
  obtain ⟨_, h2, h3, h4, h5⟩ := chk_inner0 h
  refine ⟨⟨by show ks.length < _; omega, ⟨rfl, fun k hx => ⟨by have := h4 k hx; omega, by have := hk k hx; omega⟩⟩, ⟨h3, fun x hx => by have := hp x hx; omega⟩⟩, ⟨by rw [List.length_map]; omega, rfl, fun x hx => ?_⟩⟩
  obtain ⟨m, hm, rfl⟩ := List.mem_map.1 hx
  have := hb.2 m hm
  unfold txt
  rw [size_list]
  unfold putM
  have e1 := tx_len m.f1
  have e2 := tx_len m.f2
  have e3 := tx_len m.f3
  obtain ⟨g1, g2, g3⟩ := this
  rw [List.length_append, List.length_append, be_len]
  split
  · omega
  · split
    · simp; omega
    · omega
theorem tk_put {lf : Bool} {es : List S75} {ps : List ByteArray} {ks : List Int} {bs : List S59} (hf : Few es ps ks bs) (h : (textR lf es ps ks bs).2 = 0) (hl : (textN lf es ps ks bs).length ≤ 1440) : tkN (textN lf es ps ks bs) = (⟨lf, es, ps, ks, bs⟩, 0) := by
  obtain ⟨_, hc, hk⟩ := textR_ok h
  unfold tkN
  rw [if_neg (by omega)]
  obtain ⟨f1, f2, f3, f4, f5, f6, f7⟩ := hf
  cases lf with
  | true =>
    obtain ⟨rfl, rfl, rfl⟩ := chk_leaf0 hc
    have hr : rdN (textN true es [] [] []) = (⟨true, es, [], [], []⟩, [], 0) := by
      rw [text_leaf]
      unfold rdN
      dsimp only
      rw [cd8.ok 1 _ (by decide)]
      dsimp only
      have := cdLeaf.ok es [] ⟨by omega, rfl, fun x hx => by have := f5 x hx; unfold okE at this; omega⟩
      rw [List.append_nil] at this
      rw [if_neg (by decide), if_pos rfl, leafN_eq, this]
      exact if_neg (fun h => h rfl)
    rw [hr]
    dsimp only
    rw [if_neg (by decide)]
    unfold msgs finN
    dsimp only
    rw [if_neg (by simp [hc])]
  | false =>
    obtain ⟨rfl, _⟩ := chk_inner0 hc
    have hr : rdN (textN false [] ps ks bs) = (⟨false, [], ps, ks, bs.map txt⟩, [], 0) := by
      rw [text_inner]
      unfold rdN
      dsimp only
      rw [cd8.ok 2 _ (by decide)]
      dsimp only
      have := cdInn.ok ((ks, ps), bs.map txt) [] (inn_ok hc hk f6 ⟨f4, f7⟩)
      rw [List.append_nil] at this
      rw [if_neg (by decide), if_neg (by decide), if_pos rfl, innN_eq, this]
      exact if_neg (fun h => h rfl)
    rw [hr]
    dsimp only
    rw [if_neg (by decide), msgs_put bs (fun m hm => ⟨(chk_inner0 hc).2.2.2.2 m hm, by have := (f7 m hm).2.2; omega⟩)]
    unfold finN
    dsimp only
    rw [if_neg (by simp [hc])]
theorem take_be1 (c : Nat) (T : List UInt8) (n : Nat) (hn : n ≠ 0) : (be 1 c ++ T).take n = be 1 c ++ T.take (n - 1) := by
  rw [show n = (be 1 c).length + (n - 1) by rw [be_len]; omega, List.take_length_add_append]
  congr 2
  rw [be_len]; omega
theorem tk_torn {lf : Bool} {es : List S75} {ps : List ByteArray} {ks : List Int} {bs : List S59} (hf : Few es ps ks bs) (h : (textR lf es ps ks bs).2 = 0) (hl : (textN lf es ps ks bs).length ≤ 1440) (n : Nat) (hn : n < (textN lf es ps ks bs).length) : tkN ((textN lf es ps ks bs).take n) = (zN, 10) := by
  obtain ⟨_, hc, hk⟩ := textR_ok h
  suffices hr : rdN ((textN lf es ps ks bs).take n) = (zRn, [], 10) by
    unfold tkN
    rw [if_neg (by rw [List.length_take]; omega), hr, if_pos (by decide)]
  obtain ⟨f1, f2, f3, f4, f5, f6, f7⟩ := hf
  by_cases h0 : n = 0
  · subst h0
    rw [List.take_zero]
    have h2 := cd8.torn 1 0 (by decide) (by rw [be_len]; decide)
    rw [List.take_zero] at h2
    unfold rdN
    exact if_pos (by rw [h2]; decide)
  · cases lf with
    | true =>
      rw [text_leaf] at hn ⊢
      rw [List.length_append, be_len] at hn
      have := cdLeaf.torn es (n - 1) ⟨by omega, rfl, fun x hx => by have := f5 x hx; unfold okE at this; omega⟩ (by omega)
      rw [take_be1 _ _ _ h0]
      unfold rdN
      dsimp only
      rw [cd8.ok 1 _ (by decide)]
      dsimp only
      rw [if_neg (by decide), if_pos rfl, leafN_eq, this]
      exact if_pos (by decide)
    | false =>
      obtain ⟨rfl, _⟩ := chk_inner0 hc
      rw [text_inner] at hn ⊢
      rw [List.length_append, be_len] at hn
      have := cdInn.torn ((ks, ps), bs.map txt) (n - 1) (inn_ok hc hk f6 ⟨f4, f7⟩) (by omega)
      rw [take_be1 _ _ _ h0]
      unfold rdN
      dsimp only
      rw [cd8.ok 2 _ (by decide)]
      dsimp only
      rw [if_neg (by decide), if_neg (by decide), if_pos rfl, innN_eq, this]
      exact if_pos (by decide)
theorem flat_ge {α : Type} (f : α → List UInt8) (h : ∀ x, 1 ≤ (f x).length) : ∀ l : List α, l.length ≤ (l.flatMap f).length
  | [] => Nat.le_refl _
  | x :: l => by
    have h1 := flat_ge f h l
    have h2 := h x
    rw [List.flatMap_cons, List.length_append, List.length_cons]; omega
theorem rd_back (s : List UInt8) (h : (rdN s).2.2 = 0) : ((rdN s).1.leaf = true ∧ (rdN s).1.ps = [] ∧ (rdN s).1.ks = [] ∧ (rdN s).1.ts = [] ∧ s = be 1 1 ++ (be 2 (rdN s).1.es.length ++ (rdN s).1.es.flatMap entTx) ++ (rdN s).2.1) ∨
    ((rdN s).1.leaf = false ∧ (rdN s).1.es = [] ∧ innP (((rdN s).1.ks, (rdN s).1.ps), (rdN s).1.ts) ∧ s = be 1 2 ++ innT (((rdN s).1.ks, (rdN s).1.ps), (rdN s).1.ts) ++ (rdN s).2.1) := by
  unfold rdN at h ⊢
  dsimp only at h ⊢
  by_cases h0 : (rU8 s 0).2.2 = 0
  · obtain ⟨a1, a2⟩ := cd8.back s h0
    generalize rU8 s 0 = a at *
    obtain ⟨c, L, e⟩ := a
    dsimp only at h h0 a1 a2 ⊢
    subst h0
    rw [if_neg (by decide)] at h ⊢
    by_cases h1 : c = 1
    · subst h1
      rw [if_pos rfl, leafN_eq] at h ⊢
      by_cases k0 : (leafR L 0).2.2 = 0
      · rw [if_neg (fun h => h k0)] at h ⊢
        obtain ⟨b1, b2⟩ := cdLeaf.back L k0
        left
        dsimp only at b2 ⊢
        exact ⟨rfl, rfl, rfl, rfl, by rw [List.append_assoc, ← b2]; exact a2⟩
      · rw [if_pos k0] at h; cases h
    · rw [if_neg h1] at h ⊢
      by_cases h2 : c = 2
      · subst h2
        rw [if_pos rfl, innN_eq] at h ⊢
        by_cases k0 : (innR L 0).2.2 = 0
        · rw [if_neg (fun h => h k0)] at h ⊢
          obtain ⟨b1, b2⟩ := cdInn.back L k0
          right
          dsimp only at b1 b2 ⊢
          exact ⟨rfl, rfl, b1, by rw [List.append_assoc, ← b2]; exact a2⟩
        · rw [if_pos k0] at h; cases h
      · rw [if_neg h2] at h; cases h
  · rw [if_pos h0] at h; cases h
theorem finN_bad {R : Rn} {L : List UInt8} {o : Option (List S59)} (h : (finN R L o).2 ≠ 0) : (finN R L o).1 = zN := by
  unfold finN at h ⊢
  cases o with
  | none => rfl
  | some ms =>
    dsimp only at h ⊢
    split
    · rfl
    · rename_i h1; rw [if_neg h1] at h; exact absurd rfl h
theorem tk_bad (s : List UInt8) (h : (tkN s).2 ≠ 0) : (tkN s).1 = zN := by
  unfold tkN at h ⊢
  split
  · rfl
  · rename_i h1
    rw [if_neg h1] at h
    split
    · rfl
    · rename_i h2
      rw [if_neg h2] at h
      exact finN_bad h
theorem finN_ok {R : Rn} {L : List UInt8} {o : Option (List S59)} (h : (finN R L o).2 = 0) : ∃ ms, o = some ms ∧ L = [] ∧ chkN R.leaf R.es R.ps R.ks ms = 0 ∧ (finN R L o).1 = ⟨R.leaf, R.es, R.ps, R.ks, ms⟩ := by
  unfold finN at h ⊢
  cases o with
  | none => cases h
  | some ms =>
    dsimp only at h ⊢
    split at h
    · cases h
    · rename_i h1
      exact ⟨ms, rfl, Classical.byContradiction fun h => h1 (.inl h), Classical.byContradiction fun h => h1 (.inr h), by rw [if_neg h1]⟩
theorem far_none {ks : List Int} (h : ∀ x ∈ ks, 0 ≤ x ∧ x < 65536) : ks.any farB = false :=
  List.any_eq_false.2 fun k hk => by unfold farB; simp only [decide_eq_true_eq]; have := h k hk; omega
theorem textR_of {lf : Bool} {es : List S75} {ps : List ByteArray} {ks : List Int} {bs : List S59} (hc : chkN lf es ps ks bs = 0) (hk : ks.any farB = false) : textR lf es ps ks bs = (textN lf es ps ks bs, 0) := by
  unfold textR
  rw [if_neg (by rw [hc, hk]; simp)]
theorem tk_back (s : List UInt8) (h : (tkN s).2 = 0) : s.length ≤ 1440 ∧ okSz (tkN s).1.f1 (tkN s).1.f2 (tkN s).1.f3 (tkN s).1.f4 ∧ textR (tkN s).1.f0 (tkN s).1.f1 (tkN s).1.f2 (tkN s).1.f3 (tkN s).1.f4 = (s, 0) := by
  unfold tkN at h ⊢
  split at h
  · cases h
  · rename_i h1
    rw [if_neg h1]
    split at h
    · rename_i h2; exact absurd h h2
    · rename_i h2
      rw [if_neg h2]
      have h3 : (rdN s).2.2 = 0 := Classical.byContradiction h2
      obtain ⟨ms, hm, hL, hc, he⟩ := finN_ok h
      rw [he]
      dsimp only
      have hb := rd_bounds s
      have hr := rd_back s h3
      have hsm := msgs_small hm (fun t ht => by have := hb.2.1 t ht; omega)
      obtain ⟨m1, m2⟩ := msgs_back _ _ hm
      generalize rdN s = R at *
      obtain ⟨⟨lf, es, ps, ks, ts⟩, L, e⟩ := R
      dsimp only at *
      subst hL
      refine ⟨by omega, ?_⟩
      rcases hr with ⟨rfl, rfl, rfl, rfl, hs⟩ | ⟨rfl, rfl, hp, hs⟩
      · rw [List.append_nil] at hs
        have hms : ms = [] := List.map_eq_nil_iff.1 m1
        subst hms
        have hle := congrArg List.length hs
        have hge := flat_ge entTx (fun x => by unfold entTx; rw [List.length_append, tx_len]; omega) es
        simp only [List.length_append, be_len] at hle
        refine ⟨⟨by omega, by simp, by simp, by simp, fun m hm => by cases hm⟩, ?_⟩
        rw [textR_of hc rfl, text_leaf, ← hs]
      · rw [List.append_nil] at hs
        have hle := congrArg List.length hs
        have hge := flat_ge tx (fun x => by rw [tx_len]; omega) ts
        unfold innT at hle
        dsimp only at hle
        simp only [List.length_append, be_len] at hle
        obtain ⟨⟨p1, ⟨p2, p3⟩, ⟨p4, p5⟩⟩, p6⟩ := hp
        dsimp only at p1 p2 p3 p4 p5
        have hml : ms.length = ts.length := by rw [← m1, List.length_map]
        refine ⟨⟨by simp, by omega, by omega, by omega, hsm⟩, ?_⟩
        rw [textR_of hc (far_none p3), text_inner, m1, ← hs]

theorem w64_step (i : Nat) (h : i ≤ 1000000) : wrap64 ((i : Int) + 1) = ((i + 1 : Nat) : Int) := by unfold wrap64; omega
theorem same_e (l : List S75) (hl : l.length ≤ 5000) : ∀ (g i k : Nat), i + g = l.length → g < k → run_Same.l0 k l l (l.length : Int) (i : Int) = some true := by
  intro g
  induction g with
  | zero =>
    intro i k hi hk
    obtain ⟨k, rfl⟩ : ∃ m, k = m + 1 := ⟨k - 1, by omega⟩
    rw [run_Same.l0, if_neg (by omega)]
  | succ g ih =>
    intro i k hi hk
    obtain ⟨k, rfl⟩ : ∃ m, k = m + 1 := ⟨k - 1, by omega⟩
    rw [run_Same.l0, if_pos (by omega), if_pos (by omega), if_pos (by omega), if_pos (by omega), if_neg (by simp), w64_step i (by omega)]
    exact ih (i + 1) k (by omega) (by omega)
theorem same_s (l : List ByteArray) (hl : l.length ≤ 5000) : ∀ (g i k : Nat), i + g = l.length → g < k → slices_Equal_string_string.l0 k l l (l.length : Int) (i : Int) = some true := by
  intro g
  induction g with
  | zero =>
    intro i k hi hk
    obtain ⟨k, rfl⟩ : ∃ m, k = m + 1 := ⟨k - 1, by omega⟩
    rw [slices_Equal_string_string.l0, if_neg (by omega)]
  | succ g ih =>
    intro i k hi hk
    obtain ⟨k, rfl⟩ : ∃ m, k = m + 1 := ⟨k - 1, by omega⟩
    rw [slices_Equal_string_string.l0, if_pos (by omega), if_pos (by omega), if_pos (by omega), if_pos (by omega), if_pos rfl, w64_step i (by omega)]
    exact ih (i + 1) k (by omega) (by omega)
theorem same_i (l : List Int) (hl : l.length ≤ 5000) : ∀ (g i k : Nat), i + g = l.length → g < k → slices_Equal_int_int.l0 k l l (l.length : Int) (i : Int) = some true := by
  intro g
  induction g with
  | zero =>
    intro i k hi hk
    obtain ⟨k, rfl⟩ : ∃ m, k = m + 1 := ⟨k - 1, by omega⟩
    rw [slices_Equal_int_int.l0, if_neg (by omega)]
  | succ g ih =>
    intro i k hi hk
    obtain ⟨k, rfl⟩ : ∃ m, k = m + 1 := ⟨k - 1, by omega⟩
    rw [slices_Equal_int_int.l0, if_pos (by omega), if_pos (by omega), if_pos (by omega), if_pos (by omega), if_pos rfl, w64_step i (by omega)]
    exact ih (i + 1) k (by omega) (by omega)
theorem same_m (l : List S59) (hl : l.length ≤ 5000) : ∀ (g i k : Nat), i + g = l.length → g < k → api_Msg_44.l0 k l l (l.length : Int) (i : Int) = some true := by
  intro g
  induction g with
  | zero =>
    intro i k hi hk
    obtain ⟨k, rfl⟩ : ∃ m, k = m + 1 := ⟨k - 1, by omega⟩
    rw [api_Msg_44.l0, if_neg (by omega)]
  | succ g ih =>
    intro i k hi hk
    obtain ⟨k, rfl⟩ : ∃ m, k = m + 1 := ⟨k - 1, by omega⟩
    rw [api_Msg_44.l0, if_pos (by omega), if_pos (by omega), if_pos (by omega), if_pos (by omega), if_neg (by simp), w64_step i (by omega)]
    exact ih (i + 1) k (by omega) (by omega)
theorem nsame_refl (lf : Bool) {es : List S75} {ps : List ByteArray} {ks : List Int} {bs : List S59} (h1 : es.length ≤ 5000) (h2 : ps.length ≤ 5000) (h3 : ks.length ≤ 5000) (h4 : bs.length ≤ 5000) (k : Nat) (hk : 5000 < k) : node_Same.f k lf es ps ks bs lf es ps ks bs = some true := by
  have e1 := same_e es h1 es.length 0 k (by omega) (by omega)
  have e2 := same_s ps h2 ps.length 0 k (by omega) (by omega)
  have e3 := same_i ks h3 ks.length 0 k (by omega) (by omega)
  have e4 := same_m bs h4 bs.length 0 k (by omega) (by omega)
  rw [show ((0 : Nat) : Int) = 0 from rfl] at e1 e2 e3 e4
  unfold node_Same.f run_Same.f slices_Equal_string_string.f slices_Equal_int_int.f api_Msg_44.f
  rw [if_pos (by simp), if_pos rfl, if_pos rfl, if_pos rfl, if_pos rfl, e1, Option.bind_some, if_pos rfl, e2, Option.bind_some, if_pos rfl, e3, Option.bind_some, if_pos rfl, e4, Option.bind_some]
theorem take_f (s : ByteArray) : node_Take.f s = some ((tkN s.data.toList).1.f0, (tkN s.data.toList).1.f1, (tkN s.data.toList).1.f2, (tkN s.data.toList).1.f3, (tkN s.data.toList).1.f4, (tkN s.data.toList).2) := rfl
theorem fails_f (s : ByteArray) (e : Int) (ht : tkN s.data.toList = (zN, e)) (k : Nat) (hk : 5000 < k) : rillbedlaw18_fails.f k s e = some true := by
  unfold rillbedlaw18_fails.f
  rw [take_f s, ht, Option.bind_some]
  dsimp only [zN]
  rw [nsame_refl false (by simp) (by simp) (by simp) (by simp) k hk, Option.bind_some, if_pos rfl]
  simp
theorem ext_take (l : List UInt8) (n : Nat) : ((⟨l.toArray⟩ : ByteArray).extract 0 n).data.toList = l.take n := by
  simp [ByteArray.data_extract]
theorem put_f {lf : Bool} {es : List S75} {ps : List ByteArray} {ks : List Int} {bs : List S59} (hz : okSz es ps ks bs) : node_Put.f lf es ps ks bs = if (textR lf es ps ks bs).2 = 0 then (if ((textR lf es ps ks bs).1.length : Int) > 1440 then some (⟨#[]⟩, 3) else some (⟨(textR lf es ps ks bs).1.toArray⟩, 0)) else some (⟨#[]⟩, (textR lf es ps ks bs).2) := by
  unfold node_Put.f node_text.f
  rw [if_pos hz, Option.bind_some]
  dsimp only
  rw [size_list]
theorem back_j1 (s : ByteArray) (k : Nat) (hk : 5001 < k) : rillbedlaw18_NodeBack.j1 k s = some true := by
  obtain ⟨k, rfl⟩ : ∃ m, k = m + 1 := ⟨k - 1, by omega⟩
  rw [rillbedlaw18_NodeBack.j1, take_f s, Option.bind_some]
  dsimp only
  by_cases h0 : (tkN s.data.toList).2 = 0
  · rw [if_pos h0]
    obtain ⟨b1, b2, b3⟩ := tk_back _ h0
    rw [put_f b2, b3]
    dsimp only
    rw [if_pos rfl, if_neg (by omega), Option.bind_some]
    dsimp only
    rw [mk_ba, if_pos rfl, if_pos rfl, works_true k (by omega)]
    rfl
  · rw [if_neg h0, fails_f s _ (by rw [← tk_bad _ h0]) k (by omega), Option.bind_some, if_pos rfl, works_true k (by omega)]
    rfl
theorem text_pos (lf : Bool) (es : List S75) (ps : List ByteArray) (ks : List Int) (bs : List S59) : 1 ≤ (textN lf es ps ks bs).length := by
  cases lf with
  | true => rw [text_leaf, List.length_append, be_len]; omega
  | false => rw [text_inner, List.length_append, be_len]; omega
theorem back_j0 (lf : Bool) {es : List S75} {ps : List ByteArray} {ks : List Int} {bs : List S59} (hf : Few es ps ks bs) (s : ByteArray) (c : Int) (hc : 0 ≤ c ∧ c < 65536) (k : Nat) (hk : 5003 < k) : rillbedlaw18_NodeBack.j0 k s c false lf es ps ks bs = some true := by
  obtain ⟨k, rfl⟩ : ∃ m, k = m + 1 := ⟨k - 1, by omega⟩
  have hz := hf.sz
  rw [rillbedlaw18_NodeBack.j0, if_neg (by decide), put_f hz]
  by_cases h0 : (textR lf es ps ks bs).2 = 0
  · obtain ⟨ht, _⟩ := textR_ok h0
    rw [if_pos h0, ht]
    dsimp only
    by_cases hl : ((textN lf es ps ks bs).length : Int) > 1440
    · rw [if_pos hl, Option.bind_some]
      dsimp only
      rw [if_neg (by decide)]
      exact back_j1 s k (by omega)
    · have p1 := text_pos lf es ps ks bs
      have hsz : (⟨(textN lf es ps ks bs).toArray⟩ : ByteArray).size = (textN lf es ps ks bs).length := by rw [Lib.size_eq]
      rw [if_neg hl, Option.bind_some]
      dsimp only
      rw [if_pos rfl, take_f, Option.bind_some]
      dsimp only
      rw [tk_put hf h0 (by omega), if_pos rfl]
      dsimp only
      have hsize : node_Size.f lf es ps ks bs = some ((textN lf es ps ks bs).length : Int) := by
        unfold node_Size.f node_text.f
        rw [if_pos hz, Option.bind_some, ht]
        dsimp only
        rw [size_list]
      rw [nsame_refl lf hz.1 hz.2.1 hz.2.2.1 hz.2.2.2.1 k (by omega), Option.bind_some, if_pos rfl, hsz, if_neg (by omega), hsize, Option.bind_some, if_pos rfl]
      have hw : wrap64 c = c := by unfold wrap64; omega
      rw [hw]
      have hm0 : 0 ≤ Int.tmod c ((textN lf es ps ks bs).length : Int) := Int.tmod_nonneg _ hc.1
      have hm1 : Int.tmod c ((textN lf es ps ks bs).length : Int) < ((textN lf es ps ks bs).length : Int) := Int.tmod_lt_of_pos _ (by omega)
      rw [if_pos hm0, if_pos (by omega)]
      have hx : ((⟨(textN lf es ps ks bs).toArray⟩ : ByteArray).extract 0 (Int.tmod c ((textN lf es ps ks bs).length : Int)).toNat).data.toList = (textN lf es ps ks bs).take (Int.tmod c ((textN lf es ps ks bs).length : Int)).toNat := ext_take _ _
      rw [fails_f _ 10 (by rw [hx]; exact tk_torn hf h0 (by omega) _ (by omega)) k (by omega), Option.bind_some, if_pos rfl]
      exact back_j1 s k (by omega)
  · rw [if_neg h0, Option.bind_some]
    dsimp only
    rw [if_neg h0]
    exact back_j1 s k (by omega)
theorem back_true (lf : Bool) (es : List S75) (ps : List ByteArray) (ks : List Int) (bs : List S59) (s : ByteArray) (c : Int) (hc : 0 ≤ c ∧ c < 65536) (k : Nat) (hk : 5100 < k) : rillbedlaw18_NodeBack.f k lf es ps ks bs s c = some true := by
  obtain ⟨b, hb, hs⟩ := few_spec lf es ps ks bs k (by omega)
  have ht : rillbedlaw18_NodeBack.j0 k s c true lf es ps ks bs = some true := by
    obtain ⟨k, rfl⟩ : ∃ m, k = m + 1 := ⟨k - 1, by omega⟩
    rw [rillbedlaw18_NodeBack.j0, if_pos rfl, works_true k (by omega)]; rfl
  unfold rillbedlaw18_NodeBack.f
  rw [hb, Option.bind_some]
  split
  · rename_i hbt
    by_cases h3 : (s.size : Int) > 3000
    · rw [decide_eq_true h3]; exact ht
    · rw [decide_eq_false h3]; exact back_j0 lf (hs hbt) s c hc k (by omega)
  · exact ht
end Go.Proofs.Ytnoimnijoklkdaa.Px
