/- node.Take: its walk, for the printer. -/
import Derived.Test.YtnoimnijoklkdaaNxClo
import Derived.Test.YtnoimnijoklkdaaNxText
import Derived.Test.YtnoimnijoklkdaaNxPl
set_option linter.unusedVariables false
set_option linter.unusedSimpArgs false
namespace Go.Proofs.Ytnoimnijoklkdaa.Px
open Go.RowKit Go.Proofs.YtnoimnijoklkdaaW.PrintWords Go.Proofs.YtnoimnijoklkdaaW.PrintLast

def zN : S28 := ⟨false, [], [], [], []⟩
def msgs : List ByteArray → Option (List S59)
  | [] => some []
  | t :: ts => if (mtk t.data.toList).2 ≠ 0 then none else (msgs ts).map fun r => (mtk t.data.toList).1 :: r
def finN (R : Rn) (L : List UInt8) : Option (List S59) → S28 × Int
  | none => (zN, 4)
  | some ms => if L ≠ [] ∨ chkN R.leaf R.es R.ps R.ks ms ≠ 0 then (zN, 4) else (⟨R.leaf, R.es, R.ps, R.ks, ms⟩, 0)
/-- The node that bytes are, or why they are none. -/
def tkN (l : List UInt8) : S28 × Int :=
  if 1440 < l.length then (zN, 3) else if (rdN l).2.2 ≠ 0 then (zN, (rdN l).2.2) else finN (rdN l).1 (rdN l).2.1 (msgs (rdN l).1.ts)

def TkPost (RT : S28 × Int) (w : World) (e : Ending) (w' : World) : Prop :=
  ∃ v1 v2 v3 v4 : Value, e = .returned (.tuple #[.agg #[.bool RT.1.f0, v1, v2, v3, v4], .int .i64 RT.2]) ∧ Kd.R k75 75 w' w.heap.size (fun _ => True) v1 RT.1.f1 ∧ Kd.R Kd.string 9 w' w.heap.size (fun _ => True) v2 RT.1.f2 ∧
    Kd.R (Kd.int .i64) 3 w' w.heap.size (fun _ => True) v3 RT.1.f3 ∧ Kd.R k59 59 w' w.heap.size (fun _ => True) v4 RT.1.f4 ∧ Upd (fun _ => False) w w'
theorem TkPost.zero {RT : S28 × Int} {c : Int} {w w' : World} (h : RT = (zN, c)) (hu : Upd (fun _ => False) w w') : TkPost RT w (.returned (.tuple #[.agg #[.bool false, .slice none 0 0, .slice none 0 0, .slice none 0 0, .slice none 0 0], .int .i64 c])) w' := by
  subst h
  exact ⟨_, _, _, _, rfl, Kd.R_nil _ _ _ _ _, Kd.R_nil _ _ _ _ _, Kd.R_nil _ _ _ _ _, Kd.R_nil _ _ _ _ _, hu⟩

set_option maxHeartbeats 4000000 in
set_option maxRecDepth 100000 in
theorem take_long (s : ByteArray) (w : World) (hs : 1440 < s.size) : Calls Try.prog 9 #[.string s] w (TkPost (tkN s.data.toList) w) := by
  have hun := Try.underlying28
  have HF : tkN s.data.toList = (zN, 3) := by unfold tkN; rw [if_pos (by rw [← Lib.size_eq]; exact hs)]
  have h1 : decide ((1440 : Int) < (s.size : Int)) = true := decide_eq_true (by omega)
  have h2 : decide (1440 < s.size) = true := decide_eq_true hs
  have hz := heap_alloc_new w (.cells #[.bool false, .slice none 0 0, .slice none 0 0, .slice none 0 0, .slice none 0 0] 28)
  have hmf : ∀ (fn : Fn) (first cap : Array Value) (w : World), (Instr.makeFunc fn first cap).run Try.prog w = .ok (.func fn first cap) w := fun _ _ _ _ => rfl
  clear hs
  go_enter_defers Try.func9, Try.ntmps9
  go_wp2
  refine ⟨.tuple #[.agg #[.bool false, .slice none 0 0, .slice none 0 0, .slice none 0 0, .slice none 0 0], .int .i64 3], ?_, TkPost.zero HF (((Upd.refl _ _).alloc _).alloc _)⟩
  simp [results, Try.results9, go_sem, hun]

theorem end_facts {W : World} {N E : Nat} {t te : TypeId} {a0 a1 a2 a3 a4 b0 : Value} (hN : W.heap[N]? = some (.cells #[a0, a1, a2, a3, a4] t (0, 0))) (hE : W.heap[E]? = some (.cells #[b0] te (0, 0))) (hne : N ≠ E) (v0 v1 v2 v3 v4 c : Value) {F : Nat → Prop} {w : World} (hu : Upd F w W) (hNF : N < w.heap.size → F N) (hEF : E < w.heap.size → F E) :
    ((set5 W N v0 v1 v2 v3 v4).setCell ⟨E, 0, none⟩ c).heap[N]? = some (.cells #[v0, v1, v2, v3, v4] t (0, 0)) ∧ ((set5 W N v0 v1 v2 v3 v4).setCell ⟨E, 0, none⟩ c).heap[E]? = some (.cells #[c] te (0, 0)) ∧ Upd F w ((set5 W N v0 v1 v2 v3 v4).setCell ⟨E, 0, none⟩ c) :=
  ⟨heap_setCell_ne (set5_at hN v0 v1 v2 v3 v4) ⟨E, 0, none⟩ c hne, heap_setCell_eq (i := 0) (set5_ne hE (Ne.symm hne) v0 v1 v2 v3 v4) c, (set5_upd hu hNF v0 v1 v2 v3 v4).setCell (p := ⟨E, 0, none⟩) hEF c⟩
theorem end_R {α : Type} {d : Kd α} {e base : Nat} {v : Value} {xs : List α} {W : World} (h : d.R e W base (fun _ => True) v xs) {N E : Nat} (hN : N < base ∧ E < base) (v0 v1 v2 v3 v4 c : Value) : d.R e ((set5 W N v0 v1 v2 v3 v4).setCell ⟨E, 0, none⟩ c) base (fun _ => True) v xs :=
  R_set1 (set5_R h hN.1 v0 v1 v2 v3 v4) (p := ⟨E, 0, none⟩) hN.2 c
theorem msgs_small {ts : List ByteArray} {ms : List S59} (h : msgs ts = some ms) (hs : ∀ t ∈ ts, t.size ≤ 60000) : ∀ m ∈ ms, m.f3.size ≤ 60000 := by
  induction ts generalizing ms with
  | nil => simp [msgs] at h; subst h; simp
  | cons t ts ih =>
    unfold msgs at h
    split at h
    · cases h
    · obtain ⟨r, hr, rfl⟩ := Option.map_eq_some_iff.1 h
      intro m hm
      rcases List.mem_cons.1 hm with rfl | hm
      · have h1 := mtk_f3 t.data.toList
        have h2 := hs t (List.mem_cons_self ..)
        rw [← Lib.size_eq] at h1
        omega
      · exact ih hr (fun t ht => hs t (List.mem_cons_of_mem _ ht)) m hm
theorem msz {a i : Nat} (h : a = i) (hi : i ≤ 65535) : a + 1 ≤ 140000 ∧ (a + 1) * 56 ≤ 140737488355328 := by omega
set_option maxHeartbeats 8000000 in
set_option maxRecDepth 100000 in
theorem take_short (s : ByteArray) (w : World) (hs : s.size ≤ 1440) : Calls Try.prog 9 #[.string s] w (TkPost (tkN s.data.toList) w) := by
  have hun := Try.underlying28
  have hum := Try.underlying59
  have hsl : s.data.toList.length = s.size := (Lib.size_eq s).symm
  obtain ⟨RT, hRT⟩ : ∃ RT, RT = tkN s.data.toList := ⟨_, rfl⟩
  rw [← hRT]
  unfold tkN at hRT
  rw [if_neg (by omega)] at hRT
  have HRT := Lib.hid hRT
  have h1 : decide ((1440 : Int) < (s.size : Int)) = false := decide_eq_false (by omega)
  have h2 : decide (1440 < s.size) = false := decide_eq_false (by omega)
  have HNew := Lib.hid (fun w => codec_New s.data.toList w)
  rw [mk_ba] at HNew
  have HRead := Lib.hid (fun br w h => read_all br s.data.toList w (by omega) h)
  have hmf : ∀ (fn : Fn) (first cap : Array Value) (w : World), (Instr.makeFunc fn first cap).run Try.prog w = .ok (.func fn first cap) w := fun _ _ _ _ => rfl
  have hsz : ((w.alloc (.cells #[.bool false, .slice none 0 0, .slice none 0 0, .slice none 0 0, .slice none 0 0] 28)).alloc (.cells #[.int .i64 0] 29)).heap.size = w.heap.size + 2 := (Array.size_push _).trans (congrArg (· + 1) (Array.size_push _))
  have hN0 := heap_alloc_lt (heap_alloc_new w (.cells #[.bool false, .slice none 0 0, .slice none 0 0, .slice none 0 0, .slice none 0 0] 28)) (.cells #[.int .i64 0] 29)
  have hE0 := heap_alloc_new (w.alloc (.cells #[.bool false, .slice none 0 0, .slice none 0 0, .slice none 0 0, .slice none 0 0] 28)) (.cells #[.int .i64 0] 29)
  have he1 : (w.alloc (.cells #[.bool false, .slice none 0 0, .slice none 0 0, .slice none 0 0, .slice none 0 0] 28)).heap.size = w.heap.size + 1 := Array.size_push _
  rw [he1] at hE0
  have u0 := ((Upd.refl (fun _ => False) w).alloc (.cells #[.bool false, .slice none 0 0, .slice none 0 0, .slice none 0 0, .slice none 0 0] 28)).alloc (.cells #[.int .i64 0] 29)
  have HSZ := Lib.hid hsz
  have U0 := Lib.hid u0
  have hbd := rd_bounds s.data.toList
  rw [hsl] at hbd
  have htl := hbd.1
  have hts : ∀ t ∈ (rdN s.data.toList).1.ts, t.size ≤ 60000 := fun t ht => by have := hbd.2.1 t ht; omega
  have hle := hbd.2.2
  have HTL := Lib.hid htl
  have HTS := Lib.hid hts
  have HLE := Lib.hid hle
  clear hbd htl hts hle
  clear hs hsl hRT he1 hsz u0
  go_enter_defers Try.func9, Try.ntmps9
  go_wp2_with (fail)
  have HN0 := Lib.hid hN0
  have HE0 := Lib.hid hE0
  clear hN0 hE0 h1 h2
  generalize (w.alloc (.cells #[.bool false, .slice none 0 0, .slice none 0 0, .slice none 0 0, .slice none 0 0] 28)).alloc (.cells #[.int .i64 0] 29) = w2 at *
  obtain ⟨N0, hN0⟩ : ∃ N0, w.heap.size = N0 := ⟨_, rfl⟩
  obtain ⟨E0, hE0⟩ : ∃ E0, N0 + 1 = E0 := ⟨_, rfl⟩
  obtain ⟨br, hbr⟩ : ∃ br, w2.heap.size = br := ⟨_, rfl⟩
  have hLB := HSZ.out
  rw [hN0] at HN0 HE0 hLB ⊢
  rw [hE0] at HE0 ⊢
  rw [hbr] at hLB
  have LB := Lib.hid (show N0 < br ∧ E0 < br ∧ N0 ≠ E0 ∧ N0 ≠ br ∧ E0 ≠ br ∧ w.heap.size ≤ br ∧ ¬ N0 < w.heap.size ∧ ¬ E0 < w.heap.size ∧ ¬ br < w.heap.size from ⟨by omega, by omega, by omega, by omega, by omega, by omega, by omega, by omega, by omega⟩)
  clear hN0 hE0 hLB HSZ
  refine (HNew.out _).mono ?_
  rintro e w3 ⟨rfl, hR3, u3⟩
  have lb3 := lt_of_heap hR3
  rw [hbr] at hR3 lb3 ⊢
  have HN3 := Lib.hid (u3.heap HN0.out (fun f => f))
  have HE3 := Lib.hid (u3.heap HE0.out (fun f => f))
  have U3 := Lib.hid (U0.out.trans u3 (fun _ _ f => f))
  have LB3 := Lib.hid lb3
  clear u3 lb3 HN0 HE0 U0 hbr HNew
  go_wp2_with (fail)
  refine (HRead.out br w3 hR3).mono ?_
  rintro e w4 hpost
  clear HRead hR3
  generalize rdN s.data.toList = RR at *
  obtain ⟨⟨lf, es, ps, ks, ts⟩, L, ec⟩ := RR
  dsimp only at HRT HTL HTS HLE
  rcases hpost with ⟨hbad, rfl, u4⟩ | ⟨hok, v1, v2, v3, vt, rfl, K1, K2, K3, KT, hR4, u4⟩
  · dsimp only at hbad u4
    replace HRT := Lib.hid (HRT.out.trans (if_pos hbad))
    have HN4 := u4.heap HN3.out LB.out.2.2.2.1
    have HE4 := u4.heap HE3.out LB.out.2.2.2.2.1
    have U4 := Lib.hid (U3.out.trans u4 (fun k hk f => LB.out.2.2.2.2.2.2.2.2 (f ▸ hk)))
    clear u4 hbad
    go_wp2
    refine leaves_cons (f := 30) (args := #[.pointer (some ⟨N0, 0, none⟩), .pointer (some ⟨E0, 0, none⟩)]) (by simp) (by simp [go_sem]) ?_
    refine (clo_torn N0 E0 ec [] _ _ _ _ _ _ w4 HN4 HE4 LB.out.2.2.1).mono ?_
    rintro e u' w5 ⟨rfl, rfl, hN5, hE5, hu⟩
    have z0 := cell_heap hN5 0 _ rfl
    have z1 := cell_heap hN5 1 _ rfl
    have z2 := cell_heap hN5 2 _ rfl
    have z3 := cell_heap hN5 3 _ rfl
    have z4 := cell_heap hN5 4 _ rfl
    have ze := cell_heap hE5 0 _ rfl
    refine ⟨.tuple #[.agg #[.bool false, .slice none 0 0, .slice none 0 0, .slice none 0 0, .slice none 0 0], .int .i64 ec], ?_, TkPost.zero HRT.out (U4.out.trans hu (fun k hk f => f.elim (fun f => LB.out.2.2.2.2.2.2.1 (f ▸ hk)) (fun f => LB.out.2.2.2.2.2.2.2.1 (f ▸ hk))))⟩
    simp [results, Try.results9, go_sem, hun, z0, z1, z2, z3, z4, ze]
  · dsimp only at hok K1 K2 K3 KT hR4 u4
    subst hok
    replace HRT := Lib.hid (HRT.out.trans (if_neg (by decide)))
    have hN4 := u4.heap HN3.out LB.out.2.2.2.1
    have HE4 := Lib.hid (u4.heap HE3.out LB.out.2.2.2.2.1)
    have U4 := Lib.hid (U3.out.trans u4 (fun k hk f => LB.out.2.2.2.2.2.2.2.2 (f ▸ hk)))
    have LS4 := Lib.hid u4.size
    clear u4 HN3 HE3 U3
    obtain ⟨A1, c1, rfl, hc1, _⟩ := Kd.R_reads K1
    obtain ⟨A2, c2, rfl, hc2, _⟩ := Kd.R_reads K2
    obtain ⟨A3, c3, rfl, hc3, _⟩ := Kd.R_reads K3
    obtain ⟨AT, cT, rfl, hcT, _⟩ := Kd.R_reads KT
    have d0 := cell_heap hN4 0 _ rfl
    have d1 := cell_heap hN4 1 _ rfl
    have d2 := cell_heap hN4 2 _ rfl
    have d3 := cell_heap hN4 3 _ rfl
    have d4 := cell_heap hN4 4 _ rfl
    have f0 := free_heap hN4 0
    have f1 := free_heap hN4 1
    have f2 := free_heap hN4 2
    have f3 := free_heap hN4 3
    have f4 := free_heap hN4 4
    have LB3' := Lib.hid (show N0 < w3.heap.size ∧ E0 < w3.heap.size from ⟨Nat.lt_trans LB.out.1 LB3.out, Nat.lt_trans LB.out.2.1 LB3.out⟩)
    have HN5 := Lib.hid (set5_at hN4 (.bool lf) (.slice A1 es.length c1) (.slice A2 ps.length c2) (.slice A3 ks.length c3) (.slice none 0 0))
    have HE5 := Lib.hid (set5_ne HE4.out (Ne.symm LB.out.2.2.1) (.bool lf) (.slice A1 es.length c1) (.slice A2 ps.length c2) (.slice A3 ks.length c3) (.slice none 0 0))
    have HR5 : Hid (Rd _ br L 0) := Lib.hid (set5_ne hR4 (Ne.symm LB.out.2.2.2.1) (.bool lf) (.slice A1 es.length c1) (.slice A2 ps.length c2) (.slice A3 ks.length c3) (.slice none 0 0))
    have HK1 := Lib.hid (set5_R K1 LB3'.out.1 (.bool lf) (.slice A1 es.length c1) (.slice A2 ps.length c2) (.slice A3 ks.length c3) (.slice none 0 0))
    have HK2 := Lib.hid (set5_R K2 LB3'.out.1 (.bool lf) (.slice A1 es.length c1) (.slice A2 ps.length c2) (.slice A3 ks.length c3) (.slice none 0 0))
    have HK3 := Lib.hid (set5_R K3 LB3'.out.1 (.bool lf) (.slice A1 es.length c1) (.slice A2 ps.length c2) (.slice A3 ks.length c3) (.slice none 0 0))
    have HKT := Lib.hid (set5_R KT LB3'.out.1 (.bool lf) (.slice A1 es.length c1) (.slice A2 ps.length c2) (.slice A3 ks.length c3) (.slice none 0 0))
    have U5 := Lib.hid (set5_upd U4.out (N := N0) (fun h => LB.out.2.2.2.2.2.2.1 h) (.bool lf) (.slice A1 es.length c1) (.slice A2 ps.length c2) (.slice A3 ks.length c3) (.slice none 0 0))
    have LS5 := Lib.hid ((set5_upd (Upd.refl (fun _ => True) w4) (N := N0) (fun _ => trivial) (.bool lf) (.slice A1 es.length c1) (.slice A2 ps.length c2) (.slice A3 ks.length c3) (.slice none 0 0)).size)
    unfold set5 at HN5 HE5 HR5 HK1 HK2 HK3 HKT U5 LS5
    clear K1 K2 K3 KT hR4 U4 HE4
    go_wp2_with (fail)
    clear d0 d1 d2 d3 d4 f0 f1 f2 f3 f4 hN4
    generalize ((((w4.setCell ⟨N0, 0, none⟩ (.bool lf)).setCell ⟨N0, 1, none⟩ (.slice A1 es.length c1)).setCell ⟨N0, 2, none⟩ (.slice A2 ps.length c2)).setCell ⟨N0, 3, none⟩ (.slice A3 ks.length c3)).setCell ⟨N0, 4, none⟩ (.slice none 0 0) = w5 at *
    have LB5 := Lib.hid (show w3.heap.size ≤ w5.heap.size from Nat.le_trans LS4.out LS5.out)
    have LN5 := Lib.hid (show N0 < w5.heap.size ∧ E0 < w5.heap.size ∧ br < w5.heap.size from ⟨Nat.lt_of_lt_of_le LB3'.out.1 LB5.out, Nat.lt_of_lt_of_le LB3'.out.2 LB5.out, Nat.lt_of_lt_of_le LB3.out LB5.out⟩)
    clear hc1 hc2 hc3 hcT
    have LBW := Lib.hid (show w.heap.size ≤ w3.heap.size ∧ w.heap.size ≤ w5.heap.size from ⟨Nat.le_trans LB.out.2.2.2.2.2.1 (Nat.le_of_lt LB3.out), Nat.le_trans LB.out.2.2.2.2.2.1 (Nat.le_of_lt LN5.out.2.2)⟩)
    go_loopg [24] ts.length (fun g v24 wr => ∃ (i : Nat) (A : Option Addr) (c : Nat) (ms : List S59), v24 = .int .i64 i ∧ i + g = ts.length ∧ Hid (wr.heap[N0]? = some (.cells #[.bool lf, .slice A1 es.length c1, .slice A2 ps.length c2, .slice A3 ks.length c3, .slice A ms.length c] 28 (0, 0))) ∧
      Hid (Kd.R k59 59 wr w5.heap.size (fun _ => True) (.slice A ms.length c) ms) ∧ Hid (Upd (fun k => k = N0) w5 wr) ∧ Hid (msgs ts = (msgs (ts.drop i)).map (fun r => ms ++ r)) ∧ Hid (ms.length = i))
    case atStart => exact ⟨0, none, 0, [], rfl, Nat.zero_add _, HN5, Lib.hid (Kd.R_nil _ _ _ _ _), Lib.hid (Upd.refl _ _), Lib.hid (by cases h : msgs ts <;> simp [h]), Lib.hid rfl⟩
    case round =>
      clear HN5
      obtain ⟨i, A, c, ms, rfl, hig, HN, HK, HU, HM, hmi⟩ := hrel
      cases gk with
      | zero =>
        obtain rfl := step_zero hig
        have hlt : decide ((ts.length : Int) < (ts.length : Int)) = false := decide_eq_false (Int.lt_irrefl _)
        have hltn : decide (ts.length < ts.length) = false := decide_eq_false (Nat.lt_irrefl _)
        have hm : msgs ts = some ms := by rw [HM.out, List.drop_length]; simp [msgs]
        have hx : RT = if L ≠ [] ∨ chkN lf es ps ks ms ≠ 0 then (zN, 4) else (⟨lf, es, ps, ks, ms⟩, 0) := by rw [HRT.out, hm]; rfl
        have HX := Lib.hid hx
        have HMS := Lib.hid hm
        have HRr : Hid (Rd wr br L 0) := Lib.hid (HU.out.heap HR5.out (Ne.symm LB.out.2.2.2.1))
        have HEr := Lib.hid (HU.out.heap HE5.out (Ne.symm LB.out.2.2.1))
        have UWr := Lib.hid (U5.out.trans HU.out (fun k hk f => LB.out.2.2.2.2.2.2.1 (f ▸ hk)))
        have n1 : ¬ N0 = E0 := LB.out.2.2.1
        have n2 : ¬ E0 = N0 := Ne.symm LB.out.2.2.1
        clear hm hx hig HM
        by_cases hL : L = []
        · subst hL
          have HR1 := Lib.hid (R_upd HK1.out HU.out (fun k hk f => by have := LB3'.out.1; omega))
          have HR2 := Lib.hid (R_upd HK2.out HU.out (fun k hk f => by have := LB3'.out.1; omega))
          have HR3 := Lib.hid (R_upd HK3.out HU.out (fun k hk f => by have := LB3'.out.1; omega))
          obtain ⟨A1', c1', hA1, hc1, C1⟩ := Kd.R_reads HR1.out
          cases hA1
          obtain ⟨A2', c2', hA2, hc2, C2⟩ := Kd.R_reads HR2.out
          cases hA2
          obtain ⟨A3', c3', hA3, hc3, C3⟩ := Kd.R_reads HR3.out
          cases hA3
          obtain ⟨A4', c4', hA4, hc4, C4⟩ := Kd.R_reads HK.out
          cases hA4
          have hmb := msgs_small HMS.out HTS.out
          have hml : ms.length < 1000000 := by have := hmi.out; have := HTL.out; omega
          have HC := Lib.hid (check_walk lf A1 c1 es A2 c2 ps A3 c3 ks A c ms wr C1 hc1 C2 C3 C4 hmb HLE.out.1 HLE.out.2.1 HLE.out.2.2 hml)
          clear C1 C2 C3 C4 hmb hml hc1 hc2 hc3 hc4
          have d0 := cell_heap HN.out 0 (.bool lf) rfl
          have d1 := cell_heap HN.out 1 (.slice A1 es.length c1) rfl
          have d2 := cell_heap HN.out 2 (.slice A2 ps.length c2) rfl
          have d3 := cell_heap HN.out 3 (.slice A3 ks.length c3) rfl
          have d4 := cell_heap HN.out 4 (.slice A ms.length c) rfl
          go_wp2_with (fail)
          refine (Reader_Rest br [] 0 wr HRr.out).mono ?_
          rintro e wH ⟨rfl, rfl⟩
          go_wp2_with (fail)
          refine HC.out.mono ?_
          rintro e wC ⟨rfl, hu⟩
          clear d0 d1 d2 d3 d4
          have HNC := Lib.hid (hu.heap HN.out (fun f => f))
          have HEC := Lib.hid (hu.heap HEr.out (fun f => f))
          have UC := Lib.hid (UWr.out.trans hu (fun _ _ f => f))
          have HQ1 := Lib.hid (R_upd HR1.out hu (fun _ _ f => f))
          have HQ2 := Lib.hid (R_upd HR2.out hu (fun _ _ f => f))
          have HQ3 := Lib.hid (R_upd HR3.out hu (fun _ _ f => f))
          have HQ4 := Lib.hid (R_upd HK.out hu (fun _ _ f => f))
          clear hu
          generalize chkN lf es ps ks ms = CH at *
          by_cases hC : CH = 0
          · subst hC
            have HF := Lib.hid (show RT = (⟨lf, es, ps, ks, ms⟩, 0) from HX.out.trans (if_neg (by simp)))
            have d0 := cell_heap HNC.out 0 (.bool lf) rfl
            have d1 := cell_heap HNC.out 1 (.slice A1 es.length c1) rfl
            have d2 := cell_heap HNC.out 2 (.slice A2 ps.length c2) rfl
            have d3 := cell_heap HNC.out 3 (.slice A3 ks.length c3) rfl
            have d4 := cell_heap HNC.out 4 (.slice A ms.length c) rfl
            have g0 := cell_heap HEC.out 0 (.int .i64 0) rfl
            have f0 := free_heap HNC.out 0
            have f1 := free_heap HNC.out 1
            have f2 := free_heap HNC.out 2
            have f3 := free_heap HNC.out 3
            have f4 := free_heap HNC.out 4
            have fe := free_heap HEC.out 0
            have Z := Lib.hid <| end_facts HNC.out HEC.out LB.out.2.2.1 (.bool lf) (.slice A1 es.length c1) (.slice A2 ps.length c2) (.slice A3 ks.length c3) (.slice A ms.length c) (.int .i64 0) (UC.out) (fun h => LB.out.2.2.2.2.2.2.1 h) (fun h => LB.out.2.2.2.2.2.2.2.1 h)
            have zr1 := Lib.hid (end_R HQ1.out LB3'.out (.bool lf) (.slice A1 es.length c1) (.slice A2 ps.length c2) (.slice A3 ks.length c3) (.slice A ms.length c) (.int .i64 0))
            have zr2 := Lib.hid (end_R HQ2.out LB3'.out (.bool lf) (.slice A1 es.length c1) (.slice A2 ps.length c2) (.slice A3 ks.length c3) (.slice A ms.length c) (.int .i64 0))
            have zr3 := Lib.hid (end_R HQ3.out LB3'.out (.bool lf) (.slice A1 es.length c1) (.slice A2 ps.length c2) (.slice A3 ks.length c3) (.slice A ms.length c) (.int .i64 0))
            have zr4 := Lib.hid (end_R HQ4.out ⟨LN5.out.1, LN5.out.2.1⟩ (.bool lf) (.slice A1 es.length c1) (.slice A2 ps.length c2) (.slice A3 ks.length c3) (.slice A ms.length c) (.int .i64 0))
            go_wp2
            unfold set5 at zr1 zr2 zr3 zr4
            have Z2 := Z.out
            unfold set5 at Z2
            generalize (((((wC.setCell ⟨N0, 0, none⟩ (.bool lf)).setCell ⟨N0, 1, none⟩ (.slice A1 es.length c1)).setCell ⟨N0, 2, none⟩ (.slice A2 ps.length c2)).setCell ⟨N0, 3, none⟩ (.slice A3 ks.length c3)).setCell ⟨N0, 4, none⟩ (.slice A ms.length c)).setCell ⟨E0, 0, none⟩ (.int .i64 0) = w9 at Z2 zr1 zr2 zr3 zr4 ⊢
            obtain ⟨y1, y2, y3⟩ := Z2
            refine leaves_cons (f := 30) (args := #[.pointer (some ⟨N0, 0, none⟩), .pointer (some ⟨E0, 0, none⟩)]) (by simp) (by simp [go_sem]) ?_
            refine (clo_idle _ _ _).mono ?_
            rintro e u' w10 ⟨rfl, rfl, rfl⟩
            have z0 := cell_heap y1 0 _ rfl
            have z1 := cell_heap y1 1 _ rfl
            have z2 := cell_heap y1 2 _ rfl
            have z3 := cell_heap y1 3 _ rfl
            have z4 := cell_heap y1 4 _ rfl
            have ze := cell_heap y2 0 _ rfl
            refine ⟨.tuple #[.agg #[.bool lf, .slice A1 es.length c1, .slice A2 ps.length c2, .slice A3 ks.length c3, .slice A ms.length c], .int .i64 0], ?_, ?_⟩
            · simp [results, Try.results9, go_sem, hun, z0, z1, z2, z3, z4, ze]
            · rw [HF.out]
              exact ⟨_, _, _, _, rfl, Kd.R_lower zr1.out LBW.out.1, Kd.R_lower zr2.out LBW.out.1, Kd.R_lower zr3.out LBW.out.1, Kd.R_lower zr4.out LBW.out.2, y3⟩
          · have hCb : (CH != 0) = true := by simp [hC]
            have HF := Lib.hid (show RT = (zN, 4) from HX.out.trans (if_pos (.inr hC)))
            have d0 := cell_heap HNC.out 0 (.bool lf) rfl
            have d1 := cell_heap HNC.out 1 (.slice A1 es.length c1) rfl
            have d2 := cell_heap HNC.out 2 (.slice A2 ps.length c2) rfl
            have d3 := cell_heap HNC.out 3 (.slice A3 ks.length c3) rfl
            have d4 := cell_heap HNC.out 4 (.slice A ms.length c) rfl
            have g0 := cell_heap HEC.out 0 (.int .i64 0) rfl
            have f0 := free_heap HNC.out 0
            have f1 := free_heap HNC.out 1
            have f2 := free_heap HNC.out 2
            have f3 := free_heap HNC.out 3
            have f4 := free_heap HNC.out 4
            have fe := free_heap HEC.out 0
            have Z := Lib.hid <| end_facts HNC.out HEC.out LB.out.2.2.1 (.bool false) (.slice none 0 0) (.slice none 0 0) (.slice none 0 0) (.slice none 0 0) (.int .i64 4) (UC.out) (fun h => LB.out.2.2.2.2.2.2.1 h) (fun h => LB.out.2.2.2.2.2.2.2.1 h)
            clear hC
            go_wp2
            have Z2 := Z.out
            unfold set5 at Z2
            generalize (((((wC.setCell ⟨N0, 0, none⟩ (.bool false)).setCell ⟨N0, 1, none⟩ (.slice none 0 0)).setCell ⟨N0, 2, none⟩ (.slice none 0 0)).setCell ⟨N0, 3, none⟩ (.slice none 0 0)).setCell ⟨N0, 4, none⟩ (.slice none 0 0)).setCell ⟨E0, 0, none⟩ (.int .i64 4) = w9 at Z2 ⊢
            obtain ⟨y1, y2, y3⟩ := Z2
            refine leaves_cons (f := 30) (args := #[.pointer (some ⟨N0, 0, none⟩), .pointer (some ⟨E0, 0, none⟩)]) (by simp) (by simp [go_sem]) ?_
            refine (clo_idle _ _ _).mono ?_
            rintro e u' w10 ⟨rfl, rfl, rfl⟩
            have z0 := cell_heap y1 0 _ rfl
            have z1 := cell_heap y1 1 _ rfl
            have z2 := cell_heap y1 2 _ rfl
            have z3 := cell_heap y1 3 _ rfl
            have z4 := cell_heap y1 4 _ rfl
            have ze := cell_heap y2 0 _ rfl
            refine ⟨.tuple #[.agg #[.bool false, .slice none 0 0, .slice none 0 0, .slice none 0 0, .slice none 0 0], .int .i64 4], ?_, TkPost.zero HF.out y3⟩
            simp [results, Try.results9, go_sem, hun, z0, z1, z2, z3, z4, ze]
        · have hl2 : (⟨L.toArray⟩ : ByteArray).toList.isEmpty = false := by
            rw [Lib.toList_data]
            cases L with
            | nil => exact absurd rfl hL
            | cons _ _ => rfl
          have hl5 : L.isEmpty = false := by
            cases L with
            | nil => exact absurd rfl hL
            | cons _ _ => rfl
          have HF := Lib.hid (show RT = (zN, 4) from HX.out.trans (if_pos (.inl hL)))
          have d0 := cell_heap HN.out 0 (.bool lf) rfl
          have d1 := cell_heap HN.out 1 (.slice A1 es.length c1) rfl
          have d2 := cell_heap HN.out 2 (.slice A2 ps.length c2) rfl
          have d3 := cell_heap HN.out 3 (.slice A3 ks.length c3) rfl
          have d4 := cell_heap HN.out 4 (.slice A ms.length c) rfl
          have g0 := cell_heap HEr.out 0 (.int .i64 0) rfl
          have f0 := free_heap HN.out 0
          have f1 := free_heap HN.out 1
          have f2 := free_heap HN.out 2
          have f3 := free_heap HN.out 3
          have f4 := free_heap HN.out 4
          have fe := free_heap HEr.out 0
          have Z := Lib.hid <| end_facts HN.out HEr.out LB.out.2.2.1 (.bool false) (.slice none 0 0) (.slice none 0 0) (.slice none 0 0) (.slice none 0 0) (.int .i64 4) (UWr.out) (fun h => LB.out.2.2.2.2.2.2.1 h) (fun h => LB.out.2.2.2.2.2.2.2.1 h)
          go_wp2_with (fail)
          refine (Reader_Rest br L 0 wr HRr.out).mono ?_
          rintro e wH ⟨rfl, rfl⟩
          go_wp2
          have Z2 := Z.out
          unfold set5 at Z2
          generalize (((((wr.setCell ⟨N0, 0, none⟩ (.bool false)).setCell ⟨N0, 1, none⟩ (.slice none 0 0)).setCell ⟨N0, 2, none⟩ (.slice none 0 0)).setCell ⟨N0, 3, none⟩ (.slice none 0 0)).setCell ⟨N0, 4, none⟩ (.slice none 0 0)).setCell ⟨E0, 0, none⟩ (.int .i64 4) = w9 at Z2 ⊢
          obtain ⟨y1, y2, y3⟩ := Z2
          refine leaves_cons (f := 30) (args := #[.pointer (some ⟨N0, 0, none⟩), .pointer (some ⟨E0, 0, none⟩)]) (by simp) (by simp [go_sem]) ?_
          refine (clo_idle _ _ _).mono ?_
          rintro e u' w10 ⟨rfl, rfl, rfl⟩
          have z0 := cell_heap y1 0 _ rfl
          have z1 := cell_heap y1 1 _ rfl
          have z2 := cell_heap y1 2 _ rfl
          have z3 := cell_heap y1 3 _ rfl
          have z4 := cell_heap y1 4 _ rfl
          have ze := cell_heap y2 0 _ rfl
          refine ⟨.tuple #[.agg #[.bool false, .slice none 0 0, .slice none 0 0, .slice none 0 0, .slice none 0 0], .int .i64 4], ?_, TkPost.zero HF.out y3⟩
          simp [results, Try.results9, go_sem, hun, z0, z1, z2, z3, z4, ze]
      | succ g =>
        have hi := step_lt hig
        have hlt : decide ((i : Int) < (ts.length : Int)) = true := decide_eq_true (Int.ofNat_lt.2 hi)
        have hltn : decide (i < ts.length) = true := decide_eq_true hi
        obtain ⟨A', c', hA, hc', CT⟩ := Kd.R_reads (R_upd HKT.out HU.out (fun k hk f => by have := LB3'.out.1; omega))
        cases hA
        obtain ⟨ad, rfl, y0⟩ := Kd.at_string CT (i : Int) (Int.natCast_nonneg i) (Int.ofNat_lt.2 hi)
        obtain ⟨x, hx⟩ : ∃ x, rdOf ByteArray.empty ts (i : Int) = x := ⟨_, rfl⟩
        have hxi : x = ts[i] := by rw [← hx]; unfold rdOf; rw [Int.toNat_natCast, List.getD_eq_getElem?_getD, List.getElem?_eq_getElem hi]; rfl
        have hd : ts.drop i = x :: ts.drop (i + 1) := by rw [hxi]; exact List.drop_eq_getElem_cons hi
        rw [hx] at y0
        simp only [Int.toNat_natCast] at y0
        have HD := Lib.hid hd
        have HT := Lib.hid (fun w => mtk_walk x w)
        clear hx hxi hd CT hc' hi hlt
        obtain ⟨MK, hMK⟩ : ∃ MK, mtk x.data.toList = MK := ⟨_, rfl⟩
        rw [hMK] at HT
        obtain ⟨⟨o, k, t, v⟩, er⟩ := MK
        dsimp only at HT
        have HMK := Lib.hid hMK
        clear hMK
        go_wp2_with (fail)
        refine (HT.out _).mono ?_
        rintro e w6 ⟨rfl, u6⟩
        have hX := heap_alloc_new w6 (.cells #[.int .i64 o, .string k, .string t, .string v] 59)
        have hN7 := heap_alloc_lt (u6.heap HN.out (fun f => f)) (.cells #[.int .i64 o, .string k, .string t, .string v] 59)
        have hE7 := heap_alloc_lt (u6.heap (HU.out.heap HE5.out (Ne.symm LB.out.2.2.1)) (fun f => f)) (.cells #[.int .i64 o, .string k, .string t, .string v] 59)
        have HK7 := Lib.hid (Kd.R_alloc (R_upd HK.out u6 (fun _ _ f => f)) (.cells #[.int .i64 o, .string k, .string t, .string v] 59))
        have HU7 := Lib.hid ((HU.out.trans u6 (fun _ _ f => f.elim)).alloc (.cells #[.int .i64 o, .string k, .string t, .string v] 59))
        have LS7 := Lib.hid HU7.out.size
        have HS7 := Lib.hid (show (w6.alloc (.cells #[.int .i64 o, .string k, .string t, .string v] 59)).heap.size = w6.heap.size + 1 from Array.size_push _)
        have hW7 : ∃ w7, w6.alloc (.cells #[.int .i64 o, .string k, .string t, .string v] 59) = w7 := ⟨_, rfl⟩
        obtain ⟨w7, hW7⟩ := hW7
        rw [hW7] at hX hN7 hE7 HK7 HU7 LS7 HS7
        clear u6
        by_cases he : er = 0
        · subst he
          have HM1 := Lib.hid (show msgs ts = (msgs (ts.drop (i + 1))).map (fun r => (ms ++ [(⟨o, k, t, v⟩ : S59)]) ++ r) by
            rw [HM.out, HD.out, msgs, HMK.out, if_neg (fun h => h rfl), Option.map_map]
            congr 1
            funext r
            simp)
          have x0 := cell_heap hX 0 _ rfl
          have x1 := cell_heap hX 1 _ rfl
          have x2 := cell_heap hX 2 _ rfl
          have x3 := cell_heap hX 3 _ rfl
          have d4 := cell_heap hN7 4 (.slice A ms.length c) rfl
          have HSZ := Lib.hid (show ms.length + 1 ≤ 140000 ∧ (ms.length + 1) * 56 ≤ 140737488355328 from msz hmi.out (Nat.le_trans (Nat.le_of_lt (step_lt hig)) HTL.out))
          have HIG := Lib.hid (step_sum hig)
          have hwi := wrap_next hig (Nat.lt_of_le_of_lt HTL.out (by decide))
          clear hig
          go_wp2_with (
            at_builtin
            refine Kd.R_append k59 (w0 := w7) w5.heap.size rfl (.tmp 37) (.tmp 39) 26 59 (.agg #[.int .i64 0, .string ⟨#[]⟩, .string ⟨#[]⟩, .string ⟨#[]⟩]) 56 rfl Try.underlying26 info59 rfl (by decide) (by decide) (.slice A ms.length c) ms (⟨o, k, t, v⟩ : S59) [.int .i64 o, .string k, .string t, .string v] (fun _ => True) (fun _ => False) rfl (by rw [HS7.out]; rfl) (k59_mkM _ _ _ _) (fun _ hk => hk.elim) (fun _ _ => trivial) HK7.out (Below.refl _ _) LS7.out HSZ.out.2 ?_
            intro v2 w8 hK3 hb3 hg3 hat3
            obtain ⟨XS, hXS⟩ : ∃ XS, XS = ms ++ [(⟨o, k, t, v⟩ : S59)] := ⟨_, rfl⟩
            rw [← hXS] at hK3
            have HXS := Lib.hid hXS
            clear hXS
            obtain ⟨A5, c5, rfl⟩ := Kd.R_slice hK3
            have hN8 := (hb3.block N0 LN5.out.1).trans hN7
            have e1 := cell_heap hN8 4 (.slice A ms.length c) rfl
            have ef := free_heap hN8 4
            have HN8 := Lib.hid (heap_setCell_eq (i := 4) hN8 (.slice A5 XS.length c5))
            have HK8 := Lib.hid (R_set1 hK3 (p := ⟨N0, 4, none⟩) LN5.out.1 (.slice A5 XS.length c5))
            have HU8 := Lib.hid ((HU7.out.trans (Upd.of_below hb3) (fun k hk h => absurd hk (Nat.not_lt.2 h))).setCell (p := ⟨N0, 4, none⟩) (fun _ => rfl) (.slice A5 XS.length c5))
            have hxl := Lib.hid (show XS.length = i + 1 from app_len HXS.out hmi.out)
            rw [← HXS.out] at HM1
            clear hK3 hb3 hg3 hat3 hN8 d4 x0 x1 x2 x3)
          go_roundg g
          case measure => exact Nat.lt_succ_self _
          case rel => exact ⟨i + 1, A5, c5, XS, by go_num, HIG.out, HN8, HK8, HU8, HM1, hxl⟩
        · have heb : (er != 0) = true := by simp [he]
          have HF := Lib.hid (show RT = (zN, 4) by
            rw [HRT.out, HM.out, HD.out, msgs, HMK.out, if_pos he]; rfl)
          have d0 := cell_heap hN7 0 _ rfl
          have d1 := cell_heap hN7 1 _ rfl
          have d2 := cell_heap hN7 2 _ rfl
          have d3 := cell_heap hN7 3 _ rfl
          have d4 := cell_heap hN7 4 _ rfl
          have g0 := cell_heap hE7 0 _ rfl
          have f0 := free_heap hN7 0
          have f1 := free_heap hN7 1
          have f2 := free_heap hN7 2
          have f3 := free_heap hN7 3
          have f4 := free_heap hN7 4
          have fe := free_heap hE7 0
          have Z := Lib.hid <| end_facts hN7 hE7 LB.out.2.2.1 (.bool false) (.slice none 0 0) (.slice none 0 0) (.slice none 0 0) (.slice none 0 0) (.int .i64 4) (U5.out.trans HU7.out (fun k hk f => LB.out.2.2.2.2.2.2.1 (f ▸ hk))) (fun h => LB.out.2.2.2.2.2.2.1 h) (fun h => LB.out.2.2.2.2.2.2.2.1 h)
          clear he hig hN7 hE7 hX
          have n1 : ¬ N0 = E0 := LB.out.2.2.1
          have n2 : ¬ E0 = N0 := Ne.symm LB.out.2.2.1
          go_wp2
          have Z2 := Z.out
          unfold set5 at Z2
          generalize (((((w7.setCell ⟨N0, 0, none⟩ (.bool false)).setCell ⟨N0, 1, none⟩ (.slice none 0 0)).setCell ⟨N0, 2, none⟩ (.slice none 0 0)).setCell ⟨N0, 3, none⟩ (.slice none 0 0)).setCell ⟨N0, 4, none⟩ (.slice none 0 0)).setCell ⟨E0, 0, none⟩ (.int .i64 4) = w9 at Z2 ⊢
          obtain ⟨y1, y2, y3⟩ := Z2
          refine leaves_cons (f := 30) (args := #[.pointer (some ⟨N0, 0, none⟩), .pointer (some ⟨E0, 0, none⟩)]) (by simp) (by simp [go_sem]) ?_
          refine (clo_idle _ _ _).mono ?_
          rintro e u' w10 ⟨rfl, rfl, rfl⟩
          have z0 := cell_heap y1 0 _ rfl
          have z1 := cell_heap y1 1 _ rfl
          have z2 := cell_heap y1 2 _ rfl
          have z3 := cell_heap y1 3 _ rfl
          have z4 := cell_heap y1 4 _ rfl
          have ze := cell_heap y2 0 _ rfl
          refine ⟨.tuple #[.agg #[.bool false, .slice none 0 0, .slice none 0 0, .slice none 0 0, .slice none 0 0], .int .i64 4], ?_, TkPost.zero HF.out y3⟩
          simp [results, Try.results9, go_sem, hun, z0, z1, z2, z3, z4, ze]

theorem take_all (s : ByteArray) (w : World) : Calls Try.prog 9 #[.string s] w (TkPost (tkN s.data.toList) w) := by
  by_cases h : 1440 < s.size
  · exact take_long s w h
  · exact take_short s w (by omega)
def node_Take.f (a0 : ByteArray) : Option (Bool × List S75 × List ByteArray × List Int × List S59 × Int) := some ((tkN a0.data.toList).1.f0, (tkN a0.data.toList).1.f1, (tkN a0.data.toList).1.f2, (tkN a0.data.toList).1.f3, (tkN a0.data.toList).1.f4, (tkN a0.data.toList).2)
theorem node_Take.calls (a0 : ByteArray) (r1 : Bool) (r2 : List S75) (r3 : List ByteArray) (r4 : List Int) (r5 : List S59) (r6 : Int) (w : World) (h : node_Take.f a0 = some (r1, r2, r3, r4, r5, r6)) :
    Calls Try.prog 9 #[.string a0] w fun e w' => ∃ v1_ v2_ v3_ v4_ : Value, e = .returned (.tuple #[.agg #[.bool r1, v1_, v2_, v3_, v4_], .int .i64 r6]) ∧ Kd.R k75 75 w' w.heap.size (fun _ => True) v1_ r2 ∧ Kd.R Kd.string 9 w' w.heap.size (fun _ => True) v2_ r3 ∧ Kd.R (Kd.int .i64) 3 w' w.heap.size (fun _ => True) v3_ r4 ∧ Kd.R k59 59 w' w.heap.size (fun _ => True) v4_ r5 ∧ Below w.heap.size w w' := by
  unfold node_Take.f at h
  simp only [Option.some.injEq, Prod.mk.injEq] at h
  obtain ⟨rfl, rfl, rfl, rfl, rfl, rfl⟩ := h
  exact (take_all a0 w).mono fun e w' ⟨v1, v2, v3, v4, he, k1, k2, k3, k4, hu⟩ => ⟨v1, v2, v3, v4, he, k1, k2, k3, k4, hu.below (Nat.le_refl _) (fun _ f => f.elim)⟩
end Go.Proofs.Ytnoimnijoklkdaa.Px
