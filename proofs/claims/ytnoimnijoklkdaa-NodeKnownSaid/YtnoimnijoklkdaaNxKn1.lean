/- NodeKnown: what is known of a heap (blocks and what they hold); the chapter's leaf and inner node. -/
import Derived.Test.YtnoimnijoklkdaaNxTake
import Derived.Test.YtnoimnijoklkdaaPx34
import Derived.Test.YtnoimnijoklkdaaPx13
import Derived.Test.YtnoimnijoklkdaaPx31
import Derived.Test.YtnoimnijoklkdaaPxRep
import Derived.Great.BuildSlice
set_option linter.unusedVariables false
set_option linter.unusedSimpArgs false
namespace Go.Proofs.Ytnoimnijoklkdaa.Px
open Go.RowKit Go.Proofs.YtnoimnijoklkdaaW.PrintWords Go.Proofs.YtnoimnijoklkdaaW.PrintLast

/-- Blocks that were made since a world, and what they hold; no block twice; what was there is as it was. -/
def Kn (w0 : World) (K : List (Nat × Obj)) (w : World) : Prop := (∀ p ∈ K, w.heap[p.1]? = some p.2) ∧ (K.map Prod.fst).Nodup ∧ Upd (fun _ => False) w0 w ∧ ∀ p ∈ K, w0.heap.size ≤ p.1
theorem kn_get {w0 : World} {K : List (Nat × Obj)} {w : World} (h : Kn w0 K w) (i : Nat) {b : Nat} {o : Obj} (hi : K[i]? = some (b, o)) : w.heap[b]? = some o := h.1 _ (List.mem_of_getElem? hi)
theorem kn_lt {w0 : World} {K : List (Nat × Obj)} {w : World} (h : Kn w0 K w) : ∀ b ∈ K.map Prod.fst, b < w.heap.size := fun b hb => by
  obtain ⟨p, hp, rfl⟩ := List.mem_map.1 hb
  exact (Array.getElem?_eq_some_iff.1 (h.1 p hp)).1
theorem kn_nil (w : World) : Kn w [] w := ⟨fun p hp => (by cases hp), List.nodup_nil, Upd.refl _ _, fun p hp => (by cases hp)⟩
theorem kn_below {w0 : World} {K : List (Nat × Obj)} {w w' : World} (h : Kn w0 K w) (hb : Below w.heap.size w w') : Kn w0 K w' :=
  ⟨fun p hp => (hb.block p.1 (kn_lt h _ (List.mem_map_of_mem hp))).trans (h.1 p hp), h.2.1, h.2.2.1.trans (upd_of_below hb) (fun _ _ f => f), h.2.2.2⟩
theorem kn_alloc {w0 : World} {K : List (Nat × Obj)} {w : World} (h : Kn w0 K w) (c : Array Value) (t : TypeId) : Kn w0 ((w.heap.size, .cells c t (0, 0)) :: K) (w.alloc (.cells c t)) := by
  refine ⟨fun p hp => ?_, ?_, h.2.2.1.alloc _, fun p hp => ?_⟩
  · rcases List.mem_cons.1 hp with rfl | hp
    · exact heap_alloc_new w _
    · exact heap_alloc_lt (h.1 p hp) _
  · rw [List.map_cons, List.nodup_cons]
    exact ⟨fun hm => absurd (kn_lt h _ hm) (Nat.lt_irrefl _), h.2.1⟩
  · rcases List.mem_cons.1 hp with rfl | hp
    · exact h.2.2.1.size
    · exact h.2.2.2 p hp
theorem kn_alloc2 {w0 : World} {K : List (Nat × Obj)} {w : World} {b : Nat} (h : Kn w0 K w) (hs : w.heap.size = b) (c : Array Value) (t : TypeId) : Kn w0 ((b, .cells c t (0, 0)) :: K) (w.alloc (.cells c t)) ∧ (w.alloc (.cells c t)).heap.size = b + 1 := by
  subst hs
  exact ⟨kn_alloc h c t, Array.size_push _⟩
theorem kn_drew {w0 : World} {K : List (Nat × Obj)} {w : World} (h : Kn w0 K w) : Kn w0 K w.drew := ⟨h.1, h.2.1, h.2.2.1.drew, h.2.2.2⟩
theorem kn_ne {w0 : World} {K : List (Nat × Obj)} {w : World} (h : Kn w0 K w) (i j : Nat) {b c : Nat} {o o' : Obj} (hi : K[i]? = some (b, o)) (hj : K[j]? = some (c, o')) (hij : i ≠ j) : b ≠ c := fun e => by
  have hi' : (K.map Prod.fst)[i]? = some b := by rw [List.getElem?_map, hi]; rfl
  have hj' : (K.map Prod.fst)[j]? = some b := by rw [List.getElem?_map, hj, e]; rfl
  exact hij ((List.getElem?_inj (List.getElem?_eq_some_iff.1 hi').1 h.2.1).1 (hi'.trans hj'.symm))
theorem kn_set {w0 : World} {K : List (Nat × Obj)} {w : World} (h : Kn w0 K w) (i : Nat) {b : Nat} {cs : Array Value} {t : TypeId} (hi : K[i]? = some (b, .cells cs t (0, 0))) (j : Nat) (v : Value) : Kn w0 (K.set i (b, .cells (cs.setIfInBounds j v) t (0, 0))) (w.setCell ⟨b, j, none⟩ v) := by
  have hb := kn_get h i hi
  have hlt : i < K.length := (List.getElem?_eq_some_iff.1 hi).1
  have hm : (K.set i (b, Obj.cells (cs.setIfInBounds j v) t (0, 0))).map Prod.fst = K.map Prod.fst := by
    apply List.ext_getElem?
    intro n
    rw [List.getElem?_map, List.getElem?_map, List.getElem?_set]
    split
    · rename_i e; subst e; rw [hi]; simp [hlt]
    · rfl
  have hge := h.2.2.2 (b, .cells cs t (0, 0)) (List.mem_of_getElem? hi)
  refine ⟨fun p hp => ?_, by rw [hm]; exact h.2.1, h.2.2.1.setCell (p := ⟨b, j, none⟩) (fun hl => absurd hl (Nat.not_lt.2 hge)) v, fun p hp => ?_⟩
  · obtain ⟨n, hn⟩ := List.getElem?_of_mem hp
    rw [List.getElem?_set] at hn
    split at hn
    · rename_i e
      simp only [hlt, if_true, Option.some.injEq] at hn
      subst hn
      exact heap_setCell_eq (i := j) hb v
    · rename_i e
      have hne := kn_ne h i n hi (show K[n]? = some (p.1, p.2) from hn) e
      exact heap_setCell_ne (h.1 p (List.mem_of_getElem? hn)) _ _ (Ne.symm hne)
  · have : p.1 ∈ (K.set i (b, Obj.cells (cs.setIfInBounds j v) t (0, 0))).map Prod.fst := List.mem_map_of_mem hp
    rw [hm] at this
    obtain ⟨q, hq, he⟩ := List.mem_map.1 this
    rw [← he]
    exact h.2.2.2 q hq
theorem kn_sub {w0 : World} {K K' : List (Nat × Obj)} {w : World} (h : Kn w0 K w) (hs : K'.Sublist K) : Kn w0 K' w :=
  ⟨fun p hp => h.1 p (hs.subset hp), h.2.1.sublist (hs.map _), h.2.2.1, fun p hp => h.2.2.2 p (hs.subset hp)⟩
theorem kn_perm {w0 : World} {K K' : List (Nat × Obj)} {w : World} (h : Kn w0 K w) (hp : K.Perm K') : Kn w0 K' w :=
  ⟨fun p hq => h.1 p (hp.mem_iff.2 hq), (hp.map Prod.fst).nodup_iff.1 h.2.1, h.2.2.1, fun p hq => h.2.2.2 p (hp.mem_iff.2 hq)⟩
theorem kn_alloc3 {w0 : World} {K : List (Nat × Obj)} {w : World} (h : Kn w0 K w) (c1 : Array Value) (t1 : TypeId) (c2 : Array Value) (t2 : TypeId) (c3 : Array Value) (t3 : TypeId) :
    Kn w0 ((w.heap.size + 1 + 1, .cells c3 t3 (0, 0)) :: (w.heap.size + 1, .cells c2 t2 (0, 0)) :: (w.heap.size, .cells c1 t1 (0, 0)) :: K) (((w.alloc (.cells c1 t1)).alloc (.cells c2 t2)).alloc (.cells c3 t3)) := by
  have q1 := kn_alloc2 h rfl c1 t1
  have q2 := kn_alloc2 q1.1 q1.2 c2 t2
  exact (kn_alloc2 q2.1 q2.2 c3 t3).1
theorem p132 {α : Type} (a b c : α) (l : List α) : (a :: b :: c :: l).Perm (a :: c :: b :: l) := .cons _ (.swap _ _ _)
theorem p213 {α : Type} (a b c : α) (l : List α) : (a :: b :: c :: l).Perm (b :: a :: c :: l) := .swap _ _ _
theorem p231 {α : Type} (a b c : α) (l : List α) : (a :: b :: c :: l).Perm (b :: c :: a :: l) := (p213 a b c l).trans (p132 b a c l)
theorem p312 {α : Type} (a b c : α) (l : List α) : (a :: b :: c :: l).Perm (c :: a :: b :: l) := (p132 a b c l).trans (p213 a c b l)
theorem p321 {α : Type} (a b c : α) (l : List α) : (a :: b :: c :: l).Perm (c :: b :: a :: l) := (p231 a b c l).trans (p213 b c a l)
theorem cells5 {w : World} {N t : Nat} {a b c d e : Value} (h : w.heap[N]? = some (.cells #[a, b, c, d, e] t (0, 0))) : w.cell? ⟨N, 0, none⟩ = some a ∧ w.cell? ⟨N, 1, none⟩ = some b ∧ w.cell? ⟨N, 2, none⟩ = some c ∧ w.cell? ⟨N, 3, none⟩ = some d ∧ w.cell? ⟨N, 4, none⟩ = some e :=
  ⟨cell_heap h 0 _ rfl, cell_heap h 1 _ rfl, cell_heap h 2 _ rfl, cell_heap h 3 _ rfl, cell_heap h 4 _ rfl⟩
theorem free5 {w : World} {N t : Nat} {a b c d e : Value} (h : w.heap[N]? = some (.cells #[a, b, c, d, e] t (0, 0))) : w.frozen? ⟨N, 0, none⟩ = false ∧ w.frozen? ⟨N, 1, none⟩ = false ∧ w.frozen? ⟨N, 2, none⟩ = false ∧ w.frozen? ⟨N, 3, none⟩ = false ∧ w.frozen? ⟨N, 4, none⟩ = false :=
  ⟨free_heap h 0, free_heap h 1, free_heap h 2, free_heap h 3, free_heap h 4⟩

/-- A row whose block holds its elements' cells. -/
theorem flat_at {α : Type} (enc : α → List Value) (sz : Nat) (hs : ∀ x, (enc x).length = sz) : ∀ (xs : List α) (j k : Nat) (x : α) (u : Value), xs[j]? = some x → (enc x)[k]? = some u → (xs.flatMap enc)[j * sz + k]? = some u
  | [], _, _, _, _, h, _ => by cases h
  | y :: xs, 0, k, x, u, h, hk => by
    simp only [List.getElem?_cons_zero, Option.some.injEq] at h
    subst h
    have hlt := (List.getElem?_eq_some_iff.1 hk).1
    rw [List.flatMap_cons, Nat.zero_mul, Nat.zero_add, List.getElem?_append_left hlt]
    exact hk
  | y :: xs, j + 1, k, x, u, h, hk => by
    rw [List.getElem?_cons_succ] at h
    rw [List.flatMap_cons, List.getElem?_append_right (by rw [hs, Nat.succ_mul]; omega), hs]
    have e : (j + 1) * sz + k - sz = j * sz + k := by rw [Nat.succ_mul]; omega
    rw [e]
    exact flat_at enc sz hs xs j k x u h hk
theorem C_of {α : Type} {d : Kd α} {w : World} {g t : Nat} {xs : List α} (enc : α → List Value) (hs : ∀ x, (enc x).length = d.sz) (hK : ∀ x, d.K w x (enc x)) (h : w.heap[g]? = some (.cells (xs.flatMap enc).toArray t (0, 0))) (hm : xs.length ≤ 9223372036854775807) : Kd.C d w (some ⟨g, 0, none⟩) xs.length xs :=
  ⟨rfl, hm, fun _ => ⟨⟨g, 0, none⟩, rfl, fun j p hp => ⟨enc p, hs p, hK p, fun k u hk => by
    have := flat_at enc d.sz hs xs j k p u hp hk
    have h2 := cell_heap h (j * d.sz + k) u (by rw [List.getElem?_toArray]; exact this)
    have e : ((⟨g, 0, none⟩ : Addr).add (j * d.sz + k)) = ⟨g, j * d.sz + k, none⟩ := by unfold Addr.add; simp; omega
    rw [e]; exact h2⟩⟩⟩
theorem C_int {w : World} {g t : Nat} (xs : List Int) (h : w.heap[g]? = some (.cells (xs.flatMap fun x => [Value.int .i64 x]).toArray t (0, 0))) (hm : xs.length ≤ 1000) : Kd.C (Kd.int .i64) w (some ⟨g, 0, none⟩) xs.length xs :=
  C_of (d := Kd.int .i64) (fun x => [.int .i64 x]) (fun _ => rfl) (fun _ => rfl) h (by omega)
theorem C_str {w : World} {g t : Nat} (xs : List ByteArray) (h : w.heap[g]? = some (.cells (xs.flatMap fun x => [Value.string x]).toArray t (0, 0))) (hm : xs.length ≤ 1000) : Kd.C Kd.string w (some ⟨g, 0, none⟩) xs.length xs :=
  C_of (d := Kd.string) (fun x => [.string x]) (fun _ => rfl) (fun _ => rfl) h (by omega)
theorem C_msg {w : World} {g t : Nat} (xs : List S59) (h : w.heap[g]? = some (.cells (xs.flatMap fun x => [Value.int .i64 x.f0, .string x.f1, .string x.f2, .string x.f3]).toArray t (0, 0))) (hm : xs.length ≤ 1000) : Kd.C k59 w (some ⟨g, 0, none⟩) xs.length xs :=
  C_of (d := k59) (fun x => [Value.int .i64 x.f0, .string x.f1, .string x.f2, .string x.f3]) (fun _ => rfl) (fun x => k59_mk w x) h (by omega)
theorem C_ent {w : World} {g t : Nat} (xs : List S75) (h : w.heap[g]? = some (.cells (xs.flatMap fun x => [Value.string x.f0, .string x.f1]).toArray t (0, 0))) (hm : xs.length ≤ 1000) : Kd.C k75 w (some ⟨g, 0, none⟩) xs.length xs :=
  C_of (d := k75) (fun x => [Value.string x.f0, .string x.f1]) (fun _ => rfl) (fun x => k75_mk w x) h (by omega)

theorem field_ents (g : Nat) (w : World) : (Instr.field 28 (.agg #[.bool true, .slice (some ⟨g, 0, none⟩) 1 1, .slice none 0 0, .slice none 0 0, .slice none 0 0]) 1).run Try.prog w = .ok (.slice (some ⟨g, 0, none⟩) 1 1) w := by kernel_rfl
theorem make_ints (w : World) : (Instr.makeSlice 25 (.int .i64 9) (.int .i64 9)).run Try.prog w = .ok (.slice (some ⟨w.heap.size, 0, none⟩) 9 9) (w.alloc (.cells #[.int .i64 0, .int .i64 0, .int .i64 0, .int .i64 0, .int .i64 0, .int .i64 0, .int .i64 0, .int .i64 0, .int .i64 0] 3)) := by kernel_rfl
theorem make_strs (w : World) : (Instr.makeSlice 24 (.int .i64 8) (.int .i64 8)).run Try.prog w = .ok (.slice (some ⟨w.heap.size, 0, none⟩) 8 8) (w.alloc (.cells #[.string ⟨#[]⟩, .string ⟨#[]⟩, .string ⟨#[]⟩, .string ⟨#[]⟩, .string ⟨#[]⟩, .string ⟨#[]⟩, .string ⟨#[]⟩, .string ⟨#[]⟩] 9)) := by kernel_rfl
/-- The long message's key. -/
def repX : ByteArray := ⟨(Lib.repeatL [120] 108).toArray⟩
theorem rep_x : strings_Repeat.f ⟨#[120]⟩ 108 = some repX := by unfold strings_Repeat.f; rw [if_pos ⟨by decide, by decide, by decide⟩]; rfl
def repY : ByteArray := ⟨(Lib.repeatL [1] 1441).toArray⟩
theorem rep_y : strings_Repeat.f ⟨#[1]⟩ 1441 = some repY := by unfold strings_Repeat.f; rw [if_pos ⟨by decide, by decide, by decide⟩]; rfl
def mX : S59 := ⟨2, repX, ⟨#[]⟩, ⟨#[]⟩⟩
theorem rep_enters : Enters Try.prog 29 := enters_of Try.func29 rfl rfl
theorem kn_belowB {w0 : World} {K : List (Nat × Obj)} {w w' : World} {base : Nat} (h : Kn w0 K w) (hlt : ∀ b ∈ K.map Prod.fst, b < base) (h0 : w0.heap.size ≤ base) (hb : Below base w w') : Kn w0 K w' :=
  ⟨fun p hp => (hb.block p.1 (hlt _ (List.mem_map_of_mem hp))).trans (h.1 p hp), h.2.1, h.2.2.1.trans (Upd.of_below hb) (fun k hk f => absurd hk (Nat.not_lt.2 (Nat.le_trans h0 f))), h.2.2.2⟩
theorem step_build4 {P : Program} {ops : Array Oper} {o : Oper} {a : Act} {w : World} {K : Act → World → Prop} {Q : Exit → Act → World → Prop} {E : Prop} (d : Option Tmp) (hd : o.dst = d) (hw : Region.wanted o (yielded ops a.tmps) = true) (t e : TypeId) (x : Operand)
    (ho : o.op = .buildSlice t 1 #[(0, x)]) (hu : P.underlying t = some (.slice e)) {z0 z1 z2 z3 : Value} {bytes : Nat} (hi : (P.info? e).map (fun i => (i.zero, i.size, i.bytes)) = some (some (.agg #[z0, z1, z2, z3]), 4, bytes)) (c0 c1 c2 c3 : Value) (hx : a.eval x = .agg #[c0, c1, c2, c3])
    (h : K (a.put d (.slice (some ⟨w.heap.size, 0, none⟩) 1 1)) (w.alloc (.cells [c0, c1, c2, c3].toArray e))) : if Region.wanted o (yielded ops a.tmps) = true then Oper.wp P o a w K Q else E := by
  subst hd
  rw [if_pos hw]
  obtain ⟨ie, hie, hzz⟩ := Option.map_eq_some_iff.1 hi
  simp only [Prod.mk.injEq] at hzz
  obtain ⟨hz0, hs1, _⟩ := hzz
  refine wp_buildSlice t e 1 _ ho [c0, c1, c2, c3].toArray ie _ hu hie hz0 (by rw [hs1]; decide) (by rw [hs1]; decide) ?_ h
  have hr : Array.range 4 = #[0, 1, 2, 3] := rfl
  have hz1 : (Value.agg #[z0, z1, z2, z3]).cells = #[z0, z1, z2, z3] := rfl
  have hv1 : (Value.agg #[c0, c1, c2, c3]).cells = #[c0, c1, c2, c3] := rfl
  simp [Instr.fill, hx, hs1, hv1, hz1, hr]
set_option maxHeartbeats 2000000 in
set_option maxRecDepth 100000 in
/-- inner: three rows of its own. -/
theorem inner_walk (w : World) : Calls Try.prog 24 #[] w fun e w' => ∃ g1 g2 g3 : Nat, e = .returned (.agg #[.bool false, .slice none 0 0, .slice (some ⟨g2, 0, none⟩) 1 1, .slice (some ⟨g1, 0, none⟩) 2 2, .slice (some ⟨g3, 0, none⟩) 1 1]) ∧
    ∀ w0 K, Kn w0 K w → Kn w0 ((g3, .cells #[.int .i64 2, .string ⟨#[120]⟩, .string ⟨#[]⟩, .string ⟨#[]⟩] 59 (0, 0)) :: (g2, .cells #[.string ⟨#[109]⟩] 9 (0, 0)) :: (g1, .cells #[.int .i64 3, .int .i64 4] 3 (0, 0)) :: K) w' := by
  have hun := Try.underlying28
  have hum := Try.underlying59
  go_enter Try.func24, Try.ntmps24
  go_wp2
  have s1 : (w.alloc (.cells #[.bool false, .slice none 0 0, .slice (some ⟨w.heap.size + 1 + 1, 0, none⟩) 1 1, .slice (some ⟨w.heap.size + 1, 0, none⟩) 2 2, .slice (some ⟨w.heap.size + 1 + 1 + 1, 0, none⟩) 1 1] 28)).heap.size = w.heap.size + 1 := Array.size_push _
  have s2 : ((w.alloc (.cells #[.bool false, .slice none 0 0, .slice (some ⟨w.heap.size + 1 + 1, 0, none⟩) 1 1, .slice (some ⟨w.heap.size + 1, 0, none⟩) 2 2, .slice (some ⟨w.heap.size + 1 + 1 + 1, 0, none⟩) 1 1] 28)).alloc (.cells #[.int .i64 3, .int .i64 4] 3)).heap.size = w.heap.size + 1 + 1 := (Array.size_push _).trans (congrArg (· + 1) s1)
  have s3 : (((w.alloc (.cells #[.bool false, .slice none 0 0, .slice (some ⟨w.heap.size + 1 + 1, 0, none⟩) 1 1, .slice (some ⟨w.heap.size + 1, 0, none⟩) 2 2, .slice (some ⟨w.heap.size + 1 + 1 + 1, 0, none⟩) 1 1] 28)).alloc (.cells #[.int .i64 3, .int .i64 4] 3)).alloc (.cells #[.string ⟨#[109]⟩] 9)).heap.size = w.heap.size + 1 + 1 + 1 := (Array.size_push _).trans (congrArg (· + 1) s2)
  have key : ∀ w0 K, Kn w0 K w → Kn w0 ((w.heap.size + 1 + 1 + 1, .cells #[.int .i64 2, .string ⟨#[120]⟩, .string ⟨#[]⟩, .string ⟨#[]⟩] 59 (0, 0)) :: (w.heap.size + 1 + 1, .cells #[.string ⟨#[109]⟩] 9 (0, 0)) :: (w.heap.size + 1, .cells #[.int .i64 3, .int .i64 4] 3 (0, 0)) :: (w.heap.size, .cells #[.bool false, .slice none 0 0, .slice (some ⟨w.heap.size + 1 + 1, 0, none⟩) 1 1, .slice (some ⟨w.heap.size + 1, 0, none⟩) 2 2, .slice (some ⟨w.heap.size + 1 + 1 + 1, 0, none⟩) 1 1] 28 (0, 0)) :: K)
      ((((w.alloc (.cells #[.bool false, .slice none 0 0, .slice (some ⟨w.heap.size + 1 + 1, 0, none⟩) 1 1, .slice (some ⟨w.heap.size + 1, 0, none⟩) 2 2, .slice (some ⟨w.heap.size + 1 + 1 + 1, 0, none⟩) 1 1] 28)).alloc (.cells #[.int .i64 3, .int .i64 4] 3)).alloc (.cells #[.string ⟨#[109]⟩] 9)).alloc (.cells #[.int .i64 2, .string ⟨#[120]⟩, .string ⟨#[]⟩, .string ⟨#[]⟩] 59)) := fun w0 K h => by
    have h4 := kn_alloc (kn_alloc (kn_alloc (kn_alloc h #[.bool false, .slice none 0 0, .slice (some ⟨w.heap.size + 1 + 1, 0, none⟩) 1 1, .slice (some ⟨w.heap.size + 1, 0, none⟩) 2 2, .slice (some ⟨w.heap.size + 1 + 1 + 1, 0, none⟩) 1 1] 28) #[.int .i64 3, .int .i64 4] 3) #[.string ⟨#[109]⟩] 9) #[.int .i64 2, .string ⟨#[120]⟩, .string ⟨#[]⟩, .string ⟨#[]⟩] 59
    rw [s3, s2, s1] at h4
    exact h4
  obtain ⟨z0, z1, z2, z3, z4⟩ := cells5 (kn_get (key w [] (kn_nil w)) 3 rfl)
  clear s1 s2 s3
  generalize (((w.alloc (.cells #[.bool false, .slice none 0 0, .slice (some ⟨w.heap.size + 1 + 1, 0, none⟩) 1 1, .slice (some ⟨w.heap.size + 1, 0, none⟩) 2 2, .slice (some ⟨w.heap.size + 1 + 1 + 1, 0, none⟩) 1 1] 28)).alloc (.cells #[.int .i64 3, .int .i64 4] 3)).alloc (.cells #[.string ⟨#[109]⟩] 9)).alloc (.cells #[.int .i64 2, .string ⟨#[120]⟩, .string ⟨#[]⟩, .string ⟨#[]⟩] 59) = w4 at *
  refine bodyPost_ret (v := .agg #[.bool false, .slice none 0 0, .slice (some ⟨w.heap.size + 1 + 1, 0, none⟩) 1 1, .slice (some ⟨w.heap.size + 1, 0, none⟩) 2 2, .slice (some ⟨w.heap.size + 1 + 1 + 1, 0, none⟩) 1 1]) ?_ rfl ⟨w.heap.size + 1, w.heap.size + 1 + 1, w.heap.size + 1 + 1 + 1, rfl, fun w0 K h => kn_sub (key w0 K h) ?_⟩
  · simp [results, Try.results24, go_sem, hun, z0, z1, z2, z3, z4]
  · exact (((List.Sublist.refl K).cons _).cons_cons _).cons_cons _ |>.cons_cons _
set_option maxHeartbeats 2000000 in
set_option maxRecDepth 100000 in
theorem leaf_walk (w : World) : Calls Try.prog 26 #[] w fun e w' => ∃ g1 : Nat, e = .returned (.agg #[.bool true, .slice (some ⟨g1, 0, none⟩) 1 1, .slice none 0 0, .slice none 0 0, .slice none 0 0]) ∧
    ∀ w0 K, Kn w0 K w → Kn w0 ((g1, .cells #[.string ⟨#[97]⟩, .string ⟨#[49]⟩] 75 (0, 0)) :: K) w' := by
  have hun := Try.underlying28
  have hue := Try.underlying75
  go_enter Try.func26, Try.ntmps26
  go_wp2
  have s1 : (w.alloc (.cells #[.bool true, .slice (some ⟨w.heap.size + 1, 0, none⟩) 1 1, .slice none 0 0, .slice none 0 0, .slice none 0 0] 28)).heap.size = w.heap.size + 1 := Array.size_push _
  have key : ∀ w0 K, Kn w0 K w → Kn w0 ((w.heap.size + 1, .cells #[.string ⟨#[97]⟩, .string ⟨#[49]⟩] 75 (0, 0)) :: (w.heap.size, .cells #[.bool true, .slice (some ⟨w.heap.size + 1, 0, none⟩) 1 1, .slice none 0 0, .slice none 0 0, .slice none 0 0] 28 (0, 0)) :: K) ((w.alloc (.cells #[.bool true, .slice (some ⟨w.heap.size + 1, 0, none⟩) 1 1, .slice none 0 0, .slice none 0 0, .slice none 0 0] 28)).alloc (.cells #[.string ⟨#[97]⟩, .string ⟨#[49]⟩] 75)) := fun w0 K h => by
    have h4 := kn_alloc (kn_alloc h #[.bool true, .slice (some ⟨w.heap.size + 1, 0, none⟩) 1 1, .slice none 0 0, .slice none 0 0, .slice none 0 0] 28) #[.string ⟨#[97]⟩, .string ⟨#[49]⟩] 75
    rw [s1] at h4
    exact h4
  obtain ⟨z0, z1, z2, z3, z4⟩ := cells5 (kn_get (key w [] (kn_nil w)) 1 rfl)
  clear s1
  generalize (w.alloc (.cells #[.bool true, .slice (some ⟨w.heap.size + 1, 0, none⟩) 1 1, .slice none 0 0, .slice none 0 0, .slice none 0 0] 28)).alloc (.cells #[.string ⟨#[97]⟩, .string ⟨#[49]⟩] 75) = w4 at *
  refine bodyPost_ret (v := .agg #[.bool true, .slice (some ⟨w.heap.size + 1, 0, none⟩) 1 1, .slice none 0 0, .slice none 0 0, .slice none 0 0]) ?_ rfl ⟨w.heap.size + 1, rfl, fun w0 K h => kn_sub (key w0 K h) ?_⟩
  · simp [results, Try.results26, go_sem, hun, z0, z1, z2, z3, z4]
  · exact ((List.Sublist.refl K).cons _).cons_cons _
end Go.Proofs.Ytnoimnijoklkdaa.Px
