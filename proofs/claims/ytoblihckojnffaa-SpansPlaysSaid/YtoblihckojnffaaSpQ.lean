/- What the bools say behind a call (plain); make of bools. -/
import Derived.Test.YtoblihckojnffaaSpP
set_option linter.unusedVariables false
set_option linter.unusedSimpArgs false
namespace Go.Proofs.Ytoblihckojnffaa
open Go.RowKit Go.Shelf
set_option maxRecDepth 100000

theorem wpList_load_by {P : Program} {ops : Array Oper} {rest : List Oper} {o : Oper} {a : Act} {w : World} {Q : Exit → Act → World → Prop} (hgd : o.guard = none) (ty : TypeId) (x : Operand) (ho : o.op = .load ty x)
    (p : Addr) (hx : a.eval x = .pointer (some p)) (v : Value) (hr : (loadVar ty p).run P w = .ok v w)
    (h : wpList P ops Q rest (a.put o.dst v) w) : wpList P ops Q (o :: rest) a w :=
  wpList_plain hgd fun _ hK => by
    unfold Oper.wp execOp
    simp only [ho, hx, Instr.loadAt, Instr.sureAddr, Sem.run_bind, Sem.run_pure, Result.andThen_ok, hr]
    exact hK _ _ h
theorem Try.infoBool : (Try.prog.info? 4).map (fun i => (i.zero, i.size, i.bytes)) = some (some (.bool false), 1, 1) := by kernel_rfl
theorem run_make_rowN {P : Program} (t e : TypeId) (i : TypeInfo) (z : Value) (ht : P.underlying t = some (.slice e)) (hi : P.info? e = some i) (hz : i.zero = some z)
    (kl kc : IntKind) (n c : Nat) (hnc : n ≤ c) (hbytes : i.bytes * c ≤ 281474976710656) (h63 : c ≤ 9223372036854775807) (w : World) :
    (Instr.makeSlice t (.int kl (n : Int)) (.int kc (c : Int))).run P w = .ok (.slice (some ⟨w.heap.size, 0, none⟩) n c) (w.alloc (.cells (madeCells z.cells (c * i.size)) e)) := by
  have hb : (i.bytes : Int) * (c : Int) ≤ 281474976710656 := by
    have h : ((i.bytes * c : Nat) : Int) ≤ 281474976710656 := by omega
    rwa [Int.natCast_mul] at h
  have hr := run_make (P := P) w t e i z ht hi hz kl kc n c (by omega) (by omega) hb (by omega)
  simp only [Int.toNat_natCast] at hr
  exact hr
theorem make_bools (n : Nat) (hn : n ≤ 1000000) (w : World) : (Instr.makeSlice 40 (.int .i64 (n : Int)) (.int .i64 (n : Int))).run Try.prog w = .ok (.slice (some ⟨w.heap.size, 0, none⟩) n n) (w.alloc (.cells ((List.replicate n false).map Value.bool).toArray 4)) := by
  obtain ⟨i0, hi, hq0, hq1, hq2⟩ := info_parts Try.infoBool
  have := run_make_rowN (P := Try.prog) 40 4 i0 _ Try.underlying40 hi hq0 .i64 .i64 n n (Nat.le_refl _) (by rw [hq2]; omega) (by omega) w
  rw [this]
  have e : madeCells (Value.bool false).cells (n * i0.size) = ((List.replicate n false).map Value.bool).toArray := by
    rw [hq1, Nat.mul_one]
    apply Array.ext
    · simp [madeCells]
    · intro j h1 h2
      simp [madeCells, Value.cells, Nat.mod_one]
  rw [e]
theorem says_new (n : Nat) : Says (n : Int) [] (List.replicate n false) := by
  refine ⟨by simp, fun k hk => ?_⟩
  rw [List.length_replicate] at hk
  rw [List.getElem?_replicate, if_pos hk]
  rfl
theorem Says.at {n : Int} {l : List Ex} {bits : List Bool} (h : Says n l bits) (k : Nat) (hk : k < bits.length) : bits[k]? = some (hasB l (k : Int)) := h.2 k hk
theorem says_give {n : Int} {l : List Ex} {bits : List Bool} (hok : SpOk n l) (hs : Says n l bits) (a : Int) (hc : (giveA n l a).2 = 0) :
    ∃ A : Nat, a = (A : Int) ∧ A < bits.length ∧ Says n (giveA n l a).1 (bits.set A true) := by
  obtain ⟨h1, h2, h3⟩ := (giveA_spec hok a).2.2 hc
  obtain ⟨A, rfl⟩ := Int.eq_ofNat_of_zero_le h1.1
  have hA : A < bits.length := by have := hs.1; omega
  refine ⟨A, rfl, hA, by rw [List.length_set]; exact hs.1, fun k hk => ?_⟩
  rw [List.length_set] at hk
  rw [h3]
  by_cases e : k = A
  · subst e
    rw [List.getElem?_set_self hA]; simp
  · rw [List.getElem?_set_ne (fun f => e f.symm), hs.2 k hk, decide_eq_false (by omega), Bool.or_false]
/-- the bools, those from F up to K true -/
def fillB (bits : List Bool) (F K : Nat) : List Bool := bits.mapIdx fun k c => c || (decide (F ≤ k) && decide (k < K))
theorem fillB_len (bits : List Bool) (F K : Nat) : (fillB bits F K).length = bits.length := by unfold fillB; simp
theorem fillB_get (bits : List Bool) (F K k : Nat) : (fillB bits F K)[k]? = bits[k]?.map (fun c => c || (decide (F ≤ k) && decide (k < K))) := by unfold fillB; simp
theorem fillB_none (bits : List Bool) (F : Nat) : fillB bits F F = bits := by
  refine List.ext_getElem? fun k => ?_
  rw [fillB_get, show (decide (F ≤ k) && decide (k < F)) = false by simp]
  simp
theorem fillB_step (bits : List Bool) (F K : Nat) (h : F ≤ K) (hK : K < bits.length) : (fillB bits F K).set K true = fillB bits F (K + 1) := by
  refine List.ext_getElem? fun k => ?_
  rw [fillB_get]
  by_cases e : k = K
  · subst e
    rw [List.getElem?_set_self (by rw [fillB_len]; exact hK), List.getElem?_eq_getElem hK]
    simp [h]
  · rw [List.getElem?_set_ne (fun f => e f.symm), fillB_get]
    congr 1
    funext c
    congr 2
    rw [Bool.eq_iff_iff, decide_eq_true_eq, decide_eq_true_eq]
    omega
theorem says_fill {n : Int} {l : List Ex} {bits : List Bool} (hok : SpOk n l) (hs : Says n l bits) (f t : Int) (hc : (fillA n l f t).2 = 0) :
    ∃ F T : Nat, f = (F : Int) ∧ t = (T : Int) ∧ F ≤ T ∧ T ≤ bits.length ∧ Says n (fillA n l f t).1 (fillB bits F T) := by
  obtain ⟨h1, h2, h3⟩ := (fillA_spec hok f t).2.2 hc
  obtain ⟨F, rfl⟩ := Int.eq_ofNat_of_zero_le h1.1
  obtain ⟨T, rfl⟩ := Int.eq_ofNat_of_zero_le (show 0 ≤ t by omega)
  refine ⟨F, T, rfl, rfl, by omega, by have := hs.1; omega, by rw [fillB_len]; exact hs.1, fun k hk => ?_⟩
  rw [fillB_len] at hk
  rw [h3, fillB_get, hs.2 k hk, Option.map_some]
  congr 2
  rw [Bool.eq_iff_iff, Bool.and_eq_true, Bool.and_eq_true, decide_eq_true_eq, decide_eq_true_eq, decide_eq_true_eq, decide_eq_true_eq]
  omega
/-- the bools, the first j of the list t cleared -/
def takeB (bits : List Bool) (t : List Int) (j : Nat) : List Bool := bits.mapIdx fun k c => c && decide ((k : Int) ∉ t.take j)
theorem takeB_len (bits : List Bool) (t : List Int) (j : Nat) : (takeB bits t j).length = bits.length := by unfold takeB; simp
theorem takeB_get (bits : List Bool) (t : List Int) (j k : Nat) : (takeB bits t j)[k]? = bits[k]?.map (fun c => c && decide ((k : Int) ∉ t.take j)) := by unfold takeB; simp
theorem takeB_none (bits : List Bool) (t : List Int) : takeB bits t 0 = bits := by
  refine List.ext_getElem? fun k => ?_
  rw [takeB_get]
  simp
theorem takeB_step (bits : List Bool) (t : List Int) (j T : Nat) (h : t[j]? = some (T : Int)) (hT : T < bits.length) : (takeB bits t j).set T false = takeB bits t (j + 1) := by
  refine List.ext_getElem? fun k => ?_
  have hm : ∀ x : Int, x ∈ t.take (j + 1) ↔ x ∈ t.take j ∨ x = T := fun x => by rw [List.take_add_one, h, List.mem_append]; simp
  rw [takeB_get]
  by_cases e : k = T
  · subst e
    rw [List.getElem?_set_self (by rw [takeB_len]; exact hT), List.getElem?_eq_getElem hT, Option.map_some, decide_eq_false (fun f => f ((hm _).2 (.inr rfl))), Bool.and_false]
  · rw [List.getElem?_set_ne (fun f => e f.symm), takeB_get]
    congr 1
    funext c
    congr 1
    rw [Bool.eq_iff_iff, decide_eq_true_eq, decide_eq_true_eq, hm]
    constructor
    · rintro h1 (h2 | h2)
      · exact h1 h2
      · omega
    · exact fun h1 h2 => h1 (.inl h2)
/-- what Take answers, beside the bools -/
structure Took (n : Int) (l' : List Ex) (bits : List Bool) (t : List Int) : Prop where
  short : (t.length : Int) ≤ n
  one : ∀ j y, t[j]? = some y → ∃ T : Nat, y = (T : Int) ∧ T < bits.length ∧ (takeB bits t j)[T]? = some true
  up : ∀ j y z, t[j]? = some y → t[j + 1]? = some z → y < z
  low : ∀ y k : Nat, t.getLast? = some (y : Int) → k < y → (takeB bits t t.length)[k]? = some false
  says : Says n l' (takeB bits t t.length)
theorem sorted_short : ∀ (t : List Int) (a n : Int), t.Pairwise (· < ·) → (∀ y ∈ t, a ≤ y ∧ y < n) → a ≤ n → (t.length : Int) ≤ n - a
  | [], a, n, _, _, h => by simp; omega
  | x :: t, a, n, hp, hb, h => by
    have hx := hb x (List.mem_cons_self ..)
    have := sorted_short t (x + 1) n (List.pairwise_cons.1 hp).2 (fun y hy => ⟨by have := (List.pairwise_cons.1 hp).1 y hy; omega, (hb y (List.mem_cons_of_mem _ hy)).2⟩) (by omega)
    rw [List.length_cons]
    omega
theorem says_take {n : Int} {l : List Ex} {bits : List Bool} (hok : SpOk n l) (hs : Says n l bits) (k : Int) (hc : (takeA l k).2.1 = 0) : Took n (takeA l k).2.2 bits (takeA l k).1 := by
  obtain ⟨h1, h2, h3, h4⟩ := (takeA_spec hok k).2.2 hc
  generalize (takeA l k).1 = t at h1 h2 h3 h4
  generalize (takeA l k).2.2 = l' at h3
  have hb : ∀ y, hasB l y = true → 0 ≤ y ∧ y < n := fun y hy => by
    obtain ⟨x, hx, h5, h6⟩ := (hasB_iff l y).1 hy
    have := hok.2.1 x hx
    omega
  have hn := hs.1
  refine ⟨?_, fun j y hy => ?_, fun j y z hy hz => ?_, fun y k hy hk => ?_, by rw [takeB_len]; exact hs.1, fun k hk => ?_⟩
  · have := sorted_short t 0 n h1 (fun y hy => hb y (h2 y hy)) (by omega)
    omega
  · have hm := List.mem_of_getElem? hy
    obtain ⟨h5, h6⟩ := hb y (h2 y hm)
    obtain ⟨T, rfl⟩ := Int.eq_ofNat_of_zero_le h5
    refine ⟨T, rfl, by omega, ?_⟩
    rw [takeB_get, hs.2 T (by omega), h2 _ hm, Option.map_some, Bool.true_and, decide_eq_true]
    intro hmem
    obtain ⟨hj, he⟩ := List.getElem?_eq_some_iff.1 hy
    obtain ⟨i, hi, e⟩ := List.getElem_of_mem hmem
    rw [List.length_take] at hi
    rw [List.getElem_take] at e
    have := List.pairwise_iff_getElem.1 h1 i j (by omega) hj (by omega)
    omega
  · obtain ⟨q1, rfl⟩ := List.getElem?_eq_some_iff.1 hy
    obtain ⟨q2, rfl⟩ := List.getElem?_eq_some_iff.1 hz
    exact List.pairwise_iff_getElem.1 h1 j (j + 1) q1 q2 (by omega)
  · have hm := List.mem_of_getLast? hy
    obtain ⟨h5, h6⟩ := hb _ (h2 _ hm)
    rw [takeB_get, hs.2 k (by omega), Option.map_some, List.take_length]
    cases hh : hasB l (k : Int)
    · rfl
    · rw [decide_eq_false (fun f => f (h4 _ hm _ (by omega) hh))]; rfl
  · rw [takeB_len] at hk
    rw [takeB_get, hs.2 k hk, Option.map_some, List.take_length, h3]

end Go.Proofs.Ytoblihckojnffaa
