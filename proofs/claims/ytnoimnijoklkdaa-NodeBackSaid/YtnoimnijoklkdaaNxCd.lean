/- What is read is what was written: readers and texts in pairs; messages; nodes. -/
import Derived.Test.YtnoimnijoklkdaaNxTake
set_option linter.unusedVariables false
set_option linter.unusedSimpArgs false
namespace Go.Proofs.Ytnoimnijoklkdaa.Px
open Go.RowKit Go.Shelf Go.Proofs.YtnoimnijoklkdaaW.PrintWords Go.Proofs.YtnoimnijoklkdaaW.PrintLast

theorem ofBe_cons' (a : UInt8) (l : List UInt8) : ofBe (a :: l) = a.toNat * 256 ^ l.length + ofBe l := by
  suffices h : ∀ n, l.foldl (fun n c => n * 256 + c.toNat) n = n * 256 ^ l.length + ofBe l by
    have := h (0 * 256 + a.toNat)
    simp only [ofBe, List.foldl_cons] at this ⊢
    rw [this]; simp
  unfold ofBe
  induction l with
  | nil => intro n; simp
  | cons b l ih =>
    intro n
    simp only [List.foldl_cons, List.length_cons]
    rw [ih (n * 256 + b.toNat), ih (0 * 256 + b.toNat), Nat.pow_succ, Nat.add_mul, Nat.mul_assoc, Nat.mul_comm 256]; simp [Nat.add_assoc]
theorem ofBe_be' (i n : Nat) : ofBe (be i n) = n % 256 ^ i := by
  induction i with
  | zero => rw [Nat.pow_zero, Nat.mod_one]; rfl
  | succ i ih =>
    rw [be_succ, ofBe_cons', be_len, ih]
    have h1 : (UInt8.ofNat (n / 2 ^ (8 * i))).toNat = n / 256 ^ i % 256 := by
      rw [Nat.pow_mul]; simp
    rw [h1, Nat.pow_succ, Nat.mod_mul (x := n) (a := 256 ^ i) (b := 256), Nat.mul_comm]; omega
theorem ofBe_be_of' (i n : Nat) (h : n < 256 ^ i) : ofBe (be i n) = n := by rw [ofBe_be', Nat.mod_eq_of_lt h]
theorem be_ofBe' (l : List UInt8) : be l.length (ofBe l) = l := by
  induction l with
  | nil => rfl
  | cons a l ih =>
    have hl := ofBe_lt l
    rw [List.length_cons, be_succ, ofBe_cons']
    congr 1
    · rw [Nat.pow_mul, show 2 ^ 8 = 256 from rfl]
      have : (a.toNat * 256 ^ l.length + ofBe l) / 256 ^ l.length = a.toNat := by
        rw [Nat.mul_comm, Nat.mul_add_div (Nat.pow_pos (by decide)), Nat.div_eq_of_lt hl, Nat.add_zero]
      rw [this]
      simp
    · conv => rhs; rw [← ih]
      have e : ∀ n m : Nat, n % 256 ^ l.length = m % 256 ^ l.length → be l.length n = be l.length m := by
        intro n m h
        unfold be
        refine List.map_congr_left fun i hi => ?_
        have hi : i < l.length := List.mem_range.1 hi
        apply UInt8.toNat_inj.1
        have hs : l.length = (l.length - 1 - i) + 1 + i := by omega
        have key : ∀ x : Nat, x / 2 ^ (8 * (l.length - 1 - i)) % 256 = x % 256 ^ l.length / 256 ^ (l.length - 1 - i) % 256 := by
          intro x
          have hp : 256 ^ l.length = 256 ^ (l.length - 1 - i) * 256 ^ (i + 1) := by rw [← Nat.pow_add]; congr 1; omega
          rw [Nat.pow_mul, show 2 ^ 8 = 256 from rfl, hp, Nat.mod_mul_right_div_self, Nat.pow_succ, Nat.mul_comm (256 ^ i), Nat.mod_mul_right_mod]
        simp only [UInt8.toNat_ofNat']
        rw [key n, key m, h]
      exact e _ _ (by rw [Nat.add_comm, Nat.add_mul_mod_self_right])

structure Cd {α : Type} (R : List UInt8 → Int → α × List UInt8 × Int) (T : α → List UInt8) (P : α → Prop) : Prop where
  ok : ∀ v l, P v → R (T v ++ l) 0 = (v, l, 0)
  torn : ∀ v n, P v → n < (T v).length → (R ((T v).take n) 0).2 = ([], 10)
  err : ∀ l e, e ≠ 0 → (R l e).2 = (l, e)
  back : ∀ l, (R l 0).2.2 = 0 → P (R l 0).1 ∧ l = T (R l 0).1 ++ (R l 0).2.1

theorem Cd.num (w : Nat) (hw : 0 < w) : Cd (fun l e => (ofBe (fx l e w).1, (fx l e w).2)) (be w) (fun n => n < 256 ^ w) where
  ok := fun v l hv => by
    (try dsimp only)
    rw [fx_ok _ w (by rw [List.length_append, be_len]; omega) hw, List.take_left' (be_len _ _), List.drop_left' (be_len _ _), ofBe_be_of' _ _ hv]
  torn := fun v n hv hn => by
    rw [be_len] at hn
    (try dsimp only)
    rw [fx_torn _ w (by rw [List.length_take, be_len]; omega)]
  err := fun l e he => by (try dsimp only); rw [fx_err l e _ he]
  back := fun l h => by
    (try dsimp only at h ⊢)
    by_cases hl : w ≤ l.length
    · rw [fx_ok l w hl hw]
      have hlen : (l.take w).length = w := by rw [List.length_take]; omega
      have h1 := ofBe_lt (l.take w)
      have h2 := be_ofBe' (l.take w)
      rw [hlen] at h1 h2
      exact ⟨h1, by (try dsimp only); rw [h2, List.take_append_drop]⟩
    · rw [fx_torn l w (by omega)] at h
      cases h

theorem Cd.dep {α β : Type} {R1 : List UInt8 → Int → α × List UInt8 × Int} {T1 : α → List UInt8} {P1 : α → Prop} (h1 : Cd R1 T1 P1) {R2 : α → List UInt8 → Int → β × List UInt8 × Int} {T2 : β → List UInt8} {P2 : α → β → Prop}
    (h2 : ∀ a, P1 a → Cd (R2 a) T2 (P2 a)) (he : ∀ a l e, e ≠ 0 → (R2 a l e).2 = (l, e)) (c : β → α) (hc : ∀ a b, P2 a b → c b = a) :
    Cd (fun l e => R2 (R1 l e).1 (R1 l e).2.1 (R1 l e).2.2) (fun b => T1 (c b) ++ T2 b) (fun b => P1 (c b) ∧ P2 (c b) b) where
  ok := fun v l hv => by
    (try dsimp only)
    rw [List.append_assoc, h1.ok _ _ hv.1]
    exact (h2 _ hv.1).ok _ _ hv.2
  torn := fun v n hv hn => by
    (try dsimp only)
    rw [List.length_append] at hn
    by_cases hlt : n < (T1 (c v)).length
    · have := h1.torn (c v) n hv.1 hlt
      rw [List.take_append_of_le_length (by omega)]
      rw [he _ _ _ (by rw [this]; decide), this]
    · rw [show n = (T1 (c v)).length + (n - (T1 (c v)).length) by omega, List.take_length_add_append, h1.ok _ _ hv.1]
      exact (h2 _ hv.1).torn _ _ hv.2 (by omega)
  err := fun l e h => by
    (try dsimp only)
    have := h1.err l e h
    rw [he _ _ _ (by rw [this]; exact h), this]
  back := fun l h => by
    (try dsimp only at h ⊢)
    by_cases h0 : (R1 l 0).2.2 = 0
    · obtain ⟨b1, b2⟩ := h1.back l h0
      rw [h0] at h ⊢
      obtain ⟨b3, b4⟩ := (h2 _ b1).back _ h
      have hcc := hc _ _ b3
      refine ⟨⟨by rw [hcc]; exact b1, by rw [hcc]; exact b3⟩, ?_⟩
      rw [hcc, List.append_assoc, ← b4]
      exact b2
    · rw [he _ _ _ h0] at h
      exact absurd h h0

theorem Cd.map {α β : Type} {R : List UInt8 → Int → α × List UInt8 × Int} {T : α → List UInt8} {P : α → Prop} (h : Cd R T P) (f : α → β) (g : β → α) {T' : β → List UInt8} {P' : β → Prop}
    (hf : ∀ a, P a → P' (f a) ∧ g (f a) = a) (hg : ∀ b, P' b → P (g b) ∧ f (g b) = b) (hT : ∀ b, P' b → T' b = T (g b)) :
    Cd (fun l e => (f (R l e).1, (R l e).2)) T' P' where
  ok := fun v l hv => by (try dsimp only); rw [hT v hv, h.ok _ _ (hg v hv).1]; rw [(hg v hv).2]
  torn := fun v n hv hn => by rw [hT v hv] at hn ⊢; exact h.torn _ _ (hg v hv).1 hn
  err := fun l e he => h.err l e he
  back := fun l he => by
    obtain ⟨b1, b2⟩ := h.back l he
    refine ⟨(hf _ b1).1, ?_⟩
    (try dsimp only)
    rw [hT _ (hf _ b1).1, (hf _ b1).2]
    exact b2

theorem Cd.seq {α β : Type} {R1 : List UInt8 → Int → α × List UInt8 × Int} {T1 : α → List UInt8} {P1 : α → Prop} (h1 : Cd R1 T1 P1) {R2 : List UInt8 → Int → β × List UInt8 × Int} {T2 : β → List UInt8} {P2 : β → Prop} (h2 : Cd R2 T2 P2) :
    Cd (fun l e => (((R1 l e).1, (R2 (R1 l e).2.1 (R1 l e).2.2).1), (R2 (R1 l e).2.1 (R1 l e).2.2).2)) (fun p => T1 p.1 ++ T2 p.2) (fun p => P1 p.1 ∧ P2 p.2) where
  ok := fun v l hv => by
    (try dsimp only)
    rw [List.append_assoc, h1.ok _ _ hv.1]
    (try dsimp only)
    rw [h2.ok _ _ hv.2]
  torn := fun v n hv hn => by
    (try dsimp only)
    rw [List.length_append] at hn
    by_cases hlt : n < (T1 v.1).length
    · have := h1.torn v.1 n hv.1 hlt
      rw [List.take_append_of_le_length (by omega)]
      rw [h2.err _ _ (by rw [this]; decide), this]
    · rw [show n = (T1 v.1).length + (n - (T1 v.1).length) by omega, List.take_length_add_append, h1.ok _ _ hv.1]
      exact h2.torn _ _ hv.2 (by omega)
  err := fun l e h => by
    (try dsimp only)
    have := h1.err l e h
    rw [h2.err _ _ (by rw [this]; exact h), this]
  back := fun l h => by
    (try dsimp only at h ⊢)
    by_cases h0 : (R1 l 0).2.2 = 0
    · obtain ⟨b1, b2⟩ := h1.back l h0
      rw [h0] at h ⊢
      obtain ⟨b3, b4⟩ := h2.back _ h
      refine ⟨⟨b1, b3⟩, ?_⟩
      rw [List.append_assoc, ← b4]
      exact b2
    · rw [h2.err _ _ h0] at h
      exact absurd h h0

theorem cd8 : Cd rU8 (be 1) (fun n => n < 256 ^ 1) := Cd.num 1 (by decide)
theorem cd16 : Cd rU16 (be 2) (fun n => n < 256 ^ 2) := Cd.num 2 (by decide)
theorem cdFx (n : Nat) : Cd (fun l e => fx l e n) (fun s : List UInt8 => s) (fun s => s.length = n) where
  ok := fun v l hv => by (try dsimp only); rw [fx_any _ n (by rw [List.length_append]; omega), List.take_left' hv, List.drop_left' hv]
  torn := fun v m hv hm => by (try dsimp only); rw [fx_torn _ n (by rw [List.length_take]; omega)]
  err := fun l e he => by (try dsimp only); rw [fx_err l e _ he]
  back := fun l h => by
    (try dsimp only at h ⊢)
    by_cases hl : n ≤ l.length
    · rw [fx_any l n hl]
      exact ⟨by rw [List.length_take]; omega, (List.take_append_drop n l).symm⟩
    · rw [fx_torn l n (by omega)] at h
      cases h
theorem cdText : Cd rText (fun s => be 2 s.length ++ s) (fun s => s.length < 256 ^ 2 ∧ s.length = s.length) :=
  Cd.dep cd16 (R2 := fun n l e => fx l e n) (P2 := fun n s => s.length = n) (fun n _ => cdFx n) (fun n l e he => by (try dsimp only); rw [fx_err l e _ he]) List.length (fun a b h => h)


theorem cdStr : Cd strR tx (fun s => s.size < 65536) :=
  Cd.map cdText (fun s => (⟨s.toArray⟩ : ByteArray)) (fun s => s.data.toList)
    (fun a h => ⟨by rw [size_list]; have := h.1; omega, rfl⟩)
    (fun b h => ⟨⟨by rw [← Lib.size_eq]; omega, rfl⟩, mk_ba b⟩)
    (fun b h => by unfold tx; rw [← Lib.size_eq])
theorem cdKid : Cd kidR kidTx (fun k => 0 ≤ k ∧ k < 65536) :=
  Cd.map cd16 (fun n => ((n : Nat) : Int)) (fun k => k.toNat)
    (fun a h => ⟨⟨Int.natCast_nonneg _, by omega⟩, rfl⟩)
    (fun b h => ⟨by omega, Int.toNat_of_nonneg h.1⟩)
    (fun b h => rfl)
theorem cdEnt : Cd entR entTx (fun x => x.f0.size < 65536 ∧ x.f1.size < 65536) :=
  Cd.map (cdStr.seq cdStr) (fun p => (⟨p.1, p.2⟩ : S75)) (fun x => (x.f0, x.f1)) (fun a h => ⟨h, rfl⟩) (fun b h => ⟨h, rfl⟩) (fun b h => rfl)
theorem cdMany {α : Type} {R : List UInt8 → Int → α × List UInt8 × Int} {T : α → List UInt8} {P : α → Prop} (h : Cd R T P) : ∀ n : Nat, Cd (many R n) (fun xs => xs.flatMap T) (fun xs => xs.length = n ∧ ∀ x ∈ xs, P x)
  | 0 => {
    ok := fun v l hv => by obtain rfl := List.length_eq_zero_iff.1 hv.1; rfl
    torn := fun v n hv hn => by obtain rfl := List.length_eq_zero_iff.1 hv.1; simp at hn
    err := fun l e he => rfl
    back := fun l h => ⟨⟨rfl, fun x hx => by cases hx⟩, rfl⟩ }
  | n + 1 => {
    ok := fun v l hv => by
      cases v with
      | nil => cases hv.1
      | cons x v =>
        have hx := h.ok x (v.flatMap T ++ l) (hv.2 x List.mem_cons_self)
        rw [List.flatMap_cons, List.append_assoc, many_one (by rw [hx]), hx]
        (try dsimp only)
        rw [(cdMany h n).ok v l ⟨by have := hv.1; simpa using this, fun y hy => hv.2 y (List.mem_cons_of_mem _ hy)⟩]
    torn := fun v m hv hm => by
      cases v with
      | nil => cases hv.1
      | cons x v =>
        rw [List.flatMap_cons, List.length_append] at hm
        rw [List.flatMap_cons]
        by_cases hlt : m < (T x).length
        · have := h.torn x m (hv.2 x List.mem_cons_self) hlt
          rw [List.take_append_of_le_length (by omega), many_bad (by rw [this]; decide), this]
        · have hx := h.ok x ((v.flatMap T).take (m - (T x).length)) (hv.2 x List.mem_cons_self)
          rw [show m = (T x).length + (m - (T x).length) by omega, List.take_length_add_append]
          rw [many_one (by rw [hx]), hx]
          (try dsimp only)
          exact (cdMany h n).torn v _ ⟨by have := hv.1; simpa using this, fun y hy => hv.2 y (List.mem_cons_of_mem _ hy)⟩ (by omega)
    err := fun l e he => many_err h.err _ l e he
    back := fun l hl => by
      by_cases h0 : (R l 0).2.2 = 0
      · obtain ⟨b1, b2⟩ := h.back l h0
        rw [many_one h0, h0] at hl ⊢
        obtain ⟨⟨b3, b4⟩, b5⟩ := (cdMany h n).back _ hl
        (try dsimp only at b3 b4 b5 ⊢)
        refine ⟨⟨by rw [List.length_cons, b3], fun y hy => ?_⟩, ?_⟩
        · rcases List.mem_cons.1 hy with rfl | hy
          · exact b1
          · exact b4 y hy
        · rw [List.flatMap_cons, List.append_assoc, ← b5]
          exact b2
      · rw [many_bad h0] at hl
        exact absurd hl h0 }

/-- A leaf's entries; an inner node's kids, pivots, messages' texts. -/
def leafR (l : List UInt8) (e : Int) : List S75 × List UInt8 × Int := many entR (rU16 l e).1 (rU16 l e).2.1 (rU16 l e).2.2
theorem cdLeaf : Cd leafR (fun es => be 2 es.length ++ es.flatMap entTx) (fun es => es.length < 256 ^ 2 ∧ es.length = es.length ∧ ∀ x ∈ es, x.f0.size < 65536 ∧ x.f1.size < 65536) :=
  Cd.dep cd16 (fun n _ => cdMany cdEnt n) (fun n l e he => many_err cdEnt.err n l e he) List.length (fun a b h => h.1)
def kpR (m : Nat) (l : List UInt8) (e : Int) : (List Int × List ByteArray) × List UInt8 × Int :=
  (((many kidR m l e).1, (many strR (m - 1) (many kidR m l e).2.1 (many kidR m l e).2.2).1), (many strR (m - 1) (many kidR m l e).2.1 (many kidR m l e).2.2).2)
def kpP (m : Nat) (p : List Int × List ByteArray) : Prop := (p.1.length = m ∧ ∀ x ∈ p.1, 0 ≤ x ∧ x < 65536) ∧ (p.2.length = m - 1 ∧ ∀ x ∈ p.2, x.size < 65536)
theorem cdKp (m : Nat) : Cd (kpR m) (fun p => p.1.flatMap kidTx ++ p.2.flatMap tx) (kpP m) := (cdMany cdKid m).seq (cdMany cdStr (m - 1))
def innR (l : List UInt8) (e : Int) : ((List Int × List ByteArray) × List ByteArray) × List UInt8 × Int :=
  let a := kpR (rU8 l e).1 (rU8 l e).2.1 (rU8 l e).2.2
  let c := rU16 a.2.1 a.2.2
  let ts := many strR c.1 c.2.1 c.2.2
  ((a.1, ts.1), ts.2)
def innT (p : (List Int × List ByteArray) × List ByteArray) : List UInt8 := (be 1 p.1.1.length ++ (p.1.1.flatMap kidTx ++ p.1.2.flatMap tx)) ++ (be 2 p.2.length ++ p.2.flatMap tx)
def innP (p : (List Int × List ByteArray) × List ByteArray) : Prop := (p.1.1.length < 256 ^ 1 ∧ kpP p.1.1.length p.1) ∧ (p.2.length < 256 ^ 2 ∧ p.2.length = p.2.length ∧ ∀ x ∈ p.2, x.size < 65536)
theorem cdInn : Cd innR innT innP :=
  (Cd.dep cd8 (fun n _ => cdKp n) (fun n l e he => (cdKp n).err l e he) (fun p => p.1.length) (fun a b h => h.1.1)).seq (Cd.dep cd16 (fun n _ => cdMany cdStr n) (fun n l e he => many_err cdStr.err n l e he) List.length (fun a b h => h.1))
theorem leafN_eq (l : List UInt8) (e : Int) : leafN l e = if (leafR l e).2.2 ≠ 0 then (zRn, [], 10) else (⟨true, (leafR l e).1, [], [], []⟩, (leafR l e).2.1, 0) := rfl
theorem innN_eq (l : List UInt8) (e : Int) : innerN l e = if (innR l e).2.2 ≠ 0 then (zRn, [], 10) else (⟨false, [], (innR l e).1.1.2, (innR l e).1.1.1, (innR l e).1.2⟩, (innR l e).2.1, 0) := rfl

/-! Messages. -/
theorem size0 {s : ByteArray} (h : s.size = 0) : s = ⟨#[]⟩ := by
  rw [← mk_ba s, show s.data.toList = [] from List.length_eq_zero_iff.1 (by rw [← Lib.size_eq]; exact h)]
theorem endM_ok {op : Int} {k t v : ByteArray} (h : mayB op k t v = true) : endM op k t v [] 0 = (⟨op, k, t, v⟩, 0) := by
  unfold endM
  rw [if_neg (by decide), if_neg (fun h => h rfl), if_pos h]
theorem mayB_rest {op : Int} {k t v : ByteArray} (h : mayB op k t v = true) : (op = 1 ∧ t = ⟨#[]⟩) ∨ (op = 4 ∧ t = ⟨#[]⟩) ∨ (op = 2 ∧ t = ⟨#[]⟩ ∧ v = ⟨#[]⟩) ∨ (op = 3 ∧ v = ⟨#[]⟩) := by
  unfold mayB at h
  split at h
  · cases h
  · split at h
    · rename_i h1
      rw [Bool.and_eq_true, decide_eq_true_eq] at h
      exact .inl ⟨h1, size0 h.1⟩
    · split at h
      · rename_i h1
        rw [Bool.and_eq_true, decide_eq_true_eq] at h
        exact .inr (.inl ⟨h1, size0 h.1⟩)
      · split at h
        · rename_i h1
          rw [Bool.and_eq_true, decide_eq_true_eq, decide_eq_true_eq] at h
          exact .inr (.inr (.inl ⟨h1, size0 h.1, size0 h.2⟩))
        · split at h
          · rename_i h1
            rw [Bool.and_eq_true, decide_eq_true_eq] at h
            exact .inr (.inr (.inr ⟨h1, size0 h.1⟩))
          · cases h
theorem be1_ne (n : Nat) (l : List UInt8) : ¬ be 1 n ++ l = [] := fun h => by
  have := congrArg List.length h
  rw [List.length_append, be_len] at this
  simp at this
theorem mtk_put (m : S59) (h : mayB m.f0 m.f1 m.f2 m.f3 = true) (hv : m.f3.size < 65536) : mtk (putM m.f0 m.f1 m.f2 m.f3) = (m, 0) := by
  obtain ⟨op, k, t, v⟩ := m
  dsimp only at h hv ⊢
  obtain ⟨o1, o4, hk, hk1, ht⟩ := mayB_op h
  have hr := mayB_rest h
  obtain ⟨n, rfl⟩ := Int.eq_ofNat_of_zero_le (show 0 ≤ op by omega)
  have hn1 : 1 ≤ n := by omega
  have hn4 : n ≤ 4 := by omega
  have hE := endM_ok h
  unfold putM mtk
  rw [Int.toNat_natCast, List.append_assoc, if_neg (be1_ne _ _), cd8.ok n _ (show n < 256 ^ 1 by omega)]
  dsimp only
  rw [if_neg (by omega), cdStr.ok k _ (by omega)]
  dsimp only
  rcases hr with ⟨h1, rfl⟩ | ⟨h1, rfl⟩ | ⟨h1, rfl, rfl⟩ | ⟨h1, rfl⟩
  · obtain rfl : n = 1 := by omega
    rw [if_neg (by decide), if_neg (by decide), if_neg (by decide), if_neg (by decide), ← List.append_nil (tx v), cdStr.ok v [] hv]
    exact hE
  · obtain rfl : n = 4 := by omega
    rw [if_neg (by decide), if_neg (by decide), if_neg (by decide), if_neg (by decide), ← List.append_nil (tx v), cdStr.ok v [] hv]
    exact hE
  · obtain rfl : n = 2 := by omega
    rw [if_neg (show ¬ ((2 : Nat) = 3) by decide), if_pos rfl, if_neg (show ¬ ((2 : Nat) : Int) = 3 by decide), if_pos (show ((2 : Nat) : Int) = 2 from rfl)]
    exact hE
  · obtain rfl : n = 3 := by omega
    rw [if_pos rfl, if_pos (show ((3 : Nat) : Int) = 3 from rfl), ← List.append_nil (tx t), cdStr.ok t [] (by have := ht rfl; omega)]
    exact hE
theorem endM_back {op : Int} {k t v : ByteArray} {l : List UInt8} {e : Int} (h : (endM op k t v l e).2 = 0) : e = 0 ∧ l = [] ∧ mayB op k t v = true ∧ (endM op k t v l e).1 = ⟨op, k, t, v⟩ := by
  unfold endM at h ⊢
  split at h
  · rename_i h1; exact absurd h h1
  · split at h
    · cases h
    · split at h
      · rename_i h1 h2 h3
        have e1 : e = 0 := Classical.byContradiction h1
        have e2 : l = [] := Classical.byContradiction h2
        exact ⟨e1, e2, h3, by rw [if_neg h1, if_neg h2, if_pos h3]⟩
      · cases h
theorem mtk_back (l : List UInt8) (h : (mtk l).2 = 0) : mayB (mtk l).1.f0 (mtk l).1.f1 (mtk l).1.f2 (mtk l).1.f3 = true ∧ putM (mtk l).1.f0 (mtk l).1.f1 (mtk l).1.f2 (mtk l).1.f3 = l := by
  unfold mtk at h ⊢
  dsimp only at h ⊢
  split at h
  · cases h
  · rename_i hl
    rw [if_neg hl]
    split at h
    · cases h
    · rename_i hn
      rw [if_neg hn]
      by_cases h0 : (rU8 l 0).2.2 = 0
      · obtain ⟨a1, a2⟩ := cd8.back l h0
        generalize rU8 l 0 = a at *
        obtain ⟨n, L, e⟩ := a
        dsimp only at h h0 a1 a2 hn ⊢
        subst h0
        have hn' : 1 ≤ n ∧ n ≤ 4 := by omega
        by_cases k0 : (strR L 0).2.2 = 0
        · obtain ⟨b1, b2⟩ := cdStr.back L k0
          generalize strR L 0 = b at *
          obtain ⟨k, L2, e2⟩ := b
          dsimp only at h k0 b1 b2 ⊢
          subst k0
          by_cases h2 : n = 2
          · subst h2
            rw [if_neg (by decide), if_pos rfl] at h ⊢
            obtain ⟨_, q2, q3, q4⟩ := endM_back h
            rw [q4]
            refine ⟨q3, ?_⟩
            unfold putM
            dsimp only
            rw [if_neg (by decide), if_pos (by decide), a2, b2, q2]
            simp
          · by_cases x0 : (strR L2 0).2.2 = 0
            · obtain ⟨c1, c2⟩ := cdStr.back L2 x0
              generalize strR L2 0 = c at *
              obtain ⟨x, L3, e3⟩ := c
              dsimp only at h x0 c1 c2 ⊢
              subst x0
              by_cases h3 : n = 3
              · subst h3
                rw [if_pos rfl] at h ⊢
                obtain ⟨_, q2, q3, q4⟩ := endM_back h
                rw [q4]
                refine ⟨q3, ?_⟩
                unfold putM
                dsimp only
                rw [if_pos (by decide), a2, b2, c2, q2]
                simp
              · rw [if_neg h3, if_neg h2] at h ⊢
                obtain ⟨_, q2, q3, q4⟩ := endM_back h
                rw [q4]
                refine ⟨q3, ?_⟩
                unfold putM
                dsimp only
                rw [if_neg (by omega), if_neg (by omega), a2, b2, c2, q2, Int.toNat_natCast]
                simp
            · exfalso
              rw [if_neg h2] at h
              split at h
              · exact x0 (endM_back h).1
              · exact x0 (endM_back h).1
        · exfalso
          have hx := cdStr.err (strR L 0).2.1 (strR L 0).2.2 k0
          split at h
          · have := (endM_back h).1; rw [hx] at this; exact k0 this
          · split at h
            · exact k0 (endM_back h).1
            · have := (endM_back h).1; rw [hx] at this; exact k0 this
      · exfalso
        have hk := cdStr.err (rU8 l 0).2.1 (rU8 l 0).2.2 h0
        have hx := cdStr.err (strR (rU8 l 0).2.1 (rU8 l 0).2.2).2.1 (strR (rU8 l 0).2.1 (rU8 l 0).2.2).2.2 (by rw [hk]; exact h0)
        rw [hk] at hx
        split at h
        · have := (endM_back h).1; rw [hk, hx] at this; exact h0 this
        · split at h
          · have := (endM_back h).1; rw [hk] at this; exact h0 this
          · have := (endM_back h).1; rw [hk, hx] at this; exact h0 this
end Go.Proofs.Ytnoimnijoklkdaa.Px
