/- What is read is what was written: readers and texts in pairs. -/
import Derived.Test.YtlhjhkmmgkfmpaaPxTake
import Derived.Test.YtlhjhkmmgkfmpaaPxPut
import Derived.Deep.Slices
import Derived.Deep.Fields
import Derived.ChangeSlices
import Derived.OpenShut
import Derived.Lib.SmallJoins
import Derived.Test.YtlhjhkmmgkfmpaaPx23
set_option linter.unusedVariables false
set_option linter.unusedSimpArgs false
namespace Go.Proofs.Ytlhjhkmmgkfmpaa.Px
open Go.RowKit Go.Shelf Go.Proofs.YtlhjhkmmgkfmpaaW.PrintWords Go.Proofs.YtlhjhkmmgkfmpaaW.PrintLast

theorem ofBe_cons' (a : UInt8) (l : List UInt8) : ofBe (a :: l) = a.toNat * 256 ^ l.length + ofBe l := by
  suffices h : ∀ n, l.foldl (fun n c => n * 256 + c.toNat) n = n * 256 ^ l.length + ofBe l by
    have := h (0 * 256 + a.toNat)
    simp only [ofBe, List.foldl_cons] at this ⊢
    rw [this]; simp
  unfold ofBe
  induction l with
  | nil => intro n; simp
  | cons b l ih =>
    intro n
    simp only [List.foldl_cons, List.length_cons]
    rw [ih (n * 256 + b.toNat), ih (0 * 256 + b.toNat), Nat.pow_succ, Nat.add_mul, Nat.mul_assoc, Nat.mul_comm 256]; simp [Nat.add_assoc]
theorem ofBe_be' (i n : Nat) : ofBe (be i n) = n % 256 ^ i := by
  induction i with
  | zero => rw [Nat.pow_zero, Nat.mod_one]; rfl
  | succ i ih =>
    rw [be_succ, ofBe_cons', be_len, ih]
    have h1 : (UInt8.ofNat (n / 2 ^ (8 * i))).toNat = n / 256 ^ i % 256 := by
      rw [Nat.pow_mul]; simp
    rw [h1, Nat.pow_succ, Nat.mod_mul (x := n) (a := 256 ^ i) (b := 256), Nat.mul_comm]; omega
theorem ofBe_be_of' (i n : Nat) (h : n < 256 ^ i) : ofBe (be i n) = n := by rw [ofBe_be', Nat.mod_eq_of_lt h]
theorem be_ofBe' (l : List UInt8) : be l.length (ofBe l) = l := by
  induction l with
  | nil => rfl
  | cons a l ih =>
    have hl := ofBe_lt l
    rw [List.length_cons, be_succ, ofBe_cons']
    congr 1
    · rw [Nat.pow_mul, show 2 ^ 8 = 256 from rfl]
      have : (a.toNat * 256 ^ l.length + ofBe l) / 256 ^ l.length = a.toNat := by
        rw [Nat.mul_comm, Nat.mul_add_div (Nat.pow_pos (by decide)), Nat.div_eq_of_lt hl, Nat.add_zero]
      rw [this]
      simp
    · conv => rhs; rw [← ih]
      have e : ∀ n m : Nat, n % 256 ^ l.length = m % 256 ^ l.length → be l.length n = be l.length m := by
        intro n m h
        unfold be
        refine List.map_congr_left fun i hi => ?_
        have hi : i < l.length := List.mem_range.1 hi
        apply UInt8.toNat_inj.1
        have hs : l.length = (l.length - 1 - i) + 1 + i := by omega
        have key : ∀ x : Nat, x / 2 ^ (8 * (l.length - 1 - i)) % 256 = x % 256 ^ l.length / 256 ^ (l.length - 1 - i) % 256 := by
          intro x
          have hp : 256 ^ l.length = 256 ^ (l.length - 1 - i) * 256 ^ (i + 1) := by rw [← Nat.pow_add]; congr 1; omega
          rw [Nat.pow_mul, show 2 ^ 8 = 256 from rfl, hp, Nat.mod_mul_right_div_self, Nat.pow_succ, Nat.mul_comm (256 ^ i), Nat.mod_mul_right_mod]
        simp only [UInt8.toNat_ofNat']
        rw [key n, key m, h]
      exact e _ _ (by rw [Nat.add_comm, Nat.add_mul_mod_self_right])

structure Cd {α : Type} (R : List UInt8 → Int → α × List UInt8 × Int) (T : α → List UInt8) (P : α → Prop) : Prop where
  ok : ∀ v l, P v → R (T v ++ l) 0 = (v, l, 0)
  torn : ∀ v n, P v → n < (T v).length → (R ((T v).take n) 0).2 = ([], 10)
  err : ∀ l e, e ≠ 0 → (R l e).2 = (l, e)
  back : ∀ l, (R l 0).2.2 = 0 → P (R l 0).1 ∧ l = T (R l 0).1 ++ (R l 0).2.1

theorem Cd.num (w : Nat) (hw : 0 < w) : Cd (fun l e => (ofBe (fx l e w).1, (fx l e w).2)) (be w) (fun n => n < 256 ^ w) where
  ok := fun v l hv => by
    (try dsimp only)
    rw [fx_ok _ w (by rw [List.length_append, be_len]; omega) hw, List.take_left' (be_len _ _), List.drop_left' (be_len _ _), ofBe_be_of' _ _ hv]
  torn := fun v n hv hn => by
    rw [be_len] at hn
    (try dsimp only)
    rw [fx_torn _ w (by rw [List.length_take, be_len]; omega)]
  err := fun l e he => by (try dsimp only); rw [fx_err l e _ he]
  back := fun l h => by
    (try dsimp only at h ⊢)
    by_cases hl : w ≤ l.length
    · rw [fx_ok l w hl hw]
      have hlen : (l.take w).length = w := by rw [List.length_take]; omega
      have h1 := ofBe_lt (l.take w)
      have h2 := be_ofBe' (l.take w)
      rw [hlen] at h1 h2
      exact ⟨h1, by (try dsimp only); rw [h2, List.take_append_drop]⟩
    · rw [fx_torn l w (by omega)] at h
      cases h

theorem Cd.dep {α β : Type} {R1 : List UInt8 → Int → α × List UInt8 × Int} {T1 : α → List UInt8} {P1 : α → Prop} (h1 : Cd R1 T1 P1) {R2 : α → List UInt8 → Int → β × List UInt8 × Int} {T2 : β → List UInt8} {P2 : α → β → Prop}
    (h2 : ∀ a, P1 a → Cd (R2 a) T2 (P2 a)) (he : ∀ a l e, e ≠ 0 → (R2 a l e).2 = (l, e)) (c : β → α) (hc : ∀ a b, P2 a b → c b = a) :
    Cd (fun l e => R2 (R1 l e).1 (R1 l e).2.1 (R1 l e).2.2) (fun b => T1 (c b) ++ T2 b) (fun b => P1 (c b) ∧ P2 (c b) b) where
  ok := fun v l hv => by
    (try dsimp only)
    rw [List.append_assoc, h1.ok _ _ hv.1]
    exact (h2 _ hv.1).ok _ _ hv.2
  torn := fun v n hv hn => by
    (try dsimp only)
    rw [List.length_append] at hn
    by_cases hlt : n < (T1 (c v)).length
    · have := h1.torn (c v) n hv.1 hlt
      rw [List.take_append_of_le_length (by omega)]
      rw [he _ _ _ (by rw [this]; decide), this]
    · rw [show n = (T1 (c v)).length + (n - (T1 (c v)).length) by omega, List.take_length_add_append, h1.ok _ _ hv.1]
      exact (h2 _ hv.1).torn _ _ hv.2 (by omega)
  err := fun l e h => by
    (try dsimp only)
    have := h1.err l e h
    rw [he _ _ _ (by rw [this]; exact h), this]
  back := fun l h => by
    (try dsimp only at h ⊢)
    by_cases h0 : (R1 l 0).2.2 = 0
    · obtain ⟨b1, b2⟩ := h1.back l h0
      rw [h0] at h ⊢
      obtain ⟨b3, b4⟩ := (h2 _ b1).back _ h
      have hcc := hc _ _ b3
      refine ⟨⟨by rw [hcc]; exact b1, by rw [hcc]; exact b3⟩, ?_⟩
      rw [hcc, List.append_assoc, ← b4]
      exact b2
    · rw [he _ _ _ h0] at h
      exact absurd h h0

theorem Cd.map {α β : Type} {R : List UInt8 → Int → α × List UInt8 × Int} {T : α → List UInt8} {P : α → Prop} (h : Cd R T P) (f : α → β) (g : β → α) {T' : β → List UInt8} {P' : β → Prop}
    (hf : ∀ a, P a → P' (f a) ∧ g (f a) = a) (hg : ∀ b, P' b → P (g b) ∧ f (g b) = b) (hT : ∀ b, P' b → T' b = T (g b)) :
    Cd (fun l e => (f (R l e).1, (R l e).2)) T' P' where
  ok := fun v l hv => by (try dsimp only); rw [hT v hv, h.ok _ _ (hg v hv).1]; rw [(hg v hv).2]
  torn := fun v n hv hn => by rw [hT v hv] at hn ⊢; exact h.torn _ _ (hg v hv).1 hn
  err := fun l e he => h.err l e he
  back := fun l he => by
    obtain ⟨b1, b2⟩ := h.back l he
    refine ⟨(hf _ b1).1, ?_⟩
    (try dsimp only)
    rw [hT _ (hf _ b1).1, (hf _ b1).2]
    exact b2

theorem Cd.seq {α β : Type} {R1 : List UInt8 → Int → α × List UInt8 × Int} {T1 : α → List UInt8} {P1 : α → Prop} (h1 : Cd R1 T1 P1) {R2 : List UInt8 → Int → β × List UInt8 × Int} {T2 : β → List UInt8} {P2 : β → Prop} (h2 : Cd R2 T2 P2) :
    Cd (fun l e => (((R1 l e).1, (R2 (R1 l e).2.1 (R1 l e).2.2).1), (R2 (R1 l e).2.1 (R1 l e).2.2).2)) (fun p => T1 p.1 ++ T2 p.2) (fun p => P1 p.1 ∧ P2 p.2) where
  ok := fun v l hv => by
    (try dsimp only)
    rw [List.append_assoc, h1.ok _ _ hv.1]
    (try dsimp only)
    rw [h2.ok _ _ hv.2]
  torn := fun v n hv hn => by
    (try dsimp only)
    rw [List.length_append] at hn
    by_cases hlt : n < (T1 v.1).length
    · have := h1.torn v.1 n hv.1 hlt
      rw [List.take_append_of_le_length (by omega)]
      rw [h2.err _ _ (by rw [this]; decide), this]
    · rw [show n = (T1 v.1).length + (n - (T1 v.1).length) by omega, List.take_length_add_append, h1.ok _ _ hv.1]
      exact h2.torn _ _ hv.2 (by omega)
  err := fun l e h => by
    (try dsimp only)
    have := h1.err l e h
    rw [h2.err _ _ (by rw [this]; exact h), this]
  back := fun l h => by
    (try dsimp only at h ⊢)
    by_cases h0 : (R1 l 0).2.2 = 0
    · obtain ⟨b1, b2⟩ := h1.back l h0
      rw [h0] at h ⊢
      obtain ⟨b3, b4⟩ := h2.back _ h
      refine ⟨⟨b1, b3⟩, ?_⟩
      rw [List.append_assoc, ← b4]
      exact b2
    · rw [h2.err _ _ h0] at h
      exact absurd h h0

theorem cd8 : Cd rU8 (be 1) (fun n => n < 256 ^ 1) := Cd.num 1 (by decide)
theorem cd16 : Cd rU16 (be 2) (fun n => n < 256 ^ 2) := Cd.num 2 (by decide)
theorem cd64 : Cd rU64 (be 8) (fun n => n < 256 ^ 8) := Cd.num 8 (by decide)
theorem cdFx (n : Nat) : Cd (fun l e => fx l e n) (fun s : List UInt8 => s) (fun s => s.length = n) where
  ok := fun v l hv => by (try dsimp only); rw [fx_any _ n (by rw [List.length_append]; omega), List.take_left' hv, List.drop_left' hv]
  torn := fun v m hv hm => by (try dsimp only); rw [fx_torn _ n (by rw [List.length_take]; omega)]
  err := fun l e he => by (try dsimp only); rw [fx_err l e _ he]
  back := fun l h => by
    (try dsimp only at h ⊢)
    by_cases hl : n ≤ l.length
    · rw [fx_any l n hl]
      exact ⟨by rw [List.length_take]; omega, (List.take_append_drop n l).symm⟩
    · rw [fx_torn l n (by omega)] at h
      cases h
theorem cdText : Cd rText (fun s => be 2 s.length ++ s) (fun s => s.length < 256 ^ 2 ∧ s.length = s.length) :=
  Cd.dep cd16 (R2 := fun n l e => fx l e n) (P2 := fun n s => s.length = n) (fun n _ => cdFx n) (fun n l e he => by (try dsimp only); rw [fx_err l e _ he]) List.length (fun a b h => h)

def okSnap (x : S53) : Prop := x.f0.size < 65536 ∧ (0 ≤ x.f1 ∧ x.f1 < 65536) ∧ in64 x.f2 ∧ in64 x.f3
def okRef (x : S65) : Prop := (0 ≤ x.f0 ∧ x.f0 < 65536) ∧ (0 ≤ x.f1 ∧ x.f1 < 65536)
theorem cdSnap : Cd snapR snapTx okSnap :=
  Cd.map (cdText.seq (cd16.seq (cd64.seq cd64))) (fun p => (⟨⟨p.1.toArray⟩, (p.2.1 : Nat), (p.2.2.1 : Nat), (p.2.2.2 : Nat)⟩ : S53)) (fun x => (x.f0.data.toList, x.f1.toNat, x.f2.toNat, x.f3.toNat))
    (fun a h => ⟨⟨by have := h.1.1; show a.1.length < 65536; omega, ⟨Int.natCast_nonneg _, by have := h.2.1; show ((a.2.1 : Nat) : Int) < 65536; omega⟩, ⟨Int.natCast_nonneg _, by have := h.2.2.1; show ((a.2.2.1 : Nat) : Int) < _; omega⟩, ⟨Int.natCast_nonneg _, by have := h.2.2.2; show ((a.2.2.2 : Nat) : Int) < _; omega⟩⟩, rfl⟩)
    (fun b h => by
      obtain ⟨h1, h2, h3, h4⟩ := h
      obtain ⟨f0, f1, f2, f3⟩ := b
      unfold in64 at h3 h4
      (try dsimp only at *)
      refine ⟨⟨⟨?_, rfl⟩, ?_, ?_, ?_⟩, ?_⟩
      · have := Lib.size_eq f0; show f0.data.toList.length < _; omega
      · show f1.toNat < _; omega
      · show f2.toNat < _; omega
      · show f3.toNat < _; omega
      · rw [Int.toNat_of_nonneg h2.1, Int.toNat_of_nonneg h3.1, Int.toNat_of_nonneg h4.1])
    (fun b h => by unfold snapTx; (try dsimp only); rw [← Lib.size_eq]; simp only [List.append_assoc])
theorem cdRef : Cd refR refTx okRef :=
  Cd.map (cd16.seq cd16) (fun p => (⟨(p.1 : Nat), (p.2 : Nat)⟩ : S65)) (fun x => (x.f0.toNat, x.f1.toNat))
    (fun a h => ⟨⟨⟨Int.natCast_nonneg _, by have := h.1; show ((a.1 : Nat) : Int) < 65536; omega⟩, ⟨Int.natCast_nonneg _, by have := h.2; show ((a.2 : Nat) : Int) < 65536; omega⟩⟩, rfl⟩)
    (fun b h => by
      obtain ⟨h1, h2⟩ := h
      obtain ⟨f0, f1⟩ := b
      (try dsimp only at *)
      refine ⟨⟨?_, ?_⟩, ?_⟩
      · show f0.toNat < _; omega
      · show f1.toNat < _; omega
      · rw [Int.toNat_of_nonneg h1.1, Int.toNat_of_nonneg h2.1])
    (fun b h => rfl)

theorem readS_err (n : Nat) (l : List UInt8) (e : Int) (he : e ≠ 0) : (readS n l e).2 = (l, e) := by
  cases n with
  | zero => rfl
  | succ n =>
    have h := cdSnap.err l e he
    unfold readS
    rw [if_pos (by rw [h]; exact he), h]
theorem readR_err (n : Nat) (l : List UInt8) (e : Int) (he : e ≠ 0) : (readR n l e).2 = (l, e) := by
  cases n with
  | zero => rfl
  | succ n =>
    have h := cdRef.err l e he
    unfold readR
    rw [if_pos (by rw [h]; exact he), h]
theorem readS_cons (n : Nat) (l : List UInt8) (e : Int) (h : (snapR l e).2.2 = 0) : readS (n + 1) l e = ((snapR l e).1 :: (readS n (snapR l e).2.1 (snapR l e).2.2).1, (readS n (snapR l e).2.1 (snapR l e).2.2).2) := by
  conv => lhs; unfold readS
  rw [if_neg (by rw [h]; decide)]
theorem readR_cons (n : Nat) (l : List UInt8) (e : Int) (h : (refR l e).2.2 = 0) : readR (n + 1) l e = ((refR l e).1 :: (readR n (refR l e).2.1 (refR l e).2.2).1, (readR n (refR l e).2.1 (refR l e).2.2).2) := by
  conv => lhs; unfold readR
  rw [if_neg (by rw [h]; decide)]
theorem readS_bad (n : Nat) (l : List UInt8) (e : Int) (h : (snapR l e).2.2 ≠ 0) : readS (n + 1) l e = ([], (snapR l e).2) := by unfold readS; rw [if_pos h]
theorem readR_bad (n : Nat) (l : List UInt8) (e : Int) (h : (refR l e).2.2 ≠ 0) : readR (n + 1) l e = ([], (refR l e).2) := by unfold readR; rw [if_pos h]
theorem cdS : ∀ n : Nat, Cd (readS n) (fun xs => xs.flatMap snapTx) (fun xs => xs.length = n ∧ ∀ x ∈ xs, okSnap x)
  | 0 => {
    ok := fun v l hv => by obtain rfl := List.length_eq_zero_iff.1 hv.1; rfl
    torn := fun v n hv hn => by obtain rfl := List.length_eq_zero_iff.1 hv.1; simp at hn
    err := fun l e he => rfl
    back := fun l h => ⟨⟨rfl, fun x hx => by cases hx⟩, rfl⟩ }
  | n + 1 => {
    ok := fun v l hv => by
      cases v with
      | nil => cases hv.1
      | cons x v =>
        have hx := cdSnap.ok x (v.flatMap snapTx ++ l) (hv.2 x List.mem_cons_self)
        rw [List.flatMap_cons, List.append_assoc, readS_cons _ _ _ (by rw [hx]), hx]
        (try dsimp only)
        rw [(cdS n).ok v l ⟨by have := hv.1; simpa using this, fun y hy => hv.2 y (List.mem_cons_of_mem _ hy)⟩]
    torn := fun v m hv hm => by
      cases v with
      | nil => cases hv.1
      | cons x v =>
        rw [List.flatMap_cons, List.length_append] at hm
        rw [List.flatMap_cons]
        by_cases hlt : m < (snapTx x).length
        · have := cdSnap.torn x m (hv.2 x List.mem_cons_self) hlt
          rw [List.take_append_of_le_length (by omega), readS_bad _ _ _ (by rw [this]; decide), this]
        · have hx := cdSnap.ok x ((v.flatMap snapTx).take (m - (snapTx x).length)) (hv.2 x List.mem_cons_self)
          rw [show m = (snapTx x).length + (m - (snapTx x).length) by omega, List.take_length_add_append]
          rw [readS_cons _ _ _ (by rw [hx]), hx]
          (try dsimp only)
          exact (cdS n).torn v _ ⟨by have := hv.1; simpa using this, fun y hy => hv.2 y (List.mem_cons_of_mem _ hy)⟩ (by omega)
    err := fun l e he => readS_err _ l e he
    back := fun l h => by
      by_cases h0 : (snapR l 0).2.2 = 0
      · obtain ⟨b1, b2⟩ := cdSnap.back l h0
        rw [readS_cons _ _ _ h0, h0] at h ⊢
        obtain ⟨⟨b3, b4⟩, b5⟩ := (cdS n).back _ h
        (try dsimp only at b3 b4 b5 ⊢)
        refine ⟨⟨by rw [List.length_cons, b3], fun y hy => ?_⟩, ?_⟩
        · rcases List.mem_cons.1 hy with rfl | hy
          · exact b1
          · exact b4 y hy
        · rw [List.flatMap_cons, List.append_assoc, ← b5]
          exact b2
      · rw [readS_bad _ _ _ h0] at h
        exact absurd h h0 }
theorem cdR : ∀ n : Nat, Cd (readR n) (fun xs => xs.flatMap refTx) (fun xs => xs.length = n ∧ ∀ x ∈ xs, okRef x)
  | 0 => {
    ok := fun v l hv => by obtain rfl := List.length_eq_zero_iff.1 hv.1; rfl
    torn := fun v n hv hn => by obtain rfl := List.length_eq_zero_iff.1 hv.1; simp at hn
    err := fun l e he => rfl
    back := fun l h => ⟨⟨rfl, fun x hx => by cases hx⟩, rfl⟩ }
  | n + 1 => {
    ok := fun v l hv => by
      cases v with
      | nil => cases hv.1
      | cons x v =>
        have hx := cdRef.ok x (v.flatMap refTx ++ l) (hv.2 x List.mem_cons_self)
        rw [List.flatMap_cons, List.append_assoc, readR_cons _ _ _ (by rw [hx]), hx]
        (try dsimp only)
        rw [(cdR n).ok v l ⟨by have := hv.1; simpa using this, fun y hy => hv.2 y (List.mem_cons_of_mem _ hy)⟩]
    torn := fun v m hv hm => by
      cases v with
      | nil => cases hv.1
      | cons x v =>
        rw [List.flatMap_cons, List.length_append] at hm
        rw [List.flatMap_cons]
        by_cases hlt : m < (refTx x).length
        · have := cdRef.torn x m (hv.2 x List.mem_cons_self) hlt
          rw [List.take_append_of_le_length (by omega), readR_bad _ _ _ (by rw [this]; decide), this]
        · have hx := cdRef.ok x ((v.flatMap refTx).take (m - (refTx x).length)) (hv.2 x List.mem_cons_self)
          rw [show m = (refTx x).length + (m - (refTx x).length) by omega, List.take_length_add_append]
          rw [readR_cons _ _ _ (by rw [hx]), hx]
          (try dsimp only)
          exact (cdR n).torn v _ ⟨by have := hv.1; simpa using this, fun y hy => hv.2 y (List.mem_cons_of_mem _ hy)⟩ (by omega)
    err := fun l e he => readR_err _ l e he
    back := fun l h => by
      by_cases h0 : (refR l 0).2.2 = 0
      · obtain ⟨b1, b2⟩ := cdRef.back l h0
        rw [readR_cons _ _ _ h0, h0] at h ⊢
        obtain ⟨⟨b3, b4⟩, b5⟩ := (cdR n).back _ h
        (try dsimp only at b3 b4 b5 ⊢)
        refine ⟨⟨by rw [List.length_cons, b3], fun y hy => ?_⟩, ?_⟩
        · rcases List.mem_cons.1 hy with rfl | hy
          · exact b1
          · exact b4 y hy
        · rw [List.flatMap_cons, List.append_assoc, ← b5]
          exact b2
      · rw [readR_bad _ _ _ h0] at h
        exact absurd h h0 }
/-- The whole table's reader. -/
def tabR (l : List UInt8) (e : Int) : (Nat × List S53 × List S65) × List UInt8 × Int :=
  let a := rU64 l e
  let b := rU8 a.2.1 a.2.2
  let c := readS b.1 b.2.1 b.2.2
  let d := rU16 c.2.1 c.2.2
  let f := readR d.1 d.2.1 d.2.2
  ((a.1, c.1, f.1), f.2)
def tabT (p : Nat × List S53 × List S65) : List UInt8 := be 8 p.1 ++ ((be 1 p.2.1.length ++ p.2.1.flatMap snapTx) ++ (be 2 p.2.2.length ++ p.2.2.flatMap refTx))
def tabP (p : Nat × List S53 × List S65) : Prop := p.1 < 256 ^ 8 ∧ (p.2.1.length < 256 ^ 1 ∧ p.2.1.length = p.2.1.length ∧ ∀ x ∈ p.2.1, okSnap x) ∧ (p.2.2.length < 256 ^ 2 ∧ p.2.2.length = p.2.2.length ∧ ∀ x ∈ p.2.2, okRef x)
theorem cdTab : Cd tabR tabT tabP :=
  cd64.seq ((Cd.dep cd8 (fun n _ => cdS n) (fun n l e he => readS_err n l e he) List.length (fun a b h => h.1)).seq (Cd.dep cd16 (fun n _ => cdR n) (fun n l e he => readR_err n l e he) List.length (fun a b h => h.1)))

theorem tkP_tab (s : List UInt8) : tkP s = if (tabR s 0).2.2 ≠ 0 then ((0, [], []), 10) else if (tabR s 0).2.1 ≠ [] ∨ chk (P1 (tabR s 0).1.2.1) (P2 (tabR s 0).1.2.2) ≠ 0 then ((0, [], []), 4) else (((((tabR s 0).1.1 : Nat) : Int), (tabR s 0).1.2.1, (tabR s 0).1.2.2), 0) := by
  unfold tkP tabR
  rfl
theorem putT_tab (a : Int) (l1 : List S53) (l2 : List S65) : putT a l1 l2 = tabT (a.toNat, l1, l2) := by unfold putT tabT; simp only [List.append_assoc]
theorem tab_ok {a : Int} {l1 : List S53} {l2 : List S65} (hn : okNums a l1) (hz : chk (P1 l1) (P2 l2) = 0) : tabP (a.toNat, l1, l2) := by
  obtain ⟨c1, c2, c3, c4⟩ := chk_zero hz
  obtain ⟨⟨n1, n2⟩, n3⟩ := hn
  refine ⟨by show a.toNat < _; omega, ⟨by show l1.length < _; omega, rfl, fun x hx => ?_⟩, ⟨by show l2.length < _; omega, rfl, fun x hx => ?_⟩⟩
  · have h1 := name_short (c3 x hx).1
    have h2 := small_rng (c3 x hx).2
    exact ⟨by omega, ⟨by omega, by omega⟩, (n3 x hx).1, (n3 x hx).2⟩
  · have h1 := small_rng (c4 x hx).1
    have h2 := small_rng (c4 x hx).2
    exact ⟨⟨by omega, by omega⟩, ⟨by omega, by omega⟩⟩
theorem tk_put {a : Int} {l1 : List S53} {l2 : List S65} (hn : okNums a l1) (hz : chk (P1 l1) (P2 l2) = 0) : tkP (putT a l1 l2) = ((a, l1, l2), 0) := by
  have h := cdTab.ok _ [] (tab_ok hn hz)
  rw [List.append_nil, ← putT_tab] at h
  rw [tkP_tab, h]
  (try dsimp only)
  rw [if_neg (by decide), if_neg (by simp [hz]), Int.toNat_of_nonneg hn.1.1]
theorem tk_torn {a : Int} {l1 : List S53} {l2 : List S65} (hn : okNums a l1) (hz : chk (P1 l1) (P2 l2) = 0) (n : Nat) (h : n < (putT a l1 l2).length) : tkP ((putT a l1 l2).take n) = ((0, [], []), 10) := by
  rw [putT_tab] at h ⊢
  have := cdTab.torn _ n (tab_ok hn hz) h
  rw [tkP_tab, if_pos (by rw [this]; decide)]
theorem tk_back (s : List UInt8) (h : (tkP s).2 = 0) : okNums (tkP s).1.1 (tkP s).1.2.1 ∧ chk (P1 (tkP s).1.2.1) (P2 (tkP s).1.2.2) = 0 ∧ putT (tkP s).1.1 (tkP s).1.2.1 (tkP s).1.2.2 = s := by
  rw [tkP_tab] at h ⊢
  by_cases h0 : (tabR s 0).2.2 = 0
  · rw [if_neg (by rw [h0]; decide)] at h ⊢
    by_cases h1 : (tabR s 0).2.1 ≠ [] ∨ chk (P1 (tabR s 0).1.2.1) (P2 (tabR s 0).1.2.2) ≠ 0
    · rw [if_pos h1] at h; cases h
    · rw [if_neg h1]
      obtain ⟨b1, b2⟩ := cdTab.back s h0
      have h2 : (tabR s 0).2.1 = [] := Classical.byContradiction fun h => h1 (.inl h)
      have h3 : chk (P1 (tabR s 0).1.2.1) (P2 (tabR s 0).1.2.2) = 0 := Classical.byContradiction fun h => h1 (.inr h)
      refine ⟨⟨⟨Int.natCast_nonneg _, ?_⟩, fun x hx => ?_⟩, h3, ?_⟩
      · have := b1.1; show (((tabR s 0).1.1 : Nat) : Int) < _; omega
      · have := b1.2.1.2.2 x hx; exact ⟨this.2.2.1, this.2.2.2⟩
      · rw [putT_tab]
        (try dsimp only)
        rw [Int.toNat_natCast]
        rw [h2, List.append_nil] at b2
        exact b2.symm
  · rw [if_pos h0] at h; cases h
theorem tk_bad (s : List UInt8) (h : (tkP s).2 ≠ 0) : (tkP s).1 = (0, [], []) := by
  rw [tkP_tab] at h ⊢
  split
  · rfl
  · split
    · rfl
    · rename_i h1 h2
      rw [if_neg h1, if_neg h2] at h
      exact absurd rfl h

end Go.Proofs.Ytlhjhkmmgkfmpaa.Px

/- A table by value, opened: a number and two rows. -/
set_option linter.unusedVariables false
set_option linter.unusedSimpArgs false
namespace Go.Proofs.Ytlhjhkmmgkfmpaa.Px
open Go.RowKit Go.Shelf Go.Proofs.YtlhjhkmmgkfmpaaW.PrintWords Go.Proofs.YtlhjhkmmgkfmpaaW.PrintLast

section
variable {H : Type} {enc : TypeId × Value → H} {W : World} {base : Nat} {spare : Nat → Bool} {held : Bool}
theorem choose_list {α : Type} (n : Nat) (Q : Nat → α → Prop) (h : ∀ i, i < n → ∃ a, Q i a) : ∃ l : List α, l.length = n ∧ ∀ i a, l[i]? = some a → Q i a := by
  induction n with
  | zero => exact ⟨[], rfl, fun i a h => by cases h⟩
  | succ n ih =>
    obtain ⟨l, hl, hq⟩ := ih (fun i hi => h i (by omega))
    obtain ⟨a, ha⟩ := h n (by omega)
    refine ⟨l ++ [a], by simp [hl], fun i b hb => ?_⟩
    by_cases hi : i < n
    · rw [List.getElem?_append_left (by omega)] at hb; exact hq i b hb
    · rw [List.getElem?_append_right (by omega)] at hb
      have hi2 : i = n := by
        have := (List.getElem?_eq_some_iff.1 hb).1
        simp at this; omega
      subst hi2
      rw [hl, Nat.sub_self, List.getElem?_cons_zero, Option.some.injEq] at hb
      subst hb; exact ha
theorem open_snaps {fuel : Nat} {v : Value} {x : DataW H × List MemPlace} (h : DataW.trod enc Try.prog W base spare held fuel 23 [v] = some x) :
    ∃ (ad : Option Addr) (cp : Nat) (l : List S53), v = .slice ad l.length cp ∧ l.length ≤ cp ∧ Kd.C k53 W ad l.length l ∧ ∀ y ∈ l, in64 y.f2 ∧ in64 y.f3 := by
  rcases Go.Deep.open_slice Try.underlying23 h with ⟨e, _⟩ | ⟨a, len, cap, m, n, D, Pl, e, hb, hl, hm, hmm, _, hi⟩
  · simp only [List.cons.injEq, and_true] at e
    exact ⟨none, 0, [], e, Nat.le_refl _, Kd.C_nil _ _, fun y hy => by cases hy⟩
  · simp only [List.cons.injEq, and_true] at e
    have hlm : len ≤ m := by rw [hmm]; split <;> omega
    obtain ⟨l, hll, hq⟩ := choose_list len (fun i (c : S53) => (in64 c.f2 ∧ in64 c.f3) ∧ ∀ j u, [Value.string c.f0, .int .i64 c.f1, .int .u64 c.f2, .int .u64 c.f3][j]? = some u → W.cell? (a.add (i * 4 + j)) = some u) (fun i hil => by
      obtain ⟨cs, hcs, ht⟩ := hi i (by omega)
      rw [show Try.prog.cellsOf 53 = 4 by kernel_rfl] at hcs
      obtain ⟨_, hcl, hat⟩ := World.cells?_some hcs
      obtain ⟨c0, c1, c2, c3, rfl⟩ : ∃ c0 c1 c2 c3, cs = [c0, c1, c2, c3] := by
        match cs, hcl with
        | [c0, c1, c2, c3], _ => exact ⟨_, _, _, _, rfl⟩
      obtain ⟨xs, k, _, _, _, hxl, hf⟩ := DataW.trod_struct Try.underlying53 ht
      obtain ⟨y0, y1, y2, y3, rfl⟩ : ∃ y0 y1 y2 y3, xs = [y0, y1, y2, y3] := by
        match xs, hxl with
        | [y0, y1, y2, y3], _ => exact ⟨_, _, _, _, rfl⟩
      have f0 := hf 0 _ rfl
      have f1 := hf 1 _ rfl
      have f2 := hf 2 _ rfl
      have f3 := hf 3 _ rfl
      rw [show Try.prog.cellsOf _ = 1 by kernel_rfl] at f0 f1 f2 f3
      change DataW.trod enc Try.prog W base spare held _ 9 [c0] = some y0 at f0
      change DataW.trod enc Try.prog W base spare held _ 3 [c1] = some y1 at f1
      change DataW.trod enc Try.prog W base spare held _ 22 [c2] = some y2 at f2
      change DataW.trod enc Try.prog W base spare held _ 22 [c3] = some y3 at f3
      obtain ⟨s0, e0, _, w0⟩ := DataW.trod_string Try.underlying9 f0
      obtain ⟨n1, e1, _, w1⟩ := DataW.trod_int Try.underlying3 f1
      obtain ⟨n2, e2, _, w2⟩ := DataW.trod_int Try.underlying22 f2
      obtain ⟨n3, e3, _, w3⟩ := DataW.trod_int Try.underlying22 f3
      simp only [List.cons.injEq, and_true] at e0 e1 e2 e3
      subst e0 e1 e2 e3
      have b2 := bounds_u64 w2
      have b3 := bounds_u64 w3
      refine ⟨⟨s0, n1, n2, n3⟩, ⟨⟨b2.1, by have := b2.2; show n2 < _; omega⟩, ⟨b3.1, by have := b3.2; show n3 < _; omega⟩⟩, fun j u hj => ?_⟩
      have hj4 : j < 4 := (List.getElem?_eq_some_iff.1 hj).1
      rw [← Go.Deep.add_add, hat j hj4]
      exact hj)
    refine ⟨some a, cap, l, by rw [hll]; exact e, by omega, ⟨rfl, by unfold maxLen at hm; omega, fun _ => ⟨a, rfl, fun j p hp => ?_⟩⟩, fun y hy => ?_⟩
    · exact ⟨_, rfl, k53_mk W p, (hq j p hp).2⟩
    · obtain ⟨i, hi2, rfl⟩ := List.getElem_of_mem hy
      exact (hq i _ (List.getElem?_eq_getElem hi2)).1
theorem open_refs {fuel : Nat} {v : Value} {x : DataW H × List MemPlace} (h : DataW.trod enc Try.prog W base spare held fuel 24 [v] = some x) :
    ∃ (ad : Option Addr) (cp : Nat) (l : List S65), v = .slice ad l.length cp ∧ l.length ≤ cp ∧ Kd.C k65 W ad l.length l := by
  rcases Go.Deep.open_slice Try.underlying24 h with ⟨e, _⟩ | ⟨a, len, cap, m, n, D, Pl, e, hb, hl, hm, hmm, _, hi⟩
  · simp only [List.cons.injEq, and_true] at e
    exact ⟨none, 0, [], e, Nat.le_refl _, Kd.C_nil _ _⟩
  · simp only [List.cons.injEq, and_true] at e
    have hlm : len ≤ m := by rw [hmm]; split <;> omega
    obtain ⟨l, hll, hq⟩ := choose_list len (fun i (c : S65) => ∀ j u, [Value.int .i64 c.f0, .int .i64 c.f1][j]? = some u → W.cell? (a.add (i * 2 + j)) = some u) (fun i hil => by
      obtain ⟨cs, hcs, ht⟩ := hi i (by omega)
      rw [show Try.prog.cellsOf 65 = 2 by kernel_rfl] at hcs
      obtain ⟨_, hcl, hat⟩ := World.cells?_some hcs
      obtain ⟨c0, c1, rfl⟩ : ∃ c0 c1, cs = [c0, c1] := by
        match cs, hcl with
        | [c0, c1], _ => exact ⟨_, _, rfl⟩
      obtain ⟨xs, k, _, _, _, hxl, hf⟩ := DataW.trod_struct Try.underlying65 ht
      obtain ⟨y0, y1, rfl⟩ : ∃ y0 y1, xs = [y0, y1] := by
        match xs, hxl with
        | [y0, y1], _ => exact ⟨_, _, rfl⟩
      have f0 := hf 0 _ rfl
      have f1 := hf 1 _ rfl
      rw [show Try.prog.cellsOf _ = 1 by kernel_rfl] at f0 f1
      change DataW.trod enc Try.prog W base spare held _ 3 [c0] = some y0 at f0
      change DataW.trod enc Try.prog W base spare held _ 3 [c1] = some y1 at f1
      obtain ⟨n0, e0, _, w0⟩ := DataW.trod_int Try.underlying3 f0
      obtain ⟨n1, e1, _, w1⟩ := DataW.trod_int Try.underlying3 f1
      simp only [List.cons.injEq, and_true] at e0 e1
      subst e0 e1
      refine ⟨⟨n0, n1⟩, fun j u hj => ?_⟩
      have hj2 : j < 2 := (List.getElem?_eq_some_iff.1 hj).1
      rw [← Go.Deep.add_add, hat j hj2]
      exact hj)
    refine ⟨some a, cap, l, by rw [hll]; exact e, by omega, ⟨rfl, by unfold maxLen at hm; omega, fun _ => ⟨a, rfl, fun j p hp => ?_⟩⟩⟩
    exact ⟨_, rfl, k65_mk W p, hq j p hp⟩
set_option maxRecDepth 100000 in
theorem open_table {r : Reach} {b0 : Nat} {v : Value} {d : DataW H} {p : List MemPlace} (hv : Value.okWide Try.prog W r b0 26 v) (h : DataW.Trod enc Try.prog W base spare held 26 v d p) :
    ∃ (n : Int) (a1 : Option Addr) (c1 : Nat) (l1 : List S53) (a2 : Option Addr) (c2 : Nat) (l2 : List S65), v = .agg #[.int .u64 n, .slice a1 l1.length c1, .slice a2 l2.length c2] ∧ l1.length ≤ c1 ∧ Kd.C k53 W a1 l1.length l1 ∧ l2.length ≤ c2 ∧ Kd.C k65 W a2 l2.length l2 ∧ okNums n l1 := by
  obtain ⟨v0, v1, v2, y0, y1, y2, m, rfl, _, _, h0, h1, h2⟩ := Go.Joins.open_agg3 Try.underlying26 (by kernel_rfl) (show Try.prog.cellsOf 26 = 3 by kernel_rfl) hv h
  change DataW.trod enc Try.prog W base spare held _ 22 [v0] = some y0 at h0
  change DataW.trod enc Try.prog W base spare held _ 23 [v1] = some y1 at h1
  change DataW.trod enc Try.prog W base spare held _ 24 [v2] = some y2 at h2
  obtain ⟨n0, e0, _, w0⟩ := DataW.trod_int Try.underlying22 h0
  obtain ⟨a1, c1, l1, rfl, k1, m1, q1⟩ := open_snaps h1
  obtain ⟨a2, c2, l2, rfl, k2, m2⟩ := open_refs h2
  simp only [List.cons.injEq, and_true] at e0
  subst e0
  have b0 := bounds_u64 w0
  exact ⟨n0, a1, c1, l1, a2, c2, l2, rfl, k1, m1, k2, m2, ⟨b0.1, by have := b0.2; omega⟩, q1⟩
end

end Go.Proofs.Ytlhjhkmmgkfmpaa.Px

/- The plain law of TableBack. -/
set_option linter.unusedVariables false
set_option linter.unusedSimpArgs false
namespace Go.Proofs.Ytlhjhkmmgkfmpaa.Px
open Go.RowKit Go.Shelf Go.Proofs.YtlhjhkmmgkfmpaaW.PrintWords Go.Proofs.YtlhjhkmmgkfmpaaW.PrintLast

theorem few_j (a : Int) (l1 : List S53) (l2 : List S65) (k : Nat) (x : Int) : ∃ b, rillbedlaw24_few.j1 (k + 1) x false a l1 l2 = some b := by
  simp only [rillbedlaw24_few.j1]
  rw [if_neg (by decide)]
  split
  · exact ⟨_, rfl⟩
  · exact ⟨_, rfl⟩
theorem few_l (a : Int) (l1 : List S53) (l2 : List S65) : ∀ (g i k : Nat), i + g = 30 → 2 * g + 2 < k → ∃ b, rillbedlaw24_few.l0 k (i : Int) a l1 l2 = some b := by
  intro g
  induction g with
  | zero =>
    intro i k hi hk
    obtain ⟨k, rfl⟩ : ∃ m, k = m + 1 + 1 := ⟨k - 2, by omega⟩
    rw [rillbedlaw24_few.l0]
    rw [show decide ((i : Int) < 30) = false from decide_eq_false (by omega), ite_self]
    exact few_j a l1 l2 k _
  | succ g ih =>
    intro i k hi hk
    obtain ⟨k, rfl⟩ : ∃ m, k = m + 1 + 1 := ⟨k - 2, by omega⟩
    rw [rillbedlaw24_few.l0]
    split
    · rename_i hlt
      rw [show decide ((i : Int) < 30) = true from decide_eq_true (by omega), rillbedlaw24_few.j1]
      rw [if_pos rfl, if_pos (by omega), if_pos hlt]
      split
      · exact ⟨_, rfl⟩
      · have hw : wrap64 ((i : Int) + 1) = ((i + 1 : Nat) : Int) := by unfold wrap64; omega
        rw [hw]
        exact ih (i + 1) k (by omega) (by omega)
    · exact few_j a l1 l2 k _
theorem few_some (a : Int) (l1 : List S53) (l2 : List S65) (k : Nat) (hk : 62 < k) : ∃ b, rillbedlaw24_few.f k a l1 l2 = some b := few_l a l1 l2 30 0 k (by omega) (by omega)

theorem snap_l0 (l : List S53) (hl : l.length ≤ 1000000) : ∀ (g i k : Nat), i + g = l.length → g < k → table_Snap_32.l0 k l l (l.length : Int) (i : Int) = some true := by
  intro g
  induction g with
  | zero =>
    intro i k hi hk
    obtain ⟨k, rfl⟩ : ∃ m, k = m + 1 := ⟨k - 1, by omega⟩
    rw [table_Snap_32.l0, if_neg (by omega)]
  | succ g ih =>
    intro i k hi hk
    obtain ⟨k, rfl⟩ : ∃ m, k = m + 1 := ⟨k - 1, by omega⟩
    rw [table_Snap_32.l0, if_pos (by omega), if_pos (by omega), if_pos (by omega), if_pos (by omega), if_neg (by simp)]
    have hw : wrap64 ((i : Int) + 1) = ((i + 1 : Nat) : Int) := by unfold wrap64; omega
    rw [hw]
    exact ih (i + 1) k (by omega) (by omega)
theorem ref_l0 (l : List S65) (hl : l.length ≤ 1000000) : ∀ (g i k : Nat), i + g = l.length → g < k → table_Ref_33.l0 k l l (l.length : Int) (i : Int) = some true := by
  intro g
  induction g with
  | zero =>
    intro i k hi hk
    obtain ⟨k, rfl⟩ : ∃ m, k = m + 1 := ⟨k - 1, by omega⟩
    rw [table_Ref_33.l0, if_neg (by omega)]
  | succ g ih =>
    intro i k hi hk
    obtain ⟨k, rfl⟩ : ∃ m, k = m + 1 := ⟨k - 1, by omega⟩
    rw [table_Ref_33.l0, if_pos (by omega), if_pos (by omega), if_pos (by omega), if_pos (by omega), if_neg (by simp)]
    have hw : wrap64 ((i : Int) + 1) = ((i + 1 : Nat) : Int) := by unfold wrap64; omega
    rw [hw]
    exact ih (i + 1) k (by omega) (by omega)
theorem tsame_refl (a : Int) (l1 : List S53) (l2 : List S65) (b1 : l1.length ≤ 1000000) (b2 : l2.length ≤ 1000000) (k : Nat) (hk : l1.length < k ∧ l2.length < k) : table_Same.f k a l1 l2 a l1 l2 = some true := by
  unfold table_Same.f table_Snap_32.f table_Ref_33.f
  rw [if_pos rfl, if_pos rfl, if_pos rfl]
  have h1 := snap_l0 l1 b1 l1.length 0 k (by omega) hk.1
  have h2 := ref_l0 l2 b2 l2.length 0 k (by omega) hk.2
  rw [show ((0 : Nat) : Int) = 0 from rfl] at h1 h2
  rw [h1, Option.bind_some, if_pos rfl, h2, Option.bind_some]

theorem take_f (s : ByteArray) (h : s.size ≤ 1000000) : table_Take.f s = some ((tkP s.data.toList).1.1, (tkP s.data.toList).1.2.1, (tkP s.data.toList).1.2.2, (tkP s.data.toList).2) := by unfold table_Take.f; rw [if_pos h]
theorem fails_f (s : ByteArray) (h : s.size ≤ 1000000) (e : Int) (ht : tkP s.data.toList = ((0, [], []), e)) (k : Nat) (hk : 0 < k) : rillbedlaw24_fails.f k s e = some true := by
  unfold rillbedlaw24_fails.f
  rw [take_f s h, ht]
  simp only [Option.bind_some]
  rw [tsame_refl 0 [] [] (Nat.zero_le _) (Nat.zero_le _) k ⟨hk, hk⟩, Option.bind_some, if_pos rfl]
  simp
theorem chk_bad (l1 : List S53) (l2 : List S65) (h : chk (P1 l1) (P2 l2) ≠ 0) : chk (P1 l1) (P2 l2) = 4 := by
  unfold chk at h ⊢
  split
  · rfl
  · split
    · rfl
    · split
      · rfl
      · rename_i h1 h2 h3
        rw [if_neg h1, if_neg h2, if_neg h3] at h
        exact absurd rfl h
theorem ext_take (l : List UInt8) (n : Nat) : ((⟨l.toArray⟩ : ByteArray).extract 0 n).data.toList = l.take n := by
  simp [ByteArray.data_extract]
theorem back_j1 (s : ByteArray) (hs : s.size ≤ 3000) (k : Nat) (hk : 1 < k) : rillbedlaw24_TableBack.j1 k s = some true := by
  obtain ⟨k, rfl⟩ : ∃ m, k = m + 1 := ⟨k - 1, by omega⟩
  rw [rillbedlaw24_TableBack.j1, take_f s (by omega), Option.bind_some]
  dsimp only
  by_cases h0 : (tkP s.data.toList).2 = 0
  · rw [if_pos h0]
    obtain ⟨b1, b2, b3⟩ := tk_back _ h0
    rw [show table_Put.f (tkP s.data.toList).1.1 (tkP s.data.toList).1.2.1 (tkP s.data.toList).1.2.2 = some (s, 0) by
      unfold table_Put.f
      rw [if_pos b1, if_pos b2, b3], Option.bind_some]
    dsimp only
    rw [if_pos rfl, if_pos rfl]
    rfl
  · rw [if_neg h0, fails_f s (by omega) _ (by rw [← tk_bad _ h0]) k (by omega), Option.bind_some, if_pos rfl]
    rfl
theorem put_short {a : Int} {l1 : List S53} {l2 : List S65} (hz : chk (P1 l1) (P2 l2) = 0) : 8 ≤ (putT a l1 l2).length ∧ (putT a l1 l2).length ≤ 1000000 := by
  obtain ⟨c1, c2, c3, c4⟩ := chk_zero hz
  have h1 := flat_len snapTx 36 l1 (fun x hx => by rw [snapTx_len]; have := name_short (c3 x hx).1; omega)
  have h2 := flat_len refTx 4 l2 (fun x hx => by rw [refTx_len]; omega)
  unfold putT
  simp only [List.length_append, be_len]
  have := Nat.mul_le_mul_right 36 c1
  have := Nat.mul_le_mul_right 4 c2
  omega
theorem back_j0 (a : Int) (l1 : List S53) (l2 : List S65) (hn : okNums a l1) (s : ByteArray) (hs : s.size ≤ 3000) (c : Int) (k : Nat) (hk : l1.length + l2.length + 3 < k) (hc : 0 ≤ c ∧ c < 65536) : rillbedlaw24_TableBack.j0 k s c false a l1 l2 = some true := by
  obtain ⟨k, rfl⟩ : ∃ m, k = m + 1 := ⟨k - 1, by omega⟩
  rw [rillbedlaw24_TableBack.j0, if_neg (by decide)]
  by_cases hz : chk (P1 l1) (P2 l2) = 0
  · obtain ⟨p1, p2⟩ := put_short (a := a) hz
    obtain ⟨c1, c2, c3, c4⟩ := chk_zero hz
    have hsz : (⟨(putT a l1 l2).toArray⟩ : ByteArray).size = (putT a l1 l2).length := by rw [Lib.size_eq]
    rw [show table_Put.f a l1 l2 = some (⟨(putT a l1 l2).toArray⟩, 0) by unfold table_Put.f; rw [if_pos hn, if_pos hz], Option.bind_some]
    dsimp only
    rw [if_pos rfl, take_f _ (by rw [hsz]; exact p2), Option.bind_some]
    dsimp only
    rw [tk_put hn hz, if_pos rfl]
    dsimp only
    rw [tsame_refl a l1 l2 (by omega) (by omega) k ⟨by omega, by omega⟩, Option.bind_some, if_pos rfl, hsz, if_neg (by omega)]
    have hw : wrap64 c = c := by unfold wrap64; omega
    rw [hw]
    have hm0 : 0 ≤ Int.tmod c ((putT a l1 l2).length : Int) := Int.tmod_nonneg _ hc.1
    have hm1 : Int.tmod c ((putT a l1 l2).length : Int) < ((putT a l1 l2).length : Int) := Int.tmod_lt_of_pos _ (by omega)
    rw [if_pos hm0, if_pos (by omega)]
    have hx : ((⟨(putT a l1 l2).toArray⟩ : ByteArray).extract 0 (Int.tmod c ((putT a l1 l2).length : Int)).toNat).data.toList = (putT a l1 l2).take (Int.tmod c ((putT a l1 l2).length : Int)).toNat := ext_take _ _
    rw [fails_f _ (by rw [Lib.size_eq, hx, List.length_take]; omega) 10 (by rw [hx]; exact tk_torn hn hz _ (by omega)) k (by omega), Option.bind_some, if_pos rfl]
    exact back_j1 s hs k (by omega)
  · have h4 := chk_bad l1 l2 hz
    have hp : table_Put.f a l1 l2 = some (⟨#[]⟩, 4) := by unfold table_Put.f; rw [if_pos hn, if_neg hz, h4]
    rw [hp, Option.bind_some]
    dsimp only
    rw [if_neg (by decide)]
    have hr : rillbedlaw24_refused.f a l1 l2 = some true := by
      unfold rillbedlaw24_refused.f
      rw [hp, Option.bind_some]
      dsimp only
      rw [if_pos (by rw [Lib.toList_data]), if_pos rfl]
      unfold table_Check.f
      rw [Option.bind_some, h4]
      rfl
    rw [hr, Option.bind_some, if_pos rfl]
    exact back_j1 s hs k (by omega)
theorem back_true (a : Int) (l1 : List S53) (l2 : List S65) (hn : okNums a l1) (s : ByteArray) (c : Int) (hc : 0 ≤ c ∧ c < 65536) : ∃ k, rillbedlaw24_TableBack.f k a l1 l2 s c = some true := by
  refine ⟨l1.length + l2.length + 100, ?_⟩
  obtain ⟨b, hb⟩ := few_some a l1 l2 (l1.length + l2.length + 100) (by omega)
  have ht : rillbedlaw24_TableBack.j0 (l1.length + l2.length + 100) s c true a l1 l2 = some true := by
    rw [show l1.length + l2.length + 100 = (l1.length + l2.length + 99) + 1 from rfl, rillbedlaw24_TableBack.j0, if_pos rfl]
    rfl
  unfold rillbedlaw24_TableBack.f
  rw [hb, Option.bind_some]
  split
  · by_cases hs : (s.size : Int) > 3000
    · rw [decide_eq_true hs]; exact ht
    · rw [decide_eq_false hs]
      exact back_j0 a l1 l2 hn s (by omega) c _ (by omega) hc
  · exact ht

end Go.Proofs.Ytlhjhkmmgkfmpaa.Px
