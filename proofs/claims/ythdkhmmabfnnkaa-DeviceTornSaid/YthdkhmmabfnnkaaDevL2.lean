/- Chapter 10: the acts' row; few; alike; New, do and their of a device or none. -/
import Derived.Test.YthdkhmmabfnnkaaDevL1
import Derived.Deep.Fields
set_option linter.unusedVariables false
set_option linter.unusedSimpArgs false
namespace Go.Proofs.Ythdkhmmabfnnkaa
open Go.RowKit Go.Maps

theorem dev_new_any (n : Int) (w : World) : Calls Try.prog 7 #[.int .i64 n] w fun e w' => ∃ p, e = .returned (.pointer p) ∧ DevO w' w.heap.size p (if n < 512 ∨ 4096 < n then none else some (newD n.toNat)) ∧ Upd (fun _ => False) w w' := by
  by_cases h : n < 512 ∨ 4096 < n
  · rw [if_pos h]
    refine (dev_New_no n w h).mono ?_
    rintro e w' ⟨rfl, rfl⟩
    exact ⟨none, rfl, rfl, Upd.refl _ _⟩
  · rw [if_neg h]
    obtain ⟨m, rfl⟩ := Int.eq_ofNat_of_zero_le (show 0 ≤ n by omega)
    refine (dev_New_ok m w (by omega) (by omega)).mono ?_
    rintro e w' ⟨rfl, hd, hu⟩
    exact ⟨_, rfl, ⟨_, _, _, _, rfl, Nat.le_add_right _ 2, Nat.le_refl _, Nat.le_add_right _ 1, by rw [Int.toNat_natCast]; exact hd⟩, hu⟩
theorem ref_new_any (n : Int) (w : World) : Calls Try.prog 19 #[.int .i64 n] w fun e w' => ∃ p, e = .returned (.pointer p) ∧ RefO w' w.heap.size p (if n < 512 ∨ 4096 < n then none else some (Rv.newR n.toNat)) ∧ Upd (fun _ => False) w w' := by
  by_cases h : n < 512 ∨ 4096 < n
  · rw [if_pos h]
    refine (ref_New_no n w h).mono ?_
    rintro e w' ⟨rfl, rfl⟩
    exact ⟨none, rfl, rfl, Upd.refl _ _⟩
  · rw [if_neg h]
    obtain ⟨m, rfl⟩ := Int.eq_ofNat_of_zero_le (show 0 ≤ n by omega)
    refine (ref_New_ok m w (by omega) (by omega)).mono ?_
    rintro e w' ⟨rfl, hd, hu⟩
    exact ⟨_, rfl, ⟨_, _, _, rfl, Nat.le_add_right _ 1, Nat.le_refl _, by rw [Int.toNat_natCast]; exact hd⟩, hu⟩
theorem DevO.mono {w : World} {B B' : Nat} {p : Option Addr} {o : Option (List Dv.Cel)} (h : DevO w B p o) (hB : B' ≤ B) : DevO w B' p o := by
  cases o with
  | none => exact h
  | some d => obtain ⟨b, bs, bm, cap, e, h1, h2, h3, h4⟩ := h; exact ⟨b, bs, bm, cap, e, by omega, by omega, by omega, h4⟩
theorem RefO.mono {w : World} {B B' : Nat} {p : Option Addr} {o : Option (List Rv.Sec)} (h : RefO w B p o) (hB : B' ≤ B) : RefO w B' p o := by
  cases o with
  | none => exact h
  | some d => obtain ⟨b, g, cap, e, h1, h2, h4⟩ := h; exact ⟨b, g, cap, e, by omega, by omega, h4⟩
theorem DevO.upd {w w' : World} {B : Nat} {p : Option Addr} {o : Option (List Dv.Cel)} (h : DevO w B p o) (hu : Upd (fun _ => False) w w') : DevO w' B p o := by
  cases o with
  | none => exact h
  | some d => obtain ⟨b, bs, bm, cap, e, h1, h2, h3, h4⟩ := h; exact ⟨b, bs, bm, cap, e, h1, h2, h3, h4.upd hu (fun f => f) (fun f => f) (fun f => f)⟩
theorem RefO.upd {w w' : World} {B : Nat} {p : Option Addr} {o : Option (List Rv.Sec)} (h : RefO w B p o) (hu : Upd (fun _ => False) w w') : RefO w' B p o := by
  cases o with
  | none => exact h
  | some d => obtain ⟨b, g, cap, e, h1, h2, h4⟩ := h; exact ⟨b, g, cap, e, h1, h2, h4.upd hu (fun f => f) (fun f => f)⟩
theorem RefO.ok {w : World} {B : Nat} {p : Option Addr} {o : Option (List Rv.Sec)} (h : RefO w B p o) : ∀ r, o = some r → Rv.Ok r := by
  intro r e; subst e
  obtain ⟨b, g, cap, e, h1, h2, h4⟩ := h
  exact h4.ok

/-- blocks of the program's device that turn; blocks of the document's that turn -/
def IsD (w : World) (i : Nat) : Prop := (∃ es c, w.heap[i]? = some (.map es c)) ∨ ∃ cs fr, w.heap[i]? = some (.cells cs 62 fr)
def IsR (w : World) (i : Nat) : Prop := ∃ cs fr, w.heap[i]? = some (.cells cs 92 fr)
theorem RefO.keep {w w' : World} {B : Nat} {p : Option Addr} {o : Option (List Rv.Sec)} (h : RefO w B p o) (hu : Upd (fun i => B ≤ i ∧ IsD w i) w w') : RefO w' B p o := by
  cases o with
  | none => exact h
  | some d =>
    obtain ⟨b, g, cap, e, h1, h2, h4⟩ := h
    refine ⟨b, g, cap, e, h1, h2, h4.upd hu ?_ ?_⟩
    · rintro ⟨_, ⟨es, c, e⟩ | ⟨cs, fr, e⟩⟩ <;> rw [h4.dev] at e <;> simp at e
    · obtain ⟨cs0, hg, _⟩ := h4.row
      rintro ⟨_, ⟨es, c, e⟩ | ⟨cs, fr, e⟩⟩ <;> rw [hg] at e <;> simp at e
theorem DevO.keep {w w' : World} {B : Nat} {p : Option Addr} {o : Option (List Dv.Cel)} (h : DevO w B p o) (hu : Upd (fun i => B ≤ i ∧ IsR w i) w w') : DevO w' B p o := by
  cases o with
  | none => exact h
  | some d =>
    obtain ⟨b, bs, bm, cap, e, h1, h2, h3, h4⟩ := h
    refine ⟨b, bs, bm, cap, e, h1, h2, h3, h4.upd hu ?_ ?_ ?_⟩
    · rintro ⟨_, cs, fr, e⟩; rw [h4.dev] at e; simp at e
    · obtain ⟨cs0, hg, _⟩ := h4.row
      rintro ⟨_, cs, fr, e⟩; rw [hg] at e; simp at e
    · obtain ⟨es, c, hg, _⟩ := h4.waits
      rintro ⟨_, cs, fr, e⟩; rw [hg] at e; simp at e
theorem law_do_any {w : World} {B : Nat} {p : Option Addr} {o : Option (List Dv.Cel)} (h : DevO w B p o) (a : DAct) (ha : ActAt w B a) :
    Calls Try.prog 10 #[.pointer p, a.val] w fun e w' => ∃ p', e = .returned (.tuple #[.pointer p', .int .i64 (doO o a).2]) ∧ DevO w' B p' (doO o a).1 ∧ Upd (fun i => B ≤ i ∧ IsD w i) w w' := by
  cases o with
  | none =>
    have : p = none := h
    subst this
    refine (law_do_no a ha.what).mono ?_
    rintro e w' ⟨rfl, hu⟩
    exact ⟨none, rfl, rfl, hu.mono (fun _ _ f => f.elim)⟩
  | some d =>
    obtain ⟨b, bs, bm, cap, rfl, h1, h2, h3, h4⟩ := h
    refine (law_do h4 h1 h2 h3 a ha).mono ?_
    rintro e w' ⟨b', bs', bm', cap', rfl, k1, k2, k3, k4, hu⟩
    refine ⟨_, rfl, ⟨b', bs', bm', cap', rfl, k1, k2, k3, k4⟩, hu.mono (fun i _ f => ?_)⟩
    rcases f with rfl | rfl
    · obtain ⟨cs0, hg, _⟩ := h4.row
      exact ⟨h2, Or.inr ⟨_, _, hg⟩⟩
    · obtain ⟨es, c, hg, _⟩ := h4.waits
      exact ⟨h3, Or.inl ⟨_, _, hg⟩⟩
theorem law_their_any {w : World} {B : Nat} {p : Option Addr} {o : Option (List Rv.Sec)} (h : RefO w B p o) (a : DAct) (ha : ActAt w B a) :
    Calls Try.prog 20 #[.pointer p, a.val] w fun e w' => ∃ p', e = .returned (.tuple #[.pointer p', .int .i64 (doO' o a).2]) ∧ RefO w' B p' (doO' o a).1 ∧ Upd (fun i => B ≤ i ∧ IsR w i) w w' := by
  cases o with
  | none =>
    have : p = none := h
    subst this
    refine (law_their_no a ha.what).mono ?_
    rintro e w' ⟨rfl, hu⟩
    exact ⟨none, rfl, rfl, hu.mono (fun _ _ f => f.elim)⟩
  | some d =>
    obtain ⟨b, g, cap, rfl, h1, h2, h4⟩ := h
    refine (law_their h4 h1 h2 a ha).mono ?_
    rintro e w' ⟨b', g', cap', rfl, k1, k2, k4, hu⟩
    refine ⟨_, rfl, ⟨b', g', cap', rfl, k1, k2, k4⟩, hu.mono (fun i _ f => ?_)⟩
    subst f
    obtain ⟨cs0, hg, _⟩ := h4.row
    exact ⟨h2, _, _, hg⟩

/-! What both tell. -/
def readO (o : Option (List Dv.Cel)) (k : Int) : List UInt8 × Int := match o with | none => ([], 1) | some d => readE d k
def sureO (o : Option (List Dv.Cel)) (k : Int) : List UInt8 := match o with | none => [] | some d => sureS d k
def waitsO (o : Option (List Dv.Cel)) : Nat := match o with | none => 0 | some d => waitsN d
theorem read_any {w : World} {B : Nat} {p : Option Addr} {o : Option (List Dv.Cel)} (h : DevO w B p o) (k : Int) : Calls Try.prog 13 #[.pointer p, .int .i64 k] w (StrE (readO o k) w) := by
  cases o with
  | none => exact nodev_Read (Or.inl h) k
  | some d => obtain ⟨b, bs, bm, cap, rfl, h1, h2, h3, h4⟩ := h; exact dev_Read h4 k
theorem sure_any {w : World} {B : Nat} {p : Option Addr} {o : Option (List Dv.Cel)} (h : DevO w B p o) (k : Int) : Calls Try.prog 14 #[.pointer p, .int .i64 k] w (StrR (sureO o k) w) := by
  cases o with
  | none => exact nodev_Sure (Or.inl h) k
  | some d => obtain ⟨b, bs, bm, cap, rfl, h1, h2, h3, h4⟩ := h; exact dev_Sure h4 k
theorem waits_any {w : World} {B : Nat} {p : Option Addr} {o : Option (List Dv.Cel)} (h : DevO w B p o) : Calls Try.prog 15 #[.pointer p] w (fun e w' => e = .returned (.int .i64 (waitsO o : Nat)) ∧ w = w') := by
  cases o with
  | none => exact nodev_Waiting (Or.inl h)
  | some d => obtain ⟨b, bs, bm, cap, rfl, h1, h2, h3, h4⟩ := h; exact dev_Waiting h4
theorem rread_any {w : World} {B : Nat} {p : Option Addr} {o : Option (List Dv.Cel)} {o' : Option (List Rv.Sec)} (hr : RelO o o') (h : RefO w B p o') (k : Int) : Calls Try.prog 37 #[.pointer p, .int .i64 k] w (StrE (readO o k) w) := by
  cases o with
  | none => cases o' with
    | none => have : p = none := h; subst this; exact noref_Read k w
    | some r => exact hr.elim
  | some d => cases o' with
    | none => exact hr.elim
    | some r =>
      have : d = r.map toC := hr
      subst this
      obtain ⟨b, g, cap, rfl, h1, h2, h4⟩ := h
      show Calls _ _ _ _ (StrE (readE (r.map toC) k) w)
      rw [rel_read]; exact ref_Read h4 k
theorem rsure_any {w : World} {B : Nat} {p : Option Addr} {o : Option (List Dv.Cel)} {o' : Option (List Rv.Sec)} (hr : RelO o o') (h : RefO w B p o') (k : Int) : Calls Try.prog 38 #[.pointer p, .int .i64 k] w (StrR (sureO o k) w) := by
  cases o with
  | none => cases o' with
    | none => have : p = none := h; subst this; exact noref_Sure k w
    | some r => exact hr.elim
  | some d => cases o' with
    | none => exact hr.elim
    | some r =>
      have : d = r.map toC := hr
      subst this
      obtain ⟨b, g, cap, rfl, h1, h2, h4⟩ := h
      show Calls _ _ _ _ (StrR (sureS (r.map toC) k) w)
      rw [rel_sure]; exact ref_Sure h4 k
theorem rwaits_any {w : World} {B : Nat} {p : Option Addr} {o : Option (List Dv.Cel)} {o' : Option (List Rv.Sec)} (hr : RelO o o') (h : RefO w B p o') : Calls Try.prog 39 #[.pointer p] w (fun e w' => e = .returned (.int .i64 (waitsO o : Nat)) ∧ w = w') := by
  cases o with
  | none => cases o' with
    | none => have : p = none := h; subst this; exact noref_Waiting w
    | some r => exact hr.elim
  | some d => cases o' with
    | none => exact hr.elim
    | some r =>
      have : d = r.map toC := hr
      subst this
      obtain ⟨b, g, cap, rfl, h1, h2, h4⟩ := h
      show Calls _ _ _ _ (fun e w' => e = .returned (.int .i64 (waitsN (r.map toC) : Nat)) ∧ w = w')
      rw [rel_waits]; exact ref_Waiting h4
set_option maxHeartbeats 1000000 in
theorem law_alike {w : World} {B : Nat} {p q : Option Addr} {o : Option (List Dv.Cel)} {o' : Option (List Rv.Sec)} (hd : DevO w B p o) (hr : RefO w B q o') (hrel : RelO o o') (k : Int) :
    Calls Try.prog 21 #[.pointer p, .pointer q, .int .i64 k] w fun e w' => e = .returned (.bool true) ∧ Upd (fun _ => False) w w' := by
  have h1 := Lib.hid (fun (W : World) (hu : Upd (fun _ => False) w W) => read_any (hd.upd hu) k)
  have h2 := Lib.hid (fun (W : World) (hu : Upd (fun _ => False) w W) => rread_any hrel (hr.upd hu) k)
  have h3 := Lib.hid (fun (W : World) (hu : Upd (fun _ => False) w W) => sure_any (hd.upd hu) k)
  have h4 := Lib.hid (fun (W : World) (hu : Upd (fun _ => False) w W) => rsure_any hrel (hr.upd hu) k)
  have h5 := Lib.hid (fun (W : World) (hu : Upd (fun _ => False) w W) => waits_any (hd.upd hu))
  have h6 := Lib.hid (fun (W : World) (hu : Upd (fun _ => False) w W) => rwaits_any hrel (hr.upd hu))
  generalize readO o k = rd at h1 h2
  obtain ⟨s, c⟩ := rd
  generalize sureO o k = t at h3 h4
  generalize waitsO o = n at h5 h6
  clear hd hr hrel
  go_enter Try.func21, Try.ntmps21
  go_wp2_with (fail)
  refine (h1.out _ (Upd.refl _ _)).mono ?_
  rintro e w1 ⟨rfl, u1⟩
  go_wp2_with (fail)
  refine (h2.out _ u1).mono ?_
  rintro e w2 ⟨rfl, u2⟩
  have v2 := u1.trans u2 (fun _ _ f => f)
  go_wp2_with (fail)
  refine (h3.out _ v2).mono ?_
  rintro e w3 ⟨rfl, u3⟩
  have v3 := v2.trans u3 (fun _ _ f => f)
  go_wp2_with (fail)
  refine (h4.out _ v3).mono ?_
  rintro e w4 ⟨rfl, u4⟩
  have v4 := v3.trans u4 (fun _ _ f => f)
  go_wp2_with (fail)
  refine (h5.out _ v4).mono ?_
  rintro e w5 ⟨rfl, rfl⟩
  go_wp2_with (fail)
  refine (h6.out _ v4).mono ?_
  rintro e w5 ⟨rfl, rfl⟩
  go_wp2
  go_ret
  exact ⟨rfl, v4⟩

/-! The acts' row. -/
structure ActsAt (w : World) (B : Nat) (v : Option Addr) (l : List DAct) : Prop where
  len : l.length ≤ 9223372036854775807
  one : ∀ i a, l[i]? = some a → ActAt w B a ∧ ∃ p : Addr, v = some p ∧ p.block < B ∧ ∀ j u, a.cells[j]? = some u → w.cell? (p.add (i * 5 + j)) = some u
theorem ActsAt.upd {w w' : World} {B : Nat} {v : Option Addr} {l : List DAct} {F : Nat → Prop} (h : ActsAt w B v l) (hu : Upd F w w') (hF : ∀ i, i < B → ¬ F i) : ActsAt w' B v l :=
  ⟨h.len, fun i a ha => by
    obtain ⟨h1, p, e, hp, hc⟩ := h.one i a ha
    exact ⟨h1.upd hu hF, p, e, hp, fun j u hj => hu.cell (hc j u hj) (by rw [block_add2]; exact hF _ hp)⟩⟩
def dact0 : DAct := ⟨0, 0, 0, [], none, 0, []⟩
def nth (l : List DAct) (i : Nat) : DAct := l.getD i dact0
theorem nth_at (l : List DAct) (i : Nat) (h : i < l.length) : l[i]? = some (nth l i) := by unfold nth; rw [List.getD, List.getElem?_eq_getElem h]; rfl
theorem add_field (p : Addr) (i j : Nat) (hj : 0 < j) : p.add (i + j) = ⟨(p.add i).block, (p.add i).off + j, none⟩ := by
  unfold Addr.add
  rw [if_neg (by omega)]
  split
  · subst_vars; simp
  · simp; omega
theorem add_zero (p : Addr) (i : Nat) : p.add (i + 0) = p.add i := rfl
/-- an act's cells as the walk spells them -/
theorem ActsAt.cells {w : World} {B : Nat} {v : Option Addr} {l : List DAct} (h : ActsAt w B v l) (k : Nat) (hk : k < l.length) : ∃ p : Addr, v = some p ∧ ActAt w B (nth l k) ∧ w.cell? (p.add (k * 5)) = some (.int .u8 ((nth l k).what : Int)) ∧
    w.cell? ⟨(p.add (k * 5)).block, (p.add (k * 5)).off + 1, none⟩ = some (.int .i64 (nth l k).at_) ∧ w.cell? ⟨(p.add (k * 5)).block, (p.add (k * 5)).off + 2, none⟩ = some (.int .i64 (nth l k).ask) ∧
    w.cell? ⟨(p.add (k * 5)).block, (p.add (k * 5)).off + 3, none⟩ = some (.string ⟨(nth l k).s.toArray⟩) ∧ w.cell? ⟨(p.add (k * 5)).block, (p.add (k * 5)).off + 4, none⟩ = some (.slice (nth l k).ad (nth l k).ks.length (nth l k).cp) ∧
    (loadVar 31 (p.add (k * 5))).run Try.prog w = .ok (nth l k).val w := by
  obtain ⟨h1, p, e, hp, hc⟩ := h.one k _ (nth_at l k hk)
  refine ⟨p, e, h1, hc 0 _ rfl, by rw [← add_field _ _ _ (by omega)]; exact hc 1 _ rfl, by rw [← add_field _ _ _ (by omega)]; exact hc 2 _ rfl, by rw [← add_field _ _ _ (by omega)]; exact hc 3 _ rfl, by rw [← add_field _ _ _ (by omega)]; exact hc 4 _ rfl, ?_⟩
  have hl : (loadCells (p.add (k * 5)) 5).run Try.prog w = .ok (nth l k).cells.toArray w :=
    run_loadCells_list (P := Try.prog) w (p.add (k * 5)) (nth l k).cells (fun j u hj => by rw [Go.Deep.add_add]; exact hc j u hj)
  have hagg : (isAgg 31).run Try.prog w = .ok true w := by kernel_rfl
  have hs : (sizeOf 31).run Try.prog w = .ok 5 w := by kernel_rfl
  simp [loadVar, Sem.run_bind, hagg, hs, hl]
  rfl
def FewP (l : List DAct) (w : World) (e : Ending) (w' : World) : Prop := ∃ q, e = .returned (.bool q) ∧ (q = true → l.length ≤ 60 ∧ ∀ a ∈ l, a.s.length ≤ 300) ∧ w = w'
theorem few_yes {l : List DAct} (h1 : l.length ≤ 60) (h2 : ∀ j, j < l.length → (nth l j).s.length ≤ 300) : l.length ≤ 60 ∧ ∀ a ∈ l, a.s.length ≤ 300 := by
  refine ⟨h1, fun a ha => ?_⟩
  obtain ⟨j, hj⟩ := List.getElem?_of_mem ha
  have hjl := (List.getElem?_eq_some_iff.1 hj).1
  have := h2 j hjl
  rw [nth_at l j hjl] at hj
  rw [← Option.some.inj hj]; exact this
set_option maxRecDepth 20000 in
set_option maxHeartbeats 1000000 in
theorem law_few {w : World} {B : Nat} {v : Option Addr} {l : List DAct} (h : ActsAt w B v l) (cp : Nat) : Calls Try.prog 8 #[.slice v l.length cp] w (FewP l w) := by
  obtain ⟨n, hn⟩ : ∃ n, n = l.length := ⟨_, rfl⟩
  have hlen := h.len
  rw [← hn] at hlen ⊢
  have HN := Lib.hid hn
  have H := Lib.hid h
  clear h hn
  go_enter Try.func8, Try.ntmps8
  go_wp2
  go_loop [3] (fun i => ∃ k : Nat, k ≤ n ∧ k ≤ 70 ∧ i = .int .i64 k ∧ ∀ j, j < k → (nth l j).s.length ≤ 300) (fun i => n - (intOf i).toNat)
  case atStart => exact ⟨0, Nat.zero_le _, Nat.zero_le _, rfl, fun j hj => by omega⟩
  case round =>
    obtain ⟨k, hk, hk7, rfl, hall⟩ := hrel
    have HA := Lib.hid hall
    clear hall
    by_cases hlt : k < n ∧ k < 70
    · obtain ⟨hlt, hlt7⟩ := hlt
      obtain ⟨p, rfl, h1, _, _, _, c3, _, _⟩ := H.out.cells k (by have := HN.out; omega)
      obtain ⟨m, hm⟩ : ∃ m, m = (nth l k).s.length := ⟨_, rfl⟩
      have hsz : (nth l k).s.toArray.size = m := by rw [hm]; simp
      generalize (nth l k).s.toArray = sk at hsz c3
      have HM := Lib.hid hm
      have hm2 : m ≤ 9223372036854775807 := by rw [hm]; exact h1.slen
      clear hm h1
      by_cases hbig : 300 < m
      · go_wp2
        go_ret
        exact ⟨false, rfl, fun e => (by cases e), rfl⟩
      · go_wp2
        go_round
        case rel => exact ⟨k + 1, by omega, by omega, by go_num, fun j hj => by
          by_cases e : j = k
          · subst e; have := HM.out; omega
          · exact HA.out j (by omega)⟩
        case measure => simp [intOf]; omega
    · by_cases h1 : k < n
      · have h7 : ¬ k < 70 := by omega
        go_wp2
        go_ret
        refine ⟨_, rfl, fun e => ?_, rfl⟩
        simp at e
        omega
      · have hkn : k = n := by omega
        subst hkn
        go_wp2
        go_ret
        refine ⟨_, rfl, fun e => few_yes ?_ ?_, rfl⟩
        · simp at e
          have := HN.out
          omega
        · intro j hj
          exact HA.out j (by have := HN.out; omega)

end Go.Proofs.Ythdkhmmabfnnkaa
