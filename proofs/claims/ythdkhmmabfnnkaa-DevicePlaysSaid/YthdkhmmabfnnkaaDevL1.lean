/- Chapter 10: the two devices are the same: plain lists. -/
import Derived.Test.YthdkhmmabfnnkaaDevL0
set_option linter.unusedVariables false
set_option linter.unusedSimpArgs false
namespace Go.Proofs.Ythdkhmmabfnnkaa
open Go.RowKit Go.Maps

/-- what a sector of the document's is in the program's device -/
def toC (x : Rv.Sec) : Dv.Cel := (Dv.full x.sure, if x.waits then some (Dv.full x.shows) else none)
theorem toC_cell (r : List Rv.Sec) (k : Nat) (hk : k < r.length) : Dv.cell (r.map toC) k = toC (Rv.cell r k) := by
  unfold Dv.cell Rv.cell
  rw [List.getD_eq_getElem?_getD, List.getD_eq_getElem?_getD, List.getElem?_map, List.getElem?_eq_getElem hk]; rfl
theorem rel_read (r : List Rv.Sec) (k : Int) : readE (r.map toC) k = Rv.readE r k := by
  unfold readE Rv.readE
  rw [List.length_map]
  by_cases h : k < 0 ∨ (r.length : Int) ≤ k
  · rw [if_pos h, if_pos h]
  · rw [if_neg h, if_neg h, toC_cell r _ (by omega)]
    unfold Dv.shows Rv.shown toC
    cases (Rv.cell r k.toNat).waits <;> rfl
theorem rel_sure (r : List Rv.Sec) (k : Int) : sureS (r.map toC) k = Rv.sureS r k := by
  unfold sureS Rv.sureS
  rw [List.length_map]
  by_cases h : k < 0 ∨ (r.length : Int) ≤ k
  · rw [if_pos h, if_pos h]
  · rw [if_neg h, if_neg h, toC_cell r _ (by omega)]; rfl
theorem rel_waits (r : List Rv.Sec) : waitsN (r.map toC) = Rv.waitsN r := by
  unfold waitsN Rv.waitsN
  induction r with
  | nil => rfl
  | cons x r ih =>
    rw [List.map_cons, List.filter_cons, List.filter_cons]
    unfold toC at ih ⊢
    cases hx : x.waits <;> simp [hx, ih]
theorem rel_new (n : Nat) : newD n = (Rv.newR n).map toC := by
  unfold newD Rv.newR
  rw [List.map_replicate]; rfl
theorem rel_write (r : List Rv.Sec) (k : Int) (s : List UInt8) : writeE (r.map toC) k s = ((Rv.writeE r k s).1.map toC, (Rv.writeE r k s).2) := by
  unfold writeE Rv.writeE
  rw [List.length_map]
  by_cases h : k < 0 ∨ (r.length : Int) ≤ k
  · rw [if_pos h, if_pos h]
  · rw [if_neg h, if_neg h]
    by_cases h2 : 128 < s.length
    · rw [if_pos h2, if_pos h2]
    · rw [if_neg h2, if_neg h2, toC_cell r _ (by omega), List.map_set]; rfl
theorem full_of {l : List UInt8} (h : l.length = 128) : Dv.full l = l := by unfold Dv.full; rw [h]; simp
theorem mix_full (n : Nat) (x s : List UInt8) (hx : x.length ≤ 128) (hs : s.length ≤ 128) : Dv.mixB n (Dv.full x) (Dv.full s) = Dv.full ((Dv.full x).take (min n 128) ++ (Dv.full s).drop (min n 128)) := by
  have h1 := Dv.full_len x hx
  have h2 := Dv.full_len s hs
  rw [full_of (l := (Dv.full x).take (min n 128) ++ (Dv.full s).drop (min n 128)) (by rw [List.length_append, List.length_take, List.length_drop]; omega)]; rfl
theorem rel_bar : ∀ (r : List Rv.Sec) (i : Nat), (∀ x ∈ r, x.sure.length ≤ 128 ∧ x.shows.length ≤ 128) → Dv.settleF (fun _ => 128) i (r.map toC) = (r.map Rv.barS).map toC
  | [], _, _ => rfl
  | ⟨su, sh, q⟩ :: r, i, h => by
    have hx : su.length ≤ 128 ∧ sh.length ≤ 128 := h _ (List.mem_cons_self ..)
    have ih := fun i => rel_bar r i (fun x hx => h x (List.mem_cons_of_mem _ hx))
    cases q with
    | false =>
      show (Dv.full su, none) :: Dv.settleF _ i (r.map toC) = _
      rw [ih]; rfl
    | true =>
      show (Dv.mixB 128 (Dv.full sh) (Dv.full su), none) :: Dv.settleF _ (i + 1) (r.map toC) = _
      rw [ih, mix_full _ _ _ hx.2 hx.1]
      have h1 := Dv.full_len sh hx.2
      have h2 := Dv.full_len su hx.1
      rw [show min 128 128 = 128 from rfl, List.take_of_length_le (by omega), List.drop_of_length_le (by omega), List.append_nil, full_of h1]; rfl
theorem crash_cut (ks : List Int) (q : Nat) : min (crashC ks q) 128 = Rv.refC ks q := by
  unfold crashC Rv.refC
  by_cases h : ks = []
  · rw [if_pos h, if_pos h]; rfl
  · rw [if_neg h, if_neg h]
    generalize ks.getD (q % ks.length) 0 = X
    obtain ⟨Y, hY⟩ : ∃ Y, Y = Int.tmod X 130 := ⟨_, rfl⟩
    have hY1 : -130 < Y := by rw [hY]; exact Int.lt_tmod_of_pos _ (by omega)
    have hY2 : Y < 130 := by rw [hY]; exact Int.tmod_lt_of_pos _ (by omega)
    simp only [← hY]
    rw [Int.tmod_eq_emod_of_nonneg (by omega)]
    split <;> omega
theorem rel_crash (ks : List Int) : ∀ (r : List Rv.Sec) (i : Nat), (∀ x ∈ r, x.sure.length ≤ 128 ∧ x.shows.length ≤ 128) → Dv.settleF (crashC ks) i (r.map toC) = (Rv.crashF (Rv.refC ks) i r).map toC
  | [], _, _ => rfl
  | ⟨su, sh, q⟩ :: r, i, h => by
    have hx : su.length ≤ 128 ∧ sh.length ≤ 128 := h _ (List.mem_cons_self ..)
    have ih := fun i => rel_crash ks r i (fun x hx => h x (List.mem_cons_of_mem _ hx))
    cases q with
    | false =>
      show (Dv.full su, none) :: Dv.settleF _ i (r.map toC) = _
      rw [ih]; rfl
    | true =>
      show (Dv.mixB (crashC ks i) (Dv.full sh) (Dv.full su), none) :: Dv.settleF _ (i + 1) (r.map toC) = _
      rw [ih, mix_full _ _ _ hx.2 hx.1, crash_cut]; rfl
theorem rel_do (r : List Rv.Sec) (h : Rv.Ok r) (a : DAct) : doD (r.map toC) a = ((doR r a).1.map toC, (doR r a).2) := by
  unfold doD doR
  have hx := h.2.2
  by_cases h1 : a.what % 6 < 3
  · rw [if_pos h1, if_pos h1]; exact rel_write r _ _
  · rw [if_neg h1, if_neg h1]
    by_cases h2 : a.what % 6 = 3
    · rw [if_pos h2, if_pos h2, rel_bar r 0 hx]
    · rw [if_neg h2, if_neg h2]
      by_cases h3 : a.what % 6 = 4
      · rw [if_pos h3, if_pos h3, rel_crash _ r 0 hx]
      · rw [if_neg h3, if_neg h3]

def RelO : Option (List Dv.Cel) → Option (List Rv.Sec) → Prop
  | none, none => True
  | some d, some r => d = r.map toC
  | _, _ => False
def doO (o : Option (List Dv.Cel)) (a : DAct) : Option (List Dv.Cel) × Int := match o with | none => (none, doN a) | some d => (some (doD d a).1, (doD d a).2)
def doO' (o : Option (List Rv.Sec)) (a : DAct) : Option (List Rv.Sec) × Int := match o with | none => (none, doN a) | some d => (some (doR d a).1, (doR d a).2)
theorem rel_doO {o : Option (List Dv.Cel)} {o' : Option (List Rv.Sec)} (h : RelO o o') (hok : ∀ r, o' = some r → Rv.Ok r) (a : DAct) : RelO (doO o a).1 (doO' o' a).1 ∧ (doO o a).2 = (doO' o' a).2 := by
  cases o with
  | none => cases o' with
    | none => exact ⟨trivial, rfl⟩
    | some r => exact h.elim
  | some d => cases o' with
    | none => exact h.elim
    | some r =>
      have : d = r.map toC := h
      subst this
      have := rel_do r (hok r rfl) a
      show (doD (r.map toC) a).1 = (doR r a).1.map toC ∧ (doD (r.map toC) a).2 = (doR r a).2
      rw [this]; exact ⟨rfl, rfl⟩

end Go.Proofs.Ythdkhmmabfnnkaa
