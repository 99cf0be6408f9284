/- The contract of block.Apply. -/
import Derived.Test.YtiabomfkmfokeaaDoorBlk5
import Derived.Test.YtiabomfkmfokeaaDoorShelf
set_option linter.unusedVariables false
set_option linter.unusedSimpArgs false
namespace Go.Proofs.YtiabomfkmfokeaaDoor
open Go.RowKit

theorem join_flat (xs : List (List UInt8)) : Lib.join xs [] = xs.flatten := by
  unfold Lib.join
  induction xs with
  | nil => rfl
  | cons x xs ih =>
    cases xs with
    | nil => simp [List.intercalate]
    | cons y ys => simp [List.intercalate, List.intersperse] at ih ⊢; exact ih

theorem together_any (bk c : Nat) (xs : List (List UInt8)) (w : World) (hcells : ∀ (j : Nat) x, xs[j]? = some x → w.cell? ⟨bk, j, none⟩ = some (.string ⟨x.toArray⟩)) (hbk : bk < w.heap.size) (hn : xs.length ≤ c) (hx : xs.length ≤ 1000)
    (hl : xs.flatten.length ≤ 1000000000) :
    Calls Tryd.prog 36 #[.slice (some ⟨bk, 0, none⟩) xs.length c] w fun e w' => e = .returned (.string ⟨(Blk.trim xs.flatten).toArray⟩) ∧ Upd (fun _ => False) w w' := by
  have hJ := fun w1 : World => fun (h1 : Upd (fun _ => False) w w1) => Tryd.strings_Join bk 0 c (xs.map fun x => (⟨x.toArray⟩ : ByteArray)) ⟨#[]⟩ w1 (by
    intro j x hj
    rw [List.getElem?_map] at hj
    obtain ⟨y, hy, rfl⟩ := Option.map_eq_some_iff.1 hj
    rw [Nat.zero_add]
    exact h1.cell (hcells j y hy) (fun f => f)) (by have := h1.size; omega) (by simp; omega) (by simpa using hn) (by
      have e1 : ((xs.map fun x => (⟨x.toArray⟩ : ByteArray)).map (·.data.toList)) = xs := by simp [Function.comp_def]
      rw [e1]; show (Lib.join xs []).length ≤ _; rw [join_flat]; omega)
  have e1 : ((xs.map fun x => (⟨x.toArray⟩ : ByteArray)).map (·.data.toList)) = xs := by simp [Function.comp_def]
  have e2 : Lib.join xs (⟨#[]⟩ : ByteArray).data.toList = xs.flatten := join_flat xs
  rw [e1, e2, List.length_map] at hJ
  have HJ := Lib.hid hJ
  clear hJ e1 e2 hcells
  go_enter Tryd.func36, Tryd.ntmps36
  go_wp2_with (fail)
  refine (HJ.out _ (Upd.refl _ _)).mono ?_
  rintro e w1 ⟨rfl, hB⟩
  go_wp2_with (fail)
  refine (block_Trim _ _ hl).mono ?_
  rintro e w2 ⟨rfl, rfl⟩
  go_wp2
  go_ret
  exact ⟨rfl, (Upd.of_below hB).mono (fun i hi h => by omega)⟩

/-- Apply, as the code does it. -/
def applyW (v : List UInt8) (p : Blk.Pt) : List UInt8 :=
  if Blk.may p = false then Blk.trim (v.take 64)
  else if p.cut then Blk.trim (Blk.at_ (v.take 64) 0 p.n)
  else Blk.trim (Blk.at_ (v.take 64) 0 p.at_ ++ p.s ++ Blk.at_ (v.take 64) (p.at_ + p.s.length) (64 - (p.at_ + p.s.length)))

theorem at_len (v : List UInt8) (f n : Int) : (Blk.at_ v f n).length ≤ 64 := by simp [Blk.at_]; omega

theorem together_new1 (w : World) (a : List UInt8) (hl : a.length ≤ 1000000000) :
    Calls Tryd.prog 36 #[.slice (some ⟨w.heap.size, 0, none⟩) 1 1] (w.alloc (.cells #[.string ⟨a.toArray⟩] 9)) fun e w' => e = .returned (.string ⟨(Blk.trim a).toArray⟩) ∧ Upd (fun _ => False) (w.alloc (.cells #[.string ⟨a.toArray⟩] 9)) w' := by
  have hb := heap_alloc_new w (.cells #[.string ⟨a.toArray⟩] 9)
  refine (together_any w.heap.size 1 [a] _ ?_ (by simp) (by simp) (by simp) (by simpa using hl)).mono ?_
  · intro j x hj
    match j, hj with
    | 0, hj => simp at hj; subst hj; exact cell_heap hb 0 _ rfl
  · rintro e w' ⟨rfl, hu⟩
    exact ⟨by simp, hu⟩
theorem together_new3 (w : World) (a b c : List UInt8) (hl : a.length + b.length + c.length ≤ 1000000000) :
    Calls Tryd.prog 36 #[.slice (some ⟨w.heap.size, 0, none⟩) 3 3] (w.alloc (.cells #[.string ⟨a.toArray⟩, .string ⟨b.toArray⟩, .string ⟨c.toArray⟩] 9)) fun e w' => e = .returned (.string ⟨(Blk.trim (a ++ b ++ c)).toArray⟩) ∧ Upd (fun _ => False) (w.alloc (.cells #[.string ⟨a.toArray⟩, .string ⟨b.toArray⟩, .string ⟨c.toArray⟩] 9)) w' := by
  have hb := heap_alloc_new w (.cells #[.string ⟨a.toArray⟩, .string ⟨b.toArray⟩, .string ⟨c.toArray⟩] 9)
  refine (together_any w.heap.size 3 [a, b, c] _ ?_ (by simp) (by simp) (by simp) (by simp; omega)).mono ?_
  · intro j x hj
    match j, hj with
    | 0, hj => simp at hj; subst hj; exact cell_heap hb 0 _ rfl
    | 1, hj => simp at hj; subst hj; exact cell_heap hb 1 _ rfl
    | 2, hj => simp at hj; subst hj; exact cell_heap hb 2 _ rfl
  · rintro e w' ⟨rfl, hu⟩
    exact ⟨by simp, hu⟩

/-- What Apply hands back. -/
def StrR (res : List UInt8) (w : World) (e : Ending) (w' : World) : Prop := e = .returned (.string ⟨res.toArray⟩) ∧ Upd (fun _ => False) w w'

set_option maxHeartbeats 1600000 in
set_option maxRecDepth 100000 in
theorem block_ApplyW (l : List UInt8) (p : Blk.Pt) (w : World) (hl : l.length ≤ 1000000000) (hs : p.s.length ≤ 1000000000) :
    Calls Tryd.prog 14 #[.string ⟨l.toArray⟩, ptV p] w (StrR (applyW l p) w) := by
  have hM := fun w => may_any p w hs
  obtain ⟨res, hres⟩ : ∃ res, res = applyW l p := ⟨_, rfl⟩
  rw [← hres]
  unfold applyW at hres
  have x1 : (⟨l.toArray⟩ : ByteArray).extract 0 (min (l.length : Int) 64).toNat = ⟨(l.take 64).toArray⟩ := by
    rw [ext_list, show (min (l.length : Int) 64).toNat = min 64 l.length by omega, List.drop_zero, Nat.sub_zero, ← List.take_take, List.take_length]
  have hvl : (l.take 64).length ≤ 64 := by simp; omega
  generalize l.take 64 = v at *
  cases hmay : Blk.may p with
  | false =>
    rw [if_pos hmay] at hres
    rw [hmay] at hM
    have HR := Lib.hid hres
    have HM := Lib.hid hM
    clear hres hM hmay
    obtain ⟨cut, at_, n, s⟩ := p
    unfold ptV at HM ⊢
    dsimp only at hs HM ⊢
    go_enter Tryd.func14, Tryd.ntmps14
    go_wp2_with (fail)
    refine (HM.out _).mono ?_
    rintro e w1 ⟨rfl, hu⟩
    go_wp2_with (fail)
    refine (together_new1 w1 v (by omega)).mono ?_
    rintro e w2 ⟨rfl, hu2⟩
    go_wp2
    go_ret
    exact ⟨ret_str HR.out.symm, ((Upd.refl _ _).alloc _).trans ((hu.alloc _).trans hu2 (fun _ _ f => f)) (fun _ _ f => f)⟩
  | true =>
    rw [if_neg (by rw [hmay]; simp)] at hres
    rw [hmay] at hM
    obtain ⟨cut, at_, n, s⟩ := p
    have HM := Lib.hid hM
    clear hM
    unfold ptV at HM ⊢
    dsimp only at hs HM hres ⊢
    cases cut with
    | true =>
      rw [if_pos rfl] at hres
      have HR := Lib.hid hres
      clear hres hmay
      go_enter Tryd.func14, Tryd.ntmps14
      go_wp2_with (fail)
      refine (HM.out _).mono ?_
      rintro e w1 ⟨rfl, hu⟩
      have hb := hu.heap (heap_alloc_new w _) (fun f => f)
      have hlb := lt_of_heap hb
      have c0 : w1.cell? ⟨w.heap.size, 0, none⟩ = some (.bool true) := cell_heap hb 0 _ rfl
      have c2 : w1.cell? ⟨w.heap.size, 2, none⟩ = some (.int .i64 n) := cell_heap hb 2 _ rfl
      go_wp2_with (fail)
      refine (block_At v 0 n w1 (by omega) (by omega)).mono ?_
      rintro e w2 ⟨rfl, hu2⟩
      go_wp2_with (fail)
      refine (together_new1 w2 (Blk.at_ v 0 n) (by have := at_len v 0 n; omega)).mono ?_
      rintro e w3 ⟨rfl, hu3⟩
      go_wp2
      go_ret
      exact ⟨ret_str HR.out.symm, ((Upd.refl _ _).alloc _).trans (hu.trans ((hu2.alloc _).trans hu3 (fun _ _ f => f)) (fun _ _ f => f)) (fun _ _ f => f)⟩
    | false =>
      rw [if_neg (by simp)] at hres
      have hn : 0 ≤ at_ ∧ at_ + s.length ≤ 64 ∧ s.length ≤ 64 := by simp [Blk.may] at hmay; omega
      obtain ⟨hn0, hn1, hn2⟩ := hn
      have HR := Lib.hid hres
      clear hres hmay
      have e1 : IntKind.i64.wrap (64 - (at_ + (s.length : Int))) = 64 - (at_ + (s.length : Int)) := IntWalk.i64_in _ (by omega)
      go_enter Tryd.func14, Tryd.ntmps14
      go_wp2_with (fail)
      refine (HM.out _).mono ?_
      rintro e w1 ⟨rfl, hu⟩
      have hb := hu.heap (heap_alloc_new w _) (fun f => f)
      have hlb := lt_of_heap hb
      have c0 : w1.cell? ⟨w.heap.size, 0, none⟩ = some (.bool false) := cell_heap hb 0 _ rfl
      have c1 : w1.cell? ⟨w.heap.size, 1, none⟩ = some (.int .i64 at_) := cell_heap hb 1 _ rfl
      have c3 : w1.cell? ⟨w.heap.size, 3, none⟩ = some (.string ⟨s.toArray⟩) := cell_heap hb 3 _ rfl
      go_wp2
      go_region_held3 (fun w' => w'.cell? ⟨w.heap.size, 1, none⟩ = some (.int .i64 at_) ∧ w'.cell? ⟨w.heap.size, 3, none⟩ = some (.string ⟨s.toArray⟩) ∧ Upd (fun _ => False) w1 w')
        (first
          | exact ⟨c1, c3, (Upd.refl _ _).drew⟩
          | (have h := ‹_ ∧ _ ∧ Upd _ _ _›; exact ⟨hu2.cell h.1 (fun f => f), hu2.cell h.2.1 (fun f => f), h.2.2.trans hu2 (fun _ _ f => f)⟩)
          | (have h := ‹_ ∧ _ ∧ Upd _ _ _›; exact ⟨hu4.cell h.1 (fun f => f), hu4.cell h.2.1 (fun f => f), h.2.2.trans hu4 (fun _ _ f => f)⟩)
          | (have h := ‹_ ∧ _ ∧ Upd _ _ _›; exact ⟨((Upd.refl (fun _ => False) _).alloc _).cell h.1 (fun f => f), ((Upd.refl (fun _ => False) _).alloc _).cell h.2.1 (fun f => f), h.2.2.alloc _⟩))
        (first
          | (go_at_call 21; refine (block_At _ _ _ _ (by omega) (by omega)).mono ?_; rintro e w2 ⟨rfl, hu2⟩)
          | (go_at_call 36; refine (together_new3 _ _ _ _ (by have q1 := at_len v 0 at_; have q2 := at_len v (at_ + s.length) (64 - (at_ + s.length)); omega)).mono ?_; rintro e w4 ⟨rfl, hu4⟩))
      have hS := ‹_ ∧ _ ∧ Upd _ _ _›
      go_wp2
      go_ret
      exact ⟨ret_str (by rw [HR.out, List.append_assoc]), ((Upd.refl _ _).alloc _).trans (hu.trans hS.2.2 (fun _ _ f => f)) (fun _ _ f => f)⟩

end Go.Proofs.YtiabomfkmfokeaaDoor
