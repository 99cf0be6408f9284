/- The fuse: act with Write's closure; Write; New. -/
import Derived.Test.YtocioaondjgceaaGreatDoorFz0
set_option linter.unusedVariables false
set_option linter.unusedSimpArgs false
namespace Go.Proofs.YtocioaondjgceaaGreatDoor
open Go.RowKit Go.Maps

/-- What Write's closure holds: where, what, and the error's cell. -/
structure WrC (w : World) (pa ps pe : Nat) (k : Int) (s : List UInt8) (e0 : Int) : Prop where
  a : ∃ fr, w.heap[pa]? = some (.cells #[.int .i64 k] 3 fr)
  s : ∃ fr, w.heap[ps]? = some (.cells #[.string ⟨s.toArray⟩] 9 fr)
  e : w.heap[pe]? = some (.cells #[.int .i64 e0] 29 (0, 0))
theorem WrC.upd {F : Nat → Prop} {w w' : World} {pa ps pe : Nat} {k : Int} {s : List UInt8} {e0 : Int} (h : WrC w pa ps pe k s e0) (hu : Upd F w w') (h1 : ¬ F pa) (h2 : ¬ F ps) (h3 : ¬ F pe) : WrC w' pa ps pe k s e0 := by
  obtain ⟨⟨f1, a⟩, ⟨f2, b⟩, c⟩ := h
  exact ⟨⟨f1, hu.heap a h1⟩, ⟨f2, hu.heap b h2⟩, hu.heap c h3⟩
theorem WrC.ne {w : World} {pa ps pe : Nat} {k : Int} {s : List UInt8} {e0 : Int} (h : WrC w pa ps pe k s e0) {bf b bs bm cap : Nat} {cad : Option Addr} {cc : Nat} {f : Fz} {d : List Dv.Cel} (h2 : FD w bf b bs bm cap cad cc f d) :
    (pa ≠ bf ∧ pa ≠ bs ∧ pa ≠ bm) ∧ (ps ≠ bf ∧ ps ≠ bs ∧ ps ≠ bm) ∧ (pe ≠ bf ∧ pe ≠ bs ∧ pe ≠ bm ∧ pe ≠ b ∧ pe ≠ pa ∧ pe ≠ ps) ∧ (∀ g, cad = some ⟨g, 0, none⟩ → f.ks ≠ [] → pe ≠ g) := by
  obtain ⟨⟨f1, a⟩, ⟨f2, b'⟩, c⟩ := h
  obtain ⟨cs, hb, _⟩ := h2.dev.row
  obtain ⟨es, cl, hm, _⟩ := h2.dev.waits
  have hz := h2.fz
  have hd := h2.dev.dev
  refine ⟨⟨?_, ?_, ?_⟩, ⟨?_, ?_, ?_⟩, ⟨?_, ?_, ?_, ?_, ?_, ?_⟩, fun g hg hne e => ?_⟩
  · intro e; rw [e, hz] at a; simp at a
  · intro e; rw [e, hb] at a; simp at a
  · intro e; rw [e, hm] at a; simp at a
  · intro e; rw [e, hz] at b'; simp at b'
  · intro e; rw [e, hb] at b'; simp at b'
  · intro e; rw [e, hm] at b'; simp at b'
  · intro e; rw [e, hz] at c; simp at c
  · intro e; rw [e, hb] at c; simp at c
  · intro e; rw [e, hm] at c; simp at c
  · intro e; rw [e, hd] at c; simp at c
  · intro e; rw [e, a] at c; simp at c
  · intro e; rw [e, b'] at c; simp at c
  · obtain ⟨_, _, _, _, cs', hg'⟩ := h2.far g hg hne
    rw [e, hg'] at c; simp at c
set_option maxRecDepth 100000 in
theorem write_f {w : World} {b bs bm cap : Nat} {d : List Dv.Cel} (h : DevAt w b bs bm cap d) {pa ps pe : Nat} {k : Int} {s : List UInt8} {e0 : Int} (hc : WrC w pa ps pe k s e0) (hne : pe ≠ b ∧ pe ≠ bs ∧ pe ≠ bm) (hsl : s.length ≤ 9223372036854775807) :
    Calls Tryz.prog 65 #[.pointer (some ⟨b, 0, none⟩), .pointer (some ⟨pa, 0, none⟩), .pointer (some ⟨ps, 0, none⟩), .pointer (some ⟨pe, 0, none⟩)] w fun e w' => e = .returned (.tuple #[]) ∧
      DevAt w' b bs bm cap (writeE d k s).1 ∧ w'.heap[pe]? = some (.cells #[.int .i64 (writeE d k s).2] 29 (0, 0)) ∧ Upd (fun i => i = bm ∨ i = pe) w w' := by
  have HW := Lib.hid (dev_Write h k s hsl)
  obtain ⟨⟨f1, a⟩, ⟨f2, b'⟩, c⟩ := hc
  have ca := cell_heap a 0 _ rfl
  have cs := cell_heap b' 0 _ rfl
  have HC := Lib.hid c
  generalize writeE d k s = rr at HW ⊢
  obtain ⟨d', r⟩ := rr
  clear h a b' c
  go_enter Tryz.func65, Tryz.ntmps65
  go_wp2_with (fail)
  refine HW.out.mono ?_
  rintro e w2 ⟨rfl, hd2, u2⟩
  have hpe := u2.heap HC.out hne.2.2
  have ce := cell_heap hpe 0 _ rfl
  have fe := free_heap hpe 0
  have hu3 : Upd (fun i => i = pe) w2 (w2.setCell ⟨pe, 0, none⟩ (.int .i64 r)) := (Upd.refl (fun i => i = pe) w2).setCell (p := ⟨pe, 0, none⟩) (fun _ => rfl) _
  have HPE := Lib.hid (heap_setCell_eq (i := 0) hpe (.int .i64 r))
  have HD2 := Lib.hid (hd2.upd hu3 (fun e => hne.1 e.symm) (fun e => hne.2.1 e.symm) (fun e => hne.2.2 e.symm))
  have HU := Lib.hid ((u2.mono (fun i _ e => (Or.inl e : i = bm ∨ i = pe))).trans hu3 (fun i _ e => Or.inr e))
  clear hd2 u2 hu3 hpe
  go_wp2
  go_end0
  exact ⟨rfl, HD2.out, HPE.out, HU.out⟩

def Fz.odd (ks : List Int) : Bool := match ks with | [] => false | x :: _ => Int.tmod x 2 != 0
/-- one more act: done or not, and what becomes of the fuse -/
def Fz.does (f : Fz) : Bool := f.holding && (f.left != 0 || Fz.odd f.ks)
def Fz.act (f : Fz) (d d1 : List Dv.Cel) : Bool × Fz × List Dv.Cel :=
  if f.holding then
    if f.left = 0 then (false, { f with acts := f.acts + 1, holding := false }, Dv.settleF (crashC f.ks) 0 (if Fz.odd f.ks then d1 else d))
    else (true, { f with acts := f.acts + 1, left := if 0 < f.left then f.left - 1 else f.left }, d1)
  else (false, f, d)
set_option maxHeartbeats 4000000 in
set_option maxRecDepth 100000 in
theorem fuse_act_W {w : World} {bf b bs bm cap : Nat} {cad : Option Addr} {cc : Nat} {f : Fz} {d : List Dv.Cel} (h : FD w bf b bs bm cap cad cc f d) (hacts : f.acts ≤ 4611686018427387904) {pa ps pe : Nat} {k : Int} {s : List UInt8} {e0 : Int} (hc : WrC w pa ps pe k s e0) (hsl : s.length ≤ 9223372036854775807) :
    Calls Tryz.prog 64 #[.pointer (some ⟨bf, 0, none⟩), .func (.func 65) #[] #[.pointer (some ⟨pa, 0, none⟩), .pointer (some ⟨ps, 0, none⟩), .pointer (some ⟨pe, 0, none⟩)]] w fun e w' =>
      e = .returned (.bool (f.act d (writeE d k s).1).1) ∧ FD w' bf b bs bm cap cad cc (f.act d (writeE d k s).1).2.1 (f.act d (writeE d k s).1).2.2 ∧
      w'.heap[pe]? = some (.cells #[.int .i64 (if f.does then (writeE d k s).2 else e0)] 29 (0, 0)) ∧ Upd (fun i => FdF bf bs bm i ∨ i = pe) w w' := by
  have HD := Lib.hid (fuse_Down h)
  obtain ⟨c0, c1, c2, c3, c4, hfr⟩ := h.cell
  have HNE := Lib.hid (hc.ne h)
  have HC := Lib.hid hc
  obtain ⟨hok1, hok2, hok3⟩ := h.ok
  obtain ⟨left, acts, holding, ks⟩ := f
  unfold Fz.act Fz.does
  dsimp only at *
  have H := Lib.hid h
  cases holding
  · clear h hc hok1 hok2 hok3 hfr
    go_enter Tryz.func64, Tryz.ntmps64
    go_wp2_with (fail)
    refine HD.out.mono ?_
    rintro e wz ⟨rfl, rfl⟩
    go_wp2
    go_ret
    exact ⟨rfl, H.out, HC.out.e, Upd.refl _ _⟩
  simp only [if_true, Bool.true_and]
  have w1 : IntKind.i64.wrap ((acts : Int) + 1) = (acts : Int) + 1 := IntWalk.i64_in _ (by omega)
  have f3 := hfr 3
  have f2 := hfr 2
  have f4 := hfr 4
  have u3 : Upd (fun i => i = bf) w (w.setCell ⟨bf, 3, none⟩ (.int .i64 ((acts : Int) + 1))) := (Upd.refl (fun i => i = bf) w).setCell (p := ⟨bf, 3, none⟩) (fun _ => rfl) _
  have h3 : FD (w.setCell ⟨bf, 3, none⟩ (.int .i64 ((acts : Int) + 1))) bf b bs bm cap cad cc ⟨left, acts + 1, true, ks⟩ d := h.set u3 ⟨hok1, hok2, hok3⟩ rfl (by rw [heap_setCell_eq h.fz]; simp [Fz.cells])

  by_cases hz : left = 0
  · subst hz
    simp only [if_true, bne_self_eq_false, Bool.false_or]
    cases ks with
    | nil =>
      have ho : Fz.odd [] = false := rfl
      rw [ho]
      simp only [if_neg (show ¬ (false = true) by decide)]
      clear ho
      have HBl := Lib.hid (fuse_Blow h3)
      have H3 := Lib.hid h3
      have HU3 := Lib.hid u3
      clear h hc hfr h3 u3
      go_enter Tryz.func64, Tryz.ntmps64
      go_wp2_with (fail)
      refine HD.out.mono ?_
      rintro e wz ⟨rfl, rfl⟩
      go_wp2_with (fail)
      refine HBl.out.mono ?_
      rintro e w4 ⟨rfl, h4, u4⟩
      go_wp2
      go_ret
      exact ⟨rfl, h4, ((HU3.out.mono (fun i _ e => (Or.inl e : FdF bf bs bm i))).trans u4 (fun i _ e => e)).heap HC.out.e (fun hf => by have := HNE.out.2.2.1; rcases hf with e | e | e <;> omega), (HU3.out.mono (fun i _ e => (Or.inl (Or.inl e) : FdF bf bs bm i ∨ i = pe))).trans u4 (fun i _ e => Or.inl e)⟩
    | cons x xs =>
      obtain ⟨a, rfl, hx0⟩ := h3.nums 0 (by simp)
      have hx : (w.setCell ⟨bf, 3, none⟩ (.int .i64 ((acts : Int) + 1))).cell? a = some (.int .i64 x) := hx0
      have hx2 : (w.setCell ⟨bf, 3, none⟩ (.int .i64 ((acts : Int) + 1))).cell? (a.add 0) = some (.int .i64 x) := hx0
      have hlen : (0 : Int) < ((x :: xs).length : Int) := by rw [List.length_cons]; omega
      obtain ⟨n, hn⟩ : ∃ n, n = (x :: xs).length := ⟨_, rfl⟩
      have hn0 : 0 < n := by rw [hn]; simp
      have hn9 : n ≤ 9223372036854775807 := by rw [hn]; exact hok3
      rw [← hn] at c1 hlen
      clear hx0 hok3
      obtain ⟨y, hy⟩ : ∃ y, y = Int.tmod x 2 := ⟨_, rfl⟩
      have y1 : Int.tmod x 2 = y := hy.symm
      by_cases ho : y = 0
      · subst ho
        have hodd : Fz.odd (x :: xs) = false := by show (Int.tmod x 2 != 0) = false; rw [y1]; rfl
        rw [hodd]
        simp only [if_neg (show ¬ (false = true) by decide)]
        clear hodd hn hy
        have HBl := Lib.hid (fuse_Blow h3)
        have H3 := Lib.hid h3
        have HU3 := Lib.hid u3
        clear h hc hfr h3 u3
        go_enter Tryz.func64, Tryz.ntmps64
        go_wp2_with (fail)
        refine HD.out.mono ?_
        rintro e wz ⟨rfl, rfl⟩
        go_wp2_with (fail)
        refine HBl.out.mono ?_
        rintro e w4 ⟨rfl, h4, u4⟩
        go_wp2
        go_ret
        exact ⟨rfl, h4, ((HU3.out.mono (fun i _ e => (Or.inl e : FdF bf bs bm i))).trans u4 (fun i _ e => e)).heap HC.out.e (fun hf => by have := HNE.out.2.2.1; rcases hf with e | e | e <;> omega), (HU3.out.mono (fun i _ e => (Or.inl (Or.inl e) : FdF bf bs bm i ∨ i = pe))).trans u4 (fun i _ e => Or.inl e)⟩
      · have hodd : Fz.odd (x :: xs) = true := by show (Int.tmod x 2 != 0) = true; rw [y1]; simpa using ho
        rw [hodd]
        simp only [if_true]
        have hob : (y != 0) = true := by simpa using ho
        clear hodd hn hy
        have hc3 := HC.out.upd u3 (fun e => by have := HNE.out.1; omega) (fun e => by have := HNE.out.2.1; omega) (fun e => by have := HNE.out.2.2.1; omega)
        have HWf := Lib.hid (write_f h3.dev hc3 (by have := HNE.out.2.2.1; omega) hsl)
        have H3 := Lib.hid h3
        have HU3 := Lib.hid u3
        have g0 := h3.cell.1
        have HPE := Lib.hid (HNE.out.2.2)
        clear h hc hfr h3 u3 hc3
        generalize writeE d k s = rr at HWf ⊢
        obtain ⟨d1, r⟩ := rr
        go_enter Tryz.func64, Tryz.ntmps64
        go_wp2_with (fail)
        refine HD.out.mono ?_
        rintro e wz ⟨rfl, rfl⟩
        go_wp2_with (fail)
        refine HWf.out.mono ?_
        rintro e w4 ⟨rfl, hd4, hp4, u4⟩
        have h4 := H3.out.turned hd4 u4 (fun e => by have := H3.out.ne; have := HPE.out.1; omega) (fun g e hne hf => by have := H3.out.far g e hne; have := HPE.out.2 g e hne; omega)
        have hu4 : Upd (fun i => FdF bf bs bm i ∨ i = pe) w w4 := (HU3.out.mono (fun i _ e => (Or.inl (Or.inl e) : FdF bf bs bm i ∨ i = pe))).trans u4 (fun i _ e => e.elim (fun e => Or.inl (Or.inr (Or.inr e))) (fun e => Or.inr e))
        have HBl := Lib.hid (fuse_Blow h4)
        have HP4 := Lib.hid hp4
        have HU4 := Lib.hid hu4
        clear hp4 hu4 u4 hd4 h4
        go_wp2_with (fail)
        refine HBl.out.mono ?_
        rintro e w5 ⟨rfl, h5, u5⟩
        go_wp2
        go_ret
        exact ⟨rfl, h5, u5.heap HP4.out (fun hf => by have := HPE.out.1; rcases hf with e | e | e <;> omega), HU4.out.trans u5 (fun i _ e => Or.inl e)⟩
  · simp only [if_neg hz]
    have hzb : (left == 0) = false := by simpa using hz
    have hzb2 : (left != 0) = true := by simpa using hz
    rw [hzb2]
    simp only [Bool.true_or, if_true]
    clear hzb2
    by_cases hp : 0 < left
    · rw [if_pos hp]
      have w2 : IntKind.i64.wrap (left - 1) = left - 1 := IntWalk.i64_in _ (by omega)
      have u5 : Upd (fun i => i = bf) w ((w.setCell ⟨bf, 3, none⟩ (.int .i64 ((acts : Int) + 1))).setCell ⟨bf, 2, none⟩ (.int .i64 (left - 1))) := u3.setCell (p := ⟨bf, 2, none⟩) (fun _ => rfl) _
      have h5 : FD ((w.setCell ⟨bf, 3, none⟩ (.int .i64 ((acts : Int) + 1))).setCell ⟨bf, 2, none⟩ (.int .i64 (left - 1))) bf b bs bm cap cad cc ⟨left - 1, acts + 1, true, ks⟩ d := h.set u5 ⟨by show -1 ≤ left - 1; omega, by show left - 1 ≤ _; omega, hok3⟩ rfl (by rw [heap_setCell_eq (heap_setCell_eq h.fz _)]; simp [Fz.cells])
      have hc3 := HC.out.upd u5 (fun e => by have := HNE.out.1; omega) (fun e => by have := HNE.out.2.1; omega) (fun e => by have := HNE.out.2.2.1; omega)
      have HWf := Lib.hid (write_f h5.dev hc3 (by have := HNE.out.2.2.1; omega) hsl)
      have H3 := Lib.hid h5
      have HU3 := Lib.hid u5
      have g0 := h5.cell.1
      have HPE := Lib.hid (HNE.out.2.2)
      clear h hc hfr h3 u3 hc3 h5 u5
      generalize writeE d k s = rr at HWf ⊢
      obtain ⟨d1, r⟩ := rr
      go_enter Tryz.func64, Tryz.ntmps64
      go_wp2_with (fail)
      refine HD.out.mono ?_
      rintro e wz ⟨rfl, rfl⟩
      go_wp2_with (fail)
      refine HWf.out.mono ?_
      rintro e w4 ⟨rfl, hd4, hp4, u4⟩
      have h4 := H3.out.turned hd4 u4 (fun e => by have := H3.out.ne; have := HPE.out.1; omega) (fun g e hne hf => by have := H3.out.far g e hne; have := HPE.out.2 g e hne; omega)
      have hu4 : Upd (fun i => FdF bf bs bm i ∨ i = pe) w w4 := (HU3.out.mono (fun i _ e => (Or.inl (Or.inl e) : FdF bf bs bm i ∨ i = pe))).trans u4 (fun i _ e => e.elim (fun e => Or.inl (Or.inr (Or.inr e))) (fun e => Or.inr e))
      have H4 := Lib.hid h4
      have HP4 := Lib.hid hp4
      have HU4 := Lib.hid hu4
      clear hp4 hu4 u4 hd4 h4
      go_wp2
      go_ret
      exact ⟨rfl, H4.out, HP4.out, HU4.out⟩
    · rw [if_neg hp]
      have hc3 := HC.out.upd u3 (fun e => by have := HNE.out.1; omega) (fun e => by have := HNE.out.2.1; omega) (fun e => by have := HNE.out.2.2.1; omega)
      have HWf := Lib.hid (write_f h3.dev hc3 (by have := HNE.out.2.2.1; omega) hsl)
      have H3 := Lib.hid h3
      have HU3 := Lib.hid u3
      have g0 := h3.cell.1
      have HPE := Lib.hid (HNE.out.2.2)
      clear h hc hfr h3 u3 hc3
      generalize writeE d k s = rr at HWf ⊢
      obtain ⟨d1, r⟩ := rr
      go_enter Tryz.func64, Tryz.ntmps64
      go_wp2_with (fail)
      refine HD.out.mono ?_
      rintro e wz ⟨rfl, rfl⟩
      go_wp2_with (fail)
      refine HWf.out.mono ?_
      rintro e w4 ⟨rfl, hd4, hp4, u4⟩
      have h4 := H3.out.turned hd4 u4 (fun e => by have := H3.out.ne; have := HPE.out.1; omega) (fun g e hne hf => by have := H3.out.far g e hne; have := HPE.out.2 g e hne; omega)
      have hu4 : Upd (fun i => FdF bf bs bm i ∨ i = pe) w w4 := (HU3.out.mono (fun i _ e => (Or.inl (Or.inl e) : FdF bf bs bm i ∨ i = pe))).trans u4 (fun i _ e => e.elim (fun e => Or.inl (Or.inr (Or.inr e))) (fun e => Or.inr e))
      have H4 := Lib.hid h4
      have HP4 := Lib.hid hp4
      have HU4 := Lib.hid hu4
      clear hp4 hu4 u4 hd4 h4
      go_wp2
      go_ret
      exact ⟨rfl, H4.out, HP4.out, HU4.out⟩

end Go.Proofs.YtocioaondjgceaaGreatDoor
