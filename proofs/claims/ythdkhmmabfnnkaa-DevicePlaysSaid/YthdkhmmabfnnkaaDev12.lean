/- Chapter 10's helpers: full, some, left. -/
import Derived.Test.YthdkhmmabfnnkaaDev11
import Derived.Test.YthdkhmmabfnnkaaShelf
set_option linter.unusedVariables false
set_option linter.unusedSimpArgs false
namespace Go.Proofs.Ythdkhmmabfnnkaa
open Go.RowKit Go.Maps

theorem rep0 (c : Nat) (w : World) (hc : c ≤ 1000000000) : Calls Try.prog 25 #[.string ⟨#[0]⟩, .int .i64 c] w (StrR (List.replicate c 0) w) := by
  refine (Try.strings_Repeat ⟨#[0]⟩ c w (by omega) (by show 1 * c ≤ _; omega)).mono ?_
  rintro e w' ⟨rfl, hb⟩
  refine ⟨?_, (Upd.of_below hb).mono (fun i hi h => by omega)⟩
  have : Lib.repeatL (⟨#[0]⟩ : ByteArray).data.toList c = List.replicate c 0 := by
    show Lib.repeatL [0] c = _
    clear hc hb
    induction c with
    | zero => rfl
    | succ c ih => rw [List.replicate_succ, ← ih]; rfl
  rw [this]
theorem law_full (s : List UInt8) (w : World) (hs : s.length ≤ 1000000) : Calls Try.prog 17 #[.string ⟨s.toArray⟩] w (StrR (Dv.full s) w) := by
  obtain ⟨c, hc⟩ : ∃ c, c = 128 - s.length := ⟨_, rfl⟩
  obtain ⟨l, hl⟩ : ∃ l, l = s.length := ⟨_, rfl⟩
  have hR := fun w => rep0 c w (by omega)
  have HR := Lib.hid hR
  have hz : (s.toArray).size = l := by rw [List.size_toArray, hl]
  have y1 : IntKind.i64.wrap (128 - (l : Int)) = 128 - (l : Int) := IntWalk.i64_in _ (by omega)
  have hf : Dv.full s = s ++ List.replicate c 0 := by unfold Dv.full; rw [hc]
  rw [hf]
  have HC := Lib.hid hc
  by_cases hb : 128 - (l : Int) < 0
  · have hc0 : c = 0 := by omega
    have y3 : max (0 : Int) (128 - (l : Int)) = (c : Int) := by omega
    have hcc : c ≤ 128 := by omega
    have hll : l ≤ 1000000 := by omega
    clear hR hf hc hl hc0
    go_enter Try.func17, Try.ntmps17
    go_wp2_with (fail)
    refine (HR.out _).mono ?_
    rintro e w1 ⟨rfl, u1⟩
    go_wp2
    go_ret
    exact ⟨rfl, u1⟩
  · have y2 : 128 - (l : Int) = (c : Int) := by omega
    clear hR hf hc hl
    go_enter Try.func17, Try.ntmps17
    go_wp2_with (fail)
    refine (HR.out _).mono ?_
    rintro e w1 ⟨rfl, u1⟩
    go_wp2
    go_ret
    exact ⟨rfl, u1⟩

/-- The chapter's device. -/
def someD : List Dv.Cel := (writeE (newD 512) 3 [97, 98]).1
theorem law_some (w : World) : Calls Try.prog 23 #[] w fun e w' => ∃ b bs bm cap, e = .returned (.pointer (some ⟨b, 0, none⟩)) ∧ w.heap.size ≤ b ∧ w.heap.size ≤ bs ∧ w.heap.size ≤ bm ∧ DevAt w' b bs bm cap someD ∧ Upd (fun _ => False) w w' := by
  have HN := Lib.hid (dev_New_ok 512 w (by omega) (by omega))
  go_enter Try.func23, Try.ntmps23
  go_wp2_with (go_at_call 7; refine HN.out.mono ?_; rintro e w1 ⟨rfl, hd, u1⟩)
  refine (dev_Write hd 3 [97, 98] (by decide)).mono ?_
  rintro e w2 ⟨rfl, hd2, u2⟩
  go_wp2
  go_ret
  exact ⟨_, _, _, _, rfl, by omega, by omega, by omega, hd2, u1.trans u2 (fun i hi f => by omega)⟩

theorem settle_none (c : Nat → Nat) : ∀ (d : List Dv.Cel) (i : Nat) (x : Dv.Cel), x ∈ Dv.settleF c i d → x.2 = none
  | [], _, x, h => by cases h
  | (s, none) :: r, i, x, h => by
    unfold Dv.settleF at h
    rcases List.mem_cons.1 h with rfl | h
    · rfl
    · exact settle_none c r i x h
  | (s, some y) :: r, i, x, h => by
    unfold Dv.settleF at h
    rcases List.mem_cons.1 h with rfl | h
    · rfl
    · exact settle_none c r (i + 1) x h
theorem settle_waits (c : Nat → Nat) (d : List Dv.Cel) (i : Nat) : waitsN (Dv.settleF c i d) = 0 := by
  unfold waitsN
  rw [List.length_eq_zero_iff, List.filter_eq_nil_iff]
  intro x hx
  rw [settle_none c d i x hx]
  simp
theorem sure_read {d : List Dv.Cel} (h : waitsN d = 0) (k : Int) : sureS d k = (readE d k).1 := by
  unfold sureS readE
  split
  · rfl
  · rename_i hk
    have hlt : k.toNat < d.length := by omega
    unfold Dv.shows
    unfold waitsN at h
    rw [List.length_eq_zero_iff, List.filter_eq_nil_iff] at h
    have := h _ (List.mem_of_getElem? (cell_at d k.toNat hlt))
    cases ho : (Dv.cell d k.toNat).2 with
    | none => rfl
    | some y => rw [ho] at this; simp at this

def leftL (ks : List Int) : List UInt8 := (readE (Dv.settleF (crashC ks) 0 someD) 3).1
set_option maxHeartbeats 400000 in
theorem law_left {w : World} {ad : Option Addr} {cp : Nat} {ks : List Int} (hl : ks.length ≤ 9223372036854775807) (hrow : ∀ j, j < ks.length → ∃ a : Addr, ad = some a ∧ w.cell? (a.add j) = some (.int .i64 (ks.getD j 0)))
    (hlt : ∀ a : Addr, ad = some a → a.block < w.heap.size) :
    Calls Try.prog 24 #[.slice ad ks.length cp] w (StrR (leftL ks) w) := by
  have HS := Lib.hid (law_some w)
  obtain ⟨d', hd'⟩ : ∃ d', d' = Dv.settleF (crashC ks) 0 someD := ⟨_, rfl⟩
  have hw0 : waitsN d' = 0 := by rw [hd']; exact settle_waits _ _ _
  have hsr := sure_read hw0 3
  have hL : leftL ks = (readE d' 3).1 := by unfold leftL; rw [hd']
  rw [hL]
  obtain ⟨n, hn⟩ : ∃ n, n = ks.length := ⟨_, rfl⟩
  have HD := Lib.hid hd'
  have HN := Lib.hid hn
  have HW := Lib.hid hw0
  have HSR := Lib.hid hsr
  have HR := Lib.hid hrow
  have HLT := Lib.hid hlt
  rw [← hn]
  clear hL hd' hn hw0 hsr hrow hlt
  go_enter Try.func24, Try.ntmps24
  go_wp2_with (go_at_call 23; refine HS.out.mono ?_; rintro e w1 ⟨b, bs, bm, cap, rfl, hb, hbs, hbm, hd, u1⟩)
  have hC := dev_Crash hd (cp := cp) hl (fun j hj => by obtain ⟨g, e, hc⟩ := HR.out j hj; exact ⟨g, e, u1.cell hc (fun f => f)⟩) (fun g e _ => by have := HLT.out g e; omega)
  rw [← HN.out, ← HD.out] at hC
  refine hC.mono ?_
  rintro e w2 ⟨rfl, hd2, u2⟩
  clear hC hd
  obtain ⟨s, hs⟩ : ∃ s, s = (readE d' 3).1 := ⟨_, rfl⟩
  rw [← hs]
  have hRd := dev_Read hd2 3
  unfold StrE at hRd
  rw [← hs] at hRd
  obtain ⟨ec, hec⟩ : ∃ ec, ec = (readE d' 3).2 := ⟨_, rfl⟩
  rw [← hec] at hRd
  have hsu : sureS d' 3 = s := by rw [HSR.out, hs]
  have HSU := Lib.hid hsu
  have HSV := Lib.hid hs
  clear hs hec hsu
  go_wp2_with (fail)
  refine hRd.mono ?_
  rintro e w3 ⟨rfl, u3⟩
  have hd3 := hd2.upd u3 (fun f => f) (fun f => f) (fun f => f)
  have hWt := dev_Waiting hd3
  rw [HW.out] at hWt
  have hSu := dev_Sure hd3 3
  rw [HSU.out] at hSu
  unfold StrR at hSu
  clear hRd
  go_wp2_with (fail)
  refine hWt.mono ?_
  rintro e w4 ⟨rfl, rfl⟩
  clear hWt
  go_wp2_with (fail)
  refine hSu.mono ?_
  rintro e w5 ⟨rfl, u5⟩
  clear hSu
  go_wp2
  go_ret
  exact ⟨ret_str HSV.out, ((u1.trans u2 (fun i hi f => by omega)).trans u3 (fun _ _ f => f)).trans u5 (fun _ _ f => f)⟩

end Go.Proofs.Ythdkhmmabfnnkaa
