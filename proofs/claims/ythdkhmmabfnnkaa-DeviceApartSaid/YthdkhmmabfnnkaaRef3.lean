/- The document's device: Barrier. -/
import Derived.Test.YthdkhmmabfnnkaaRef2
import Derived.Outline
set_option linter.unusedVariables false
set_option linter.unusedSimpArgs false
namespace Go.Proofs.Ythdkhmmabfnnkaa
open Go.RowKit Go.Maps

namespace Rv
def barS (x : Sec) : Sec := if x.waits then ⟨x.shows, [], false⟩ else x
def barAt (r : List Sec) (k : Nat) : List Sec := (r.take k).map barS ++ r.drop k
theorem barAt_cell (r : List Sec) (k : Nat) (hk : k < r.length) : cell (barAt r k) k = cell r k := by
  unfold cell barAt
  rw [List.getD_eq_getElem?_getD, List.getD_eq_getElem?_getD, List.getElem?_append_right (by simp; omega)]
  simp [Nat.min_eq_left (Nat.le_of_lt hk)]
theorem barAt_succ (r : List Sec) (k : Nat) (hk : k < r.length) : barAt r (k + 1) = (barAt r k).set k (barS (cell r k)) := by
  unfold barAt
  rw [List.set_append_right _ _ (by simp; omega)]
  rw [List.take_add_one, cell_at r k hk]
  have : r.drop k = cell r k :: r.drop (k + 1) := by
    rw [List.drop_eq_getElem_cons hk]
    congr 1
    have := cell_at r k hk
    rw [List.getElem?_eq_getElem hk] at this
    exact Option.some.inj this
  rw [this]
  simp [Nat.min_eq_left (Nat.le_of_lt hk)]
theorem barAt_len (r : List Sec) (k : Nat) (hk : k ≤ r.length) : (barAt r k).length = r.length := by
  unfold barAt; simp; omega
theorem barAt_all (r : List Sec) (k : Nat) (hk : r.length ≤ k) : barAt r k = r.map barS := by
  unfold barAt; rw [List.take_of_length_le hk, List.drop_of_length_le hk, List.append_nil]
theorem set_same (r : List Sec) (k : Nat) (hk : k < r.length) : r.set k (cell r k) = r := by
  apply List.ext_getElem?
  intro j
  by_cases e : j = k
  · subst e; rw [List.getElem?_set_self hk, cell_at r j hk]
  · rw [List.getElem?_set_ne (fun f => e f.symm)]
end Rv

theorem info_rs : (Try.prog.info? 92).map (·.size) = some 3 := by kernel_rfl
theorem RefAt.store {w : World} {b g cap : Nat} {r : List Rv.Sec} (h : RefAt w b g cap r) (k : Nat) (hk : k < r.length) (x : Rv.Sec) (hx : x.sure.length ≤ 128 ∧ x.shows.length ≤ 128) :
    ∃ w', (storeVar 92 ⟨g, k * 3, none⟩ (.agg #[.string ⟨x.sure.toArray⟩, .string ⟨x.shows.toArray⟩, .bool x.waits])).run Try.prog w = .ok () w' ∧ RefAt w' b g cap (r.set k x) ∧ Upd (fun i => i = g) w w' := by
  obtain ⟨cs, hb, hcs, hcc⟩ := h.row
  have hf := h.fits
  have hrun := run_store_sub (P := Try.prog) w g (k * 3) 92 92 cs [.string ⟨x.sure.toArray⟩, .string ⟨x.shows.toArray⟩, .bool x.waits] hb info_rs (by simp; omega) (by
    intro v hv
    simp only [List.mem_cons, List.not_mem_nil, or_false] at hv
    rcases hv with rfl | rfl | rfl <;> rfl)
  have hU : Upd (fun i => i = g) w (w.setRow g (cs.toList.take (k * 3) ++ [Value.string ⟨x.sure.toArray⟩, .string ⟨x.shows.toArray⟩, .bool x.waits] ++ cs.toList.drop (k * 3 + 3)).toArray) := (Upd.refl (fun i => i = g) w).setRow (fun _ => rfl) _
  refine ⟨_, hrun, h.set k hk x hx hU (fun e => h.ne e) (fun cs' hb' => ?_), hU⟩
  rw [hb] at hb'
  simp only [Option.some.injEq, Obj.cells.injEq, and_true] at hb'
  subst hb'
  have hlen : (cs.toList.take (k * 3)).length = k * 3 := by simp; omega
  refine ⟨_, setRow_at hb _, by simp; omega, fun hlt => ?_, fun j j0 j1 j2 => ?_⟩
  · simp only [List.getElem?_toArray]
    refine ⟨?_, ?_, ?_⟩
    · rw [List.append_assoc, List.getElem?_append_right (by omega), hlen, Nat.sub_self]; rfl
    · rw [List.append_assoc, List.getElem?_append_right (by omega), hlen, show k * 3 + 1 - k * 3 = 1 by omega]; rfl
    · rw [List.append_assoc, List.getElem?_append_right (by omega), hlen, show k * 3 + 2 - k * 3 = 2 by omega]; rfl
  · simp only [List.getElem?_toArray]
    by_cases hj : j < k * 3
    · rw [List.append_assoc, List.getElem?_append_left (by omega), List.getElem?_take_of_lt hj]; simp
    · rw [List.getElem?_append_right (by simp; omega), List.getElem?_drop]
      simp only [List.length_append, hlen, List.length_cons, List.length_nil]
      rw [show k * 3 + 3 + (j - (k * 3 + (0 + 1 + 1 + 1))) = j by omega]; simp

set_option maxHeartbeats 400000 in
set_option maxRecDepth 100000 in
theorem ref_Barrier {w : World} {b g cap : Nat} {r : List Rv.Sec} (h : RefAt w b g cap r) :
    Calls Try.prog 34 #[.pointer (some ⟨b, 0, none⟩)] w fun e w' => e = .returned (.tuple #[]) ∧ RefAt w' b g cap (r.map Rv.barS) ∧ Upd (fun i => i = g) w w' := by
  have hl1 := h.ok.2.1
  have hne := h.ne
  obtain ⟨n, hn⟩ : ∃ n, n = r.length := ⟨_, rfl⟩
  rw [← hn] at hl1
  have HN := Lib.hid hn
  have H := Lib.hid h
  clear h hn
  go_enter Try.func34, Try.ntmps34
  go_wp2
  go_loopw [2] (fun i wr => ∃ k : Nat, k ≤ n ∧ i = .int .i64 k ∧ RefAt wr b g cap (Rv.barAt r k) ∧ Upd (fun i => i = g) w wr) (fun i _ => n - (intOf i).toNat)
  case atStart => exact ⟨0, Nat.zero_le _, rfl, H.out, Upd.refl _ _⟩
  case round =>
    obtain ⟨k, hk, rfl, hr, hu⟩ := hrel
    have HR := Lib.hid hr
    have d0 := cell_heap hr.dev 0 _ rfl
    rw [Rv.barAt_len r k (by have := HN.out; omega), ← HN.out] at d0
    by_cases hlt : k < n
    · have hlt' : k < r.length := by have := HN.out; omega
      have hlt2 : k < (Rv.barAt r k).length := by rw [Rv.barAt_len r k (by omega)]; exact hlt'
      obtain ⟨c0, c1, c2⟩ := hr.cells k hlt2
      obtain ⟨o1, o2⟩ := Rv.cell_ok hr.ok k hlt2
      obtain ⟨cs, hb, hcs, hcc⟩ := hr.row
      rw [Rv.barAt_cell r k hlt'] at c0 c1 c2 o1 o2
      have hsucc := Rv.barAt_succ r k hlt'
      have HX := Lib.hid (Rv.barAt_cell r k hlt')
      generalize Rv.cell r k = x at c0 c1 c2 o1 o2 hsucc HX
      obtain ⟨a, s, q⟩ := x
      have HS := Lib.hid hsucc
      dsimp only at c0 c1 c2 o1 o2
      have hfit := hr.fits
      clear hr hsucc hcc
      cases q
      · have hs2 : Rv.barAt r (k + 1) = Rv.barAt r k := by
          rw [HS.out]
          have := Rv.set_same (Rv.barAt r k) k hlt2
          rw [HX.out] at this
          exact this
        have HS2 := Lib.hid hs2
        clear hs2
        go_wp2
        go_roundw
        case rel => exact ⟨k + 1, by omega, by go_num, by rw [HS2.out]; exact HR.out, hu⟩
        case measure => simp [intOf]; omega
      · obtain ⟨w2, hst, hr2, hu2⟩ := (HR.out.upd ((Upd.refl (fun _ => False) wr).drew) (fun f => f) (fun f => f)).store k hlt2 (Rv.barS ⟨a, s, true⟩) ⟨o2, Nat.zero_le _⟩
        change (storeVar _ _ (.agg #[.string ⟨s.toArray⟩, .string ⟨[].toArray⟩, .bool false])).run _ _ = _ at hst
        rw [← HS.out] at hr2
        have HST := Lib.hid hst
        clear hst
        go_wp2
        go_still_tail 15, (by kernel_rfl)
        change wpList _ _ _ _ _ (World.drew wr)
        trace_state
        refine wpList_store_by rfl 92 (.tmp 36) (.tmp 35) rfl ⟨g, k * 3, none⟩ rfl _ rfl HST.out ?_
        go_wp2
        go_roundw
        case rel => exact ⟨k + 1, by omega, by go_num, hr2, (hu.drew).trans hu2 (fun _ _ f => f)⟩
        case measure => simp [intOf]; omega
    · have he : Rv.barAt r k = r.map Rv.barS := Rv.barAt_all r k (by have := HN.out; omega)
      have HE := Lib.hid he
      clear he
      go_wp2
      go_end0
      exact ⟨rfl, by rw [← HE.out]; exact HR.out, hu⟩

end Go.Proofs.Ythdkhmmabfnnkaa
