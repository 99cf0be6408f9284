/- The contracts of At, of block and of its reference. -/
import Derived.Test.YtiabomfkmfokeaaDoorBlk1
set_option linter.unusedVariables false
set_option linter.unusedSimpArgs false
namespace Go.Proofs.YtiabomfkmfokeaaDoor
open Go.RowKit

def atTo (l : List UInt8) (f k : Nat) : List UInt8 := (List.range k).map fun i => Blk.byteAt l (f + i)
theorem atTo_length (l : List UInt8) (f k : Nat) : (atTo l f k).length = k := by simp [atTo]
theorem atTo_succ (l : List UInt8) (f k : Nat) : atTo l f (k + 1) = atTo l f k ++ [Blk.byteAt l (f + k)] := by simp [atTo, List.range_succ]
theorem byteAt_in (l : List UInt8) (i : Nat) (h : i < l.length) (hs : i < (⟨l.toArray⟩ : ByteArray).size) : (((⟨l.toArray⟩ : ByteArray)[i]'hs).toNat : Int) = ((Blk.byteAt l i).toNat : Int) := by
  simp [Blk.byteAt, List.getD, h]; rfl
theorem byteAt_out (l : List UInt8) (i : Nat) (h : l.length ≤ i) : Blk.byteAt l i = 0 := by simp [Blk.byteAt, List.getD, List.getElem?_eq_none h]

set_option maxHeartbeats 400000 in
set_option maxRecDepth 100000 in
theorem block_At (l : List UInt8) (frm n : Int) (w : World) (hl : l.length ≤ 1000000000) (hf : frm ≤ 9223372036854775807) :
    Calls Tryd.prog 21 #[.string ⟨l.toArray⟩, .int .i64 frm, .int .i64 n] w fun e w' => e = .returned (.string ⟨(Blk.at_ l frm n).toArray⟩) ∧ Upd (fun _ => False) w w' := by
  obtain ⟨f, hf0⟩ : ∃ f : Nat, f = frm.toNat := ⟨_, rfl⟩
  obtain ⟨N, hN0⟩ : ∃ N : Nat, N = (min n 64).toNat := ⟨_, rfl⟩
  obtain ⟨m, hm⟩ : ∃ m : Int, (if 64 < n then (64 : Int) else n) = m := ⟨_, rfl⟩
  have h1 : (if 0 < frm then frm else 0) = (f : Int) := by split <;> omega
  have h3 : (if 0 < m then m else 0) = (N : Int) := by rw [hN0]; split at hm <;> split <;> omega
  have hf2 : (f : Int) ≤ 9223372036854775807 := by omega
  have hN : N ≤ 64 := by omega
  have hA : Blk.at_ l frm n = atTo l f N := by rw [hf0, hN0]; rfl
  rw [hA]
  clear hA hf0 hN0 hf
  obtain ⟨i0, hi, hz0, hz1, hz2⟩ := info_parts Tryd.infoU8
  go_enter Tryd.func21, Tryd.ntmps21
  go_wp2
  clear h1 h3 hm
  go_loopw [7, 16] (fun v i wr => ∃ k : Nat, k ≤ N ∧ i = .int .i64 k ∧ wr.ownsRow w.heap.size 5 1 v k (bytesV (atTo l f k)) ∧ Below w.heap.size w wr) (fun _ i _ => N - (intOf i).toNat)
  case atStart => exact ⟨0, Nat.zero_le _, rfl, World.ownsRow_nil _ _ _ _, Below.refl _ _⟩
  case round =>
    obtain ⟨k, hk, rfl, hown, hB⟩ := hrel
    by_cases hlt : k < N
    · have hBs := hB.size
      by_cases hin : f + k < l.length
      · have c1 : (f : Int) < (l.length : Int) := by omega
        have c2 : (k : Int) < (l.length : Int) - (f : Int) := by omega
        have hh : f + k < (⟨l.toArray⟩ : ByteArray).size := by rw [size_list]; exact hin
        go_wp2_with (at_builtin; refine wpList_append_lies _ rfl (.tmp 36) (.tmp 38) 48 rfl w.heap.size 5 i0 (.int .u8 0) 1 1 Tryd.underlying48 hi hz0 hz1 hz2 rfl (by decide) _ k _ rfl (hown.alloc _) ⟨wr.heap.size, 0, none⟩ 1 1 [.int .u8 (((⟨l.toArray⟩ : ByteArray)[f + k]'hh).toNat : Int)] rfl rfl (news_one wr _ _) (one_int _ _) (by decide) (by unfold maxLen; omega) (by omega) (by simp; omega) _ rfl ?_)
        intro g cap w1 hown2 hgrow hat hglt
        have hB2 := (hB.alloc hBs _).grown hgrow (by simp; omega) (fun k h => (hown.lt k h).1)
        rw [byteAt_in l (f + k) hin] at hown2
        clear hown hgrow
        go_wp2
        go_roundw
        case rel => exact ⟨k + 1, by omega, by go_num, by rw [atTo_succ, bytesV_append]; exact hown2, hB2⟩
        case measure => simp [intOf]; omega
      · have hz := Lib.hid (byteAt_out l (f + k) (by omega))
        by_cases c1 : (f : Int) < (l.length : Int)
        · have c2 : ¬ (k : Int) < (l.length : Int) - (f : Int) := by omega
          go_wp2_with (at_builtin; refine wpList_append_lies _ rfl (.tmp 36) (.tmp 38) 48 rfl w.heap.size 5 i0 (.int .u8 0) 1 1 Tryd.underlying48 hi hz0 hz1 hz2 rfl (by decide) _ k _ rfl (hown.alloc _) ⟨wr.heap.size, 0, none⟩ 1 1 [.int .u8 0] rfl rfl (news_one wr _ _) (one_int _ _) (by decide) (by unfold maxLen; omega) (by omega) (by simp; omega) _ rfl ?_)
          intro g cap w1 hown2 hgrow hat hglt
          have hB2 := (hB.alloc hBs _).grown hgrow (by simp; omega) (fun k h => (hown.lt k h).1)
          clear hown hgrow
          go_wp2
          go_roundw
          case rel => exact ⟨k + 1, by omega, by go_num, by rw [atTo_succ, bytesV_append, hz.out]; exact hown2, hB2⟩
          case measure => simp [intOf]; omega
        · go_wp2_with (at_builtin; refine wpList_append_lies _ rfl (.tmp 36) (.tmp 38) 48 rfl w.heap.size 5 i0 (.int .u8 0) 1 1 Tryd.underlying48 hi hz0 hz1 hz2 rfl (by decide) _ k _ rfl (hown.alloc _) ⟨wr.heap.size, 0, none⟩ 1 1 [.int .u8 0] rfl rfl (news_one wr _ _) (one_int _ _) (by decide) (by unfold maxLen; omega) (by omega) (by simp; omega) _ rfl ?_)
          intro g cap w1 hown2 hgrow hat hglt
          have hB2 := (hB.alloc hBs _).grown hgrow (by simp; omega) (fun k h => (hown.lt k h).1)
          clear hown hgrow
          go_wp2
          go_roundw
          case rel => exact ⟨k + 1, by omega, by go_num, by rw [atTo_succ, bytesV_append, hz.out]; exact hown2, hB2⟩
          case measure => simp [intOf]; omega
    · obtain rfl : k = N := by omega
      have hconv := run_conv_row (P := Tryd.prog) wr 48 5 9 Tryd.underlying48 Tryd.underlying5 Tryd.underlying9 _ _ _ (atTo_length l f k).symm hown
      go_wp2
      go_ret
      exact ⟨rfl, (Upd.of_below hB).mono (fun i hi h => by omega)⟩

theorem byteAt_clip (l : List UInt8) (f i : Nat) (h : l.length ≤ f) : Blk.byteAt l (l.length + i) = Blk.byteAt l (f + i) := by rw [byteAt_out _ _ (by omega), byteAt_out _ _ (by omega)]
theorem atTo_clip (l : List UInt8) (f k : Nat) : atTo l (min f l.length) k = atTo l f k := by
  unfold atTo
  by_cases h : f ≤ l.length
  · rw [Nat.min_eq_left h]
  · rw [Nat.min_eq_right (by omega)]; exact List.map_congr_left (fun i _ => byteAt_clip l f i (by omega))

set_option maxHeartbeats 400000 in
set_option maxRecDepth 100000 in
theorem ref_At (l : List UInt8) (frm n : Int) (w : World) (hl : l.length ≤ 1000000000) (hf : frm ≤ 9223372036854775807) :
    Calls Tryd.prog 22 #[.string ⟨l.toArray⟩, .int .i64 frm, .int .i64 n] w fun e w' => e = .returned (.string ⟨(Blk.at_ l frm n).toArray⟩) ∧ Upd (fun _ => False) w w' := by
  obtain ⟨f, hf0⟩ : ∃ f : Nat, f = min frm.toNat l.length := ⟨_, rfl⟩
  obtain ⟨N, hN0⟩ : ∃ N : Nat, N = (min n 64).toNat := ⟨_, rfl⟩
  have hA : Blk.at_ l frm n = atTo l f N := by rw [hf0, hN0, atTo_clip]; rfl
  rw [hA]
  have hN : N ≤ 64 := by omega
  have hfl : f ≤ l.length := by omega
  have HF := Lib.hid hf0
  have HN := Lib.hid hN0
  clear hA hf0 hN0
  obtain ⟨i0, hi, hz0, hz1, hz2⟩ := info_parts Tryd.infoU8
  go_enter Tryd.func22, Tryd.ntmps22
  go_upto_if 10 with (fail)
  go_cut [1] (fun s1 wx => s1 = .int .i64 (frm.toNat : Int) ∧ w = wx)
  case first =>
    go_wp2
    all_goals go_meet
    · exact ⟨congrArg (Value.int .i64) (by omega), rfl⟩
    · exact ⟨congrArg (Value.int .i64) (by omega), rfl⟩
  case rest =>
    obtain ⟨rfl, rfl⟩ := hcut
    have hf2 : (frm.toNat : Int) ≤ 9223372036854775807 := by omega
    go_upto_if 12 with (fail)
    go_cut [2] (fun s2 wx => s2 = .int .i64 (min n 64) ∧ w = wx)
    case first =>
      go_wp2
      all_goals go_meet
      · exact ⟨congrArg (Value.int .i64) (by omega), rfl⟩
      · exact ⟨congrArg (Value.int .i64) (by omega), rfl⟩
    case rest =>
      obtain ⟨rfl, rfl⟩ := hcut
      go_upto_if 16 with (fail)
      go_cut [1] (fun s1 wx => s1 = .int .i64 (f : Int) ∧ w = wx)
      case first =>
        go_wp2
        all_goals go_meet
        all_goals
          have := HF.out
          exact ⟨congrArg (Value.int .i64) (by omega), rfl⟩
      case rest =>
        obtain ⟨rfl, rfl⟩ := hcut
        clear hf2 hf
        go_wp2
        go_loopw [7, 8] (fun v i wr => ∃ k : Nat, k ≤ N ∧ i = .int .i64 k ∧ wr.ownsRow w.heap.size 5 1 v k (bytesV (atTo l f k)) ∧ Below w.heap.size w wr) (fun _ i _ => N - (intOf i).toNat)
        case atStart => exact ⟨0, Nat.zero_le _, rfl, World.ownsRow_nil _ _ _ _, Below.refl _ _⟩
        case round =>
          obtain ⟨k, hk, rfl, hown, hB⟩ := hrel
          by_cases hlt : k < N
          · have hBs := hB.size
            have c1 : (k : Int) < min n 64 := by have := HN.out; omega
            go_wp2_with (first | (at_builtin; refine wpList_append_lies _ rfl (.tmp 24) (.tmp 30) 48 rfl w.heap.size 5 i0 (.int .u8 0) 1 1 Tryd.underlying48 hi hz0 hz1 hz2 rfl (by decide) _ k _ rfl (hown.alloc _) ⟨wr.heap.size, 0, none⟩ 1 1 [.int .u8 ((Blk.byteAt l (f + k)).toNat : Int)] rfl rfl (news_one wr _ _) (one_int _ _) (by decide) (by unfold maxLen; omega) (by omega) (by simp; omega) _ rfl ?_) | (go_at_call 37; refine (ref_byteAt l _ (f + k) _ (by omega) hl (by omega)).mono ?_; rintro e w' ⟨rfl, rfl⟩))
            intro g cap w1 hown2 hgrow hat hglt
            have hB2 := (hB.alloc hBs _).grown hgrow (by simp; omega) (fun k h => (hown.lt k h).1)
            clear hown hgrow
            go_wp2
            go_roundw
            case rel => exact ⟨k + 1, by omega, by go_num, by rw [atTo_succ, bytesV_append]; exact hown2, hB2⟩
            case measure => simp [intOf]; omega
          · have c1 : ¬ (k : Int) < min n 64 := by have := HN.out; omega
            obtain rfl : k = N := by omega
            have hconv := run_conv_row (P := Tryd.prog) wr 48 5 9 Tryd.underlying48 Tryd.underlying5 Tryd.underlying9 _ _ _ (atTo_length l f k).symm hown
            go_wp2
            go_ret
            exact ⟨rfl, (Upd.of_below hB).mono (fun i hi h => by omega)⟩

end Go.Proofs.YtiabomfkmfokeaaDoor
