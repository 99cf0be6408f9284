/- The contract of the reference's Apply. -/
import Derived.Test.YtiabomfkmfokeaaDoorBlk6
set_option linter.unusedVariables false
set_option linter.unusedSimpArgs false
namespace Go.Proofs.YtiabomfkmfokeaaDoor
open Go.RowKit

/-- 64 bytes as cells. -/
def arrV (f : Nat → UInt8) : Array Value := ((List.range 64).map fun i => Value.int .u8 (f i).toNat).toArray
theorem arrV_size (f : Nat → UInt8) : (arrV f).size = 64 := by simp [arrV]
theorem arrV_get (f : Nat → UInt8) (i : Nat) (h : i < 64) : (arrV f)[i]? = some (.int .u8 (f i).toNat) := by simp [arrV, h]
theorem arrV_out (f : Nat → UInt8) (i : Nat) (h : ¬ i < 64) : (arrV f)[i]? = none := by
  rw [Array.getElem?_eq_none]; rw [arrV_size]; omega
theorem arrV_set (f : Nat → UInt8) (i : Nat) (c : UInt8) : (arrV f).setIfInBounds i (.int .u8 c.toNat) = arrV (fun j => if j = i then c else f j) := by
  apply Array.ext_getElem?
  intro j
  rw [Array.getElem?_setIfInBounds, arrV_size]
  by_cases hj : j < 64
  · rw [arrV_get _ j hj, arrV_get _ j hj]
    by_cases h : i = j
    · subst h; simp [hj]
    · rw [if_neg h, if_neg (fun e => h e.symm)]
  · rw [arrV_out _ j hj, arrV_out _ j hj]
    by_cases h : i = j
    · subst h; simp [hj]
    · rw [if_neg h]
theorem arrV_congr {f g : Nat → UInt8} (h : ∀ i, i < 64 → f i = g i) : arrV f = arrV g := by
  unfold arrV; congr 1; exact List.map_congr_left (fun i hi => by rw [h i (by simpa using hi)])

def seq64 (f : Nat → UInt8) : List UInt8 := (List.range 64).map f
theorem seq64_length (f : Nat → UInt8) : (seq64 f).length = 64 := by simp [seq64]
theorem seq64_congr {f g : Nat → UInt8} (h : ∀ i, i < 64 → f i = g i) : seq64 f = seq64 g := List.map_congr_left (fun i hi => h i (List.mem_range.1 hi))
theorem apply_seq {l : List UInt8} {p : Blk.Pt} {f : Nat → UInt8} (h : ∀ i, i < 64 → f i = Blk.over l p i) : Blk.trim (seq64 f) = Blk.apply l p := by
  rw [seq64_congr h]; rfl
theorem over_cut {v : List UInt8} {p : Blk.Pt} (h : Blk.may p = true) (hc : p.cut = true) (i : Nat) : Blk.over v p i = if (i : Int) < p.n then Blk.byteAt (v.take 64) i else 0 := by
  unfold Blk.over; rw [if_neg (by rw [h]; simp), if_pos hc]
theorem over_splice {v : List UInt8} {p : Blk.Pt} (h : Blk.may p = true) (hc : p.cut = false) (i : Nat) : Blk.over v p i = if p.at_ ≤ i ∧ i < p.at_ + p.s.length then p.s.getD (i - p.at_.toNat) 0 else Blk.byteAt (v.take 64) i := by
  unfold Blk.over; rw [if_neg (by rw [h]; simp), if_neg (by rw [hc]; simp)]
theorem strOfNums_map (f : Nat → UInt8) : strOfNums ((List.range 64).map fun j => ((f j).toNat : Int)) = ⟨(seq64 f).toArray⟩ := by
  unfold strOfNums seq64; congr 2; rw [List.map_map]; exact List.map_congr_left (fun j _ => by simp)
theorem byteAt_take (l : List UInt8) (j : Nat) (h : j < 64) : Blk.byteAt (l.take 64) j = Blk.byteAt l j := by simp [Blk.byteAt, List.getD, List.getElem?_take, h]

set_option maxHeartbeats 1600000 in
set_option maxRecDepth 100000 in
theorem ref_Apply (l : List UInt8) (p : Blk.Pt) (w : World) (hl : l.length ≤ 1000000000) (hs : p.s.length ≤ 1000000000) :
    Calls Tryd.prog 15 #[.string ⟨l.toArray⟩, ptV p] w (StrR (Blk.apply l p) w) := by
  have hM := fun w => May_any p w hs
  obtain ⟨cut, at_, n, s⟩ := p
  unfold ptV at hM ⊢
  dsimp only at hs hM ⊢
  have HM := Lib.hid hM
  clear hM
  go_enter Tryd.func15, Tryd.ntmps15
  go_wp2
  go_loopw [6] (fun i wr => ∃ k : Nat, k ≤ 64 ∧ i = .int .i64 k ∧ wr.heap[w.heap.size + 1]? = some (.cells (arrV (fun j => if j < k then Blk.byteAt l j else 0)) 61 (0, 0)) ∧
      wr.heap[w.heap.size]? = some (.cells #[.bool cut, .int .i64 at_, .int .i64 n, .string ⟨s.toArray⟩] 30 (0, 0)) ∧ Upd (fun _ => False) w wr) (fun i _ => 64 - (intOf i).toNat)
  case atStart =>
    refine ⟨0, by omega, rfl, ?_, heap_alloc_lt (heap_alloc_new w _) _, ((Upd.refl _ _).alloc _).alloc _⟩
    rw [heap_alloc_new2]; rfl
  case round =>
    obtain ⟨k, hk, rfl, ha, hb, hu⟩ := hrel
    have hla := lt_of_heap ha
    have hlb := lt_of_heap hb
    by_cases hlt : k < 64
    · have ca : wr.cell? ⟨w.heap.size + 1, k, none⟩ = some (.int .u8 ((if k < k then Blk.byteAt l k else (0 : UInt8)).toNat : Int)) := cell_heap ha k _ (arrV_get _ k hlt)
      have fa : wr.frozen? ⟨w.heap.size + 1, k, none⟩ = false := free_heap ha k
      have ex : ∃ v, wr.cell? ⟨w.heap.size + 1, k, none⟩ = some v := ⟨_, ca⟩
      clear ca
      obtain ⟨v0, ca⟩ := ex
      have hs1 := heap_setCell_eq (i := k) ha (.int .u8 (Blk.byteAt l k).toNat)
      rw [arrV_set] at hs1
      have hs2 := heap_setCell_ne hb ⟨w.heap.size + 1, k, none⟩ (.int .u8 (Blk.byteAt l k).toNat) (by simp)
      have hs3 := Upd.setCell (p := ⟨w.heap.size + 1, k, none⟩) hu (fun h => by simp at h; omega) (.int .u8 (Blk.byteAt l k).toNat)
      have HS := Lib.hid (And.intro hs1 (And.intro hs2 hs3))
      clear hs1 hs2 hs3 ha hb hu
      go_wp2_with (go_at_call 37; refine (ref_byteAt l _ k _ rfl hl (by omega)).mono ?_; rintro e w' ⟨rfl, rfl⟩)
      go_roundw
      case rel =>
        refine ⟨k + 1, by omega, by go_num, ?_, HS.out.2.1, HS.out.2.2⟩
        rw [HS.out.1]
        congr 2
        exact arrV_congr (fun j hj => by by_cases h1 : j = k
                                         · subst h1; simp
                                         · rw [if_neg h1]; by_cases h2 : j < k
                                           · rw [if_pos h2, if_pos (by omega)]
                                           · rw [if_neg h2, if_neg (by omega)])
      case measure => simp [intOf]; omega
    · obtain rfl : k = 64 := by omega
      clear hlt hk
      have c0 : wr.cell? ⟨w.heap.size, 0, none⟩ = some (.bool cut) := cell_heap hb 0 _ rfl
      have c1 : wr.cell? ⟨w.heap.size, 1, none⟩ = some (.int .i64 at_) := cell_heap hb 1 _ rfl
      have c2 : wr.cell? ⟨w.heap.size, 2, none⟩ = some (.int .i64 n) := cell_heap hb 2 _ rfl
      have c3 : wr.cell? ⟨w.heap.size, 3, none⟩ = some (.string ⟨s.toArray⟩) := cell_heap hb 3 _ rfl
      go_wp2_with (fail)
      refine (HM.out _).mono ?_
      rintro e w2 ⟨rfl, hu2⟩
      have ha2 := hu2.heap ha (fun f => f)
      have hb2 := hu2.heap hb (fun f => f)
      have hu3 := hu.trans hu2 (fun _ _ f => f)
      clear c0 c1 c2 c3 ha hb hu hu2 hla hlb
      have hla := lt_of_heap ha2
      have hlb := lt_of_heap hb2
      have c0 : w2.cell? ⟨w.heap.size, 0, none⟩ = some (.bool cut) := cell_heap hb2 0 _ rfl
      have c1 : w2.cell? ⟨w.heap.size, 1, none⟩ = some (.int .i64 at_) := cell_heap hb2 1 _ rfl
      have c2 : w2.cell? ⟨w.heap.size, 2, none⟩ = some (.int .i64 n) := cell_heap hb2 2 _ rfl
      have c3 : w2.cell? ⟨w.heap.size, 3, none⟩ = some (.string ⟨s.toArray⟩) := cell_heap hb2 3 _ rfl
      cases hmay : Blk.may ⟨cut, at_, n, s⟩ with
      | false =>
        rw [hmay] at HM
        go_wp2_with (fail)
        refine (HM.out _).mono ?_
        rintro e w4 ⟨rfl, hu4⟩
        have ha4 := hu4.heap ha2 (fun f => f)
        have hu5 := hu3.trans hu4 (fun _ _ f => f)
        clear c0 c1 c2 c3 ha2 hb2 hu3 hu4 hla hlb
        have hconv := run_convert_bytes_arg (P := Tryd.prog) w4 48 5 Tryd.underlying48 Tryd.underlying5 (w.heap.size + 1) 0 64 64 ((List.range 64).map fun j => (((if j < 64 then Blk.byteAt l j else 0)).toNat : Int)) (by simp) (fun j hj => by
          rw [Nat.zero_add, cell_of_row _ _ _ _ _ _ ha4, arrV_get _ j hj]; simp [List.getD, hj]) 9 Tryd.underlying9
        rw [strOfNums_map] at hconv
        go_wp2_with (fail)
        refine (ref_Trim _ _ (by rw [seq64_length]; decide)).mono ?_
        rintro e w9 ⟨rfl, rfl⟩
        go_wp2
        go_ret
        exact ⟨ret_str (by exact apply_seq (fun j hj => by rw [if_pos hj, Blk.over, if_pos hmay, byteAt_take l j hj])), hu5⟩
      | true =>
        rw [hmay] at HM
        clear c0 c1 c2 c3
        cases cut with
        | true =>
          have hn : 0 ≤ n ∧ n < 64 := by simp [Blk.may] at hmay; omega
          obtain ⟨hn0, hn1⟩ := hn
          obtain ⟨m, rfl⟩ := Int.eq_ofNat_of_zero_le hn0
          have hm64 : m ≤ 64 := by omega
          have HY := Lib.hid hmay
          clear hmay hn0 hn1
          have c0 : w2.cell? ⟨w.heap.size, 0, none⟩ = some (.bool true) := cell_heap hb2 0 _ rfl
          have c1 : w2.cell? ⟨w.heap.size, 1, none⟩ = some (.int .i64 at_) := cell_heap hb2 1 _ rfl
          have c2 : w2.cell? ⟨w.heap.size, 2, none⟩ = some (.int .i64 m) := cell_heap hb2 2 _ rfl
          have c3 : w2.cell? ⟨w.heap.size, 3, none⟩ = some (.string ⟨s.toArray⟩) := cell_heap hb2 3 _ rfl
          go_wp2
          go_loopw [7] (fun i wr => ∃ k : Nat, m ≤ k ∧ k ≤ 64 ∧ i = .int .i64 k ∧ wr.heap[w.heap.size + 1]? = some (.cells (arrV (fun j => if m ≤ j ∧ j < k then 0 else Blk.byteAt l j)) 61 (0, 0)) ∧
              wr.heap[w.heap.size]? = some (.cells #[.bool true, .int .i64 at_, .int .i64 m, .string ⟨s.toArray⟩] 30 (0, 0)) ∧ Upd (fun _ => False) w wr) (fun i _ => 64 - (intOf i).toNat)
          case atStart =>
            refine ⟨m, Nat.le_refl _, hm64, rfl, ?_, hb2, hu3⟩
            rw [ha2]; congr 2; exact arrV_congr (fun j hj => by rw [if_pos hj, if_neg (by omega)])
          case round =>
            clear c0 c1 c2 c3 ha2 hb2 hu3 hla hlb
            obtain ⟨k, hk0, hk, rfl, ha, hb, hu⟩ := hrel
            have hla := lt_of_heap ha
            have hlb := lt_of_heap hb
            by_cases hlt : k < 64
            · have ex : ∃ v, wr.cell? ⟨w.heap.size + 1, k, none⟩ = some v := ⟨_, cell_heap ha k _ (arrV_get _ k hlt)⟩
              have fa : wr.frozen? ⟨w.heap.size + 1, k, none⟩ = false := free_heap ha k
              obtain ⟨v0, ca⟩ := ex
              have hs1 := heap_setCell_eq (i := k) ha (.int .u8 0)
              rw [show (Value.int .u8 0) = .int .u8 ((0 : UInt8).toNat : Int) from rfl, arrV_set] at hs1
              have hs2 := heap_setCell_ne hb ⟨w.heap.size + 1, k, none⟩ (.int .u8 0) (by simp)
              have hs3 := Upd.setCell (p := ⟨w.heap.size + 1, k, none⟩) hu (fun h => by simp at h; omega) (.int .u8 0)
              have HS := Lib.hid (And.intro hs1 (And.intro hs2 hs3))
              clear hs1 hs2 hs3 ha hb hu
              go_wp2
              go_roundw
              case rel =>
                refine ⟨k + 1, by omega, by omega, by go_num, ?_, HS.out.2.1, HS.out.2.2⟩
                refine HS.out.1.trans ?_
                congr 2
                exact arrV_congr (fun j hj => by by_cases h1 : j = k
                                                 · subst h1; rw [if_pos rfl, if_pos (by omega)]
                                                 · rw [if_neg h1]; by_cases h2 : m ≤ j ∧ j < k
                                                   · rw [if_pos h2, if_pos (by omega)]
                                                   · rw [if_neg h2, if_neg (by omega)])
              case measure => simp [intOf]; omega
            · obtain rfl : k = 64 := by omega
              clear hlt hk
              have c0 : wr.cell? ⟨w.heap.size, 0, none⟩ = some (.bool true) := cell_heap hb 0 _ rfl
              have c1 : wr.cell? ⟨w.heap.size, 1, none⟩ = some (.int .i64 at_) := cell_heap hb 1 _ rfl
              have c2 : wr.cell? ⟨w.heap.size, 2, none⟩ = some (.int .i64 m) := cell_heap hb 2 _ rfl
              have c3 : wr.cell? ⟨w.heap.size, 3, none⟩ = some (.string ⟨s.toArray⟩) := cell_heap hb 3 _ rfl
              go_wp2_with (fail)
              refine (HM.out _).mono ?_
              rintro e w4 ⟨rfl, hu4⟩
              have ha4 := hu4.heap ha (fun f => f)
              have hb4 := hu4.heap hb (fun f => f)
              have hu5 := hu.trans hu4 (fun _ _ f => f)
              clear c0 c1 c2 c3 ha hb hu hu4 hla hlb
              have hlb := lt_of_heap hb4
              have c0 : w4.cell? ⟨w.heap.size, 0, none⟩ = some (.bool true) := cell_heap hb4 0 _ rfl
              have c1 : w4.cell? ⟨w.heap.size, 1, none⟩ = some (.int .i64 at_) := cell_heap hb4 1 _ rfl
              have c2 : w4.cell? ⟨w.heap.size, 2, none⟩ = some (.int .i64 m) := cell_heap hb4 2 _ rfl
              have c3 : w4.cell? ⟨w.heap.size, 3, none⟩ = some (.string ⟨s.toArray⟩) := cell_heap hb4 3 _ rfl
              have hconv := run_convert_bytes_arg (P := Tryd.prog) w4 48 5 Tryd.underlying48 Tryd.underlying5 (w.heap.size + 1) 0 64 64 ((List.range 64).map fun j => ((if m ≤ j ∧ j < 64 then (0 : UInt8) else Blk.byteAt l j).toNat : Int)) (by simp) (fun j hj => by
                rw [Nat.zero_add, cell_of_row _ _ _ _ _ _ ha4, arrV_get _ j hj]; simp [List.getD, hj]) 9 Tryd.underlying9
              rw [strOfNums_map] at hconv
              go_wp2_with (fail)
              refine (ref_Trim _ _ (by rw [seq64_length]; decide)).mono ?_
              rintro e w9 ⟨rfl, rfl⟩
              go_wp2
              go_ret
              refine ⟨ret_str (apply_seq ?_), hu5⟩
              intro j hj
              rw [over_cut HY.out rfl]
              by_cases h : m ≤ j
              · rw [if_pos ⟨h, hj⟩, if_neg (by simp; omega)]
              · rw [if_neg (by omega), if_pos (by simp; omega), byteAt_take l j hj]
        | false =>
          have hn : 0 ≤ at_ ∧ at_ + s.length ≤ 64 ∧ s.length ≤ 64 := by simp [Blk.may] at hmay; omega
          obtain ⟨hn0, hn1, hn2⟩ := hn
          obtain ⟨m, rfl⟩ := Int.eq_ofNat_of_zero_le hn0
          have hm64 : m + s.length ≤ 64 := by omega
          have HY := Lib.hid hmay
          clear hmay hn0 hn1 hn2
          have c0 : w2.cell? ⟨w.heap.size, 0, none⟩ = some (.bool false) := cell_heap hb2 0 _ rfl
          have c1 : w2.cell? ⟨w.heap.size, 1, none⟩ = some (.int .i64 m) := cell_heap hb2 1 _ rfl
          have c2 : w2.cell? ⟨w.heap.size, 2, none⟩ = some (.int .i64 n) := cell_heap hb2 2 _ rfl
          have c3 : w2.cell? ⟨w.heap.size, 3, none⟩ = some (.string ⟨s.toArray⟩) := cell_heap hb2 3 _ rfl
          go_wp2_with (fail)
          refine (HM.out _).mono ?_
          rintro e w4 ⟨rfl, hu4⟩
          have ha4 := hu4.heap ha2 (fun f => f)
          have hb4 := hu4.heap hb2 (fun f => f)
          have hu5 := hu3.trans hu4 (fun _ _ f => f)
          clear c0 c1 c2 c3 ha2 hb2 hu3 hu4 hla hlb
          have hla := lt_of_heap ha4
          have hlb := lt_of_heap hb4
          have c0 : w4.cell? ⟨w.heap.size, 0, none⟩ = some (.bool false) := cell_heap hb4 0 _ rfl
          have c1 : w4.cell? ⟨w.heap.size, 1, none⟩ = some (.int .i64 m) := cell_heap hb4 1 _ rfl
          have c2 : w4.cell? ⟨w.heap.size, 2, none⟩ = some (.int .i64 n) := cell_heap hb4 2 _ rfl
          have c3 : w4.cell? ⟨w.heap.size, 3, none⟩ = some (.string ⟨s.toArray⟩) := cell_heap hb4 3 _ rfl
          go_wp2
          go_loopw [8] (fun i wr => ∃ k : Nat, k ≤ s.length ∧ i = .int .i64 k ∧ wr.heap[w.heap.size + 1]? = some (.cells (arrV (fun j => if m ≤ j ∧ j < m + k then s.getD (j - m) 0 else Blk.byteAt l j)) 61 (0, 0)) ∧
              wr.heap[w.heap.size]? = some (.cells #[.bool false, .int .i64 m, .int .i64 n, .string ⟨s.toArray⟩] 30 (0, 0)) ∧ Upd (fun _ => False) w wr) (fun i _ => s.length - (intOf i).toNat)
          case atStart =>
            refine ⟨0, Nat.zero_le _, rfl, ?_, hb4, hu5⟩
            rw [ha4]; congr 2; exact arrV_congr (fun j hj => by rw [if_pos hj, if_neg (by omega)])
          case round =>
            clear c0 c1 c2 c3 ha4 hb4 hu5 hla hlb
            obtain ⟨k, hk, rfl, ha, hb, hu⟩ := hrel
            have hla := lt_of_heap ha
            have hlb := lt_of_heap hb
            have c0 : wr.cell? ⟨w.heap.size, 0, none⟩ = some (.bool false) := cell_heap hb 0 _ rfl
            have c1 : wr.cell? ⟨w.heap.size, 1, none⟩ = some (.int .i64 m) := cell_heap hb 1 _ rfl
            have c2 : wr.cell? ⟨w.heap.size, 2, none⟩ = some (.int .i64 n) := cell_heap hb 2 _ rfl
            have c3 : wr.cell? ⟨w.heap.size, 3, none⟩ = some (.string ⟨s.toArray⟩) := cell_heap hb 3 _ rfl
            by_cases hlt : k < s.length
            · have ex : ∃ v, wr.cell? ⟨w.heap.size + 1, m + k, none⟩ = some v := ⟨_, cell_heap ha (m + k) _ (arrV_get _ (m + k) (by omega))⟩
              have fa : wr.frozen? ⟨w.heap.size + 1, m + k, none⟩ = false := free_heap ha (m + k)
              obtain ⟨v0, ca⟩ := ex
              have hbyte := byte_getD s k
              have hs1 := heap_setCell_eq (i := m + k) ha (.int .u8 (s.getD k 0).toNat)
              rw [arrV_set] at hs1
              have hs2 := heap_setCell_ne hb ⟨w.heap.size + 1, m + k, none⟩ (.int .u8 (s.getD k 0).toNat) (by simp)
              have hs3 := Upd.setCell (p := ⟨w.heap.size + 1, m + k, none⟩) hu (fun h => by simp at h; omega) (.int .u8 (s.getD k 0).toNat)
              have HS := Lib.hid (And.intro hs1 (And.intro hs2 hs3))
              clear hs1 hs2 hs3 ha hb hu
              obtain ⟨cc, hcc⟩ : ∃ cc : Nat, cc = (s.getD k 0).toNat := ⟨_, rfl⟩
              rw [← hcc] at hbyte HS
              have HC := Lib.hid hcc
              clear hcc
              have e1 : IntKind.i64.wrap ((m : Int) + (k : Int)) = (m : Int) + (k : Int) := IntWalk.i64_in _ (by omega)
              have e2 : (k : Int) < (s.length : Int) := by omega
              have e3 : (m : Int) + (k : Int) < 64 := by omega
              go_wp2
              go_region
              all_goals
                go_wp2
                go_roundw
                case rel =>
                  refine ⟨k + 1, by omega, by go_num, ?_, HS.out.2.1, HS.out.2.2.drew⟩
                  refine HS.out.1.trans ?_
                  congr 2
                  exact arrV_congr (fun j hj => by by_cases h1 : j = m + k
                                                   · subst h1; rw [if_pos rfl, if_pos (by omega), show m + k - m = k by omega]
                                                   · rw [if_neg h1]; by_cases h2 : m ≤ j ∧ j < m + k
                                                     · rw [if_pos h2, if_pos (by omega)]
                                                     · rw [if_neg h2, if_neg (by omega)])
                case measure => simp [intOf]; omega
            · obtain rfl : k = s.length := by omega
              clear hlt hk
              have hconv := run_convert_bytes_arg (P := Tryd.prog) wr 48 5 Tryd.underlying48 Tryd.underlying5 (w.heap.size + 1) 0 64 64 ((List.range 64).map fun j => ((if m ≤ j ∧ j < m + s.length then s.getD (j - m) 0 else Blk.byteAt l j).toNat : Int)) (by simp) (fun j hj => by
                rw [Nat.zero_add, cell_of_row _ _ _ _ _ _ ha, arrV_get _ j hj]; simp [List.getD, hj]) 9 Tryd.underlying9
              rw [strOfNums_map] at hconv
              go_wp2_with (fail)
              refine (ref_Trim _ _ (by rw [seq64_length]; decide)).mono ?_
              rintro e w9 ⟨rfl, rfl⟩
              go_wp2
              go_ret
              refine ⟨ret_str (apply_seq ?_), hu⟩
              intro j hj
              rw [over_splice HY.out rfl]
              by_cases h : m ≤ j ∧ j < m + s.length
              · rw [if_pos h, if_pos (by simp; omega)]; simp
              · rw [if_neg h, if_neg (by simp; omega), byteAt_take l j hj]

end Go.Proofs.YtiabomfkmfokeaaDoor
