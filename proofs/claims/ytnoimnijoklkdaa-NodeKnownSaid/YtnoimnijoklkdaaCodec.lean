/- The contracts of package codec: what is written, what is read. -/
import Derived.Test.YtnoimnijoklkdaaBase
import Derived.Test.YtnoimnijoklkdaaProg
set_option linter.unusedVariables false
set_option linter.unusedSimpArgs false
namespace Go.Proofs.Ytnoimnijoklkdaa
open Go.RowKit

/-- A writer: its block, its row's block, what was written, its error. -/
def Wr (w : World) (b : Nat) (r : Option Nat) (bs : List UInt8) (e : Int) : Prop :=
  ∃ v, w.heap[b]? = some (.cells #[v, .int .i64 e] 118 (0, 0)) ∧ w.ownsRow 0 5 1 v bs.length (bytesV bs) ∧ v.ownBlock = r

theorem Try.infoU8 : (Try.prog.info? 5).map (fun i => (i.zero, i.size, i.bytes)) = some (some (.int .u8 0), 1, 1) := by kernel_rfl

/-- The frame of a writer. -/
def WF (b : Nat) (r : Option Nat) : Nat → Prop := fun k => k = b ∨ some k = r
/-- The row is the old one, or new. -/
def Newer (w : World) (r r' : Option Nat) : Prop := r' = r ∨ ∃ g, r' = some g ∧ w.heap.size ≤ g
theorem Newer.refl (w : World) (r : Option Nat) : Newer w r r := .inl rfl
theorem Newer.trans {w w' : World} {r r' r'' : Option Nat} (h : Newer w r r') (h' : Newer w' r' r'') (hs : w.heap.size ≤ w'.heap.size) : Newer w r r'' := by
  rcases h' with rfl | ⟨g, rfl, hg⟩
  · exact h
  · exact .inr ⟨g, rfl, by omega⟩

theorem WF_newer {w : World} {b : Nat} {r r' : Option Nat} (h : Newer w r r') : ∀ i, i < w.heap.size → WF b r' i → WF b r i := by
  intro i hi hf
  rcases hf with hf | hf
  · exact .inl hf
  · rcases h with rfl | ⟨g, rfl, hg⟩
    · exact .inr hf
    · simp at hf; omega

theorem Wr.appended {w wr w1 : World} {b g n cap : Nat} {v' : Value} {r : Option Nat} {cur news : List UInt8} {xs : List Value} {e : Int} (hh' : wr.heap[b]? = some (.cells #[v', .int .i64 e] 118 (0, 0)))
    (hne : v'.ownBlock ≠ some b) (hr' : Newer w r v'.ownBlock) (hu : Upd (WF b r) w wr) (hn : n = (cur ++ news).length) (hx : xs = bytesV (cur ++ news))
    (hown2 : w1.ownsRow 0 5 1 (.slice (some ⟨g, 0, none⟩) n cap) n xs) (hU : Upd (fun k => some k = v'.ownBlock) wr w1) (hat : v'.ownBlock = some g ∨ wr.heap.size ≤ g) :
    Wr (w1.setCell ⟨b, 0, none⟩ (.slice (some ⟨g, 0, none⟩) n cap)) b (some g) (cur ++ news) e ∧ Newer w r (some g) ∧ Upd (WF b r) w (w1.setCell ⟨b, 0, none⟩ (.slice (some ⟨g, 0, none⟩) n cap)) := by
  have hb1 := hU.heap hh' (fun e => hne e.symm)
  have hgb : g ≠ b := by have := owns_ne hown2 hb1 (by decide); simpa [Value.ownBlock] using this
  refine ⟨⟨_, heap_setCell_eq hb1 _, ?_, rfl⟩, ?_, ?_⟩
  · subst hn hx
    exact ownsRow_setCell_other' hown2 hgb _
  · rcases hat with h | h
    · rw [← h]; exact hr'
    · exact .inr ⟨g, rfl, by have := hu.size; omega⟩
  · refine (hu.trans hU ?_).setCell (p := ⟨b, 0, none⟩) (fun _ => .inl rfl) _
    intro i hi hv
    rcases hr' with h | ⟨g', h, hg'⟩
    · exact .inr (by rw [hv, h])
    · rw [h] at hv; simp at hv; omega

/-- The same, the new value being whatever slice (nil, where nothing was appended to nil). -/
theorem Wr.appendedV {w wr w1 : World} {b : Nat} {v' v1 : Value} {n : Nat} {r : Option Nat} {cur news : List UInt8} {xs : List Value} {e : Int} (hh' : wr.heap[b]? = some (.cells #[v', .int .i64 e] 118 (0, 0)))
    (hne : v'.ownBlock ≠ some b) (hr' : Newer w r v'.ownBlock) (hu : Upd (WF b r) w wr) (hn : n = (cur ++ news).length) (hx : xs = bytesV (cur ++ news))
    (hown2 : w1.ownsRow 0 5 1 v1 n xs) (hU : Upd (fun k => some k = v'.ownBlock) wr w1) (hat : v1.ownBlock = v'.ownBlock ∨ v1.ownBlock = some wr.heap.size) :
    ∃ r', Wr (w1.setCell ⟨b, 0, none⟩ v1) b r' (cur ++ news) e ∧ Newer w r r' ∧ Upd (WF b r) w (w1.setCell ⟨b, 0, none⟩ v1) := by
  rcases hown2.2 with ⟨rfl, hn0⟩ | ⟨g, cap, c, rfl, _⟩
  · have hb1 := hU.heap hh' (fun e => hne e.symm)
    refine ⟨none, ⟨_, heap_setCell_eq hb1 _, ?_, rfl⟩, ?_, ?_⟩
    · subst hn hx
      exact ⟨hown2.1, .inl ⟨rfl, hn0⟩⟩
    · rcases hat with h | h
      · rw [← h] at hr'; exact hr'
      · simp [Value.ownBlock] at h
    · refine (hu.trans hU ?_).setCell (p := ⟨b, 0, none⟩) (fun _ => .inl rfl) _
      intro i hi hv
      rcases hat with h | h
      · rw [← h] at hv; simp [Value.ownBlock] at hv
      · simp [Value.ownBlock] at h
  · have R := Wr.appended hh' hne hr' hu hn hx hown2 hU (by rcases hat with h | h
                                                            · exact .inl (by rw [← h]; rfl)
                                                            · simp [Value.ownBlock] at h; exact .inr (by omega))
    exact ⟨_, R⟩

/-- A number's bytes, the highest first. -/
def be (width x : Nat) : List UInt8 := (List.range width).map fun i => UInt8.ofNat (x / 2 ^ (8 * (width - 1 - i)))

theorem be_take (x width k : Nat) (h : k < width) : (be width x).take (k + 1) = (be width x).take k ++ [UInt8.ofNat (x / 2 ^ (8 * (width - 1 - k)))] := by
  rw [List.take_add_one]; simp [be, h]
theorem u8_wrap_nat (n : Nat) : IntKind.u8.wrap (n : Int) = ((UInt8.ofNat n).toNat : Int) := by
  rw [IntKind.wrap_u8]; simp
theorem be_step (x width k : Nat) (h : k < width) : [Value.int .u8 (IntKind.u8.wrap ((x : Int) / 2 ^ (8 * ((width : Int) - 1 - (k : Int))).toNat))] = bytesV [UInt8.ofNat (x / 2 ^ (8 * (width - 1 - k)))] := by
  have : (8 * ((width : Int) - 1 - (k : Int))).toNat = 8 * (width - 1 - k) := by omega
  rw [this]
  have h2 : (x : Int) / 2 ^ (8 * (width - 1 - k)) = ((x / 2 ^ (8 * (width - 1 - k)) : Nat) : Int) := by simp
  rw [h2, u8_wrap_nat]; rfl

def Two8 : Nat := 256
def Two16 : Nat := 65536
def Two32 : Nat := 4294967296
def Two64 : Nat := 18446744073709551616
theorem wrapTwo8 {x : Nat} (h : x < Two8) : IntKind.u64.wrap (x : Int) = (x : Int) := IntWalk.u64_in _ (by unfold Two8 at h; omega)
theorem wrapTwo16 {x : Nat} (h : x < Two16) : IntKind.u64.wrap (x : Int) = (x : Int) := IntWalk.u64_in _ (by unfold Two16 at h; omega)
set_option maxHeartbeats 400000 in
theorem put8 (b : Nat) (r : Option Nat) (bs : List UInt8) (xi wi : Int) (x width : Nat) (w : World) (hxi : xi = x) (hwi : wi = width) (hx : x < Two8) (hwd : width ≤ 8) (hb : bs.length ≤ 1000000000) (h : Wr w b r bs 0) :
    Calls Try.prog 91 #[.pointer (some ⟨b, 0, none⟩), .int .u8 xi, .int .i64 wi] w fun e w' => e = .returned (.tuple #[]) ∧
      ∃ r', Wr w' b r' (bs ++ be width x) 0 ∧ Newer w r r' ∧ Upd (WF b r) w w' := by
  subst hxi hwi
  obtain ⟨v, hh, hown, rfl⟩ := h
  have c0 : w.cell? ⟨b, 0, none⟩ = some v := by rw [cell_of_row w b 0 _ _ _ hh]; rfl
  have c1 : w.cell? ⟨b, 1, none⟩ = some (.int .i64 0) := by rw [cell_of_row w b 1 _ _ _ hh]; rfl
  obtain ⟨i0, hi, hz0, hz1, hz2⟩ := info_parts Try.infoU8
  go_enter Try.func91, Try.ntmps91
  go_wp2
  go_loopw [17] (fun i wr => ∃ (k : Nat) (r' : Option Nat), k ≤ width ∧ i = .int .i64 k ∧ Wr wr b r' (bs ++ (be width x).take k) 0 ∧ Newer w v.ownBlock r' ∧ Upd (WF b v.ownBlock) w wr)
    (fun i _ => width - (intOf i).toNat)
  case atStart => exact ⟨0, v.ownBlock, Nat.zero_le _, rfl, ⟨v, by simpa using hh, by simpa using hown, rfl⟩, Newer.refl _ _, Upd.refl _ _⟩
  case round =>
    clear c0 c1
    obtain ⟨k, r', hk, rfl, ⟨v', hh', hown', rfl⟩, hr', hu⟩ := hrel
    have c0 : wr.cell? ⟨b, 0, none⟩ = some v' := cell_heap hh' 0 _ rfl
    have c1 : wr.cell? ⟨b, 1, none⟩ = some (.int .i64 0) := cell_heap hh' 1 _ rfl
    have f0 : wr.frozen? ⟨b, 0, none⟩ = false := free_heap hh' 0
    have hlb := lt_of_heap hh'
    by_cases hlt : k < width
    · have hne := owns_ne hown' hh' (by decide)
      obtain ⟨cur, hc⟩ : ∃ cur, cur = bs ++ (be width x).take k := ⟨_, rfl⟩
      rw [← hc] at hown'
      have hcl : cur.length ≤ 1000000008 := by rw [hc]; simp [be]; omega
      have HC := Lib.hid hc
      clear hc
      have e1 : IntKind.i64.wrap ((width : Int) - 1) = (width : Int) - 1 := IntWalk.i64_in _ (by omega)
      have e2 : IntKind.i64.wrap ((width : Int) - 1 - (k : Int)) = (width : Int) - 1 - (k : Int) := IntWalk.i64_in _ (by omega)
      have e3 : IntKind.i64.wrap (8 * ((width : Int) - 1 - (k : Int))) = 8 * ((width : Int) - 1 - (k : Int)) := IntWalk.i64_in _ (by omega)
      have e4 : IntKind.u64.wrap (x : Int) = (x : Int) := wrapTwo8 hx
      have p0 : 0 ≤ 8 * ((width : Int) - 1 - (k : Int)) := by omega
      have p1 : 8 * ((width : Int) - 1 - (k : Int)) ≤ 64 := by omega
      have b1 : cur.length + 1 ≤ maxLen := by unfold maxLen; omega
      have b2 : (cur.length + 1) * 1 ≤ 140737488355328 := by omega
      go_wp2
      go_region_law (refine step_append_lies _ rfl (.tmp 24) (.tmp 34) 93 rfl 0 5 i0 (.int .u8 0) 1 1 Try.underlying93 hi hz0 hz1 hz2 rfl (by decide) v' _ _ (by simp [Act.eval, Act.put]) (hown'.drew.alloc _) ⟨wr.heap.size, 0, none⟩ 1 1 [.int .u8 (IntKind.u8.wrap ((x : Int) / 2 ^ (8 * ((width : Int) - 1 - (k : Int))).toNat))] (by simp [Act.eval, Act.put]) rfl (news_one wr.drew _ _) (one_int _ _) (by decide) b1 b2 (Nat.zero_le _) (wr.heap.size + 1) (by simp) ?_; intro g cap w1 hown2 hgrow hat hglt; have hb1 := grown_heap hgrow (heap_alloc_lt hh' _) hne; have c0 := cell_heap hb1 0 _ rfl; have f0 := free_heap hb1 0)
      all_goals
        go_wp2
        go_roundw
        case rel =>
          have R := Wr.appended (cur := cur) (news := [UInt8.ofNat (x / 2 ^ (8 * (width - 1 - k)))]) hh' hne hr' hu (by simp) (by rw [bytesV_append, ← be_step x width k hlt]) hown2 (((Upd.refl _ wr).alloc _).drew.grown hgrow (fun _ h _ => h.symm)) (hat.imp id (fun h => by omega))
          exact ⟨k + 1, some g, by omega, by go_num, by rw [be_take x width k hlt, ← List.append_assoc, ← HC.out]; exact R.1, R.2.1, R.2.2⟩
        case measure => simp [intOf]; omega
    · go_wp2
      have : k = width := by omega
      subst this
      go_end0
      exact ⟨rfl, v'.ownBlock, ⟨v', hh', by rw [List.take_of_length_le (by simp [be])] at hown'; exact hown', rfl⟩, hr', hu⟩

theorem Writer_U8 (b : Nat) (r : Option Nat) (bs : List UInt8) (xi : Int) (x : Nat) (w : World) (hxi : xi = x) (hx : x < Two8) (hb : bs.length ≤ 1000000000) (h : Wr w b r bs 0) :
    Calls Try.prog 70 #[.pointer (some ⟨b, 0, none⟩), .int .u8 xi] w fun e w' => e = .returned (.tuple #[]) ∧
      ∃ r', Wr w' b r' (bs ++ be 1 x) 0 ∧ Newer w r r' ∧ Upd (WF b r) w w' := by
  subst hxi
  go_enter Try.func70, Try.ntmps70
  go_wp2_with (go_at_call 91; refine (put8 b r bs x 1 x 1 _ rfl rfl hx (by decide) hb h).mono ?_; rintro e w' ⟨rfl, hq⟩)
  go_end0
  exact ⟨rfl, hq⟩

set_option maxHeartbeats 400000 in
theorem put16 (b : Nat) (r : Option Nat) (bs : List UInt8) (xi wi : Int) (x width : Nat) (w : World) (hxi : xi = x) (hwi : wi = width) (hx : x < Two16) (hwd : width ≤ 8) (hb : bs.length ≤ 1000000000) (h : Wr w b r bs 0) :
    Calls Try.prog 92 #[.pointer (some ⟨b, 0, none⟩), .int .u16 xi, .int .i64 wi] w fun e w' => e = .returned (.tuple #[]) ∧
      ∃ r', Wr w' b r' (bs ++ be width x) 0 ∧ Newer w r r' ∧ Upd (WF b r) w w' := by
  subst hxi hwi
  obtain ⟨v, hh, hown, rfl⟩ := h
  have c0 : w.cell? ⟨b, 0, none⟩ = some v := by rw [cell_of_row w b 0 _ _ _ hh]; rfl
  have c1 : w.cell? ⟨b, 1, none⟩ = some (.int .i64 0) := by rw [cell_of_row w b 1 _ _ _ hh]; rfl
  obtain ⟨i0, hi, hz0, hz1, hz2⟩ := info_parts Try.infoU8
  go_enter Try.func92, Try.ntmps92
  go_wp2
  go_loopw [17] (fun i wr => ∃ (k : Nat) (r' : Option Nat), k ≤ width ∧ i = .int .i64 k ∧ Wr wr b r' (bs ++ (be width x).take k) 0 ∧ Newer w v.ownBlock r' ∧ Upd (WF b v.ownBlock) w wr)
    (fun i _ => width - (intOf i).toNat)
  case atStart => exact ⟨0, v.ownBlock, Nat.zero_le _, rfl, ⟨v, by simpa using hh, by simpa using hown, rfl⟩, Newer.refl _ _, Upd.refl _ _⟩
  case round =>
    clear c0 c1
    obtain ⟨k, r', hk, rfl, ⟨v', hh', hown', rfl⟩, hr', hu⟩ := hrel
    have c0 : wr.cell? ⟨b, 0, none⟩ = some v' := cell_heap hh' 0 _ rfl
    have c1 : wr.cell? ⟨b, 1, none⟩ = some (.int .i64 0) := cell_heap hh' 1 _ rfl
    have f0 : wr.frozen? ⟨b, 0, none⟩ = false := free_heap hh' 0
    have hlb := lt_of_heap hh'
    by_cases hlt : k < width
    · have hne := owns_ne hown' hh' (by decide)
      obtain ⟨cur, hc⟩ : ∃ cur, cur = bs ++ (be width x).take k := ⟨_, rfl⟩
      rw [← hc] at hown'
      have hcl : cur.length ≤ 1000000008 := by rw [hc]; simp [be]; omega
      have HC := Lib.hid hc
      clear hc
      have e1 : IntKind.i64.wrap ((width : Int) - 1) = (width : Int) - 1 := IntWalk.i64_in _ (by omega)
      have e2 : IntKind.i64.wrap ((width : Int) - 1 - (k : Int)) = (width : Int) - 1 - (k : Int) := IntWalk.i64_in _ (by omega)
      have e3 : IntKind.i64.wrap (8 * ((width : Int) - 1 - (k : Int))) = 8 * ((width : Int) - 1 - (k : Int)) := IntWalk.i64_in _ (by omega)
      have e4 : IntKind.u64.wrap (x : Int) = (x : Int) := wrapTwo16 hx
      have p0 : 0 ≤ 8 * ((width : Int) - 1 - (k : Int)) := by omega
      have p1 : 8 * ((width : Int) - 1 - (k : Int)) ≤ 64 := by omega
      have b1 : cur.length + 1 ≤ maxLen := by unfold maxLen; omega
      have b2 : (cur.length + 1) * 1 ≤ 140737488355328 := by omega
      go_wp2
      go_region_law (refine step_append_lies _ rfl (.tmp 24) (.tmp 34) 93 rfl 0 5 i0 (.int .u8 0) 1 1 Try.underlying93 hi hz0 hz1 hz2 rfl (by decide) v' _ _ (by simp [Act.eval, Act.put]) (hown'.drew.alloc _) ⟨wr.heap.size, 0, none⟩ 1 1 [.int .u8 (IntKind.u8.wrap ((x : Int) / 2 ^ (8 * ((width : Int) - 1 - (k : Int))).toNat))] (by simp [Act.eval, Act.put]) rfl (news_one wr.drew _ _) (one_int _ _) (by decide) b1 b2 (Nat.zero_le _) (wr.heap.size + 1) (by simp) ?_; intro g cap w1 hown2 hgrow hat hglt; have hb1 := grown_heap hgrow (heap_alloc_lt hh' _) hne; have c0 := cell_heap hb1 0 _ rfl; have f0 := free_heap hb1 0)
      all_goals
        go_wp2
        go_roundw
        case rel =>
          have R := Wr.appended (cur := cur) (news := [UInt8.ofNat (x / 2 ^ (8 * (width - 1 - k)))]) hh' hne hr' hu (by simp) (by rw [bytesV_append, ← be_step x width k hlt]) hown2 (((Upd.refl _ wr).alloc _).drew.grown hgrow (fun _ h _ => h.symm)) (hat.imp id (fun h => by omega))
          exact ⟨k + 1, some g, by omega, by go_num, by rw [be_take x width k hlt, ← List.append_assoc, ← HC.out]; exact R.1, R.2.1, R.2.2⟩
        case measure => simp [intOf]; omega
    · go_wp2
      have : k = width := by omega
      subst this
      go_end0
      exact ⟨rfl, v'.ownBlock, ⟨v', hh', by rw [List.take_of_length_le (by simp [be])] at hown'; exact hown', rfl⟩, hr', hu⟩

theorem Writer_U16 (b : Nat) (r : Option Nat) (bs : List UInt8) (xi : Int) (x : Nat) (w : World) (hxi : xi = x) (hx : x < Two16) (hb : bs.length ≤ 1000000000) (h : Wr w b r bs 0) :
    Calls Try.prog 71 #[.pointer (some ⟨b, 0, none⟩), .int .u16 xi] w fun e w' => e = .returned (.tuple #[]) ∧
      ∃ r', Wr w' b r' (bs ++ be 2 x) 0 ∧ Newer w r r' ∧ Upd (WF b r) w w' := by
  subst hxi
  go_enter Try.func71, Try.ntmps71
  go_wp2_with (go_at_call 92; refine (put16 b r bs x 2 x 2 _ rfl rfl hx (by decide) hb h).mono ?_; rintro e w' ⟨rfl, hq⟩)
  go_end0
  exact ⟨rfl, hq⟩





/-- A reader. -/
def Rd (w : World) (b : Nat) (l : List UInt8) (e : Int) : Prop := w.heap[b]? = some (.cells #[.string ⟨l.toArray⟩, .int .i64 e] 103 (0, 0))

/-- What Fixed answers; what is left; the error. -/
def fx (l : List UInt8) (e n : Int) : List UInt8 × List UInt8 × Int := if e ≠ 0 ∨ n ≤ 0 then ([], l, e) else if n > l.length then ([], [], 10) else (l.take n.toNat, l.drop n.toNat, e)

set_option maxHeartbeats 400000 in
theorem Reader_Fixed (b : Nat) (l : List UInt8) (er n : Int) (w : World) (hl : l.length ≤ 140737488351232) (h : Rd w b l er) :
    Calls Try.prog 83 #[.pointer (some ⟨b, 0, none⟩), .int .i64 n] w fun e w' => e = .returned (.string ⟨(fx l er n).1.toArray⟩) ∧
      Rd w' b (fx l er n).2.1 (fx l er n).2.2 ∧ Upd (fun k => k = b) w w' := by
  have c0 : w.cell? ⟨b, 0, none⟩ = some (.string ⟨l.toArray⟩) := cell_heap h 0 _ rfl
  have c1 : w.cell? ⟨b, 1, none⟩ = some (.int .i64 er) := cell_heap h 1 _ rfl
  have f0 : w.frozen? ⟨b, 0, none⟩ = false := free_heap h 0
  have f1 : w.frozen? ⟨b, 1, none⟩ = false := free_heap h 1
  by_cases he : er = 0
  · subst he
    by_cases hn : n ≤ 0
    · have hr : fx l 0 n = ([], l, 0) := by simp [fx, hn]
      rw [hr]
      go_enter Try.func83, Try.ntmps83
      go_wp2
      go_ret
      exact ⟨rfl, h, Upd.refl _ _⟩
    · by_cases hg : (l.length : Int) < n
      · have hr : fx l 0 n = ([], [], 10) := by simp [fx, hn, hg]
        rw [hr]
        go_enter Try.func83, Try.ntmps83
        go_wp2
        go_ret
        exact ⟨rfl, heap_setCell_eq (heap_setCell_eq h _) _, Upd.setCell (F := fun k => k = b) (Upd.setCell (F := fun k => k = b) (Upd.refl _ _) (fun _ => rfl) _) (fun _ => rfl) _⟩
      · have hr : fx l 0 n = (l.take n.toNat, l.drop n.toNat, 0) := by simp [fx, hn, hg]
        rw [hr]
        go_enter Try.func83, Try.ntmps83
        have x1 : (⟨l.toArray⟩ : ByteArray).extract 0 n.toNat = ⟨(l.take n.toNat).toArray⟩ := by rw [ext_list]; simp
        have x2 : (⟨l.toArray⟩ : ByteArray).extract n.toNat l.length = ⟨(l.drop n.toNat).toArray⟩ := by rw [ext_list, List.take_of_length_le (by simp)]
        go_wp2
        go_ret
        exact ⟨rfl, heap_setCell_eq h _, Upd.setCell (F := fun k => k = b) (Upd.refl _ _) (fun _ => rfl) _⟩
  · have hr : fx l er n = ([], l, er) := by simp [fx, he]
    have he2 : (er != 0) = true := by simp [he]
    rw [hr]
    go_enter Try.func83, Try.ntmps83
    go_wp2
    go_ret
    exact ⟨rfl, h, Upd.refl _ _⟩


/-- The number that bytes are, the highest first. -/
def ofBe (s : List UInt8) : Nat := s.foldl (fun n c => n * 256 + c.toNat) 0
theorem ofBe_snoc (s : List UInt8) (c : UInt8) : ofBe (s ++ [c]) = ofBe s * 256 + c.toNat := by simp [ofBe]
theorem fx_le (l : List UInt8) (e : Int) (n : Nat) : (fx l e n).1.length ≤ n := by
  unfold fx; split
  · simp
  · split
    · simp
    · simp; omega

theorem ofBe_lt (s : List UInt8) : ofBe s < 256 ^ s.length := by
  suffices h : ∀ n, s.foldl (fun n c => n * 256 + c.toNat) n < (n + 1) * 256 ^ s.length by simpa [ofBe] using h 0
  induction s with
  | nil => intro n; simp
  | cons c s ih =>
    intro n
    rw [List.foldl_cons, List.length_cons, Nat.pow_succ]
    have h1 := ih (n * 256 + c.toNat)
    have h2 : (n * 256 + c.toNat + 1) * 256 ^ s.length ≤ ((n + 1) * 256) * 256 ^ s.length := Nat.mul_le_mul_right _ (by have := c.toNat_lt; omega)
    have h3 : (n + 1) * (256 ^ s.length * 256) = ((n + 1) * 256) * 256 ^ s.length := by rw [Nat.mul_comm (256 ^ s.length) 256, Nat.mul_assoc]
    omega
theorem pow256_le (k : Nat) (h : k ≤ 7) : 256 ^ k ≤ 72057594037927936 := by
  have : 256 ^ k ≤ 256 ^ 7 := Nat.pow_le_pow_right (by decide) h
  omega
theorem be_or (n c : Nat) (hn : n < 72057594037927936) (hc : c < 256) : bits BinOp.or IntKind.u64 (IntKind.u64.wrap ((n : Int) * 256)) (IntKind.u64.wrap (c : Int)) = ((n * 256 + c : Nat) : Int) := by
  rw [IntWalk.u64_in _ (by omega), IntWalk.u64_in _ (by omega)]
  rw [bits_join .u64 64 (by decide) (fun m h0 h1 => IntWalk.u64_in m (by omega)) 8 _ _ (by omega) (by omega) (by omega) (by omega) (by omega) (by omega)]
  omega
theorem get_step (s : List UInt8) (k n : Nat) (hk : k < s.length) (h8 : s.length ≤ 8) (hn : n = ofBe (s.take k)) (h : k < (⟨s.toArray⟩ : ByteArray).size) :
    bits BinOp.or IntKind.u64 (IntKind.u64.wrap ((n : Int) * 256)) (IntKind.u64.wrap (((⟨s.toArray⟩ : ByteArray)[k]'h).toNat : Int)) = (ofBe (s.take (k + 1)) : Nat) := by
  have e : (⟨s.toArray⟩ : ByteArray)[k]'h = s[k] := rfl
  rw [e, be_or n _ ?_ (UInt8.toNat_lt _)]
  · rw [List.take_add_one, List.getElem?_eq_getElem hk, hn]
    simp only [Option.toList_some]
    rw [ofBe_snoc]
  · have := ofBe_lt (s.take k)
    rw [List.length_take, Nat.min_eq_left (by omega), ← hn] at this
    have := pow256_le k (by omega)
    omega

set_option maxHeartbeats 400000 in
theorem get8 (b : Nat) (l : List UInt8) (er wi : Int) (width : Nat) (w : World) (hwi : wi = width) (hwd : width ≤ 8) (hl : l.length ≤ 140737488351232) (h : Rd w b l er) :
    Calls Try.prog 81 #[.pointer (some ⟨b, 0, none⟩), .int .i64 wi] w fun e w' => e = .returned (.int .u8 (IntKind.u8.wrap (ofBe (fx l er width).1 : Nat))) ∧
      Rd w' b (fx l er width).2.1 (fx l er width).2.2 ∧ Upd (fun k => k = b) w w' := by
  subst hwi
  have hF := Reader_Fixed b l er width w hl h
  have hsl := fx_le l er width
  generalize hq : fx l er width = q at hF hsl ⊢
  clear hq
  obtain ⟨s, l', e'⟩ := q
  dsimp only at hF hsl ⊢
  have HF := Lib.hid hF
  clear hF
  go_enter Try.func81, Try.ntmps81
  go_wp2_with (go_at_call 83; refine HF.out.mono ?_; rintro e w' ⟨rfl, h1, h2⟩)
  go_loop [6, 13] (fun n i => ∃ k : Nat, k ≤ s.length ∧ i = .int .i64 k ∧ n = .int .u64 (ofBe (s.take k) : Nat)) (fun _ i => s.length - (intOf i).toNat)
  case atStart => exact ⟨0, Nat.zero_le _, rfl, rfl⟩
  case round =>
    obtain ⟨k, hk, rfl, rfl⟩ := hrel
    by_cases hlt : k < s.length
    · obtain ⟨n, hn⟩ : ∃ n, n = ofBe (s.take k) := ⟨_, rfl⟩
      rw [← hn]
      have HN := Lib.hid hn
      clear hn
      go_wp2
      exact ⟨⟨k + 1, by omega, by go_num, congrArg _ (get_step s k n hlt (by omega) HN.out _)⟩, by simp [intOf]; omega⟩
    · obtain rfl : k = s.length := by omega
      rw [List.take_length]
      go_wp2
      go_ret
      exact ⟨rfl, h1, h2⟩


/-- What U8 answers, what is left, the error. -/
def rU8 (l : List UInt8) (e : Int) : Nat × List UInt8 × Int := (ofBe (fx l e 1).1, (fx l e 1).2)
theorem rU8_lt (l : List UInt8) (e : Int) : (rU8 l e).1 < Two8 := by
  have h1 := ofBe_lt (fx l e 1).1
  have h2 := fx_le l e 1
  have h3 : 256 ^ (fx l e 1).1.length ≤ 256 ^ 1 := Nat.pow_le_pow_right (by decide) h2
  show ofBe (fx l e 1).1 < Two8
  unfold Two8
  omega
theorem wrap8_nat {x : Nat} (h : x < Two8) : IntKind.u8.wrap (x : Int) = (x : Int) := IntWalk.u8_in _ (by unfold Two8 at h; omega)

theorem Reader_U8 (b : Nat) (l : List UInt8) (er : Int) (w : World) (hl : l.length ≤ 140737488351232) (h : Rd w b l er) :
    Calls Try.prog 56 #[.pointer (some ⟨b, 0, none⟩)] w fun e w' => e = .returned (.int .u8 ((rU8 l er).1 : Nat)) ∧
      Rd w' b (rU8 l er).2.1 (rU8 l er).2.2 ∧ Upd (fun k => k = b) w w' := by
  have hg := get8 b l er 1 1 w rfl (by decide) hl h
  have hlt := rU8_lt l er
  have e1 : IntKind.u8.wrap (ofBe (fx l er 1).1 : Nat) = ((rU8 l er).1 : Nat) := wrap8_nat hlt
  rw [show (((1 : Nat)) : Int) = 1 from rfl, e1] at hg
  have e2 : (fx l er 1).2 = (rU8 l er).2 := rfl
  rw [e2] at hg
  generalize rU8 l er = q at hg ⊢
  have HG := Lib.hid hg
  clear hg e1 e2
  go_enter Try.func56, Try.ntmps56
  go_wp2_with (go_at_call 81; refine HG.out.mono ?_; rintro e w' ⟨rfl, h1, h2⟩)
  go_ret
  exact ⟨rfl, h1, h2⟩

set_option maxHeartbeats 400000 in
theorem get16 (b : Nat) (l : List UInt8) (er wi : Int) (width : Nat) (w : World) (hwi : wi = width) (hwd : width ≤ 8) (hl : l.length ≤ 140737488351232) (h : Rd w b l er) :
    Calls Try.prog 82 #[.pointer (some ⟨b, 0, none⟩), .int .i64 wi] w fun e w' => e = .returned (.int .u16 (IntKind.u16.wrap (ofBe (fx l er width).1 : Nat))) ∧
      Rd w' b (fx l er width).2.1 (fx l er width).2.2 ∧ Upd (fun k => k = b) w w' := by
  subst hwi
  have hF := Reader_Fixed b l er width w hl h
  have hsl := fx_le l er width
  generalize hq : fx l er width = q at hF hsl ⊢
  clear hq
  obtain ⟨s, l', e'⟩ := q
  dsimp only at hF hsl ⊢
  have HF := Lib.hid hF
  clear hF
  go_enter Try.func82, Try.ntmps82
  go_wp2_with (go_at_call 83; refine HF.out.mono ?_; rintro e w' ⟨rfl, h1, h2⟩)
  go_loop [6, 13] (fun n i => ∃ k : Nat, k ≤ s.length ∧ i = .int .i64 k ∧ n = .int .u64 (ofBe (s.take k) : Nat)) (fun _ i => s.length - (intOf i).toNat)
  case atStart => exact ⟨0, Nat.zero_le _, rfl, rfl⟩
  case round =>
    obtain ⟨k, hk, rfl, rfl⟩ := hrel
    by_cases hlt : k < s.length
    · obtain ⟨n, hn⟩ : ∃ n, n = ofBe (s.take k) := ⟨_, rfl⟩
      rw [← hn]
      have HN := Lib.hid hn
      clear hn
      go_wp2
      exact ⟨⟨k + 1, by omega, by go_num, congrArg _ (get_step s k n hlt (by omega) HN.out _)⟩, by simp [intOf]; omega⟩
    · obtain rfl : k = s.length := by omega
      rw [List.take_length]
      go_wp2
      go_ret
      exact ⟨rfl, h1, h2⟩


/-- What U16 answers, what is left, the error. -/
def rU16 (l : List UInt8) (e : Int) : Nat × List UInt8 × Int := (ofBe (fx l e 2).1, (fx l e 2).2)
theorem rU16_lt (l : List UInt8) (e : Int) : (rU16 l e).1 < Two16 := by
  have h1 := ofBe_lt (fx l e 2).1
  have h2 := fx_le l e 2
  have h3 : 256 ^ (fx l e 2).1.length ≤ 256 ^ 2 := Nat.pow_le_pow_right (by decide) h2
  show ofBe (fx l e 2).1 < Two16
  unfold Two16
  omega
theorem wrap16_nat {x : Nat} (h : x < Two16) : IntKind.u16.wrap (x : Int) = (x : Int) := IntWalk.u16_in _ (by unfold Two16 at h; omega)

theorem Reader_U16 (b : Nat) (l : List UInt8) (er : Int) (w : World) (hl : l.length ≤ 140737488351232) (h : Rd w b l er) :
    Calls Try.prog 58 #[.pointer (some ⟨b, 0, none⟩)] w fun e w' => e = .returned (.int .u16 ((rU16 l er).1 : Nat)) ∧
      Rd w' b (rU16 l er).2.1 (rU16 l er).2.2 ∧ Upd (fun k => k = b) w w' := by
  have hg := get16 b l er 2 2 w rfl (by decide) hl h
  have hlt := rU16_lt l er
  have e1 : IntKind.u16.wrap (ofBe (fx l er 2).1 : Nat) = ((rU16 l er).1 : Nat) := wrap16_nat hlt
  rw [show (((2 : Nat)) : Int) = 2 from rfl, e1] at hg
  have e2 : (fx l er 2).2 = (rU16 l er).2 := rfl
  rw [e2] at hg
  generalize rU16 l er = q at hg ⊢
  have HG := Lib.hid hg
  clear hg e1 e2
  go_enter Try.func58, Try.ntmps58
  go_wp2_with (go_at_call 82; refine HG.out.mono ?_; rintro e w' ⟨rfl, h1, h2⟩)
  go_ret
  exact ⟨rfl, h1, h2⟩

/-- What U32 answers, what is left, the error. -/
def rU32 (l : List UInt8) (e : Int) : Nat × List UInt8 × Int := (ofBe (fx l e 4).1, (fx l e 4).2)
theorem rU32_lt (l : List UInt8) (e : Int) : (rU32 l e).1 < Two32 := by
  have h1 := ofBe_lt (fx l e 4).1
  have h2 := fx_le l e 4
  have h3 : 256 ^ (fx l e 4).1.length ≤ 256 ^ 4 := Nat.pow_le_pow_right (by decide) h2
  show ofBe (fx l e 4).1 < Two32
  unfold Two32
  omega
/-- What U64 answers, what is left, the error. -/
def rU64 (l : List UInt8) (e : Int) : Nat × List UInt8 × Int := (ofBe (fx l e 8).1, (fx l e 8).2)
theorem rU64_lt (l : List UInt8) (e : Int) : (rU64 l e).1 < Two64 := by
  have h1 := ofBe_lt (fx l e 8).1
  have h2 := fx_le l e 8
  have h3 : 256 ^ (fx l e 8).1.length ≤ 256 ^ 8 := Nat.pow_le_pow_right (by decide) h2
  show ofBe (fx l e 8).1 < Two64
  unfold Two64
  omega
/-- What Text answers. -/
def rText (l : List UInt8) (e : Int) : List UInt8 × List UInt8 × Int := fx (rU16 l e).2.1 (rU16 l e).2.2 (rU16 l e).1
theorem fx_len (l : List UInt8) (e n : Int) : (fx l e n).2.1.length ≤ l.length := by
  unfold fx; split
  · simp
  · split
    · simp
    · simp

theorem Reader_Text (b : Nat) (l : List UInt8) (er : Int) (w : World) (hl : l.length ≤ 140737488351232) (h : Rd w b l er) :
    Calls Try.prog 59 #[.pointer (some ⟨b, 0, none⟩)] w fun e w' => e = .returned (.string ⟨(rText l er).1.toArray⟩) ∧
      Rd w' b (rText l er).2.1 (rText l er).2.2 ∧ Upd (fun k => k = b) w w' := by
  have hU := Reader_U16 b l er w hl h
  have hlt := rU16_lt l er
  have hlen : (rU16 l er).2.1.length ≤ 140737488351232 := Nat.le_trans (fx_len _ _ _) hl
  unfold rText
  generalize rU16 l er = q at hU hlt hlen ⊢
  obtain ⟨x, l1, e1⟩ := q
  dsimp only at hU hlt hlen ⊢
  unfold Two16 at hlt
  have HU := Lib.hid hU
  clear hU
  go_enter Try.func59, Try.ntmps59
  go_wp2_with (go_at_call 58; refine HU.out.mono ?_; rintro e w' ⟨rfl, h1, h2⟩)
  refine (Reader_Fixed b l1 e1 x _ hlen h1).mono ?_
  rintro e w2 ⟨rfl, h3, h4⟩
  go_wp2
  go_ret
  exact ⟨rfl, h3, h2.trans h4 (fun _ _ h => h)⟩

theorem Reader_Err (b : Nat) (l : List UInt8) (er : Int) (w : World) (h : Rd w b l er) :
    Calls Try.prog 60 #[.pointer (some ⟨b, 0, none⟩)] w fun e w' => e = .returned (.int .i64 er) ∧ w = w' := by
  have c1 : w.cell? ⟨b, 1, none⟩ = some (.int .i64 er) := cell_heap h 1 _ rfl
  go_enter Try.func60, Try.ntmps60
  go_wp2
  go_ret
  exact ⟨rfl, rfl⟩

theorem Reader_Rest (b : Nat) (l : List UInt8) (er : Int) (w : World) (h : Rd w b l er) :
    Calls Try.prog 34 #[.pointer (some ⟨b, 0, none⟩)] w fun e w' => e = .returned (.string ⟨l.toArray⟩) ∧ w = w' := by
  have c0 : w.cell? ⟨b, 0, none⟩ = some (.string ⟨l.toArray⟩) := cell_heap h 0 _ rfl
  go_enter Try.func34, Try.ntmps34
  go_wp2
  go_ret
  exact ⟨rfl, rfl⟩

theorem codec_New (l : List UInt8) (w : World) :
    Calls Try.prog 31 #[.string ⟨l.toArray⟩] w fun e w' => e = .returned (.pointer (some ⟨w.heap.size, 0, none⟩)) ∧ Rd w' w.heap.size l 0 ∧ Upd (fun _ => False) w w' := by
  go_enter Try.func31, Try.ntmps31
  go_wp2
  go_ret
  exact ⟨rfl, heap_alloc_new w _, (Upd.refl _ _).alloc _⟩

set_option maxHeartbeats 400000 in
set_option maxRecDepth 100000 in
theorem Writer_Raw (b : Nat) (r : Option Nat) (bs l : List UInt8) (w : World) (hb : bs.length ≤ 1000000000) (hl : l.length ≤ 1000000000) (h : Wr w b r bs 0) :
    Calls Try.prog 93 #[.pointer (some ⟨b, 0, none⟩), .string ⟨l.toArray⟩] w fun e w' => e = .returned (.tuple #[]) ∧
      ∃ r', Wr w' b r' (bs ++ l) 0 ∧ Newer w r r' ∧ Upd (WF b r) w w' := by
  obtain ⟨v, hh, hown, rfl⟩ := h
  have c0 : w.cell? ⟨b, 0, none⟩ = some v := cell_heap hh 0 _ rfl
  have c1 : w.cell? ⟨b, 1, none⟩ = some (.int .i64 0) := cell_heap hh 1 _ rfl
  have f0 : w.frozen? ⟨b, 0, none⟩ = false := free_heap hh 0
  have hne := owns_ne hown hh (by decide)
  obtain ⟨i0, hi, hz0, hz1, hz2⟩ := info_parts Try.infoU8
  have b1 : bs.length + (⟨l.toArray⟩ : ByteArray).size ≤ maxLen := by rw [size_list]; unfold maxLen; omega
  have b2 : bs.length + (⟨l.toArray⟩ : ByteArray).size ≤ 140737488355328 := by rw [size_list]; omega
  go_enter Try.func93, Try.ntmps93
  go_wp2_with (at_builtin; refine wpList_append_string _ rfl (.tmp 17) (.tmp 18) 93 9 rfl 5 i0 Try.underlying93 Try.underlying9 hi hz0 hz1 hz2 v _ _ rfl hown ⟨l.toArray⟩ rfl b1 b2 ?_)
  intro v1 w1 hown2 hgrow hat
  have hform := own_form hown2
  have hb1 := grown_heap hgrow hh hne
  have c0 : w1.cell? ⟨b, 0, none⟩ = some v := cell_heap hb1 0 _ rfl
  have f0 : w1.frozen? ⟨b, 0, none⟩ = false := free_heap hb1 0
  obtain ⟨ad, cp, rfl⟩ := hform
  have R := Wr.appendedV (cur := bs) (news := l) hh hne (Newer.refl _ _) (Upd.refl _ _) (by simp) (by rw [bytesV_append, strCells_list]) hown2 ((Upd.refl _ w).grown hgrow (fun _ h _ => h.symm)) hat
  clear hown2 hgrow hat
  go_wp2
  go_end0
  exact ⟨rfl, R⟩

theorem Writer_Text (b : Nat) (r : Option Nat) (bs l : List UInt8) (w : World) (hb : bs.length ≤ 900000000) (hl : l.length ≤ 65535) (h : Wr w b r bs 0) :
    Calls Try.prog 72 #[.pointer (some ⟨b, 0, none⟩), .string ⟨l.toArray⟩] w fun e w' => e = .returned (.tuple #[]) ∧
      ∃ r', Wr w' b r' (bs ++ be 2 l.length ++ l) 0 ∧ Newer w r r' ∧ Upd (WF b r) w w' := by
  have hb2 : (bs ++ be 2 l.length).length ≤ 1000000000 := by simp [be]; omega
  go_enter Try.func72, Try.ntmps72
  go_wp2_with (go_at_call 71; refine (Writer_U16 b r bs _ l.length _ ?_ ?_ (by omega) h).mono ?_)
  · rfl
  · unfold Two16; omega
  · rintro e w1 ⟨rfl, r1, h1, h2, h3⟩
    go_wp2_with (go_at_call 93; refine (Writer_Raw b r1 _ l _ hb2 (by omega) h1).mono ?_; rintro e w2 ⟨rfl, r2, h4, h5, h6⟩)
    go_end0
    exact ⟨rfl, r2, h4, h2.trans h5 h3.size, h3.trans h6 (WF_newer h2)⟩

theorem Writer_Bytes (b : Nat) (r : Option Nat) (bs : List UInt8) (w : World) (hb : bs.length ≤ 1000000000) (h : Wr w b r bs 0) :
    Calls Try.prog 73 #[.pointer (some ⟨b, 0, none⟩)] w fun e w' => e = .returned (.tuple #[.string ⟨bs.toArray⟩, .int .i64 0]) ∧ w = w' := by
  obtain ⟨v, hh, hown, rfl⟩ := h
  have c0 : w.cell? ⟨b, 0, none⟩ = some v := cell_heap hh 0 _ rfl
  have c1 : w.cell? ⟨b, 1, none⟩ = some (.int .i64 0) := cell_heap hh 1 _ rfl
  have hconv := run_conv_row (P := Try.prog) w 93 5 9 Try.underlying93 Try.underlying5 Try.underlying9 v bs _ rfl hown
  go_enter Try.func73, Try.ntmps73
  go_wp2
  go_ret2
  exact ⟨rfl, rfl⟩

end Go.Proofs.Ytnoimnijoklkdaa
