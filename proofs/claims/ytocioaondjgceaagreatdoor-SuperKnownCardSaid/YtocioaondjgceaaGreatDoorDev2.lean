/- A device in memory, whole: has, Sure, shows, Read, Waiting, Sectors. -/
import Derived.Test.YtocioaondjgceaaGreatDoorDev1
import Derived.Deep.WholeRow
import Derived.Outline
set_option linter.unusedVariables false
set_option linter.unusedSimpArgs false
namespace Go.Proofs.YtocioaondjgceaaGreatDoor
open Go.RowKit Go.Maps

/-- The sure sectors' row. -/
def SureAt (w : World) (bs cap : Nat) (d : List Dv.Cel) : Prop :=
  ∃ cs : Array Value, w.heap[bs]? = some (.cells cs 81 (0, 0)) ∧ cs.size = cap * 128 ∧ d.length ≤ cap ∧ ∀ k c, d[k]? = some c → ∀ j v, (bytesV c.1)[j]? = some v → cs[k * 128 + j]? = some v
theorem SureAt.upd {F : Nat → Prop} {w w' : World} {bs cap : Nat} {d : List Dv.Cel} (h : SureAt w bs cap d) (hu : Upd F w w') (hn : ¬ F bs) : SureAt w' bs cap d := by
  obtain ⟨cs, hb, r⟩ := h
  exact ⟨cs, hu.heap hb hn, r⟩
structure DevAt (w : World) (b bs bm cap : Nat) (d : List Dv.Cel) : Prop where
  ok : Dv.Ok d
  fits : cap ≤ maxLen
  dev : w.heap[b]? = some (.cells #[.slice (some ⟨bs, 0, none⟩) d.length cap, .map (some bm)] 68 (0, 0))
  row : SureAt w bs cap d
  waits : WaitsAt w bm d
theorem DevAt.upd {F : Nat → Prop} {w w' : World} {b bs bm cap : Nat} {d : List Dv.Cel} (h : DevAt w b bs bm cap d) (hu : Upd F w w') (h1 : ¬ F b) (h2 : ¬ F bs) (h3 : ¬ F bm) : DevAt w' b bs bm cap d :=
  ⟨h.ok, h.fits, hu.heap h.dev h1, h.row.upd hu h2, h.waits.upd hu h3⟩
theorem DevAt.ltb {w : World} {b bs bm cap : Nat} {d : List Dv.Cel} (h : DevAt w b bs bm cap d) : b < w.heap.size := lt_of_heap h.dev
theorem DevAt.lts {w : World} {b bs bm cap : Nat} {d : List Dv.Cel} (h : DevAt w b bs bm cap d) : bs < w.heap.size := by obtain ⟨cs, hb, _⟩ := h.row; exact lt_of_heap hb
theorem DevAt.ltm {w : World} {b bs bm cap : Nat} {d : List Dv.Cel} (h : DevAt w b bs bm cap d) : bm < w.heap.size := h.waits.lt
theorem DevAt.bs_ne {w : World} {b bs bm cap : Nat} {d : List Dv.Cel} (h : DevAt w b bs bm cap d) : b ≠ bs := by
  rintro rfl
  obtain ⟨cs, hb, _⟩ := h.row
  have := h.dev
  rw [hb] at this
  injection this with this
  injection this with _ ht
  exact absurd ht (by decide)
theorem DevAt.bm_ne {w : World} {b bs bm cap : Nat} {d : List Dv.Cel} (h : DevAt w b bs bm cap d) : b ≠ bm := by
  rintro rfl
  obtain ⟨es, c, hb, _⟩ := h.waits
  have := h.dev
  rw [hb] at this
  cases this
theorem DevAt.sm_ne {w : World} {b bs bm cap : Nat} {d : List Dv.Cel} (h : DevAt w b bs bm cap d) : bs ≠ bm := by
  rintro rfl
  obtain ⟨es, c, hb, _⟩ := h.waits
  obtain ⟨cs, hs, _⟩ := h.row
  rw [hb] at hs
  cases hs
theorem cell_at (d : List Dv.Cel) (k : Nat) (hk : k < d.length) : d[k]? = some (Dv.cell d k) := by unfold Dv.cell; rw [List.getD, List.getElem?_eq_getElem hk]; rfl
theorem cell_len {d : List Dv.Cel} (h : Dv.Ok d) (k : Nat) (hk : k < d.length) : (Dv.cell d k).1.length = 128 ∧ ∀ y, (Dv.cell d k).2 = some y → y.length = 128 :=
  h.2.2 _ (List.mem_of_getElem? (cell_at d k hk))
theorem SureAt.load {w : World} {bs cap : Nat} {d : List Dv.Cel} (h : SureAt w bs cap d) (hok : Dv.Ok d) (k : Nat) (hk : k < d.length) : (loadVar 81 ⟨bs, k * 128, none⟩).run Tryz.prog w = .ok (secV (Dv.cell d k).1) w := by
  obtain ⟨cs, hb, h1, h2, h3⟩ := h
  exact run_load_sub w bs (k * 128) _ _ cs _ _ (bytesV (Dv.cell d k).1) hb Tryz.underlying81 rfl (by rw [bytesV_length, (cell_len hok k hk).1]; exact info_sec) (h3 k _ (cell_at d k hk))
/-- A sector that the call holds itself. -/
theorem load_new {w : World} {g : Nat} {l : List UInt8} {fr : Nat × Nat} (hl : l.length = 128) (hg : w.heap[g]? = some (.cells (bytesV l).toArray 81 fr)) : (loadVar 81 ⟨g, 0, none⟩).run Tryz.prog w = .ok (secV l) w :=
  run_load_sub w g 0 _ _ _ _ _ (bytesV l) hg Tryz.underlying81 rfl (by rw [bytesV_length, hl]; exact info_sec) (fun j v h => by rw [Nat.zero_add]; simpa using h)
set_option maxRecDepth 100000 in
theorem store_new {w : World} {g : Nat} {l l' : List UInt8} (hl : l.length = 128) (hl' : l'.length = 128) (hg : w.heap[g]? = some (.cells (bytesV l).toArray 81 (0, 0))) :
    (storeVar 81 ⟨g, 0, none⟩ (secV l')).run Tryz.prog w = .ok () (w.setRow g (bytesV l').toArray) := by
  have := run_store_sub (P := Tryz.prog) w g 0 81 81 _ (bytesV l') hg (by rw [bytesV_length, hl']; exact info_sec) (by simp [bytesV_length, hl, hl']) (bytesV_one l')
  refine Eq.trans this ?_
  congr 2
  rw [List.take_zero, List.nil_append, Nat.zero_add, List.drop_eq_nil_of_le (by simp [bytesV_length, hl, hl']), List.append_nil]
theorem store_alloc (w : World) (Z : Array Value) (hZ : Z = (bytesV zeros).toArray) (l : List UInt8) (hl : l.length = 128) :
    (storeVar 81 ⟨w.heap.size, 0, none⟩ (secV l)).run Tryz.prog (w.alloc (.cells Z 81)) = .ok () (w.alloc (.cells (bytesV l).toArray 81)) := by
  subst hZ
  have := store_new (w := w.alloc (.cells (bytesV zeros).toArray 81)) zeros_len hl (heap_alloc_new w _)
  rw [World.setRow_alloc_new] at this
  exact this
theorem ByteArray_toArray (l : List UInt8) : (⟨l.toArray⟩ : ByteArray) = ⟨l.toArray⟩ := rfl
theorem conv_sec {w : World} {g : Nat} {l : List UInt8} (hl : l.length = 128) (hg : w.heap[g]? = some (.cells (bytesV l).toArray 81 (0, 0))) :
    (convert 82 9 (.slice (some ⟨g, 0, none⟩) 128 128)).run Tryz.prog w = .ok (.string ⟨l.toArray⟩) w := by
  have := run_convert_bytes_arg (P := Tryz.prog) w 82 5 Tryz.underlying82 Tryz.underlying5 g 0 128 128 (l.map fun c => (c.toNat : Int)) (by simpa using hl) (fun i hi => by
    rw [cell_of_row w g _ _ _ _ hg, Nat.zero_add]
    have hi' : i < l.length := by rw [hl]; exact hi
    simp [bytesV, List.getD, hi']) 9 Tryz.underlying9
  rw [this]
  have e2 : List.map ((fun n : Int => UInt8.ofNat n.toNat) ∘ fun c : UInt8 => (c.toNat : Int)) l = l := by
    rw [List.map_congr_left (g := id) (fun c _ => by simp)]; simp
  simp only [strOfNums, List.map_map, e2]

def hasE (d : List Dv.Cel) (k : Int) : Int := if k < 0 ∨ (d.length : Int) ≤ k then 2 else 0
set_option maxRecDepth 100000 in
theorem dev_has {w : World} {b bs bm cap : Nat} {d : List Dv.Cel} (h : DevAt w b bs bm cap d) (k : Int) :
    Calls Tryz.prog 38 #[.pointer (some ⟨b, 0, none⟩), .int .i64 k] w fun e w' => e = .returned (.int .i64 (hasE d k)) ∧ w = w' := by
  have c0 := cell_heap h.dev 0 _ rfl
  have c1 := cell_heap h.dev 1 _ rfl
  have l1 := h.ok.1
  have l2 := h.ok.2.1
  have hq := run_eql_map_nil_sl (P := Tryz.prog) w 66 _ _ (some bm) Tryz.underlying66
  have H := Lib.hid h
  obtain ⟨n, hn⟩ : ∃ n, n = d.length := ⟨_, rfl⟩
  unfold hasE
  rw [← hn] at c0 l1 l2 ⊢
  clear h hn
  go_enter Tryz.func38, Tryz.ntmps38
  go_wp2
  all_goals
    go_ret
    exact ⟨ret_int (by first | rfl | (split <;> omega)), rfl⟩
theorem has_nil (k : Int) (w : World) : Calls Tryz.prog 38 #[.pointer none, .int .i64 k] w fun e w' => e = .returned (.int .i64 1) ∧ w = w' := by
  go_enter Tryz.func38, Tryz.ntmps38
  go_wp2
  go_ret
  exact ⟨rfl, rfl⟩

def sureS (d : List Dv.Cel) (k : Int) : List UInt8 := if k < 0 ∨ (d.length : Int) ≤ k then [] else (Dv.cell d k.toNat).1
def DStrR (res : List UInt8) (w : World) (e : Ending) (w' : World) : Prop := e = .returned (.string ⟨res.toArray⟩) ∧ Upd (fun _ => False) w w'
def DStrE (res : List UInt8 × Int) (w : World) (e : Ending) (w' : World) : Prop := e = .returned (.tuple #[.string ⟨res.1.toArray⟩, .int .i64 res.2]) ∧ Upd (fun _ => False) w w'
theorem alloc_any : ∃ Z : Array Value, ∀ w, (Instr.alloc 81 true (.tuple #[])).run Tryz.prog w = .ok (.pointer (some ⟨w.heap.size, 0, none⟩)) (w.alloc (.cells Z 81)) ∧ Z = (bytesV zeros).toArray := ⟨_, fun w => ⟨alloc_sec w, rfl⟩⟩

theorem Upd.setRow {F : Nat → Prop} {a w : World} (h : Upd F a w) {g : Nat} (hp : g < a.heap.size → F g) (cs : Array Value) : Upd F a (w.setRow g cs) :=
  h.trans (G := fun k => k = g) ⟨rfl, rfl, rfl, by simp [World.setRow], fun k hk hn => by simp [World.setRow, Array.getElem?_modify, Ne.symm hn]⟩ (fun i hi e => by subst e; exact hp hi)
theorem setRow_at {w : World} {g : Nat} {cur : Array Value} {t : TypeId} {fr : Nat × Nat} (hg : w.heap[g]? = some (.cells cur t fr)) (cs : Array Value) : (w.setRow g cs).heap[g]? = some (.cells cs t fr) := setRow_heap w g cur cs t fr hg
theorem results_sec {fn : Func} {p : Tmp} (h : fn.results = #[.cell p 81]) (tmps : Array Value) (w : World) (g : Nat) (l : List UInt8) (fr : Nat × Nat) (hl : l.length = 128)
    (hp : tmps.getD p undef = .pointer (some ⟨g, 0, none⟩)) (hg : w.heap[g]? = some (.cells (bytesV l).toArray 81 fr)) : (results fn tmps).run Tryz.prog w = .ok (secV l) w :=
  results_cell_row (P := Tryz.prog) h tmps w g 81 (bytesV l).toArray fr _ hp hg Tryz.underlying81 rfl (by rw [List.size_toArray, bytesV_length, hl]; exact info_sec)

set_option maxHeartbeats 400000 in
set_option maxRecDepth 100000 in
theorem dev_shows {w : World} {b bs bm cap : Nat} {d : List Dv.Cel} (h : DevAt w b bs bm cap d) (m : Nat) (hm : m < d.length) :
    Calls Tryz.prog 91 #[.pointer (some ⟨b, 0, none⟩), .int .i64 m] w fun e w' => e = .returned (secV (Dv.shows (Dv.cell d m))) ∧ Upd (fun _ => False) w w' := by
  obtain ⟨Z, hZ⟩ := alloc_any
  have hu := (Upd.refl (fun _ => False) w).alloc (.cells Z 81)
  have h1 := h.upd hu (fun f => f) (fun f => f) (fun f => f)
  have hlk := h1.waits.look m hm h.ok.2.1
  have hld := (h1.row.upd ((Upd.refl (fun _ => False) (w.alloc (.cells Z 81))).alloc (.cells (bytesV zeros).toArray 81)) (fun f => f)).load h.ok m hm
  have hlen := cell_len h.ok m hm
  unfold Dv.shows
  have c0 := cell_heap (heap_alloc_lt h1.dev (.cells (bytesV zeros).toArray 81)) 0 _ rfl
  have c1 := cell_heap h1.dev 1 _ rfl
  have l2 := h.ok.2.1
  obtain ⟨n, hn⟩ : ∃ n, n = d.length := ⟨_, rfl⟩
  rw [← hn] at c0 l2 hm
  have hm0 : (0 : Int) ≤ (m : Int) := by omega
  have hmi : (m : Int) < (n : Int) := by omega
  have hb0 := heap_alloc_new w (.cells Z 81)
  have hZe := (hZ w).2
  cases ho : (Dv.cell d m).2 with
  | none =>
    rw [ho] at hlk
    simp only [Option.getD_none, Option.isSome_none] at hlk ⊢
    have hl1 := hlen.1
    generalize (Dv.cell d m).1 = l at hld hl1 ⊢
    have HLD := Lib.hid hld
    have hs5 := store_alloc (w.alloc (.cells Z 81)) Z hZe zeros zeros_len
    have HS5 := Lib.hid hs5
    clear hs5
    have HST := Lib.hid (store_new (w := (w.alloc (.cells Z 81)).alloc (.cells (bytesV zeros).toArray 81)) (l := zeros) (l' := l) zeros_len hl1 (heap_alloc_lt (by rw [← hZe]; exact hb0) _))
    clear hld
    have HLK := hlk
    have HZ := Lib.hid hZ
    have HZE := Lib.hid hZe
    have HB0 := Lib.hid hb0
    clear hZ hlk h h1 hn hlen ho hZe hb0
    go_enter Tryz.func91, Tryz.ntmps91
    go_wp2_with (first
      | (refine wpList_alloc_by rfl 81 rfl _ (HZ.out _).1 ?_)
      | (refine wpList_store_by rfl 81 (.tmp 5) (.tmp 14) rfl ⟨(w.alloc (.cells Z 81)).heap.size, 0, none⟩ rfl (secV zeros) rfl HS5.out ?_)
      | (refine wpList_load_by rfl 81 (.tmp 23) rfl ⟨bs, m * 128, none⟩ rfl (secV l) HLD.out ?_)
      | (refine wpList_store_by rfl 81 (.tmp 4) (.tmp 24) rfl ⟨w.heap.size, 0, none⟩ rfl (secV l) rfl HST.out ?_))
    refine bodyPost_ret (v := secV l) ?_ rfl ⟨rfl, ?_⟩
    · exact results_sec rfl _ _ w.heap.size l (0, 0) hl1 rfl (setRow_at (heap_alloc_lt HB0.out _) _)
    · exact (hu.alloc _).setRow (fun h => absurd h (Nat.lt_irrefl _)) _
  | some x =>
    rw [ho] at hlk
    simp only [Option.getD_some, Option.isSome_some] at hlk ⊢
    have hl1 := hlen.2 x ho
    have hs5 := store_alloc (w.alloc (.cells Z 81)) Z hZe x hl1
    have HS5 := Lib.hid hs5
    clear hs5
    have hld5 := load_new hl1 (heap_alloc_new (w.alloc (.cells Z 81)) (.cells (bytesV x).toArray 81))
    rw [World.size_alloc] at hld5
    have HLD := Lib.hid hld5
    clear hld5
    have HST := Lib.hid (store_new (w := (w.alloc (.cells Z 81)).alloc (.cells (bytesV x).toArray 81)) (l := zeros) (l' := x) zeros_len hl1 (heap_alloc_lt (by rw [← hZe]; exact hb0) _))
    clear hld
    have HLK := hlk
    have HZ := Lib.hid hZ
    have HZE := Lib.hid hZe
    have HB0 := Lib.hid hb0
    clear hZ hlk h h1 hn hlen ho hZe hb0
    go_enter Tryz.func91, Tryz.ntmps91
    go_wp2_with (first
      | (refine wpList_alloc_by rfl 81 rfl _ (HZ.out _).1 ?_)
      | (refine wpList_store_by rfl 81 (.tmp 5) (.tmp 14) rfl ⟨(w.alloc (.cells Z 81)).heap.size, 0, none⟩ rfl (secV x) rfl HS5.out ?_)
      | (refine wpList_load_by rfl 81 (.tmp 5) rfl ⟨w.heap.size + 1, 0, none⟩ rfl (secV x) HLD.out ?_)
      | (refine wpList_store_by rfl 81 (.tmp 4) (.tmp 17) rfl ⟨w.heap.size, 0, none⟩ rfl (secV x) rfl HST.out ?_))
    refine bodyPost_ret (v := secV x) ?_ rfl ⟨rfl, ?_⟩
    · exact results_sec rfl _ _ w.heap.size x (0, 0) hl1 rfl (setRow_at (heap_alloc_lt HB0.out _) _)
    · exact (hu.alloc _).setRow (fun h => absurd h (Nat.lt_irrefl _)) _

end Go.Proofs.YtocioaondjgceaaGreatDoor
