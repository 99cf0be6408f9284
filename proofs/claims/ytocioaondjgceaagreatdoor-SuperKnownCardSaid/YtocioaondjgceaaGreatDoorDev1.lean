/- What a device is: each sector's sure bytes, and what waits. Plain lists, and the datum that its map reads as. -/
import Derived.Test.YtocioaondjgceaaGreatDoorDev0
set_option linter.unusedVariables false
set_option linter.unusedSimpArgs false
namespace Go.Proofs.YtocioaondjgceaaGreatDoor
open Go.RowKit Go.Maps

namespace Dv
abbrev Cel := List UInt8 × Option (List UInt8)
def shows (x : Cel) : List UInt8 := x.2.getD x.1
def full (s : List UInt8) : List UInt8 := s ++ List.replicate (128 - s.length) 0
def Ok (d : List Cel) : Prop := 512 ≤ d.length ∧ d.length ≤ 4096 ∧ ∀ x ∈ d, x.1.length = 128 ∧ ∀ y, x.2 = some y → y.length = 128
def cell (d : List Cel) (k : Nat) : Cel := d.getD k (List.replicate 128 0, none)
/-- the entries of what waits, rising -/
def ents : Nat → List Cel → List (Lit × DataW Unit)
  | _, [] => []
  | k, (s, none) :: r => ents (k + 1) r
  | k, (s, some x) :: r => (.int .i64 k, .lit (.string x)) :: ents (k + 1) r
def waitsD (d : List Cel) : DataW Unit := .map (ents 0 d)

theorem full_len (s : List UInt8) (h : s.length ≤ 128) : (full s).length = 128 := by simp [full]; omega
theorem ents_mem (p : Lit × DataW Unit) : ∀ (d : List Cel) (k : Nat), p ∈ ents k d ↔ ∃ i x, (d[i]?).bind (·.2) = some x ∧ p = (.int .i64 ((k + i : Nat) : Int), .lit (.string x)) := by
  intro d
  induction d with
  | nil => intro k; simp [ents]
  | cons c d ih =>
    intro k
    obtain ⟨s, o⟩ := c
    cases o with
    | none =>
      unfold ents
      rw [ih]
      constructor
      · rintro ⟨i, x, h, rfl⟩; exact ⟨i + 1, x, by simpa using h, by rw [show k + 1 + i = k + (i + 1) by omega]⟩
      · rintro ⟨i, x, h, rfl⟩
        cases i with
        | zero => simp at h
        | succ i => exact ⟨i, x, by simpa using h, by rw [show k + 1 + i = k + (i + 1) by omega]⟩
    | some y =>
      unfold ents
      rw [List.mem_cons, ih]
      constructor
      · rintro (rfl | ⟨i, x, h, rfl⟩)
        · exact ⟨0, y, rfl, rfl⟩
        · exact ⟨i + 1, x, by simpa using h, by rw [show k + 1 + i = k + (i + 1) by omega]⟩
      · rintro ⟨i, x, h, rfl⟩
        cases i with
        | zero => left; simp at h; subst h; rfl
        | succ i => right; exact ⟨i, x, by simpa using h, by rw [show k + 1 + i = k + (i + 1) by omega]⟩
theorem ents_rising : ∀ (d : List Cel) (k : Nat), (ents k d).Pairwise (fun p q => p.1.before q.1 = true) := by
  intro d
  induction d with
  | nil => intro k; exact List.Pairwise.nil
  | cons c d ih =>
    intro k
    obtain ⟨s, o⟩ := c
    cases o with
    | none => exact ih (k + 1)
    | some y =>
      unfold ents
      refine List.Pairwise.cons ?_ (ih (k + 1))
      intro p hp
      obtain ⟨i, x, h, rfl⟩ := (ents_mem p d (k + 1)).1 hp
      show (Lit.before (.int .i64 (k : Int)) (.int .i64 _)) = true
      simp [Lit.before]; omega
theorem key_int (k : Int) : WideAt.IsKeyLit (.int .i64 k) := trivial
theorem canon (d : List Cel) : Canon (waitsD d) := by
  refine ⟨_, rfl, ents_rising d 0, fun p hp => ?_⟩
  obtain ⟨i, x, h, rfl⟩ := (ents_mem p d 0).1 hp
  exact key_int _
theorem apart (d : List Cel) : (ents 0 d).Pairwise (fun p q => p.1 ≠ q.1) := apart_of_rising (ents_rising d 0)
theorem has_iff (d : List Cel) (k : Lit) : has (waitsD d) k = true ↔ ∃ i x, (d[i]?).bind (·.2) = some x ∧ k = .int .i64 ((i : Nat) : Int) := by
  unfold waitsD
  rw [has_eq, List.any_eq_true]
  constructor
  · rintro ⟨p, hp, hs⟩
    obtain ⟨i, x, h, rfl⟩ := (ents_mem p d 0).1 hp
    exact ⟨i, x, h, by rw [← WideAt.sameKey_eq hs]; simp⟩
  · rintro ⟨i, x, h, rfl⟩
    exact ⟨(.int .i64 ((0 + i : Nat) : Int), .lit (.string x)), (ents_mem _ d 0).2 ⟨i, x, h, rfl⟩, by rw [Nat.zero_add]; exact WideAt.sameKey_self (key_int _)⟩
theorem has_nat (d : List Cel) (k : Nat) : has (waitsD d) (.int .i64 (k : Int)) = ((d[k]?).bind (·.2)).isSome := by
  rw [Bool.eq_iff_iff, has_iff d _]
  constructor
  · rintro ⟨i, x, h, e⟩
    have e2 : (k : Int) = (i : Int) := by injection e
    obtain rfl : k = i := by omega
    rw [h]; rfl
  · intro h
    obtain ⟨x, hx⟩ := Option.isSome_iff_exists.1 h
    exact ⟨k, x, hx, rfl⟩
theorem at_nat (d : List Cel) (k : Nat) (z : DataW Unit) (x : List UInt8) (h : (d[k]?).bind (·.2) = some x) : (waitsD d).atKey (.int .i64 (k : Int)) z = .lit (.string x) :=
  WideAt.atKey_mem z (key_int _) (apart d) ((ents_mem _ d 0).2 ⟨k, x, h, by rw [Nat.zero_add]⟩)
theorem bind_set (d : List Cel) (k i : Nat) (c : Cel) (hk : k < d.length) : ((d.set k c)[i]?).bind (·.2) = if i = k then c.2 else (d[i]?).bind (·.2) := by
  by_cases e : i = k
  · subst e; rw [if_pos rfl]; simp [hk]
  · rw [if_neg e, List.getElem?_set_ne (fun h => e h.symm)]
theorem isMap (d : List Cel) : IsMap (waitsD d) := ⟨_, rfl⟩
theorem has_set (d : List Cel) (k : Nat) (c : Cel) (hk : k < d.length) (key : Lit) (hne : key ≠ .int .i64 (k : Int)) : has (waitsD (d.set k c)) key = has (waitsD d) key := by
  rw [Bool.eq_iff_iff, has_iff, has_iff]
  constructor
  · rintro ⟨i, x, h, rfl⟩
    rw [bind_set d k i c hk] at h
    by_cases e : i = k
    · subst e; exact absurd rfl hne
    · rw [if_neg e] at h; exact ⟨i, x, h, rfl⟩
  · rintro ⟨i, x, h, rfl⟩
    refine ⟨i, x, ?_, rfl⟩
    rw [bind_set d k i c hk]
    by_cases e : i = k
    · subst e; exact absurd rfl hne
    · rw [if_neg e]; exact h
theorem at_set (d : List Cel) (k : Nat) (c : Cel) (hk : k < d.length) (key : Lit) (hne : key ≠ .int .i64 (k : Int)) (z : DataW Unit) (h : has (waitsD d) key = true) : (waitsD (d.set k c)).atKey key z = (waitsD d).atKey key z := by
  obtain ⟨i, x, hb, rfl⟩ := (has_iff d key).1 h
  have e : i ≠ k := fun e => by subst e; exact hne rfl
  rw [at_nat d i z x hb, at_nat _ i z x (by rw [bind_set d k i c hk, if_neg e]; exact hb)]
theorem put_eq (d : List Cel) (k : Nat) (s x : List UInt8) (hk : k < d.length) (hc : Canon ((waitsD d).put (.int .i64 (k : Int)) (.lit (.string x)))) : (waitsD d).put (.int .i64 (k : Int)) (.lit (.string x)) = waitsD (d.set k (s, some x)) := by
  refine Maps.ext hc (canon _) (fun key => ?_) (fun key z h => ?_)
  · by_cases e : key = .int .i64 (k : Int)
    · subst e
      rw [has_put_same (isMap d) (key_int _), has_nat, bind_set d k k _ hk, if_pos rfl]; rfl
    · rw [has_put_other e, has_set d k _ hk key e]
  · by_cases e : key = .int .i64 (k : Int)
    · subst e
      rw [atKey_put_same (isMap d) (key_int _), at_nat _ k z x (by rw [bind_set d k k _ hk, if_pos rfl])]
    · rw [has_put_other e] at h
      rw [atKey_put_other e, at_set d k _ hk key e z h]
theorem del_eq (d : List Cel) (k : Nat) (s : List UInt8) (hk : k < d.length) (hc : Canon ((waitsD d).del (.int .i64 (k : Int)))) : (waitsD d).del (.int .i64 (k : Int)) = waitsD (d.set k (s, none)) := by
  refine Maps.ext hc (canon _) (fun key => ?_) (fun key z h => ?_)
  · by_cases e : key = .int .i64 (k : Int)
    · subst e
      rw [has_del_same, has_nat, bind_set d k k _ hk, if_pos rfl]; rfl
    · rw [has_del_other e, has_set d k _ hk key e]
  · by_cases e : key = .int .i64 (k : Int)
    · subst e
      rw [has_del_same] at h; cases h
    · rw [has_del_other e] at h
      rw [atKey_del_other e, at_set d k _ hk key e z h]
theorem ents_len : ∀ (d : List Cel) (k : Nat), (ents k d).length = (d.filter fun x => x.2.isSome).length := by
  intro d
  induction d with
  | nil => intro k; rfl
  | cons c d ih =>
    intro k
    obtain ⟨s, o⟩ := c
    cases o <;> simp [ents, ih]
theorem size_eq' (d : List Cel) : Maps.size (waitsD d) = (d.filter fun x => x.2.isSome).length := by
  show (ents 0 d).length = _
  exact ents_len d 0
theorem size_le (d : List Cel) : Maps.size (waitsD d) ≤ d.length := by rw [size_eq']; exact List.length_filter_le _ _
theorem no_waits (n : Nat) (s : List UInt8) : waitsD (List.replicate n (s, none)) = .map [] := by
  have : ∀ n k, ents k (List.replicate n (s, none)) = [] := by
    intro n
    induction n with
    | zero => intro k; rfl
    | succ n ih => intro k; rw [List.replicate_succ]; exact ih (k + 1)
  unfold waitsD; rw [this]
end Dv

open Classical in
/-- How a sector reads. -/
noncomputable def secR (v : Value) : Option (DataW Unit × List MemPlace) :=
  if h : ∃ l : List UInt8, l.length = 128 ∧ v = secV l then some (.lit (.string (Classical.choose h)), []) else none
theorem secV_inj {a b : List UInt8} (h : secV a = secV b) : a = b := by
  unfold secV at h
  simp only [Value.agg.injEq] at h
  exact bytesV_inj (by simpa using congrArg Array.toList h)
theorem secR_mk (l : List UInt8) (hl : l.length = 128) : secR (secV l) = some (.lit (.string l), []) := by
  unfold secR
  have h : ∃ l' : List UInt8, l'.length = 128 ∧ secV l = secV l' := ⟨l, hl, rfl⟩
  rw [dif_pos h, ← secV_inj (Classical.choose_spec h).2]
theorem secR_inv {v : Value} {l : List UInt8} {ps : List MemPlace} (h : secR v = some (.lit (.string l), ps)) : v = secV l ∧ l.length = 128 := by
  unfold secR at h
  split at h
  · rename_i hh
    simp only [Option.some.injEq, Prod.mk.injEq, DataW.lit.injEq, Lit.string.injEq] at h
    rw [← h.1]
    exact ⟨(Classical.choose_spec hh).2, (Classical.choose_spec hh).1⟩
  · cases h
def zeros : List UInt8 := List.replicate 128 0
theorem secV_zeros : Value.agg zSec = secV zeros := rfl
theorem zeros_len : zeros.length = 128 := by simp [zeros]
theorem KI : Keyed Tryz.prog 3 := int_keyed Tryz.underlying3
theorem key_of (k : Nat) (hk : k ≤ 4096) : keyOf Tryz.prog 3 (.int .i64 (k : Int)) = some (.int .i64 (k : Int)) := keyOf_int_mk Tryz.underlying3 (by simp [Lit.wf, IntKind.min, IntKind.max, IntKind.bits, IntKind.signed]; omega)

/-- What waits, in memory. -/
def WaitsAt (w : World) (bm : Nat) (d : List Dv.Cel) : Prop := w.ownsMap (H := Unit) Tryz.prog 3 secR bm 5000 (Dv.waitsD d)
theorem WaitsAt.upd {F : Nat → Prop} {w w' : World} {bm : Nat} {d : List Dv.Cel} (h : WaitsAt w bm d) (hu : Upd F w w') (hn : ¬ F bm) : WaitsAt w' bm d := by
  obtain ⟨es, clock, hb, r⟩ := h
  exact ⟨es, clock, hu.heap hb hn, r⟩
theorem WaitsAt.lt {w : World} {bm : Nat} {d : List Dv.Cel} (h : WaitsAt w bm d) : bm < w.heap.size := World.ownsMap.lt h
theorem tighten {w : World} {bm n : Nat} {D : DataW Unit} (h : w.ownsMap (H := Unit) Tryz.prog 3 secR bm n D) (hs : Maps.size D ≤ 5000) : w.ownsMap (H := Unit) Tryz.prog 3 secR bm 5000 D := by
  obtain ⟨es, clock, hb, F, hn, rfl⟩ := h
  exact ⟨es, clock, hb, F, by simpa [Maps.size, length_sorted] using hs, rfl⟩
theorem WaitsAt.look {w : World} {bm : Nat} {d : List Dv.Cel} (h : WaitsAt w bm d) (k : Nat) (hk : k < d.length) (hd : d.length ≤ 4096) :
    (Instr.lookup 66 (.map (some bm)) (.int .i64 (k : Int)) true).run Tryz.prog w = .ok (.tuple #[secV ((Dv.cell d k).2.getD zeros), .bool (Dv.cell d k).2.isSome]) w := by
  obtain ⟨v, ps, hr, hv⟩ := World.ownsMap.look_ok h KI Tryz.underlying66 (zero_sec w) (by rw [secV_zeros]; exact secR_mk zeros zeros_len) (key_of k (by omega))
  have hc : Dv.cell d k = d[k] := by unfold Dv.cell; rw [List.getD, List.getElem?_eq_getElem hk]; rfl
  rw [hr]
  have h1 : Maps.has (Dv.waitsD d) (.int .i64 (k : Int)) = (Dv.cell d k).2.isSome := by rw [Dv.has_nat, hc, List.getElem?_eq_getElem hk]; rfl
  rw [h1]
  cases ho : (Dv.cell d k).2 with
  | none =>
    have : (Dv.waitsD d).atKey (.int .i64 (k : Int)) (.lit (.string zeros)) = .lit (.string zeros) := atKey_of_not_has (by rw [h1, ho]; rfl) _
    rw [this] at hv
    rw [(secR_inv hv).1]; rfl
  | some x =>
    rw [Dv.at_nat d k _ x (by rw [List.getElem?_eq_getElem hk, ← hc]; exact ho)] at hv
    rw [(secR_inv hv).1]; rfl
theorem WaitsAt.look1 {w : World} {bm : Nat} {d : List Dv.Cel} (h : WaitsAt w bm d) (k : Nat) (hk : k < d.length) (hd : d.length ≤ 4096) (x : List UInt8) (ho : (Dv.cell d k).2 = some x) :
    (Instr.lookup 66 (.map (some bm)) (.int .i64 (k : Int)) false).run Tryz.prog w = .ok (secV x) w := by
  obtain ⟨v, ps, hr, hv⟩ := World.ownsMap.lookup h KI Tryz.underlying66 (zero_sec w) (by rw [secV_zeros]; exact secR_mk zeros zeros_len) (key_of k (by omega))
  have hc : Dv.cell d k = d[k] := by unfold Dv.cell; rw [List.getD, List.getElem?_eq_getElem hk]; rfl
  rw [hr]
  rw [Dv.at_nat d k _ x (by rw [List.getElem?_eq_getElem hk, ← hc]; exact ho)] at hv
  rw [(secR_inv hv).1]
theorem WaitsAt.put {w : World} {bm : Nat} {d : List Dv.Cel} (h : WaitsAt w bm d) (k : Nat) (hk : k < d.length) (hd : d.length ≤ 4096) (x : List UInt8) (hx : x.length = 128) (s : List UInt8) :
    ∃ w', (Instr.mapUpdate 66 (.map (some bm)) (.int .i64 (k : Int)) (secV x)).run Tryz.prog w = .ok () w' ∧ WaitsAt w' bm (d.set k (s, some x)) ∧ w.grownBy w' (some bm) := by
  obtain ⟨w', h1, h2, h3⟩ := World.ownsMap.update h KI Tryz.underlying66 (by decide) (key_of k (by omega)) (secR_mk x hx)
  refine ⟨w', h1, ?_, h3⟩
  have e := Dv.put_eq d k s x hk (h2.canon KI)
  rw [e] at h2
  exact tighten h2 (by have := Dv.size_le (d.set k (s, some x)); rw [List.length_set] at this; omega)
theorem WaitsAt.del {w : World} {bm : Nat} {d : List Dv.Cel} (h : WaitsAt w bm d) (k : Nat) (hk : k < d.length) (hd : d.length ≤ 4096) (s : List UInt8) (ty : TypeId) :
    ∃ w', (Builtin.delete_ #[66, 3] ty #[.map (some bm), .int .i64 (k : Int)]).run Tryz.prog w = .ok (.tuple #[]) w' ∧ WaitsAt w' bm (d.set k (s, none)) ∧ w.grownBy w' (some bm) := by
  obtain ⟨w', h1, h2, h3⟩ := World.ownsMap.drop h KI Tryz.underlying66 (key_of k (by omega)) ty
  refine ⟨w', h1, ?_, h3.grown⟩
  have e := Dv.del_eq d k s hk (h2.canon KI)
  rw [e] at h2
  exact h2
theorem WaitsAt.len {w : World} {bm : Nat} {d : List Dv.Cel} (h : WaitsAt w bm d) (ty : TypeId) :
    (Builtin.len_ #[66] ty #[.map (some bm)]).run Tryz.prog w = .ok (.int .i64 ((d.filter fun x => x.2.isSome).length : Nat)) w := by
  rw [World.ownsMap.len h Tryz.underlying66 ty, Dv.size_eq']

end Go.Proofs.YtocioaondjgceaaGreatDoor
