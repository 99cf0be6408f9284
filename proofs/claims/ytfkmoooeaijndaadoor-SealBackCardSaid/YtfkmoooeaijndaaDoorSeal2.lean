/- Sealed and stamped texts: what the code does. -/
import Derived.Test.YtfkmoooeaijndaaDoorCodecP
import Derived.Test.YtfkmoooeaijndaaDoorSeal1
import Derived.Test.YtfkmoooeaijndaaDoorShelf
set_option linter.unusedVariables false
set_option linter.unusedSimpArgs false
namespace Go.Proofs.YtfkmoooeaijndaaDoor
open Go.RowKit

/-- A string, and the old memory as it was. -/
def StrR (res : List UInt8) (w : World) (e : Ending) (w' : World) : Prop := e = .returned (.string ⟨res.toArray⟩) ∧ Upd (fun _ => False) w w'
/-- A string and a number. -/
def StrE (res : List UInt8 × Int) (w : World) (e : Ending) (w' : World) : Prop := e = .returned (.tuple #[.string ⟨res.1.toArray⟩, .int .i64 res.2]) ∧ Upd (fun _ => False) w w'
/-- Two strings and a number. -/
def Str2E (res : List UInt8 × List UInt8 × Int) (w : World) (e : Ending) (w' : World) : Prop := e = .returned (.tuple #[.string ⟨res.1.toArray⟩, .string ⟨res.2.1.toArray⟩, .int .i64 res.2.2]) ∧ Upd (fun _ => False) w w'

namespace Sl
def close (s : List UInt8) : List UInt8 × Int := if 65535 < s.length then ([], 3) else (be 2 s.length ++ s ++ be 4 (Crc.sum (be 2 s.length ++ s)), 0)
def openS (s : List UInt8) : List UInt8 × List UInt8 × Int :=
  if s.length < 6 then ([], [], 10) else if s.length < 6 + ofBe (s.take 2) then ([], [], 10)
  else if Crc.sum (s.take (2 + ofBe (s.take 2))) ≠ ofBe ((s.drop (2 + ofBe (s.take 2))).take 4) then ([], [], 9)
  else ((s.drop 2).take (ofBe (s.take 2)), s.drop (6 + ofBe (s.take 2)), 0)
def pad (s : List UInt8) (n : Int) : List UInt8 × Int := if n < 1 ∨ 65536 < n then ([], 2) else (s ++ List.replicate ((n - s.length % n) % n).toNat 0, 0)
def stamp (g i : Nat) (s : List UInt8) (n : Int) : List UInt8 × Int :=
  if n < 26 ∨ 65536 < n then ([], 2) else if 65535 < s.length ∨ n - 26 < s.length then ([], 3)
  else (be 8 g ++ be 4 i ++ be 2 s.length ++ s ++ List.replicate (n - 26 - s.length).toNat 0 ++ (be 4 i ++ be 8 g), 0)
end Sl

theorem rep0 (c : Nat) (w : World) (hc : c ≤ 1000000000) : Calls Tryd.prog 26 #[.string ⟨#[0]⟩, .int .i64 c] w (StrR (List.replicate c 0) w) := by
  refine (Tryd.strings_Repeat ⟨#[0]⟩ c w (by omega) (by show 1 * c ≤ _; omega)).mono ?_
  rintro e w' ⟨rfl, hb⟩
  refine ⟨?_, (Upd.of_below hb).mono (fun i hi h => by omega)⟩
  have : Lib.repeatL (⟨#[0]⟩ : ByteArray).data.toList c = List.replicate c 0 := by
    show Lib.repeatL [0] c = _
    clear hc hb
    induction c with
    | zero => rfl
    | succ c ih => rw [List.replicate_succ, ← ih]; rfl
  rw [this]
theorem noughts_1 (ci : Int) (c : Nat) (w : World) (hci : ci = c) (hc : c ≤ 1000000000) : Calls Tryd.prog 57 #[.int .i64 ci] w (StrR (List.replicate c 0) w) := by
  subst hci
  have hR := fun w => rep0 c w hc
  have HR := Lib.hid hR
  clear hR
  go_enter Tryd.func57, Tryd.ntmps57
  go_wp2_with (fail)
  refine (HR.out _).mono ?_
  rintro e w1 ⟨rfl, u1⟩
  go_wp2
  go_ret
  exact ⟨rfl, u1⟩
theorem noughts_0 (w : World) : Calls Tryd.prog 39 #[] w fun e w' => e = .returned (.func (.func 57) #[] #[]) ∧ w = w' := by
  have hmf : ∀ (fn : Fn) (first cap : Array Value) (w : World), (Instr.makeFunc fn first cap).run Tryd.prog w = .ok (.func fn first cap) w := fun _ _ _ _ => rfl
  go_enter Tryd.func39, Tryd.ntmps39
  go_wp2
  go_ret
  exact ⟨rfl, rfl⟩

set_option maxHeartbeats 400000 in
set_option maxRecDepth 100000 in
theorem sl_Pad (s : List UInt8) (n : Int) (w : World) (hs : s.length ≤ 1000000) :
    Calls Tryd.prog 15 #[.string ⟨s.toArray⟩, .int .i64 n] w (StrE (Sl.pad s n) w) := by
  by_cases h1 : n < 1
  · rw [show Sl.pad s n = ([], 2) by unfold Sl.pad; rw [if_pos (Or.inl h1)]]
    go_enter Tryd.func15, Tryd.ntmps15
    go_wp2
    go_ret2
    exact ⟨rfl, Upd.refl _ _⟩
  · by_cases h2 : 65536 < n
    · rw [show Sl.pad s n = ([], 2) by unfold Sl.pad; rw [if_pos (Or.inr h2)]]
      go_enter Tryd.func15, Tryd.ntmps15
      go_wp2
      go_ret2
      exact ⟨rfl, Upd.refl _ _⟩
    · obtain ⟨m, rfl⟩ := Int.eq_ofNat_of_zero_le (show 0 ≤ n by omega)
      obtain ⟨r, hr⟩ : ∃ r, r = s.length % m := ⟨_, rfl⟩
      have hrm : r < m := by rw [hr]; exact Nat.mod_lt _ (by omega)
      obtain ⟨q, hq⟩ : ∃ q, q = (m - r) % m := ⟨_, rfl⟩
      have hqm : q < m := by rw [hq]; exact Nat.mod_lt _ (by omega)
      have e1 : Int.tmod (s.length : Int) (m : Int) = (r : Int) := by rw [hr]; exact (Int.ofNat_tmod _ _).symm
      have e1' : (s.length : Int) % (m : Int) = (r : Int) := by rw [hr]; rfl
      have e2 : Int.tmod ((m : Int) - (r : Int)) (m : Int) = (q : Int) := by rw [show (m : Int) - (r : Int) = ((m - r : Nat) : Int) by omega, hq]; exact (Int.ofNat_tmod _ _).symm
      have e2' : ((m : Int) - (r : Int)) % (m : Int) = (q : Int) := by rw [show (m : Int) - (r : Int) = ((m - r : Nat) : Int) by omega, hq]; rfl
      rw [show Sl.pad s m = (s ++ List.replicate q 0, 0) by unfold Sl.pad; rw [if_neg (by omega), e1', e2']; rfl]
      have e0 : IntKind.i64.wrap ((m : Int) - (r : Int)) = (m : Int) - (r : Int) := IntWalk.i64_in _ (by omega)
      have hmn : ¬ m = 0 := by omega
      have hlen : ¬ 9223372036854775807 < s.length + q := by omega
      have hm0 : ((m : Int) == 0) = false := beq_eq_false_iff_ne.2 (by omega)
      have hN := fun w => noughts_1 q q w rfl (by omega)
      obtain ⟨Z, hZ⟩ : ∃ Z, Z = List.replicate q (0 : UInt8) := ⟨_, rfl⟩
      have hZl : Z.length = q := by rw [hZ]; simp
      rw [← hZ] at hN ⊢
      have hcat := append_list s Z
      have HN := Lib.hid hN
      clear hN hr hq hZ e1' e2'
      go_enter Tryd.func15, Tryd.ntmps15
      have hu0 := (Upd.refl (fun _ => False) w).drew
      go_wp2
      go_region_held3 (fun w' => Upd (fun _ => False) w w')
        (first
          | exact hu0
          | (have h := ‹Upd _ _ _›; exact h)
          | (have h := ‹Upd (fun _ => False) w _›; exact h.trans u1 (fun _ _ f => f)))
        (first
          | (go_at_call 39; refine (noughts_0 _).mono ?_; rintro e w1 ⟨rfl, rfl⟩)
          | (go_at_call 57; refine (HN.out _).mono ?_; rintro e w1 ⟨rfl, u1⟩))
      have hS := ‹Upd (fun _ => False) w _›
      go_wp2
      go_ret2
      exact ⟨rfl, hS⟩

set_option maxHeartbeats 400000 in
set_option maxRecDepth 100000 in
theorem sl_Seal (s : List UInt8) (w : World) (hs : s.length ≤ 1000000) (hT : Fours w) (hg : 0 < w.heap.size) :
    Calls Tryd.prog 11 #[.string ⟨s.toArray⟩] w (StrE (Sl.close s) w) := by
  by_cases h1 : 65535 < s.length
  · rw [show Sl.close s = ([], 3) by unfold Sl.close; rw [if_pos h1]]
    go_enter Tryd.func11, Tryd.ntmps11
    go_wp2
    go_ret2
    exact ⟨rfl, Upd.refl _ _⟩
  · obtain ⟨B, hB⟩ : ∃ B, B = be 2 s.length ++ s := ⟨_, rfl⟩
    have hBl : B.length ≤ 70000 := by rw [hB]; simp [be]; omega
    rw [show Sl.close s = (B ++ be 4 (Crc.sum B), 0) by unfold Sl.close; rw [if_neg h1, hB]]
    obtain ⟨k1, k2⟩ := Wk.two w
    have hu2 := ((Upd.refl (fun _ => False) w).alloc (.cells #[.slice none 0 0, .int .i64 0] 61)).alloc (.cells #[.slice none 0 0, .int .i64 0] 61)
    have hTx := Wk_Text k1 s (by simp) (by omega)
    rw [List.nil_append, ← hB] at hTx
    obtain ⟨S, hS⟩ : ∃ S, S = be 4 (Crc.sum B) := ⟨_, rfl⟩
    have hSl : S.length = 4 := by rw [hS, be_len]
    have hcat := append_list B S
    have hcs := Crc.sum_lt B
    have hu32 := fun w0 w (h : Wk w0 w (w.heap.size) []) => Wk_U32 h (Crc.sum B) (Crc.sum B) rfl hcs (by simp)
    rw [← hS]
    have HT := Lib.hid hT
    have HX := Lib.hid hTx
    have HS := Lib.hid hS
    have HU := Lib.hid hu2
    have K2 := Lib.hid k2
    clear hTx hT hS hB hu2 k1 k2 hu32
    go_enter Tryd.func11, Tryd.ntmps11
    go_wp2_with (fail)
    refine HX.out.mono ?_
    rintro e w1 ⟨rfl, k3⟩
    have hz := k3.upd.size
    have hT1 : Fours w1 := (HT.out.upd HU.out (fun f => f)).upd k3.upd (fun (f : 0 = w.heap.size) => by omega)
    have hb2 := k3.heap (heap_alloc_new2 w _ _) (by omega)
    have k4 := Wk.lies hb2
    go_wp2_with (fail)
    refine (Wk_Bytes k3 (by omega)).mono ?_
    rintro e w2 ⟨rfl, rfl⟩
    go_wp2_with (fail)
    refine (crc_Sum B _ (by omega) hT1).mono ?_
    rintro e w2 ⟨rfl, rfl⟩
    go_wp2_with (fail)
    refine (Wk_U32 k4 _ (Crc.sum B) rfl hcs (by simp)).mono ?_
    rintro e w2 ⟨rfl, k5⟩
    rw [List.nil_append, ← HS.out] at k5
    go_wp2_with (fail)
    refine (Wk_Bytes k5 (by omega)).mono ?_
    rintro e w3 ⟨rfl, rfl⟩
    go_wp2
    go_ret2
    exact ⟨rfl, (HU.out.trans k3.upd (fun i hi h => by omega)).trans k5.upd (fun i hi h => by omega)⟩

end Go.Proofs.YtfkmoooeaijndaaDoor
