/- Numbers as bytes: the reference's own. -/
import Derived.Test.YtocioaondjgceaaGreatDoorCrc
set_option linter.unusedVariables false
set_option linter.unusedSimpArgs false
namespace Go.Proofs.YtocioaondjgceaaGreatDoor
open Go.RowKit

theorem be_succ (i n : Nat) : be (i + 1) n = UInt8.ofNat (n / 2 ^ (8 * i)) :: be i n := by
  unfold be
  rw [List.range_succ_eq_map, List.map_cons, List.map_map]
  congr 1
  apply List.map_congr_left
  intro k hk
  have := List.mem_range.1 hk
  show UInt8.ofNat (n / 2 ^ (8 * (i + 1 - 1 - (k + 1)))) = _
  rw [show i + 1 - 1 - (k + 1) = i - 1 - k by omega]
theorem be_len (i n : Nat) : (be i n).length = i := by simp [be]

set_option maxHeartbeats 400000 in
set_option maxRecDepth 100000 in
theorem ref_Number (ni wi : Int) (n wd : Nat) (w : World) (hni : ni = n) (hwi : wi = wd) (hn : n < 18446744073709551616) (hw : wd ≤ 8) :
    Calls Tryz.prog 71 #[.int .u64 ni, .int .i64 wi] w fun e w' => e = .returned (.string ⟨(be wd n).toArray⟩) ∧ Upd (fun _ => False) w w' := by
  subst hni hwi
  go_enter Tryz.func71, Tryz.ntmps71
  go_wp2
  go_loopw [0, 5, 6] (fun v s i wr => ∃ k : Nat, k ≤ wd ∧ i = .int .i64 k ∧ v = .int .u64 (n / 2 ^ (8 * k) : Nat) ∧ s = .string ⟨(be k n).toArray⟩ ∧ Upd (fun _ => False) w wr) (fun _ _ i _ => wd - (intOf i).toNat)
  case atStart => exact ⟨0, Nat.zero_le _, rfl, by simp, rfl, Upd.refl _ _⟩
  case round =>
    obtain ⟨k, hk, rfl, rfl, rfl, hu⟩ := hrel
    obtain ⟨m, hm⟩ : ∃ m, m = n / 2 ^ (8 * k) := ⟨_, rfl⟩
    rw [← hm]
    have hml : m < 18446744073709551616 := by rw [hm]; exact Nat.lt_of_le_of_lt (Nat.div_le_self _ _) hn
    have hm2 : m / 256 = n / 2 ^ (8 * (k + 1)) := by rw [hm, Nat.div_div_eq_div_mul, show 256 = 2 ^ 8 from rfl, ← Nat.pow_add]; rfl
    have hbe : be (k + 1) n = UInt8.ofNat m :: be k n := by rw [be_succ, hm]
    by_cases hlt : k < wd
    · obtain ⟨S, hS⟩ : ∃ S, S = be k n := ⟨_, rfl⟩
      have hSl : S.length ≤ 8 := by rw [hS, be_len]; omega
      rw [← hS] at hbe ⊢
      have e1 : (m : Int) % 256 = ((UInt8.ofNat m).toNat : Int) := by simp
      have hown := World.ownsRow_lit (base := 0) (e := 5) (size := 1) wr #[.int .u8 ((UInt8.ofNat m).toNat : Int)] 1 (Nat.zero_le _) (by decide) rfl
      have hconv := run_conv_row (P := Tryz.prog) (wr.alloc (.cells #[.int .u8 ((UInt8.ofNat m).toNat : Int)] 5)) 82 5 9 Tryz.underlying82 Tryz.underlying5 Tryz.underlying9 _ [UInt8.ofNat m] 1 rfl hown
      have hcat := append_list [UInt8.ofNat m] S
      have h8 := (UInt8.ofNat m).toNat_lt
      have e2 : IntKind.u8.wrap ((m : Int) % 256) = ((UInt8.ofNat m).toNat : Int) := by rw [e1]; exact IntWalk.u8_in _ (by omega)
      obtain ⟨b, hb⟩ : ∃ b, b = UInt8.ofNat m := ⟨_, rfl⟩
      rw [← hb] at hbe e1 e2 hconv hcat
      have HB := Lib.hid hbe
      have H2 := Lib.hid hm2
      clear hown hm hbe hm2 hS hb h8
      go_wp2
      go_roundw
      case rel => exact ⟨k + 1, by omega, by go_num, by rw [← H2.out]; rfl, by rw [HB.out], hu.alloc _⟩
      case measure => simp [intOf]; omega
    · obtain rfl : k = wd := by omega
      clear hm hm2 hbe
      go_wp2
      go_ret
      exact ⟨rfl, hu⟩

set_option maxHeartbeats 400000 in
set_option maxRecDepth 100000 in
theorem ref_Told (l : List UInt8) (w : World) (hl : l.length ≤ 8) :
    Calls Tryz.prog 97 #[.string ⟨l.toArray⟩] w fun e w' => e = .returned (.int .u64 (ofBe l : Nat)) ∧ w = w' := by
  go_enter Tryz.func97, Tryz.ntmps97
  go_wp2
  go_loop [3, 4] (fun n i => ∃ k : Nat, k ≤ l.length ∧ i = .int .i64 k ∧ n = .int .u64 (ofBe (l.take k) : Nat)) (fun _ i => l.length - (intOf i).toNat)
  case atStart => exact ⟨0, Nat.zero_le _, rfl, rfl⟩
  case round =>
    obtain ⟨k, hk, rfl, rfl⟩ := hrel
    obtain ⟨d, hd⟩ : ∃ d, d = ofBe (l.take k) := ⟨_, rfl⟩
    rw [← hd]
    by_cases hlt : k < l.length
    · have hdl : d < 72057594037927936 := by
        have h1 := ofBe_lt (l.take k)
        have h2 := pow256_le (l.take k).length (by rw [List.length_take]; omega)
        rw [hd]; omega
      have hnx : ofBe (l.take (k + 1)) = d * 256 + (l[k]'hlt).toNat := by rw [List.take_succ_eq_append_getElem hlt, ofBe_snoc, hd]
      have hb := (l[k]'hlt).toNat_lt
      have hx : IntKind.u64.wrap ((d : Int) * 256 + IntKind.u64.wrap ((l[k]'hlt).toNat : Int)) = ((d * 256 + (l[k]'hlt).toNat : Nat) : Int) := by
        rw [IntWalk.u64_in ((l[k]'hlt).toNat : Int) (by omega), IntWalk.u64_in _ (by omega)]; simp
      have HN := Lib.hid hnx
      have HX := Lib.hid hx
      clear hnx hd hx
      go_wp2
      exact ⟨⟨k + 1, by omega, by go_num, by rw [HN.out]; exact congrArg _ HX.out⟩, by simp [intOf]; omega⟩
    · obtain rfl : k = l.length := by omega
      rw [List.take_length] at hd
      subst hd
      go_wp2
      go_ret
      exact ⟨rfl, rfl⟩

end Go.Proofs.YtocioaondjgceaaGreatDoor
