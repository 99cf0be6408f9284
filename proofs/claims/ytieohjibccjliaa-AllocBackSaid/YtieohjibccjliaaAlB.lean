/- An allocator: List. -/
import Derived.Test.YtieohjibccjliaaAlA
set_option linter.unusedVariables false
set_option linter.unusedSimpArgs false
namespace Go.Proofs.Ytieohjibccjliaa
open Go.RowKit Go.Shelf Go.Maps
set_option maxRecDepth 100000

theorem step_append_by {P : Program} {ops : Array Oper} {o : Oper} {a : Act} {w w' : World} {K : Act → World → Prop} {Q : Exit → Act → World → Prop} {E : Prop} (d : Option Tmp) (hd : o.dst = d) (hw : Region.wanted o (yielded ops a.tmps) = true) (s x : Operand) (t : TypeId)
    (ho : o.op = .call { callee := .builtin .append, args := #[s, x], argTypes := #[t, t] }) (vs vx v' : Value) (hs : a.eval s = vs) (hx : a.eval x = vx) (hrun : (Builtin.append_ #[t, t] o.type #[vs, vx]).run P w = .ok v' w') (h : K (a.put d v') w') :
    if Region.wanted o (yielded ops a.tmps) = true then Oper.wp P o a w K Q else E := by
  subst hd
  rw [if_pos hw]
  unfold Oper.wp execOp
  simp only [ho, resolve, invoke, builtin, Sem.run_bind, Sem.run_pure, Result.andThen_ok, List.map_toArray, List.map_cons, List.map_nil, hs, hx, hrun]
  exact h
theorem Try.infoOwn : (Try.prog.info? 39).map (fun i => (i.zero, i.size, i.bytes)) = some (some (.agg #[.int .i64 0, .int .i64 0, .slice none 0 0]), 3, 40) := by kernel_rfl
def listA (s : AlS) : List Own := s.ch.map fun x => (x.1, x.2.2.1, x.2.1.tail)
theorem own_block_ge {w : World} {B : Nat} {e : TypeId} {size : Nat} {v : Value} {m : Nat} {xs : List Value} (h : w.ownsRow B e size v m xs) {j : Nat} (hj : v.ownBlock = some j) : B ≤ j := by
  rcases h.2 with ⟨rfl, _⟩ | ⟨g, cap, cur, rfl, hb, rest⟩
  · cases hj
  · simp only [Value.ownBlock, Option.some.injEq] at hj; omega
theorem own_block_lt {w : World} {B : Nat} {e : TypeId} {size : Nat} {v : Value} {m : Nat} {xs : List Value} (h : w.ownsRow B e size v m xs) {j : Nat} (hj : v.ownBlock = some j) : j < w.heap.size := by
  rcases h.2 with ⟨rfl, _⟩ | ⟨g, cap, cur, rfl, hb, hg, rest⟩
  · cases hj
  · simp only [Value.ownBlock, Option.some.injEq] at hj; have := lt_of_heap hg; omega
theorem ints_tail {w : World} {r off cap m : Nat} {row : Option Nat} {x : Int} {tl : List Int} (h : IntsAt w (.slice (some ⟨r, off, none⟩) (m + 1) cap) row (x :: tl)) (hm : m = tl.length) {a : Addr} (ha : (if cap = 1 then some (⟨r, off, none⟩ : Addr) else some ⟨r, off + 1, none⟩) = some a) : IntsAt w (.slice (some a) m (cap - 1)) row tl := by
  by_cases hc : cap = 1
  · rw [if_pos hc] at ha
    cases ha
    obtain ⟨ad, cap', e, h1, h2, h3⟩ := h
    simp only [List.length_cons, Value.slice.injEq] at e
    obtain ⟨_, _, rfl⟩ := e
    simp only [List.length_cons] at h1
    obtain rfl : tl = [] := List.eq_nil_of_length_eq_zero (by omega)
    exact ⟨_, _, by rw [hm], Nat.zero_le _, by unfold maxLen; omega, fun j y hj => by cases hj⟩
  · rw [if_neg hc] at ha
    cases ha
    exact h.tail hm
theorem at_List {lo : Nat} {w : World} {b : Nat} {s : AlS} {h : AlB} (H : AlAt lo w b s h) (ok : AlOk s) :
    Calls Try.prog 13 #[.pointer (some ⟨b, 0, none⟩)] w fun e w' => ∃ v, e = .returned v ∧ OwnW w.heap.size w' v (listA s) ∧ Upd (fun _ => False) w w' := by
  have HI := Lib.hid (al_is H)
  have c1 := cell_heap H.obj 1 _ rfl
  have HK := fun W => Lib.hid (keysC_any (some h.bc) W)
  have HS := Lib.hid (places_sorted H ok)
  have HH := Lib.hid (And.intro H ok)
  have hl := ok.lens.1
  obtain ⟨N, hN⟩ : ∃ N, N = (s.ch.map (·.1)).length := ⟨_, rfl⟩
  have hN4 : N ≤ 4096 := by rw [hN, List.length_map]; exact hl
  rw [← hN] at HS
  have HN := Lib.hid hN
  have HN4 := Lib.hid hN4
  clear H ok hl hN hN4
  go_enter Try.func13, Try.ntmps13
  go_wp2_with (first
    | (go_at_call 33; refine HI.out.mono ?_; rintro e w' ⟨rfl, rfl⟩)
    | (go_at_call 38; refine (HK _).out.mono ?_; rintro e w1 ⟨rfl, rfl⟩)
    | (go_at_call 37; refine HS.out.mono ?_; rintro e w2 ⟨vs, rfl, hso, hsu⟩; obtain ⟨ads, cps, rfl⟩ := own_form hso)
    | go_in)
  have HSO := Lib.hid hso
  have HSU := Lib.hid (((Upd.refl (fun _ => False) w).alloc (.cells #[.map (some h.bc)] 63)).trans hsu (fun _ _ f => f))
  clear hso hsu
  go_loopg [2, 4, 5, 16] N (fun kx s2 s4 s5 s16 wr => ∃ i : Nat, s16 = .int .i64 i ∧ i + kx = N ∧ Hid (OwnW w.heap.size wr s2 ((listA s).take i) ∧ wr.ownsRow w.heap.size 3 1 (.slice ads N cps) N ((s.ch.map (·.1)).map (Value.int .i64)) ∧ Upd (fun _ => False) w wr))
  case atStart => exact ⟨0, rfl, by omega, Lib.hid ⟨⟨[], rfl, World.ownsRow_nil _ _ _ _, fun z hz => (by cases hz)⟩, HSO.out, HSU.out⟩⟩
  case round =>
    obtain ⟨i, rfl, hik, HI2⟩ := hrel
    obtain ⟨ad2, cp2, rfl⟩ : ∃ ad2 cp2, u2 = .slice ad2 i cp2 := by
      obtain ⟨zs, h1, h2, h3⟩ := HI2.out.1
      have hlen : ((listA s).take i).length = i := by rw [List.length_take]; unfold listA; rw [List.length_map]; have := HN.out; rw [List.length_map] at this; omega
      rw [hlen] at h2
      exact own_form h2
    cases gk with
    | zero =>
      obtain rfl : i = N := by omega
      go_wp2
      go_ret
      obtain ⟨q1, q2, q3⟩ := HI2.out
      rw [List.take_of_length_le (by unfold listA; rw [List.length_map]; have := HN.out; rw [List.length_map] at this; omega)] at q1
      exact ⟨_, rfl, q1, q3⟩
    | succ g =>
      have hil : i < s.ch.length := by have := HN.out; rw [List.length_map] at this; omega
      have hd : decide ((i : Int) < (N : Int)) = true := decide_eq_true (by omega)
      have hiN : i < N := by omega
      have hw1 : IntKind.i64.wrap ((i : Int) + 1) = (i : Int) + 1 := IntWalk.i64_in _ (by have := HN4.out; omega)
      have HA := Lib.hid (HH.out.1.later HI2.out.2.2)
      have hp : (s.ch.map (·.1))[i]? = some s.ch[i].1 := by rw [List.getElem?_map, List.getElem?_eq_getElem hil]; rfl
      have hgs : getP s.ch s.ch[i].1 = some s.ch[i].2 := HH.out.2.ksc.get (List.getElem_mem hil)
      have hokc := HH.out.2.ch _ (List.getElem_mem hil)
      have hnn := HH.out.2.free.1
      have htake : (listA s).take (i + 1) = (listA s).take i ++ [(s.ch[i].1, s.ch[i].2.2.1, s.ch[i].2.1.tail)] := by
        rw [List.take_succ_eq_append_getElem (by unfold listA; rw [List.length_map]; exact hil)]
        unfold listA
        rw [List.getElem_map]
      have HTK := Lib.hid htake
      obtain ⟨rs, os, hads, hrs⟩ : ∃ rs os, ads = some ⟨rs, os, none⟩ ∧ wr.cell? ⟨rs, os + i, none⟩ = some (.int .i64 s.ch[i].1) := by
        have h5 := (IntsAt.of_owns (xs := s.ch.map (·.1)) (by rw [← HN.out]; exact HI2.out.2.1)).1
        obtain ⟨ad, cap, e, _, _, h6⟩ := h5
        obtain ⟨g0, o0, _, e1, e2⟩ := h6 i _ hp
        simp only [Value.slice.injEq] at e
        exact ⟨g0, o0, e.1.trans e1, e2⟩
      subst hads
      clear htake hp
      generalize s.ch[i] = xc at *
      obtain ⟨p, l, q, sr⟩ := xc
      dsimp only at *
      obtain ⟨y, hg⟩ : ∃ y, getP h.xs p = some y := by
        have := HA.out.get p
        rw [hgs] at this
        cases hq : getP h.xs p with
        | none => rw [hq] at this; cases this
        | some y => exact ⟨y, rfl⟩
      obtain ⟨k, r, c⟩ := y
      have hce : c = (l, q, sr) := by
        have := HA.out.get p
        rw [hgs, hg] at this
        exact (Option.some.inj this).symm
      subst hce
      have hlk := look_chain (HA.out.ks HH.out.2) HA.out.chains p (by unfold inI; omega)
      rw [hg] at hlk
      simp only [ptrOf] at hlk
      obtain ⟨v, hcc, hrow⟩ := HA.out.chain hg
      dsimp only at hcc hrow
      cases l with
      | nil => simp at hokc
      | cons x tl =>
        have dc0 := cell_heap hcc 0 _ rfl
        have dc1 := cell_heap hcc 1 _ rfl
        have db1 := cell_heap HA.out.obj 1 _ rfl
        obtain ⟨off, cap, cur, rfl, hrc, hcap, hcm, _⟩ := id hrow
        have HROW := Lib.hid hrow
        obtain ⟨M, hM⟩ : ∃ M, M = tl.length := ⟨_, rfl⟩
        have HM := Lib.hid hM
        have hlen : (x :: tl).length = M + 1 := by rw [hM]; rfl
        rw [hlen] at dc0 hcap
        have HTL := Lib.hid (show tl.length ≤ 4096 by have := hokc.2.2.2.2; simp only [List.length_cons] at this; omega)
        have h1M : (1 : Int) ≤ ((M + 1 : Nat) : Int) := by omega
        obtain ⟨zs, hz1, hz2, hz3⟩ := HI2.out.1
        obtain ⟨a1, hA⟩ : ∃ a1 : Addr, (if cap = 1 then some (⟨r, off, none⟩ : Addr) else some ⟨r, off + 1, none⟩) = some a1 := by split <;> exact ⟨_, rfl⟩
        have hlt : ((listA s).take i).length = i := by rw [List.length_take]; unfold listA; rw [List.length_map]; omega
        rw [hlt] at hz2
        have HZ := Lib.hid (And.intro hz1 (And.intro hz2 hz3))
        have HNK := Lib.hid (show ¬ (Value.slice ad2 i cp2).ownBlock = some k from owns_ne hz2 hcc (by decide))
        have HNR := Lib.hid (show ¬ (Value.slice ad2 i cp2).ownBlock = some r from owns_ne hz2 hrc (by decide))
        have HCL := Lib.hid (fun (w' : World) (hu : Upd (fun j => (Value.slice ad2 i cp2).ownBlock = some j) wr w') => clonei_some (a := a1) (cap := cap - 1) (row := some r) (xs := tl) (w := w') ((ints_tail (show IntsAt wr (.slice (some ⟨r, off, none⟩) (M + 1) cap) (some r) (x :: tl) by rw [← hlen]; exact hrow.ints) hM hA).upd hu (fun g e => by cases e; exact HNR.out) |> fun z => by rw [hM] at z; exact z) (by have := HTL.out; omega))
        rw [← hM] at HCL
        obtain ⟨i0, hi0, hq0, hq1, hq2⟩ := info_parts Try.infoOwn
        have HAP := Lib.hid (fun (w' : World) (hu : Upd (fun _ => False) wr w') (kk : Nat) (p q : Int) (vr : Value) (hk : w'.heap[kk]? = some (.cells #[.int .i64 p, .int .i64 q, vr] 39 (0, 0))) (hone : vr.oneCell' = true) => by
          obtain ⟨v', w4, q1, q2, q3, _⟩ := run_append_own_at (P := Try.prog) w' w.heap.size 35 0 39 i0 (.agg #[.int .i64 0, .int .i64 0, .slice none 0 0]) 3 40 Try.underlying35 hi0 hq0 hq1 hq2 (by kernel_rfl) (by omega)
            (.slice ad2 i cp2) i (ownsC zs) (hu.owns hz2 (fun _ _ f => f)) ⟨kk, 0, none⟩ 1 1 [.int .i64 p, .int .i64 q, vr] rfl (fun j u hj => by
              rw [show (⟨kk, 0, none⟩ : Addr).add j = ⟨kk, j, none⟩ by unfold Addr.add; split <;> simp_all]
              exact cell_heap hk j u (by rw [← hj]; simp)) (fun u hu => by
              simp only [List.mem_cons, List.not_mem_nil, or_false] at hu
              rcases hu with rfl | rfl | rfl
              · rfl
              · rfl
              · exact hone) (by have := HN4.out; unfold maxLen; omega) (by have := HN4.out; omega) (by have := HI2.out.2.2.size; have := hu.size; omega)
          exact (show ∃ v' w4, (Builtin.append_ #[35, 35] 0 #[.slice ad2 i cp2, .slice (some ⟨kk, 0, none⟩) 1 1]).run Try.prog w' = .ok v' w4 ∧ w4.ownsRow w.heap.size 39 3 v' (i + 1) (ownsC zs ++ [.int .i64 p, .int .i64 q, vr]) ∧ w'.grownBy w4 (Value.slice ad2 i cp2).ownBlock from ⟨v', w4, q1, q2, q3⟩))
        clear hrow hcc hokc hM hlen hgs hg hrc hz1 hz2 hz3 hlt hil
        go_wp2
        refine wp_region_held_drew (S := fun w' => Upd (fun j => (Value.slice ad2 i cp2).ownBlock = some j) wr w') (by kernel_rfl) (Upd.refl _ _).drew (fun hS => ?_)
        refine take_first (i := 0) (some 26) (v := ?_) rfl rfl (by kernel_rfl) (by kernel_rfl) (by kernel_rfl) (fun _ _ _ h => h) (Or.inl ⟨by rfl, ?_⟩) hS ?_
        rotate_left
        · intro w' hSw; go_simp; try with_reducible rfl
        try simp only [Act.put, List.setIfInBounds_toArray, List.set_cons_zero, List.set_cons_succ]
        refine take_first (i := 1) (some 27) (v := ?_) rfl rfl (by kernel_rfl) (by kernel_rfl) (by kernel_rfl) (fun _ _ _ h => h) (Or.inl ⟨by rfl, ?_⟩) hS ?_
        rotate_left
        · intro w' hSw; go_simp; try with_reducible rfl
        try simp only [Act.put, List.setIfInBounds_toArray, List.set_cons_zero, List.set_cons_succ]
        refine take_first (i := 2) (some 28) (v := ?_) rfl rfl (by kernel_rfl) (by kernel_rfl) (by kernel_rfl) (fun _ _ _ h => h) (Or.inl ⟨by rfl, ?_⟩) hS ?_
        rotate_left
        · intro w' hSw; go_simp; try with_reducible rfl
        try simp only [Act.put, List.setIfInBounds_toArray, List.set_cons_zero, List.set_cons_succ]
        refine take_first (i := 3) (some 29) (v := ?_) rfl rfl (by kernel_rfl) (by kernel_rfl) (by kernel_rfl) (fun _ _ _ h => h) (Or.inl ⟨by rfl, ?_⟩) hS ?_
        rotate_left
        · intro w' hSw; go_simp; try with_reducible rfl
        try simp only [Act.put, List.setIfInBounds_toArray, List.set_cons_zero, List.set_cons_succ]
        refine take_first (i := 4) (some 30) (v := ?_) rfl rfl (by kernel_rfl) (by kernel_rfl) (by kernel_rfl) (fun _ _ _ h => h) (Or.inl ⟨by rfl, ?_⟩) hS ?_
        rotate_left
        · intro w' hSw; go_simp; try with_reducible rfl
        try simp only [Act.put, List.setIfInBounds_toArray, List.set_cons_zero, List.set_cons_succ]
        refine take_first (i := 5) (some 31) (v := ?_) rfl rfl (by kernel_rfl) (by kernel_rfl) (by kernel_rfl) (fun _ _ _ h => h) (Or.inl ⟨by rfl, ?_⟩) hS ?_
        rotate_left
        · intro w' hSw; have e1 := hSw.cell dc1 HNK.out; have e0 := hSw.cell dc0 HNK.out; go_simp; try with_reducible rfl
        try simp only [Act.put, List.setIfInBounds_toArray, List.set_cons_zero, List.set_cons_succ]
        refine take_first (i := 6) (some 32) (v := ?_) rfl rfl (by kernel_rfl) (by kernel_rfl) (by kernel_rfl) (fun _ _ _ h => h) (Or.inl ⟨by rfl, ?_⟩) hS ?_
        rotate_left
        · intro w' hSw; go_simp; try with_reducible rfl
        try simp only [Act.put, List.setIfInBounds_toArray, List.set_cons_zero, List.set_cons_succ]
        refine take_first (i := 7) (some 33) (v := ?_) rfl rfl (by kernel_rfl) (by kernel_rfl) (by kernel_rfl) (fun _ _ _ h => h) (Or.inl ⟨by rfl, ?_⟩) hS ?_
        rotate_left
        · intro w' hSw; go_simp; try with_reducible rfl
        try simp only [Act.put, List.setIfInBounds_toArray, List.set_cons_zero, List.set_cons_succ]
        refine take_first (i := 8) (some 34) (v := ?_) rfl rfl (by kernel_rfl) (by kernel_rfl) (by kernel_rfl) (fun _ _ _ h => h) (Or.inl ⟨by rfl, ?_⟩) hS ?_
        rotate_left
        · intro w' hSw; go_simp; try with_reducible rfl
        try simp only [Act.put, List.setIfInBounds_toArray, List.set_cons_zero, List.set_cons_succ]
        refine take_first (i := 9) (some 35) (v := ?_) rfl rfl (by kernel_rfl) (by kernel_rfl) (by kernel_rfl) (fun _ _ _ h => h) (Or.inl ⟨by rfl, ?_⟩) hS ?_
        rotate_left
        · intro w' hSw; have e1 := hSw.cell dc1 HNK.out; have e0 := hSw.cell dc0 HNK.out; go_simp; try with_reducible rfl
        try simp only [Act.put, List.setIfInBounds_toArray, List.set_cons_zero, List.set_cons_succ]
        refine take_first (i := 10) (some 36) (v := .slice (some a1) M (cap - 1)) rfl rfl (by kernel_rfl) (by kernel_rfl) (by kernel_rfl) (fun _ _ _ h => h) (Or.inl ⟨by rfl, ?_⟩) hS ?_
        · intro w' hSw; go_simp; intro hlt; omega
        try simp only [Act.put, List.setIfInBounds_toArray, List.set_cons_zero, List.set_cons_succ]
        refine wpAnyH_ready (rs := [11]) (by kernel_rfl) (by simp) ?_
        refine AllReadyH.cons rfl (fun K hK => ?_) AllReadyH.nil
        refine step_fn (some 37) rfl (by rfl) 35 clonei_enters #[.tmp 36] #[26] rfl #[.slice (some a1) M (cap - 1)] rfl (fun v w2 => w2.ownsRow wr.heap.size 3 1 v tl.length (tl.map (Value.int .i64)) ∧ Upd (fun _ => False) wr w2) (by
          have HQ := HCL.out _ hS
          refine HQ.mono ?_
          rintro e w2 ⟨v', rfl, k1, k2⟩
          exact ⟨_, rfl, k1, k2.of_drew⟩) ?_
        rintro vc w3 ⟨k1, u3⟩
        refine hK.out _ _ (u3.mono (fun _ _ f => f.elim)) (fun _ => ?_)
        clear hS; have hS : Upd (fun j => (Value.slice ad2 i cp2).ownBlock = some j) wr w3 := u3.mono (fun _ _ f => f.elim); obtain ⟨ad3, cap3, rfl⟩ := own_form k1
        clear hK K
        try simp only [Act.put, List.setIfInBounds_toArray, List.set_cons_zero, List.set_cons_succ]
        refine take_first (i := 12) (some 38) (v := ?_) rfl rfl (by kernel_rfl) (by kernel_rfl) (by kernel_rfl) (fun _ _ _ h => h) (Or.inl ⟨by rfl, ?_⟩) hS ?_
        rotate_left
        · intro w' hSw; go_simp; try with_reducible rfl
        try simp only [Act.put, List.setIfInBounds_toArray, List.set_cons_zero, List.set_cons_succ]
        refine wpAnyH_ready (rs := [13]) (by kernel_rfl) (by simp) ?_
        refine AllReadyH.cons rfl (fun K hK => ?_) AllReadyH.nil
        go_simp
        refine hK.out _ _ ((u3.alloc _).mono (fun _ _ f => f.elim)) (fun _ => ?_)
        clear hS; have u4 := u3.alloc (.cells #[.int .i64 p, .int .i64 q, .slice ad3 tl.length cap3] 39); have hS : Upd (fun j => (Value.slice ad2 i cp2).ownBlock = some j) wr _ := u4.mono (fun _ _ f => f.elim)
        clear hK K
        try simp only [Act.put, List.setIfInBounds_toArray, List.set_cons_zero, List.set_cons_succ]
        refine wpAnyH_ready (rs := [14]) (by kernel_rfl) (by simp) ?_
        refine AllReadyH.cons rfl (fun K hK => ?_) AllReadyH.nil
        obtain ⟨v5, w5, hr5, ho5, hg5⟩ := HAP.out _ u4 w3.heap.size p q (.slice ad3 tl.length cap3) (heap_alloc_new w3 _) rfl
        refine step_append_by (some 40) rfl (by rfl) (.tmp 26) (.tmp 39) 35 rfl (.slice ad2 i cp2) (.slice (some ⟨w3.heap.size, 0, none⟩) 1 1) v5 rfl rfl hr5 ?_
        have u5 := hS.grown hg5 (fun j e _ => e)
        refine hK.out _ _ u5 (fun _ => ?_)
        clear hS; have hS := u5
        clear hK K
        try simp only [Act.put, List.setIfInBounds_toArray, List.set_cons_zero, List.set_cons_succ]
        refine take_first (i := 15) (some 2) (v := ?_) rfl rfl (by kernel_rfl) (by kernel_rfl) (by kernel_rfl) (fun _ _ _ h => h) (Or.inl ⟨by rfl, ?_⟩) hS ?_
        rotate_left
        · intro w' hSw; go_simp; try with_reducible rfl
        try simp only [Act.put, List.setIfInBounds_toArray, List.set_cons_zero, List.set_cons_succ]
        refine wpAnyH_done (by kernel_rfl) ?_ _
        have HF := Lib.hid (And.intro hS (And.intro ho5 (And.intro k1 (((Upd.refl (fun j => (Value.slice ad2 i cp2).ownBlock = some j) w3).alloc (.cells #[.int .i64 p, .int .i64 q, .slice ad3 tl.length cap3] 39)).grown hg5 (fun j e _ => e)))))
        clear hS u5 hr5 ho5 hg5 k1 u4 u3
        go_wp2
        go_roundg g
        case measure => omega
        case rel =>
          obtain ⟨s1, s2, s3, s4⟩ := HF.out
          obtain ⟨z1, z2, z3⟩ := HZ.out
          refine ⟨i + 1, by rw [Int.natCast_add]; rfl, by omega, Lib.hid ⟨⟨zs ++ [(.slice ad3 tl.length cap3, (p, q, tl))], ?_, ?_, fun z hz => ?_⟩, s1.owns HI2.out.2.1 (fun j e f => ?_), HI2.out.2.2.trans s1 (fun j hj e => ?_)⟩⟩
          · rw [List.map_append, z1, HTK.out]; rfl
          · have e1 : ((listA s).take (i + 1)).length = i + 1 := by rw [HTK.out, List.length_append, ← z1, List.length_map, ← List.length_map (f := (·.2)), z1, List.length_take]; have := HN.out; rw [List.length_map] at this; unfold listA; rw [List.length_map]; simp; omega
            rw [e1]
            have e2 : ownsC (zs ++ [(.slice ad3 tl.length cap3, (p, q, tl))]) = ownsC zs ++ [.int .i64 p, .int .i64 q, .slice ad3 tl.length cap3] := by unfold ownsC; rw [List.flatMap_append]; rfl
            rw [e2]
            exact s2
          · rcases List.mem_append.1 hz with hz | hz
            · refine s1.owns (z3 z hz) (fun j e f => ?_)
              obtain ⟨g1, cap1, cur1, e3, _, h9, _⟩ := (z3 z hz).2.resolve_left (fun hx => by rw [hx.1] at e; cases e)
              rw [e3] at e
              simp only [Value.ownBlock, Option.some.injEq] at e
              subst e
              exact owns_ne z2 h9 (by decide) f
            · simp only [List.mem_singleton] at hz
              subst hz
              dsimp only
              refine s4.owns (owns_low s3 HI2.out.2.2.size) (fun j e f => ?_)
              have e4 := own_block_lt z2 f
              have e5 := own_block_ge s3 e
              omega
          · obtain ⟨g1, cap1, cur1, e3, _, h9, _⟩ := HI2.out.2.1.2.resolve_left (fun hx => by rw [hx.1] at e; cases e)
            rw [e3] at e
            simp only [Value.ownBlock, Option.some.injEq] at e
            subst e
            exact owns_ne z2 h9 (by decide) f
          · have := own_block_ge z2 e
            omega

end Go.Proofs.Ytieohjibccjliaa
