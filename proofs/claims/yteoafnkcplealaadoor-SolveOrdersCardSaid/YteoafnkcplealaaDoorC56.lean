/- Contracts: the reference's nth, Nth; SolveOrders. -/
import Derived.Test.YteoafnkcplealaaDoorC55
set_option linter.unusedVariables false
namespace Go.Proofs.YteoafnkcplealaaDoor
open Go.RowKit

theorem other_bit (K j : Nat) (P : Int) (hP : P = ((2 ^ j : Nat) : Int)) (hK : K < 1048576) : ((wrap64 ((K : Int) / P)).tmod 2 == 1) = K.testBit j := by
  subst hP
  have e : (K : Int) / ((2 ^ j : Nat) : Int) = ((K / 2 ^ j : Nat) : Int) := by norm_cast
  have hle := Nat.div_le_self K (2 ^ j)
  rw [e, Nat.testBit_eq_decide_div_mod_eq]
  generalize K / 2 ^ j = q at *
  have h1 : wrap64 (q : Int) = q := by unfold wrap64; omega
  rw [h1, Int.tmod_eq_emod_of_nonneg (by omega)]
  by_cases h : q % 2 = 1
  · rw [decide_eq_true h]; simp; omega
  · rw [decide_eq_false h]; simp; omega

set_option maxHeartbeats 0 in
set_option maxRecDepth 100000 in
theorem refnth_any (hv : List Int) (N K : Nat) (B : Option Addr) (cb : Nat) (T : Nat → Prop) (w : World) (hB : Arr w T B hv) (hN20 : N ≤ 20) (hK : K < 1048576) :
    Calls Tryd.prog 75 #[.int .i64 (N : Int), .slice B hv.length cb, .int .i64 (K : Int)] w fun e w' => Below w.heap.size w w' ∧ ∃ A' c', e = .returned (.slice A' (nthS hv N K).length c') ∧ Arr w' (fun _ => True) A' (nthS hv N K) := by
  unfold nthS
  go_enter Tryd.func75, Tryd.ntmps75
  go_wp2
  go_loopw [7, 8, 9] (fun o i x wr => Below w.heap.size w wr ∧ ∃ t : Nat, t ≤ N ∧ i = .int .i64 t ∧ Own wr w.heap.size 3 (fun _ => False) o (nthTo hv N K t)) (fun _ i _ _ => N - (intOf i).toNat)
  case atStart => exact ⟨(Below.refl _ _).alloc (Nat.le_refl _) _, 0, Nat.zero_le _, rfl, Own.made _ _ _ _ (Nat.le_refl _)⟩
  case round =>
    obtain ⟨hb, t, ht, rfl, hown⟩ := hrel
    have hlen := nthTo_len hv N K t
    by_cases hlt : t < N
    · have hstep := Lib.hid (nthTo_succ hv N K t)
      have hs : In64 (t : Int) := ⟨by omega, by omega⟩
      have hw1 : IntKind.i64.wrap ((N : Int) - 1) = (N : Int) - 1 := IntWalk.i64_in _ (by omega)
      have hw2 : IntKind.i64.wrap ((N : Int) - 1 - (t : Int)) = (N : Int) - 1 - (t : Int) := IntWalk.i64_in _ (by omega)
      have hlt' : (t : Int) < N := by omega
      have hBr := hB.below hb
      obtain ⟨P, hP⟩ : ∃ P : Int, P = ((2 ^ (N - 1 - t) : Nat) : Int) := ⟨_, rfl⟩
      have hct := Lib.hid (show countS ((N : Int) - 1 - (t : Int)) = P by rw [show (N : Int) - 1 - (t : Int) = ((N - 1 - t : Nat) : Int) by omega, countS_small (by omega), hP])
      have hP0 : 0 < P := by have := Nat.two_pow_pos (N - 1 - t); omega
      have hPn : ¬ P = 0 := by omega
      have hPn1 : ¬ P = -1 := by omega
      have hob := other_bit K (N - 1 - t) P hP hK
      clear hP
      cases hc : decide ((t : Int) ∈ hv) <;> cases hbt : K.testBit (N - 1 - t)
      · have Hc := Lib.hid hc
        have hob2 : ((wrap64 ((K : Int) / P)).tmod 2 == 1) = false := hob.trans hbt
        have hin : Hid (inNth hv N K t = false) := Lib.hid (by unfold inNth; rw [hc, hbt]; rfl)
        clear hc hbt hob
        go_wp2_with fail
        refine (refCount_any _ _ ⟨by omega, by omega⟩).mono ?_
        rintro e wa ⟨rfl, hwa⟩
        have hwa' := hwa.symm
        clear hwa
        subst hwa'
        rw [hct.out]
        go_wp2_with fail
        refine (hasInt_any hv t B cb T _ hBr).mono ?_
        rintro e wa ⟨rfl, hwa⟩
        have hwa' := hwa.symm
        clear hwa
        subst hwa'
        rw [Hc.out]
        go_wp2
        go_roundw
        case rel => exact ⟨hb, t + 1, by omega, by go_num, by rw [hstep.out, hin.out]; exact hown⟩
        case measure => simp [intOf]; omega
      · have Hc := Lib.hid hc
        have hob2 : ((wrap64 ((K : Int) / P)).tmod 2 == 1) = true := hob.trans hbt
        have hin : Hid (inNth hv N K t = true) := Lib.hid (by unfold inNth; rw [hc, hbt]; rfl)
        clear hc hbt hob
        go_wp2_with fail
        refine (refCount_any _ _ ⟨by omega, by omega⟩).mono ?_
        rintro e wa ⟨rfl, hwa⟩
        have hwa' := hwa.symm
        clear hwa
        subst hwa'
        rw [hct.out]
        go_wp2_with fail
        refine (hasInt_any hv t B cb T _ hBr).mono ?_
        rintro e wa ⟨rfl, hwa⟩
        have hwa' := hwa.symm
        clear hwa
        subst hwa'
        rw [Hc.out]
        go_wp2_with (at_builtin; refine Hold.out ?_)
        refine ⟨?_⟩
        refine wpList_own_app rfl _ _ 23 rfl w.heap.size 3 elInt (fun _ => False) u7 (nthTo hv N K t) ?_ (hown.below ((Below.refl _ _).alloc (Nat.le_refl _) _)) ⟨wr.heap.size, 0, none⟩ 1 [(t : Int)] ?_ (Src.one 3 (show Cd.rep wr (fun b => False ∧ Value.ownBlock u7 ≠ some b) (t : Int) [.int .i64 t] from ⟨rfl, hs⟩)) ?_ ?_ ?_ ?_
        · simp [Act.eval]
        · simp [Act.eval]
        · exact app_bound (n := 20) (by decide) (by simp; omega)
        · simp; omega
        · have := hb.size; simp; omega
        intro v2 w6 hown6 hg6 hat6
        have hb6 : Below w.heap.size w w6 := (hb.alloc hb.size _).grown hg6 (by have := hb.size; simp; omega) (fun b e => (hown.block_ge _ e).1)
        clear hg6 hat6 hown
        go_wp2
        go_roundw
        case rel => exact ⟨hb6, t + 1, by omega, by go_num, by rw [hstep.out, hin.out]; exact hown6⟩
        case measure => simp [intOf]; omega
      · have Hc := Lib.hid hc
        have hob2 : ((wrap64 ((K : Int) / P)).tmod 2 == 1) = false := hob.trans hbt
        have hin : Hid (inNth hv N K t = true) := Lib.hid (by unfold inNth; rw [hc, hbt]; rfl)
        clear hc hbt hob
        go_wp2_with fail
        refine (refCount_any _ _ ⟨by omega, by omega⟩).mono ?_
        rintro e wa ⟨rfl, hwa⟩
        have hwa' := hwa.symm
        clear hwa
        subst hwa'
        rw [hct.out]
        go_wp2_with fail
        refine (hasInt_any hv t B cb T _ hBr).mono ?_
        rintro e wa ⟨rfl, hwa⟩
        have hwa' := hwa.symm
        clear hwa
        subst hwa'
        rw [Hc.out]
        go_wp2_with (at_builtin; refine Hold.out ?_)
        refine ⟨?_⟩
        refine wpList_own_app rfl _ _ 23 rfl w.heap.size 3 elInt (fun _ => False) u7 (nthTo hv N K t) ?_ (hown.below ((Below.refl _ _).alloc (Nat.le_refl _) _)) ⟨wr.heap.size, 0, none⟩ 1 [(t : Int)] ?_ (Src.one 3 (show Cd.rep wr (fun b => False ∧ Value.ownBlock u7 ≠ some b) (t : Int) [.int .i64 t] from ⟨rfl, hs⟩)) ?_ ?_ ?_ ?_
        · simp [Act.eval]
        · simp [Act.eval]
        · exact app_bound (n := 20) (by decide) (by simp; omega)
        · simp; omega
        · have := hb.size; simp; omega
        intro v2 w6 hown6 hg6 hat6
        have hb6 : Below w.heap.size w w6 := (hb.alloc hb.size _).grown hg6 (by have := hb.size; simp; omega) (fun b e => (hown.block_ge _ e).1)
        clear hg6 hat6 hown
        go_wp2
        go_roundw
        case rel => exact ⟨hb6, t + 1, by omega, by go_num, by rw [hstep.out, hin.out]; exact hown6⟩
        case measure => simp [intOf]; omega
      · have Hc := Lib.hid hc
        have hob2 : ((wrap64 ((K : Int) / P)).tmod 2 == 1) = true := hob.trans hbt
        have hin : Hid (inNth hv N K t = false) := Lib.hid (by unfold inNth; rw [hc, hbt]; rfl)
        clear hc hbt hob
        go_wp2_with fail
        refine (refCount_any _ _ ⟨by omega, by omega⟩).mono ?_
        rintro e wa ⟨rfl, hwa⟩
        have hwa' := hwa.symm
        clear hwa
        subst hwa'
        rw [hct.out]
        go_wp2_with fail
        refine (hasInt_any hv t B cb T _ hBr).mono ?_
        rintro e wa ⟨rfl, hwa⟩
        have hwa' := hwa.symm
        clear hwa
        subst hwa'
        rw [Hc.out]
        go_wp2
        go_roundw
        case rel => exact ⟨hb, t + 1, by omega, by go_num, by rw [hstep.out, hin.out]; exact hown⟩
        case measure => simp [intOf]; omega
    · have hte : t = N := by omega
      subst hte
      obtain ⟨A2, c2, e2, hr, -⟩ := hown.rep2 (S' := fun _ => True) (fun b _ h => h.elim) (fun b h _ => trivial) (mul_bound (n := 20) (by show 20 * 8 ≤ reach; decide) (by omega)) (by omega)
      subst e2
      clear hown
      go_wp2
      go_ret
      first | exact ⟨hb, A2, c2, rfl, hr⟩ | exact ⟨hb, A2, ⟨c2, rfl⟩, hr⟩

set_option maxHeartbeats 0 in
set_option maxRecDepth 100000 in
theorem refNth_any (hv : List Int) (n k : Int) (B : Option Addr) (cb : Nat) (T : Nat → Prop) (w : World) (hB : Arr w T B hv) (hn : In64 n) (hk : In64 k) :
    Calls Tryd.prog 35 #[.int .i64 n, .slice B hv.length cb, .int .i64 k] w fun e w' => Below w.heap.size w w' ∧ ∃ A' c', e = .returned (.tuple #[.slice A' (ordersS hv n k).1.length c', .int .i64 (ordersS hv n k).2]) ∧ Arr w' (fun _ => True) A' (ordersS hv n k).1 := by
  have hcs : 0 ≤ countS n := by
    unfold countS
    split
    · omega
    · split
      · omega
      · have := Nat.two_pow_pos n.toNat; omega
  by_cases hok : 0 ≤ n ∧ n ≤ 20 ∧ 0 ≤ k ∧ k < countS n ∧ tgt n.toNat hv = true
  · have hord := Lib.hid (show ordersS hv n k = (nthS hv n.toNat k.toNat, 0) by unfold ordersS; rw [if_pos hok])
    obtain ⟨a1, a2, a3, a4, a5⟩ := hok
    obtain ⟨N, rfl⟩ : ∃ N : Nat, n = N := ⟨n.toNat, by omega⟩
    obtain ⟨K, rfl⟩ : ∃ K : Nat, k = K := ⟨k.toNat, by omega⟩
    have b1 : ¬ (N : Int) < 0 := by omega
    have b2 : ¬ (20 : Int) < N := by omega
    have b3 : ¬ (K : Int) < 0 := by omega
    have b4 : ¬ countS (N : Int) ≤ K := by omega
    have hN20 : N ≤ 20 := by omega
    have hK : K < 1048576 := by have := (countS_le (m := N)).2; omega
    rw [show ((N : Int)).toNat = N from by omega] at a5
    rw [show ((N : Int)).toNat = N from by omega, show ((K : Int)).toNat = K from by omega] at hord
    have Ht := Lib.hid a5
    generalize ordersS hv (N : Int) (K : Int) = R at *
    clear a5
    go_enter Tryd.func35, Tryd.ntmps35
    go_wp2_with fail
    refine (refCount_any _ _ hn).mono ?_
    rintro e wa ⟨rfl, hwa⟩
    have hwa' := hwa.symm
    clear hwa
    subst hwa'
    go_wp2_with fail
    refine (refTarget_any0 N hv B cb T _ (by omega) hB).mono ?_
    rintro e w2 ⟨rfl, hw2⟩
    rw [Ht.out]
    go_wp2_with fail
    refine (refnth_any hv N K B cb T _ (hB.below hw2) hN20 hK).mono ?_
    rintro e w3 ⟨hw3, A3, c3, rfl, hr3⟩
    go_wp2
    go_ret2
    first | exact ⟨Below.trans0 hw2 hw3 hw2.size, A3, c3, ret2s (by rw [hord.out]) (by rw [hord.out]), by rw [hord.out]; exact hr3⟩ | exact ⟨Below.trans0 hw2 hw3 hw2.size, A3, ⟨c3, ret2s (by rw [hord.out]) (by rw [hord.out])⟩, by rw [hord.out]; exact hr3⟩
  · have hord := Lib.hid (show ordersS hv n k = ([], 2) by unfold ordersS; rw [if_neg hok])
    generalize ordersS hv n k = R at *
    by_cases b1 : n < 0
    · clear hok hcs
      go_enter Tryd.func35, Tryd.ntmps35
      go_wp2
      go_ret2
      first | exact ⟨Below.refl _ _, none, 0, ret2s (by rw [hord.out]; rfl) (by rw [hord.out]), by rw [hord.out]; exact Arr.nil _ _ _⟩ | exact ⟨Below.refl _ _, none, ⟨0, ret2s (by rw [hord.out]; rfl) (by rw [hord.out])⟩, by rw [hord.out]; exact Arr.nil _ _ _⟩
    · by_cases b2 : 20 < n
      · clear hok hcs
        go_enter Tryd.func35, Tryd.ntmps35
        go_wp2
        go_ret2
        first | exact ⟨Below.refl _ _, none, 0, ret2s (by rw [hord.out]; rfl) (by rw [hord.out]), by rw [hord.out]; exact Arr.nil _ _ _⟩ | exact ⟨Below.refl _ _, none, ⟨0, ret2s (by rw [hord.out]; rfl) (by rw [hord.out])⟩, by rw [hord.out]; exact Arr.nil _ _ _⟩
      · by_cases b3 : k < 0
        · clear hok hcs
          go_enter Tryd.func35, Tryd.ntmps35
          go_wp2
          go_ret2
          first | exact ⟨Below.refl _ _, none, 0, ret2s (by rw [hord.out]; rfl) (by rw [hord.out]), by rw [hord.out]; exact Arr.nil _ _ _⟩ | exact ⟨Below.refl _ _, none, ⟨0, ret2s (by rw [hord.out]; rfl) (by rw [hord.out])⟩, by rw [hord.out]; exact Arr.nil _ _ _⟩
        · by_cases b4 : countS n ≤ k
          · clear hok hcs
            go_enter Tryd.func35, Tryd.ntmps35
            go_wp2_with fail
            refine (refCount_any _ _ hn).mono ?_
            rintro e wa ⟨rfl, hwa⟩
            have hwa' := hwa.symm
            clear hwa
            subst hwa'
            go_wp2
            go_ret2
            first | exact ⟨Below.refl _ _, none, 0, ret2s (by rw [hord.out]; rfl) (by rw [hord.out]), by rw [hord.out]; exact Arr.nil _ _ _⟩ | exact ⟨Below.refl _ _, none, ⟨0, ret2s (by rw [hord.out]; rfl) (by rw [hord.out])⟩, by rw [hord.out]; exact Arr.nil _ _ _⟩
          · obtain ⟨N, rfl⟩ : ∃ N : Nat, n = N := ⟨n.toNat, by omega⟩
            have ht : tgt N hv = false := by
              cases h : tgt N hv
              · rfl
              · exact absurd ⟨by omega, by omega, by omega, by omega, by rw [show ((N : Int)).toNat = N from by omega]; exact h⟩ hok
            have Ht := Lib.hid ht
            have hN20 : N ≤ 20 := by omega
            clear hok hcs ht
            go_enter Tryd.func35, Tryd.ntmps35
            go_wp2_with fail
            refine (refCount_any _ _ hn).mono ?_
            rintro e wa ⟨rfl, hwa⟩
            have hwa' := hwa.symm
            clear hwa
            subst hwa'
            go_wp2_with fail
            refine (refTarget_any0 N hv B cb T _ (by omega) hB).mono ?_
            rintro e w9 ⟨rfl, hw9⟩
            rw [Ht.out]
            go_wp2
            go_ret2
            first | exact ⟨hw9, none, 0, ret2s (by rw [hord.out]; rfl) (by rw [hord.out]), by rw [hord.out]; exact Arr.nil _ _ _⟩ | exact ⟨hw9, none, ⟨0, ret2s (by rw [hord.out]; rfl) (by rw [hord.out])⟩, by rw [hord.out]; exact Arr.nil _ _ _⟩

set_option maxHeartbeats 0 in
set_option maxRecDepth 100000 in
theorem solveOrders_any (hv : List Int) (B : Option Addr) (cb : Nat) (T : Nat → Prop) (n k : Int) (w : World) (hB : Arr w T B hv) (hn : In64 n) (hk : In64 k) (hL : Laid w) :
    Calls Tryd.prog 7 #[.int .i64 n, .slice B hv.length cb, .int .i64 k] w fun e w' => e = .returned (.bool true) ∧ Below w.heap.size w w' := by
  go_enter Tryd.func7, Tryd.ntmps7
  go_wp2_with fail
  refine (nth_any hv n k B cb T _ hB hn hk).mono ?_
  rintro e w1 ⟨HW1, A1, c1, rfl, hr1⟩
  go_wp2_with fail
  refine (refNth_any hv n k B cb T _ (hB.below HW1) hn hk).mono ?_
  rintro e w2 ⟨hw2, A2, c2, rfl, hr2⟩
  have HW2 := Below.trans0 HW1 hw2 HW1.size
  have hr1' := hr1.below hw2
  clear hw2 hr1
  generalize ordersS hv n k = R at *
  obtain ⟨L, e0⟩ := R
  simp only at hr1' hr2
  go_wp2_with fail
  refine (sameInts_any L L A1 A2 c1 c2 (fun _ => True) (fun _ => True) _ hr1' hr2).mono ?_
  rintro e w3 ⟨rfl, hw3⟩
  rw [decide_eq_true rfl]
  have HW3 := Below.trans0 HW2 hw3 HW2.size
  have heb : (e0 == e0) = true := by simp
  go_wp2_with fail
  refine (count_any _ _ hn).mono ?_
  rintro e wa ⟨rfl, hwa⟩
  have hwa' := hwa.symm
  clear hwa
  subst hwa'
  go_wp2_with fail
  refine (refCount_any _ _ hn).mono ?_
  rintro e wa ⟨rfl, hwa⟩
  have hwa' := hwa.symm
  clear hwa
  subst hwa'
  go_wp2_with fail
  refine (works20_any _ (hL.below HW3)).mono ?_
  rintro e w4 ⟨rfl, hw4⟩
  go_wp2
  go_ret
  exact ⟨by simp, Below.trans0 HW3 hw4 HW3.size⟩

end Go.Proofs.YteoafnkcplealaaDoor
