/- Contract: solve.Nth. -/
import Derived.Test.YteoafnkcplealaaDoorC53
set_option linter.unusedVariables false
namespace Go.Proofs.YteoafnkcplealaaDoor
open Go.RowKit

theorem and_one_i64 (E : Int) (h0 : 0 ≤ E) (h1 : E ≤ 9223372036854775807) : bits BinOp.and IntKind.i64 E 1 = E % 2 := by
  have e : ((BitVec.ofInt 64 E) &&& (BitVec.ofInt 64 1)).toNat = E.toNat % 2 := by
    rw [BitVec.toNat_and, BitVec.toNat_ofInt, BitVec.toNat_ofInt]
    have a : (E % ((2 ^ 64 : Nat) : Int)).toNat = E.toNat := by rw [Int.emod_eq_of_lt h0 (by omega)]
    have b : ((1 : Int) % ((2 ^ 64 : Nat) : Int)).toNat = 1 := by decide
    rw [a, b, Nat.and_one_is_mod]
  show IntKind.i64.wrap ((((BitVec.ofInt 64 E) &&& (BitVec.ofInt 64 1)).toNat : Nat) : Int) = _
  rw [e, IntWalk.i64_in _ (by omega)]
  omega
/-- What both Nths answer. -/
def ordersS (hv : List Int) (n k : Int) : List Int × Int := if 0 ≤ n ∧ n ≤ 20 ∧ 0 ≤ k ∧ k < countS n ∧ tgt n.toNat hv = true then (nthS hv n.toNat k.toNat, 0) else ([], 2)
theorem shift_bit (k j : Nat) : ((k : Int) / 2 ^ j) % 2 = if k.testBit j then 1 else 0 := by
  rw [Nat.testBit_eq_decide_div_mod_eq]
  have e : ((k : Int) / 2 ^ j) = ((k / 2 ^ j : Nat) : Int) := by norm_cast
  rw [e]
  by_cases h : k / 2 ^ j % 2 = 1
  · simp only [h, decide_true, if_true]; omega
  · simp only [h, decide_false, Bool.false_eq_true, if_false]; omega
theorem ret2s {A : Option Addr} {n n' c : Nat} {a a' : Int} (h : n = n') (h1 : a = a') : Ending.returned (.tuple #[.slice A n c, .int .i64 a]) = .returned (.tuple #[.slice A n' c, .int .i64 a']) := by rw [h, h1]

set_option maxHeartbeats 0 in
set_option maxRecDepth 100000 in
theorem nth_any (hv : List Int) (n k : Int) (B : Option Addr) (cb : Nat) (T : Nat → Prop) (w : World) (hB : Arr w T B hv) (hn : In64 n) (hk : In64 k) :
    Calls Tryd.prog 34 #[.int .i64 n, .slice B hv.length cb, .int .i64 k] w fun e w' => Below w.heap.size w w' ∧ ∃ A' c', e = .returned (.tuple #[.slice A' (ordersS hv n k).1.length c', .int .i64 (ordersS hv n k).2]) ∧ Arr w' (fun _ => True) A' (ordersS hv n k).1 := by
  have hcs : 0 ≤ countS n := by
    unfold countS
    split
    · omega
    · split
      · omega
      · have := Nat.two_pow_pos n.toNat; omega
  by_cases hok : 0 ≤ n ∧ n ≤ 20 ∧ 0 ≤ k ∧ k < countS n ∧ tgt n.toNat hv = true
  · have hord := Lib.hid (show ordersS hv n k = (nthS hv n.toNat k.toNat, 0) by unfold ordersS; rw [if_pos hok])
    obtain ⟨a1, a2, a3, a4, a5⟩ := hok
    obtain ⟨N, rfl⟩ : ∃ N : Nat, n = N := ⟨n.toNat, by omega⟩
    obtain ⟨K, rfl⟩ : ∃ K : Nat, k = K := ⟨k.toNat, by omega⟩
    have b1 : ¬ (N : Int) < 0 := by omega
    have b2 : ¬ (20 : Int) < N := by omega
    have b3 : ¬ (K : Int) < 0 := by omega
    have b4 : ¬ countS (N : Int) ≤ K := by omega
    have hN20 : N ≤ 20 := by omega
    have hK : K < 1048576 := by have := (countS_le (m := N)).2; omega
    rw [show ((N : Int)).toNat = N from by omega] at a5
    rw [show ((N : Int)).toNat = N from by omega, show ((K : Int)).toNat = K from by omega] at hord
    have Ht := Lib.hid a5
    generalize ordersS hv (N : Int) (K : Int) = R at *
    clear a5
    go_enter Tryd.func34, Tryd.ntmps34
    go_wp2_with fail
    refine (count_any _ _ hn).mono ?_
    rintro e wa ⟨rfl, hwa⟩
    have hwa' := hwa.symm
    clear hwa
    subst hwa'
    go_wp2_with fail
    refine (aimsS_any N hv B cb T _ (by omega) hB).mono ?_
    rintro e wa ⟨rfl, hwa⟩
    have hwa' := hwa.symm
    clear hwa
    subst hwa'
    rw [Ht.out]
    go_wp2
    go_loopw [8, 33] (fun o i wr => Below w.heap.size w wr ∧ ∃ t : Nat, t ≤ N ∧ i = .int .i64 t ∧ Own wr w.heap.size 3 (fun _ => False) o (nthTo hv N K t)) (fun _ i _ => N - (intOf i).toNat)
    case atStart => exact ⟨Below.refl _ _, 0, Nat.zero_le _, rfl, Own.nil _ _ _ _⟩
    case round =>
      obtain ⟨hb, t, ht, rfl, hown⟩ := hrel
      have hlen := nthTo_len hv N K t
      by_cases hlt : t < N
      · have hstep := Lib.hid (nthTo_succ hv N K t)
        have hs : In64 (t : Int) := ⟨by omega, by omega⟩
        have hw1 : IntKind.i64.wrap ((N : Int) - 1) = (N : Int) - 1 := IntWalk.i64_in _ (by omega)
        have hw2 : IntKind.i64.wrap ((N : Int) - 1 - (t : Int)) = (N : Int) - 1 - (t : Int) := IntWalk.i64_in _ (by omega)
        have h0s : (0 : Int) ≤ (N : Int) - 1 - (t : Int) := by omega
        have h64s : (N : Int) - 1 - (t : Int) ≤ 64 := by omega
        have hlt' : (t : Int) < N := by omega
        have hBr := hB.below hb
        have hsN : ((N : Int) - 1 - (t : Int)).toNat = N - 1 - t := by omega
        have hdd : ((K : Int) / 2 ^ (N - 1 - t)) = ((K / 2 ^ (N - 1 - t) : Nat) : Int) := by norm_cast
        have hdq := Nat.div_le_self K (2 ^ (N - 1 - t))
        have hd0 : 0 ≤ ((K : Int) / 2 ^ (N - 1 - t)) := by rw [hdd]; exact Int.natCast_nonneg _
        have hd1 : ((K : Int) / 2 ^ (N - 1 - t)) ≤ 9223372036854775807 := by rw [hdd]; generalize K / 2 ^ (N - 1 - t) = q at *; omega
        clear hdq
        clear hdd
        cases hc : decide ((t : Int) ∈ hv) <;> cases hbt : K.testBit (N - 1 - t)
        · have hcd := Lib.hid hc
          have hbv : bits BinOp.and IntKind.i64 ((K : Int) / 2 ^ (N - 1 - t)) 1 = 0 := by rw [and_one_i64 _ hd0 hd1, shift_bit, hbt]; rfl
          have hin : Hid (inNth hv N K t = false) := Lib.hid (by unfold inNth; rw [hc, hbt]; rfl)
          clear hc hbt hd0 hd1
          go_wp2
          refine region_quiet (by kernel_rfl) (by kernel_rfl) ?_
          repeat (go_big_quiet_step ((go_at_call 73; exact call_quiet ((conI_any hv t B cb T _ (hBr.below (ext_below _ _))).mono fun e W ⟨he, hw⟩ => ⟨he.trans (ret_bool hcd.out), by rw [hw]; exact Below.refl _ _⟩))))
          refine wpQuiet_nil ?_
          intro W1 hw1x
          replace hw1x := below_of_ext hw1x
          have hbW : Below w.heap.size w W1 := Below.trans0 hb hw1x hb.size
          have hownW := hown.below hw1x
          clear hown hb hw1x
          go_wp2
          go_roundw
          case rel => exact ⟨hbW, t + 1, by omega, by go_num, by rw [hstep.out, hin.out]; exact hownW⟩
          case measure => simp [intOf]; omega
        · have hcd := Lib.hid hc
          have hbv : bits BinOp.and IntKind.i64 ((K : Int) / 2 ^ (N - 1 - t)) 1 = 1 := by rw [and_one_i64 _ hd0 hd1, shift_bit, hbt]; rfl
          have hin : Hid (inNth hv N K t = true) := Lib.hid (by unfold inNth; rw [hc, hbt]; rfl)
          clear hc hbt hd0 hd1
          go_wp2
          refine region_quiet (by kernel_rfl) (by kernel_rfl) ?_
          repeat (go_big_quiet_step ((go_at_call 73; exact call_quiet ((conI_any hv t B cb T _ (hBr.below (ext_below _ _))).mono fun e W ⟨he, hw⟩ => ⟨he.trans (ret_bool hcd.out), by rw [hw]; exact Below.refl _ _⟩))))
          refine wpQuiet_nil ?_
          intro W1 hw1x
          replace hw1x := below_of_ext hw1x
          have hbW : Below w.heap.size w W1 := Below.trans0 hb hw1x hb.size
          have hownW := hown.below hw1x
          clear hown hb hw1x
          go_wp2_with (at_builtin; refine Hold.out ?_)
          refine ⟨?_⟩
          refine wpList_own_app rfl _ _ 23 rfl w.heap.size 3 elInt (fun _ => False) u8 (nthTo hv N K t) ?_ (hownW.below ((Below.refl _ _).alloc (Nat.le_refl _) _)) ⟨W1.heap.size, 0, none⟩ 1 [(t : Int)] ?_ (Src.one 3 (show Cd.rep W1 (fun b => False ∧ Value.ownBlock u8 ≠ some b) (t : Int) [.int .i64 t] from ⟨rfl, hs⟩)) ?_ ?_ ?_ ?_
          · simp [Act.eval]
          · simp [Act.eval]
          · exact app_bound (n := 20) (by decide) (by simp; omega)
          · simp; omega
          · have := hbW.size; simp; omega
          intro v2 w6 hown6 hg6 hat6
          have hb6 : Below w.heap.size w w6 := (hbW.alloc hbW.size _).grown hg6 (by have := hbW.size; simp; omega) (fun b e => (hownW.block_ge _ e).1)
          clear hg6 hat6 hownW
          go_wp2
          go_roundw
          case rel => exact ⟨hb6, t + 1, by omega, by go_num, by rw [hstep.out, hin.out]; exact hown6⟩
          case measure => simp [intOf]; omega
        · have hcd := Lib.hid hc
          have hbv : bits BinOp.and IntKind.i64 ((K : Int) / 2 ^ (N - 1 - t)) 1 = 0 := by rw [and_one_i64 _ hd0 hd1, shift_bit, hbt]; rfl
          have hin : Hid (inNth hv N K t = true) := Lib.hid (by unfold inNth; rw [hc, hbt]; rfl)
          clear hc hbt hd0 hd1
          go_wp2
          refine region_quiet (by kernel_rfl) (by kernel_rfl) ?_
          repeat (go_big_quiet_step ((go_at_call 73; exact call_quiet ((conI_any hv t B cb T _ (hBr.below (ext_below _ _))).mono fun e W ⟨he, hw⟩ => ⟨he.trans (ret_bool hcd.out), by rw [hw]; exact Below.refl _ _⟩))))
          refine wpQuiet_nil ?_
          intro W1 hw1x
          replace hw1x := below_of_ext hw1x
          have hbW : Below w.heap.size w W1 := Below.trans0 hb hw1x hb.size
          have hownW := hown.below hw1x
          clear hown hb hw1x
          go_wp2_with (at_builtin; refine Hold.out ?_)
          refine ⟨?_⟩
          refine wpList_own_app rfl _ _ 23 rfl w.heap.size 3 elInt (fun _ => False) u8 (nthTo hv N K t) ?_ (hownW.below ((Below.refl _ _).alloc (Nat.le_refl _) _)) ⟨W1.heap.size, 0, none⟩ 1 [(t : Int)] ?_ (Src.one 3 (show Cd.rep W1 (fun b => False ∧ Value.ownBlock u8 ≠ some b) (t : Int) [.int .i64 t] from ⟨rfl, hs⟩)) ?_ ?_ ?_ ?_
          · simp [Act.eval]
          · simp [Act.eval]
          · exact app_bound (n := 20) (by decide) (by simp; omega)
          · simp; omega
          · have := hbW.size; simp; omega
          intro v2 w6 hown6 hg6 hat6
          have hb6 : Below w.heap.size w w6 := (hbW.alloc hbW.size _).grown hg6 (by have := hbW.size; simp; omega) (fun b e => (hownW.block_ge _ e).1)
          clear hg6 hat6 hownW
          go_wp2
          go_roundw
          case rel => exact ⟨hb6, t + 1, by omega, by go_num, by rw [hstep.out, hin.out]; exact hown6⟩
          case measure => simp [intOf]; omega
        · have hcd := Lib.hid hc
          have hbv : bits BinOp.and IntKind.i64 ((K : Int) / 2 ^ (N - 1 - t)) 1 = 1 := by rw [and_one_i64 _ hd0 hd1, shift_bit, hbt]; rfl
          have hin : Hid (inNth hv N K t = false) := Lib.hid (by unfold inNth; rw [hc, hbt]; rfl)
          clear hc hbt hd0 hd1
          go_wp2
          refine region_quiet (by kernel_rfl) (by kernel_rfl) ?_
          repeat (go_big_quiet_step ((go_at_call 73; exact call_quiet ((conI_any hv t B cb T _ (hBr.below (ext_below _ _))).mono fun e W ⟨he, hw⟩ => ⟨he.trans (ret_bool hcd.out), by rw [hw]; exact Below.refl _ _⟩))))
          refine wpQuiet_nil ?_
          intro W1 hw1x
          replace hw1x := below_of_ext hw1x
          have hbW : Below w.heap.size w W1 := Below.trans0 hb hw1x hb.size
          have hownW := hown.below hw1x
          clear hown hb hw1x
          go_wp2
          go_roundw
          case rel => exact ⟨hbW, t + 1, by omega, by go_num, by rw [hstep.out, hin.out]; exact hownW⟩
          case measure => simp [intOf]; omega
      · have hte : t = N := by omega
        subst hte
        obtain ⟨A2, c2, e2, hr, -⟩ := hown.rep2 (S' := fun _ => True) (fun b _ h => h.elim) (fun b h _ => trivial) (mul_bound (n := 20) (by show 20 * 8 ≤ reach; decide) (by omega)) (by omega)
        subst e2
        have hnn : nthS hv t K = nthTo hv t K t := rfl
        rw [hnn] at hord
        generalize nthTo hv t K t = L at *
        clear hown hnn
        go_wp2
        go_ret2
        first | exact ⟨hb, A2, c2, ret2s (by rw [hord.out]) (by rw [hord.out]), by rw [hord.out]; exact hr⟩ | exact ⟨hb, A2, ⟨c2, ret2s (by rw [hord.out]) (by rw [hord.out])⟩, by rw [hord.out]; exact hr⟩
  · have hord := Lib.hid (show ordersS hv n k = ([], 2) by unfold ordersS; rw [if_neg hok])
    generalize ordersS hv n k = R at *
    by_cases b1 : n < 0
    · clear hok hcs
      go_enter Tryd.func34, Tryd.ntmps34
      go_wp2
      go_ret2
      first | exact ⟨Below.refl _ _, none, 0, ret2s (by rw [hord.out]; rfl) (by rw [hord.out]), by rw [hord.out]; exact Arr.nil _ _ _⟩ | exact ⟨Below.refl _ _, none, ⟨0, ret2s (by rw [hord.out]; rfl) (by rw [hord.out])⟩, by rw [hord.out]; exact Arr.nil _ _ _⟩
    · by_cases b2 : 20 < n
      · clear hok hcs
        go_enter Tryd.func34, Tryd.ntmps34
        go_wp2
        go_ret2
        first | exact ⟨Below.refl _ _, none, 0, ret2s (by rw [hord.out]; rfl) (by rw [hord.out]), by rw [hord.out]; exact Arr.nil _ _ _⟩ | exact ⟨Below.refl _ _, none, ⟨0, ret2s (by rw [hord.out]; rfl) (by rw [hord.out])⟩, by rw [hord.out]; exact Arr.nil _ _ _⟩
      · by_cases b3 : k < 0
        · clear hok hcs
          go_enter Tryd.func34, Tryd.ntmps34
          go_wp2
          go_ret2
          first | exact ⟨Below.refl _ _, none, 0, ret2s (by rw [hord.out]; rfl) (by rw [hord.out]), by rw [hord.out]; exact Arr.nil _ _ _⟩ | exact ⟨Below.refl _ _, none, ⟨0, ret2s (by rw [hord.out]; rfl) (by rw [hord.out])⟩, by rw [hord.out]; exact Arr.nil _ _ _⟩
        · by_cases b4 : countS n ≤ k
          · clear hok hcs
            go_enter Tryd.func34, Tryd.ntmps34
            go_wp2_with fail
            refine (count_any _ _ hn).mono ?_
            rintro e wa ⟨rfl, hwa⟩
            have hwa' := hwa.symm
            clear hwa
            subst hwa'
            go_wp2
            go_ret2
            first | exact ⟨Below.refl _ _, none, 0, ret2s (by rw [hord.out]; rfl) (by rw [hord.out]), by rw [hord.out]; exact Arr.nil _ _ _⟩ | exact ⟨Below.refl _ _, none, ⟨0, ret2s (by rw [hord.out]; rfl) (by rw [hord.out])⟩, by rw [hord.out]; exact Arr.nil _ _ _⟩
          · obtain ⟨N, rfl⟩ : ∃ N : Nat, n = N := ⟨n.toNat, by omega⟩
            have ht : tgt N hv = false := by
              cases h : tgt N hv
              · rfl
              · exact absurd ⟨by omega, by omega, by omega, by omega, by rw [show ((N : Int)).toNat = N from by omega]; exact h⟩ hok
            have Ht := Lib.hid ht
            have hN20 : N ≤ 20 := by omega
            clear hok hcs ht
            go_enter Tryd.func34, Tryd.ntmps34
            go_wp2_with fail
            refine (count_any _ _ hn).mono ?_
            rintro e wa ⟨rfl, hwa⟩
            have hwa' := hwa.symm
            clear hwa
            subst hwa'
            go_wp2_with fail
            refine (aimsS_any N hv B cb T _ (by omega) hB).mono ?_
            rintro e wa ⟨rfl, hwa⟩
            have hwa' := hwa.symm
            clear hwa
            subst hwa'
            rw [Ht.out]
            go_wp2
            go_ret2
            first | exact ⟨Below.refl _ _, none, 0, ret2s (by rw [hord.out]; rfl) (by rw [hord.out]), by rw [hord.out]; exact Arr.nil _ _ _⟩ | exact ⟨Below.refl _ _, none, ⟨0, ret2s (by rw [hord.out]; rfl) (by rw [hord.out])⟩, by rw [hord.out]; exact Arr.nil _ _ _⟩

end Go.Proofs.YteoafnkcplealaaDoor
