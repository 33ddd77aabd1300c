/- Contracts: the reference's Count, target, nth, Grants and Solve; SolveFinds. -/
import Derived.Test.YtppbjmhllmaakaaGreatDoorX13
import Derived.Test.YtppbjmhllmaakaaGreatDoorC46
import Derived.Test.YtppbjmhllmaakaaGreatDoorC28
import Derived.Test.YtppbjmhllmaakaaGreatDoorC29
import Derived.Test.YtppbjmhllmaakaaGreatDoorC50a
import Derived.Test.YtppbjmhllmaakaaGreatDoorC47a
set_option linter.unusedVariables false
namespace Go.Proofs.YtppbjmhllmaakaaGreatDoor

section
theorem finds_hit {cat : List Pkg} {hv : List Int} {want : List Clause} {budget : Int} {t : Nat} (hp : planOk cat = true) (ht : tgt cat.length hv = true) (hw : clausesOk want = true) (hb : ¬ (budget < 1 ∨ 1048576 < budget))
    (h : ∀ j, j < t → good cat want (nthS hv cat.length j) = false) (hg : good cat want (nthS hv cat.length t) = true) (htn : t < 2 ^ cat.length) (htb : (t : Int) < budget) : solveS cat hv want budget = (nthS hv cat.length t, (t : Int) + 1, 0) := by
  have hr : runS (good cat want) hv cat.length cat.length budget 0 [] = ⟨false, true, 0 + (t : Int) + 1, nthS hv cat.length t⟩ := by
    unfold runS
    rw [seek_at htn h hg]
    simp only
    rw [if_pos (by omega)]
  unfold solveS
  rw [hp, ht, if_pos (by rfl), if_pos hw, if_neg hb, hr, if_pos rfl]
  simp
theorem finds_none {cat : List Pkg} {hv : List Int} {want : List Clause} {budget : Int} (hp : planOk cat = true) (ht : tgt cat.length hv = true) (hw : clausesOk want = true) (hb : ¬ (budget < 1 ∨ 1048576 < budget)) (hn : cat.length ≤ 20)
    (h : ∀ j, j < 2 ^ cat.length → good cat want (nthS hv cat.length j) = false) (hle : ((2 ^ cat.length : Nat) : Int) ≤ budget) : solveS cat hv want budget = ([], ((2 ^ cat.length : Nat) : Int), 200) := by
  have hs := (seek_no h).1 rfl
  have hr := runS_none (budget := budget) (s := 0) hs
  unfold solveS
  rw [hp, ht, if_pos (by rfl), if_pos hw, if_neg hb, hr]
  rw [if_neg (by simp), if_pos ⟨hn, hle⟩]
theorem finds_out {cat : List Pkg} {hv : List Int} {want : List Clause} {budget : Int} {t : Nat} (hp : planOk cat = true) (ht : tgt cat.length hv = true) (hw : clausesOk want = true) (hb : ¬ (budget < 1 ∨ 1048576 < budget))
    (h : ∀ j, j < t → good cat want (nthS hv cat.length j) = false) (hbt : budget ≤ t) (hno : ¬ (cat.length ≤ 20 ∧ ((2 ^ cat.length : Nat) : Int) ≤ budget)) : solveS cat hv want budget = ([], budget, 201) := by
  have hf : ¬ (runS (good cat want) hv cat.length cat.length budget 0 []).found = true := by
    unfold runS
    split
    · rename_i r hr
      have := (seek_no h).2 r.1 r.2 hr
      rw [if_neg (by omega)]
      simp
    · split <;> simp
  unfold solveS
  rw [hp, ht, if_pos (by rfl), if_pos hw, if_neg hb, if_neg hf, if_neg hno]
end

section
open Go.RowKit

theorem pow_lt20 {j : Nat} (h : j < 20) : 2 ^ j < 1048576 := by
  have := Nat.pow_lt_pow_right (show 1 < 2 by omega) h
  simpa using this

set_option maxHeartbeats 2000000 in
theorem refCount_any (n : Int) (w : World) (hn : In64 n) : Calls Tryz.prog 51 #[.int .i64 n] w fun e w' => e = .returned (.int .i64 (countS n)) ∧ w' = w := by
  by_cases h0 : n < 0
  · have fin : Hid (countS n = 0) := Lib.hid (by unfold countS; rw [if_pos h0])
    go_enter Tryz.func51, Tryz.ntmps51
    go_wp2
    go_ret
    exact ⟨ret_int fin.out.symm, rfl⟩
  · have hfin : countS n = if 20 < n then 1048576 else ((2 ^ n.toNat : Nat) : Int) := by unfold countS; rw [if_neg h0]
    have Hfin := Lib.hid hfin
    clear hfin
    go_enter Tryz.func51, Tryz.ntmps51
    go_wp2
    go_loopw [3, 4] (fun v i wr => wr = w ∧ ∃ j : Nat, ∃ P : Int, j ≤ 20 ∧ (j : Int) ≤ n ∧ v = .int .i64 P ∧ i = .int .i64 j ∧ Hid (P = ((2 ^ j : Nat) : Int))) (fun _ i _ => 20 - (intOf i).toNat)
    case atStart => exact ⟨rfl, 0, 1, by omega, by omega, rfl, rfl, Lib.hid rfl⟩
    case round =>
      obtain ⟨rfl, j, P, hj, hjn, rfl, rfl, hP⟩ := hrel
      by_cases hlt : (j : Int) < n
      · by_cases h20 : j < 20
        · have hPl : P < 1048576 := by have := pow_lt20 h20; have := hP.out; omega
          have hP0 : 0 ≤ P := by have := hP.out; have := Nat.two_pow_pos j; omega
          have hz : IntKind.i64.wrap (2 * P) = 2 * P := IntWalk.i64_in _ (by omega)
          have hP2 : Hid (2 * P = ((2 ^ (j + 1) : Nat) : Int)) := Lib.hid (by rw [hP.out, two_pow]; omega)
          go_wp2
          go_roundw
          case rel => exact ⟨by first | rfl | trivial, j + 1, 2 * P, by omega, by omega, rfl, by go_num, hP2⟩
          case measure => simp [intOf]; omega
        · have hj20 : j = 20 := by omega
          have hPe : P = 1048576 := by rw [hP.out, hj20]; rfl
          subst hPe
          have fin : Hid (countS n = 1048576) := Lib.hid (by rw [Hfin.out, if_pos (by omega)])
          go_wp2
          go_ret
          exact ⟨ret_int fin.out.symm, rfl⟩
      · have fin : Hid (countS n = P) := Lib.hid (by rw [Hfin.out, if_neg (by omega), hP.out, show n.toNat = j by omega])
        go_wp2
        go_ret
        exact ⟨ret_int fin.out.symm, rfl⟩
end

section
open Go.RowKit

set_option maxHeartbeats 0 in
set_option maxRecDepth 100000 in
theorem refTarget_any0 (n : Nat) (l : List Int) (A : Option Addr) (ca : Nat) (S : Nat → Prop) (w : World) (hn : n ≤ 9223372036854775807) (h : Arr w S A l) :
    Calls Tryz.prog 50 #[.int .i64 n, .slice A l.length ca] w fun e w' => e = .returned (.bool (tgt n l)) ∧ Below w.heap.size w w' := by
  have hl := h.len
  go_enter Tryz.func50, Tryz.ntmps50
  go_wp2
  go_loopw [4, 5] (fun r i wr => Below w.heap.size w wr ∧ r = .bool false ∧ ∃ k : Nat, k ≤ l.length ∧ i = .int .i64 k ∧ Hid (tgt n l = tgtFrom n (lastOf l k) (l.drop k)) ∧ -1 ≤ lastOf l k ∧ (0 < k → 0 ≤ lastOf l k)) (fun _ i _ => l.length - (intOf i).toNat)
  case atStart => exact ⟨Below.refl _ _, rfl, 0, Nat.zero_le _, rfl, Lib.hid rfl, by rw [lastOf_zero]; omega, fun h => by omega⟩
  case round =>
    obtain ⟨hB, rfl, k, hk, rfl, hj, hla, hlb⟩ := hrel
    by_cases hlt : k < l.length
    · obtain ⟨b, o, rfl, hb, hs, hc⟩ := (h.below hB).getI k hlt
      have hstep := Lib.hid (hj.out.trans (tgtFrom_step hlt _))
      have hlt' : (k : Int) < l.length := by omega
      clear hj
      by_cases hk0 : k = 0
      · subst hk0
        have hc0 : wr.cell? ⟨b, o, none⟩ = some (.int .i64 l[0]) := by simpa using hc
        rw [lastOf_zero] at hstep
        by_cases b1 : l[0] < 0
        · have fin : Hid (tgt n l = false) := Lib.hid (by rw [hstep.out, lastOf_not (by omega), Bool.false_and])
          have d1 : decide (l[0] < 0) = true := decide_eq_true b1
          clear hstep
          go_wp2
          refine region_quiet (by kernel_rfl) (by kernel_rfl) ?_
          repeat (go_big_quiet_step (fail))
          refine wpQuiet_nil ?_
          intro W1 hw1
          replace hw1 := below_of_ext hw1
          go_wp2
          go_ret
          exact ⟨ret_bool fin.out.symm, Below.trans0 hB hw1 hB.size⟩
        · by_cases b2 : (n : Int) ≤ l[0]
          · have fin : Hid (tgt n l = false) := Lib.hid (by rw [hstep.out, lastOf_not (by omega), Bool.false_and])
            have d1 : decide (l[0] < 0) = false := decide_eq_false b1
            have d2 : decide ((n : Int) ≤ l[0]) = true := decide_eq_true b2
            clear hstep
            go_wp2
            refine region_quiet (by kernel_rfl) (by kernel_rfl) ?_
            repeat (go_big_quiet_step (fail))
            refine wpQuiet_nil ?_
            intro W1 hw1
            replace hw1 := below_of_ext hw1
            go_wp2
            go_ret
            exact ⟨ret_bool fin.out.symm, Below.trans0 hB hw1 hB.size⟩
          · have fin : Hid (tgt n l = tgtFrom n (lastOf l (0 + 1)) (l.drop (0 + 1))) := Lib.hid (by rw [hstep.out, lastOf_succ hlt, decide_eq_true (show (-1 : Int) < l[0] by omega), decide_eq_true (show l[0] < n by omega)]; rfl)
            have f2 : Hid (0 ≤ lastOf l (0 + 1)) := Lib.hid (by rw [lastOf_succ hlt]; omega)
            have d1 : decide (l[0] < 0) = false := decide_eq_false b1
            have d2 : decide ((n : Int) ≤ l[0]) = false := decide_eq_false b2
            clear hstep
            go_wp2
            refine region_quiet (by kernel_rfl) (by kernel_rfl) ?_
            repeat (go_big_quiet_step (fail))
            refine wpQuiet_nil ?_
            intro W1 hw1
            replace hw1 := below_of_ext hw1
            go_wp2
            go_roundw
            case rel => exact ⟨Below.trans0 hB hw1 hB.size, rfl, 0 + 1, by omega, by go_num, fin, by have := f2.out; omega, fun _ => f2.out⟩
            case measure => simp [intOf]; omega
      · obtain ⟨b', o', e, hb', hs', hc'⟩ := (h.below hB).getI (k - 1) (by omega)
        cases e
        have hlo : lastOf l k = l[k - 1] := by unfold lastOf; rw [if_neg hk0]; simp [List.getD, show k - 1 < l.length from by omega]
        have c0 : (0 : Int) ≤ l[k - 1] := by rw [← hlo]; exact hlb (by omega)
        have k1 : ((k : Int) - 1).toNat = k - 1 := by omega
        have k2 : (0 : Int) < k := by omega
        have k2n : 0 < k := by omega
        have k3 : (k : Int) - 1 < l.length := by omega
        have k5 : (0 : Int) ≤ (k : Int) - 1 := by omega
        have k4 : wrap64 ((k : Int) - 1) = (k : Int) - 1 := by unfold wrap64; omega
        have k6 : IntKind.i64.wrap ((k : Int) - 1) = (k : Int) - 1 := IntWalk.i64_in _ (by omega)
        have dk : decide ((0 : Int) < k) = true := decide_eq_true k2
        have dn : decide (0 < k) = true := decide_eq_true k2n
        rw [hlo] at hstep
        by_cases b1 : l[k] < 0
        · have fin : Hid (tgt n l = false) := Lib.hid (by rw [hstep.out, lastOf_not (by omega), Bool.false_and])
          have d1 : decide (l[k] < 0) = true := decide_eq_true b1
          clear hstep hlo
          go_wp2
          refine region_quiet (by kernel_rfl) (by kernel_rfl) ?_
          repeat (go_big_quiet_step (fail))
          refine wpQuiet_nil ?_
          intro W1 hw1
          replace hw1 := below_of_ext hw1
          go_wp2
          go_ret
          exact ⟨ret_bool fin.out.symm, Below.trans0 hB hw1 hB.size⟩
        · by_cases b2 : (n : Int) ≤ l[k]
          · have fin : Hid (tgt n l = false) := Lib.hid (by rw [hstep.out, lastOf_not (by omega), Bool.false_and])
            have d1 : decide (l[k] < 0) = false := decide_eq_false b1
            have d2 : decide ((n : Int) ≤ l[k]) = true := decide_eq_true b2
            clear hstep hlo
            go_wp2
            refine region_quiet (by kernel_rfl) (by kernel_rfl) ?_
            repeat (go_big_quiet_step (fail))
            refine wpQuiet_nil ?_
            intro W1 hw1
            replace hw1 := below_of_ext hw1
            go_wp2
            go_ret
            exact ⟨ret_bool fin.out.symm, Below.trans0 hB hw1 hB.size⟩
          · by_cases b3 : l[k] ≤ l[k - 1]
            · have fin : Hid (tgt n l = false) := Lib.hid (by rw [hstep.out, lastOf_not (by omega), Bool.false_and])
              have d1 : decide (l[k] < 0) = false := decide_eq_false b1
              have d2 : decide ((n : Int) ≤ l[k]) = false := decide_eq_false b2
              have d3 : decide (l[k] ≤ l[k - 1]) = true := decide_eq_true b3
              clear hstep hlo
              go_wp2
              refine region_quiet (by kernel_rfl) (by kernel_rfl) ?_
              repeat (go_big_quiet_step (fail))
              refine wpQuiet_nil ?_
              intro W1 hw1
              replace hw1 := below_of_ext hw1
              go_wp2
              go_ret
              exact ⟨ret_bool fin.out.symm, Below.trans0 hB hw1 hB.size⟩
            · have fin : Hid (tgt n l = tgtFrom n (lastOf l (k + 1)) (l.drop (k + 1))) := Lib.hid (by rw [hstep.out, lastOf_succ hlt, decide_eq_true (show l[k - 1] < l[k] by omega), decide_eq_true (show l[k] < n by omega)]; rfl)
              have f2 : Hid (0 ≤ lastOf l (k + 1)) := Lib.hid (by rw [lastOf_succ hlt]; omega)
              have d1 : decide (l[k] < 0) = false := decide_eq_false b1
              have d2 : decide ((n : Int) ≤ l[k]) = false := decide_eq_false b2
              have d3 : decide (l[k] ≤ l[k - 1]) = false := decide_eq_false b3
              clear hstep hlo
              go_wp2
              refine region_quiet (by kernel_rfl) (by kernel_rfl) ?_
              repeat (go_big_quiet_step (fail))
              refine wpQuiet_nil ?_
              intro W1 hw1
              replace hw1 := below_of_ext hw1
              go_wp2
              go_roundw
              case rel => exact ⟨Below.trans0 hB hw1 hB.size, rfl, k + 1, by omega, by go_num, fin, by have := f2.out; omega, fun _ => f2.out⟩
              case measure => simp [intOf]; omega
    · have fin : Hid (tgt n l = true) := Lib.hid (by rw [hj.out, tgtFrom_end hlt])
      clear hj
      go_wp2
      go_ret
      exact ⟨ret_bool fin.out.symm, hB⟩
end

section
open Go.RowKit

theorem other_bit (K j : Nat) (P : Int) (hP : P = ((2 ^ j : Nat) : Int)) (hK : K < 1048576) : ((wrap64 ((K : Int) / P)).tmod 2 == 1) = K.testBit j := by
  subst hP
  have e : (K : Int) / ((2 ^ j : Nat) : Int) = ((K / 2 ^ j : Nat) : Int) := by norm_cast
  have hle := Nat.div_le_self K (2 ^ j)
  rw [e, Nat.testBit_eq_decide_div_mod_eq]
  generalize K / 2 ^ j = q at *
  have h1 : wrap64 (q : Int) = q := by unfold wrap64; omega
  rw [h1, Int.tmod_eq_emod_of_nonneg (by omega)]
  by_cases h : q % 2 = 1
  · rw [decide_eq_true h]; simp; omega
  · rw [decide_eq_false h]; simp; omega

set_option maxHeartbeats 0 in
set_option maxRecDepth 100000 in
theorem refnth_any (hv : List Int) (N K : Nat) (B : Option Addr) (cb : Nat) (T : Nat → Prop) (w : World) (hB : Arr w T B hv) (hN20 : N ≤ 20) (hK : K < 1048576) :
    Calls Tryz.prog 52 #[.int .i64 (N : Int), .slice B hv.length cb, .int .i64 (K : Int)] w fun e w' => Below w.heap.size w w' ∧ ∃ A' c', e = .returned (.slice A' (nthS hv N K).length c') ∧ Arr w' (fun _ => True) A' (nthS hv N K) := by
  unfold nthS
  go_enter Tryz.func52, Tryz.ntmps52
  go_wp2
  go_loopw [7, 8, 9] (fun o i x wr => Below w.heap.size w wr ∧ ∃ t : Nat, t ≤ N ∧ i = .int .i64 t ∧ Own wr w.heap.size 3 (fun _ => False) o (nthTo hv N K t)) (fun _ i _ _ => N - (intOf i).toNat)
  case atStart => exact ⟨(Below.refl _ _).alloc (Nat.le_refl _) _, 0, Nat.zero_le _, rfl, Own.made _ _ _ _ (Nat.le_refl _)⟩
  case round =>
    obtain ⟨hb, t, ht, rfl, hown⟩ := hrel
    have hlen := nthTo_len hv N K t
    by_cases hlt : t < N
    · have hstep := Lib.hid (nthTo_succ hv N K t)
      have hs : In64 (t : Int) := ⟨by omega, by omega⟩
      have hw1 : IntKind.i64.wrap ((N : Int) - 1) = (N : Int) - 1 := IntWalk.i64_in _ (by omega)
      have hw2 : IntKind.i64.wrap ((N : Int) - 1 - (t : Int)) = (N : Int) - 1 - (t : Int) := IntWalk.i64_in _ (by omega)
      have hlt' : (t : Int) < N := by omega
      have hBr := hB.below hb
      obtain ⟨P, hP⟩ : ∃ P : Int, P = ((2 ^ (N - 1 - t) : Nat) : Int) := ⟨_, rfl⟩
      have hct := Lib.hid (show countS ((N : Int) - 1 - (t : Int)) = P by rw [show (N : Int) - 1 - (t : Int) = ((N - 1 - t : Nat) : Int) by omega, countS_small (by omega), hP])
      have hP0 : 0 < P := by have := Nat.two_pow_pos (N - 1 - t); omega
      have hPn : ¬ P = 0 := by omega
      have hPn1 : ¬ P = -1 := by omega
      have hob := other_bit K (N - 1 - t) P hP hK
      clear hP
      cases hc : decide ((t : Int) ∈ hv) <;> cases hbt : K.testBit (N - 1 - t)
      · have Hc := Lib.hid hc
        have hob2 : ((wrap64 ((K : Int) / P)).tmod 2 == 1) = false := hob.trans hbt
        have hin : Hid (inNth hv N K t = false) := Lib.hid (by unfold inNth; rw [hc, hbt]; rfl)
        clear hc hbt hob
        go_wp2_with fail
        refine (refCount_any _ _ ⟨by omega, by omega⟩).mono ?_
        rintro e wa ⟨rfl, hwa⟩
        have hwa' := hwa.symm
        clear hwa
        subst hwa'
        rw [hct.out]
        go_wp2_with fail
        refine (hasInt_any hv t B cb T _ hBr).mono ?_
        rintro e wa ⟨rfl, hwa⟩
        have hwa' := hwa.symm
        clear hwa
        subst hwa'
        rw [Hc.out]
        go_wp2
        go_roundw
        case rel => exact ⟨hb, t + 1, by omega, by go_num, by rw [hstep.out, hin.out]; exact hown⟩
        case measure => simp [intOf]; omega
      · have Hc := Lib.hid hc
        have hob2 : ((wrap64 ((K : Int) / P)).tmod 2 == 1) = true := hob.trans hbt
        have hin : Hid (inNth hv N K t = true) := Lib.hid (by unfold inNth; rw [hc, hbt]; rfl)
        clear hc hbt hob
        go_wp2_with fail
        refine (refCount_any _ _ ⟨by omega, by omega⟩).mono ?_
        rintro e wa ⟨rfl, hwa⟩
        have hwa' := hwa.symm
        clear hwa
        subst hwa'
        rw [hct.out]
        go_wp2_with fail
        refine (hasInt_any hv t B cb T _ hBr).mono ?_
        rintro e wa ⟨rfl, hwa⟩
        have hwa' := hwa.symm
        clear hwa
        subst hwa'
        rw [Hc.out]
        go_wp2_with (at_builtin; refine Hold.out ?_)
        refine ⟨?_⟩
        refine wpList_own_app rfl _ _ 23 rfl w.heap.size 3 elInt (fun _ => False) u7 (nthTo hv N K t) ?_ (hown.below ((Below.refl _ _).alloc (Nat.le_refl _) _)) ⟨wr.heap.size, 0, none⟩ 1 [(t : Int)] ?_ (Src.one 3 (show Cd.rep wr (fun b => False ∧ Value.ownBlock u7 ≠ some b) (t : Int) [.int .i64 t] from ⟨rfl, hs⟩)) ?_ ?_ ?_ ?_
        · simp [Act.eval]
        · simp [Act.eval]
        · exact app_bound (n := 20) (by decide) (by simp; omega)
        · simp; omega
        · have := hb.size; simp; omega
        intro v2 w6 hown6 hg6 hat6
        have hb6 : Below w.heap.size w w6 := (hb.alloc hb.size _).grown hg6 (by have := hb.size; simp; omega) (fun b e => (hown.block_ge _ e).1)
        clear hg6 hat6 hown
        go_wp2
        go_roundw
        case rel => exact ⟨hb6, t + 1, by omega, by go_num, by rw [hstep.out, hin.out]; exact hown6⟩
        case measure => simp [intOf]; omega
      · have Hc := Lib.hid hc
        have hob2 : ((wrap64 ((K : Int) / P)).tmod 2 == 1) = false := hob.trans hbt
        have hin : Hid (inNth hv N K t = true) := Lib.hid (by unfold inNth; rw [hc, hbt]; rfl)
        clear hc hbt hob
        go_wp2_with fail
        refine (refCount_any _ _ ⟨by omega, by omega⟩).mono ?_
        rintro e wa ⟨rfl, hwa⟩
        have hwa' := hwa.symm
        clear hwa
        subst hwa'
        rw [hct.out]
        go_wp2_with fail
        refine (hasInt_any hv t B cb T _ hBr).mono ?_
        rintro e wa ⟨rfl, hwa⟩
        have hwa' := hwa.symm
        clear hwa
        subst hwa'
        rw [Hc.out]
        go_wp2_with (at_builtin; refine Hold.out ?_)
        refine ⟨?_⟩
        refine wpList_own_app rfl _ _ 23 rfl w.heap.size 3 elInt (fun _ => False) u7 (nthTo hv N K t) ?_ (hown.below ((Below.refl _ _).alloc (Nat.le_refl _) _)) ⟨wr.heap.size, 0, none⟩ 1 [(t : Int)] ?_ (Src.one 3 (show Cd.rep wr (fun b => False ∧ Value.ownBlock u7 ≠ some b) (t : Int) [.int .i64 t] from ⟨rfl, hs⟩)) ?_ ?_ ?_ ?_
        · simp [Act.eval]
        · simp [Act.eval]
        · exact app_bound (n := 20) (by decide) (by simp; omega)
        · simp; omega
        · have := hb.size; simp; omega
        intro v2 w6 hown6 hg6 hat6
        have hb6 : Below w.heap.size w w6 := (hb.alloc hb.size _).grown hg6 (by have := hb.size; simp; omega) (fun b e => (hown.block_ge _ e).1)
        clear hg6 hat6 hown
        go_wp2
        go_roundw
        case rel => exact ⟨hb6, t + 1, by omega, by go_num, by rw [hstep.out, hin.out]; exact hown6⟩
        case measure => simp [intOf]; omega
      · have Hc := Lib.hid hc
        have hob2 : ((wrap64 ((K : Int) / P)).tmod 2 == 1) = true := hob.trans hbt
        have hin : Hid (inNth hv N K t = false) := Lib.hid (by unfold inNth; rw [hc, hbt]; rfl)
        clear hc hbt hob
        go_wp2_with fail
        refine (refCount_any _ _ ⟨by omega, by omega⟩).mono ?_
        rintro e wa ⟨rfl, hwa⟩
        have hwa' := hwa.symm
        clear hwa
        subst hwa'
        rw [hct.out]
        go_wp2_with fail
        refine (hasInt_any hv t B cb T _ hBr).mono ?_
        rintro e wa ⟨rfl, hwa⟩
        have hwa' := hwa.symm
        clear hwa
        subst hwa'
        rw [Hc.out]
        go_wp2
        go_roundw
        case rel => exact ⟨hb, t + 1, by omega, by go_num, by rw [hstep.out, hin.out]; exact hown⟩
        case measure => simp [intOf]; omega
    · have hte : t = N := by omega
      subst hte
      obtain ⟨A2, c2, e2, hr, -⟩ := hown.rep2 (S' := fun _ => True) (fun b _ h => h.elim) (fun b h _ => trivial) (mul_bound (n := 20) (by show 20 * 8 ≤ reach; decide) (by omega)) (by omega)
      subst e2
      clear hown
      go_wp2
      go_ret
      first | exact ⟨hb, A2, c2, rfl, hr⟩ | exact ⟨hb, A2, ⟨c2, rfl⟩, hr⟩
end

section
open Go.RowKit

theorem all_take_true {α : Type} {p : α → Bool} {l : List α} {k : Nat} (hk : k < l.length) (h : (l.take k).all p = true) (h1 : p l[k] = true) : (l.take (k + 1)).all p = true := by rw [all_take_succ2 p hk, h, h1]; rfl

set_option maxHeartbeats 0 in
set_option maxRecDepth 100000 in
theorem refGrants_any (cat : List Pkg) (l : List Int) (want : List Clause) (A B C : Option Addr) (ca cb cc : Nat) (S T U : Nat → Prop) (w : World) (hA : Arr w S A cat) (h : Arr w T B l) (hC : Arr w U C want) :
    Calls Tryz.prog 22 #[.slice A cat.length ca, .slice B l.length cb, .slice C want.length cc] w fun e w' => e = .returned (.bool (grants cat l want)) ∧ Below w.heap.size w w' := by
  have hwl := hC.len
  cases ht : tgt cat.length l
  · have Ht := Lib.hid ht
    have fin := Lib.hid (show grants cat l want = false by unfold grants; rw [ht]; rfl)
    clear ht
    go_enter Tryz.func22, Tryz.ntmps22
    go_wp2_with (go_at_call 57; refine (refTarget_any cat l A ca S B cb T _ hA h).mono ?_; rintro e w2 ⟨rfl, hw2⟩; rw [Ht.out])
    go_ret
    exact ⟨ret_bool fin.out.symm, hw2⟩
  · have Ht := Lib.hid ht
    have fin0 := Lib.hid (show grants cat l want = want.all fun c => met c (pick cat l) by unfold grants; rw [ht]; rfl)
    clear ht
    go_enter Tryz.func22, Tryz.ntmps22
    go_wp2_with (go_at_call 57; refine (refTarget_any cat l A ca S B cb T _ hA h).mono ?_; rintro e w2 ⟨rfl, hw2⟩; rw [Ht.out])
    have hz2 := hw2.size
    go_loopw [7] (fun i wr => Below w.heap.size w wr ∧ ∃ k : Nat, k ≤ want.length ∧ i = .int .i64 k ∧ Hid ((want.take k).all (fun c => met c (pick cat l)) = true)) (fun i _ => want.length - (intOf i).toNat)
    case atStart => exact ⟨hw2, 0, Nat.zero_le _, rfl, Lib.hid (by simp)⟩
    case round =>
      obtain ⟨hb, k, hk, rfl, hj⟩ := hrel
      by_cases hlt : k < want.length
      · obtain ⟨b3, o3, N3, cn3, rfl, hb3, g0, g1, hrc, -⟩ := (hC.below hb).getClause k hlt
        have hwk : want[k].neg = want[k].neg := rfl
        have hI : ∀ w1, Below wr.drew.heap.size wr.drew w1 → Below wr.heap.size wr w1 := fun w1 h => ((Below.refl _ wr).drew).trans h
        cases hm : met want[k] (pick cat l)
        · have fin := Lib.hid (show grants cat l want = false by rw [fin0.out]; exact all_false hlt hm)
          have Hm := Lib.hid hm
          clear hm
          go_wp2
          go_region_held3 (fun W => W.cell? ⟨b3, o3 + k * 2, none⟩ = some (.bool want[k].neg) ∧ W.cell? ⟨b3, o3 + k * 2 + 1, none⟩ = some (.slice N3 want[k].any.length cn3)) (go_keep) (first
            | (go_at_call 20; refine (refPick_any cat l A B ca cb S T _ (hA.below hb.drew) (h.below hb.drew)).mono ?_; rintro e w8 ⟨hw8, A8, c8, rfl, hpi, hc8⟩; replace hw8 := hI w8 hw8; obtain ⟨q1, q2⟩ := bcell hw8; replace g0 := (q1 _ _ hb3).trans g0; replace g1 := (q1 _ _ hb3).trans g1; clear q1 q2)
            | (go_at_call 27; refine (refMet_any want[k] (pick cat l) [_, _] _ c8 U _ _ (hrc.below hw8) hpi).mono ?_; rintro e w9 ⟨rfl, hw9⟩; rw [Hm.out]; have HW9 : Below wr.heap.size wr w9 := Below.trans0 hw8 hw9 hw8.size; obtain ⟨q1, q2⟩ := bcell hw9; have hb8 : b3 < w8.heap.size := Nat.lt_of_lt_of_le hb3 hw8.size; replace g0 := (q1 _ _ hb8).trans g0; replace g1 := (q1 _ _ hb8).trans g1; clear q1 q2))
          all_goals
            go_wp2
            go_ret
            exact ⟨ret_bool fin.out.symm, Below.trans0 hb HW9 hb.size⟩
        · have fin : Hid ((want.take (k + 1)).all (fun c => met c (pick cat l)) = true) := Lib.hid (all_take_true hlt hj.out hm)
          have Hm := Lib.hid hm
          clear hm
          go_wp2
          go_region_held3 (fun W => W.cell? ⟨b3, o3 + k * 2, none⟩ = some (.bool want[k].neg) ∧ W.cell? ⟨b3, o3 + k * 2 + 1, none⟩ = some (.slice N3 want[k].any.length cn3)) (go_keep) (first
            | (go_at_call 20; refine (refPick_any cat l A B ca cb S T _ (hA.below hb.drew) (h.below hb.drew)).mono ?_; rintro e w8 ⟨hw8, A8, c8, rfl, hpi, hc8⟩; replace hw8 := hI w8 hw8; obtain ⟨q1, q2⟩ := bcell hw8; replace g0 := (q1 _ _ hb3).trans g0; replace g1 := (q1 _ _ hb3).trans g1; clear q1 q2)
            | (go_at_call 27; refine (refMet_any want[k] (pick cat l) [_, _] _ c8 U _ _ (hrc.below hw8) hpi).mono ?_; rintro e w9 ⟨rfl, hw9⟩; rw [Hm.out]; have HW9 : Below wr.heap.size wr w9 := Below.trans0 hw8 hw9 hw8.size; obtain ⟨q1, q2⟩ := bcell hw9; have hb8 : b3 < w8.heap.size := Nat.lt_of_lt_of_le hb3 hw8.size; replace g0 := (q1 _ _ hb8).trans g0; replace g1 := (q1 _ _ hb8).trans g1; clear q1 q2))
          all_goals
            go_wp2
            go_roundw
            case rel => exact ⟨Below.trans0 hb HW9 hb.size, k + 1, by omega, by go_num, fin⟩
            case measure => simp [intOf]; omega
      · have fin := Lib.hid (show grants cat l want = true by rw [fin0.out, ← hj.out, List.take_of_length_le (by omega)])
        go_wp2
        go_ret
        exact ⟨ret_bool fin.out.symm, hb⟩
end

section
open Go.RowKit

set_option maxHeartbeats 0 in
set_option maxRecDepth 100000 in
theorem refSolve_any (cat : List Pkg) (hv : List Int) (want : List Clause) (A B C : Option Addr) (ca cb cc : Nat) (S T U : Nat → Prop) (budget : Int) (w : World) (hA : Arr w S A cat) (hB : Arr w T B hv) (hC : Arr w U C want) (hb64 : In64 budget) (hn9 : cat.length ≤ 9) :
    Calls Tryz.prog 15 #[.slice A cat.length ca, .slice B hv.length cb, .slice C want.length cc, .int .i64 budget] w fun e w' => Below w.heap.size w w' ∧ ∃ A' c', e = .returned (.tuple #[.slice A' (solveS cat hv want budget).1.length c', .int .i64 (solveS cat hv want budget).2.1, .int .i64 (solveS cat hv want budget).2.2]) ∧ Arr w' (fun _ => True) A' (solveS cat hv want budget).1 := by
  have hcl := hA.len
  cases hp : planOk cat
  · have Hp := Lib.hid hp
    have fin := Lib.hid (show solveS cat hv want budget = ([], 0, 190) by unfold solveS; rw [hp, Bool.false_and]; rfl)
    clear hp
    generalize solveS cat hv want budget = R at *
    go_enter Tryz.func15, Tryz.ntmps15
    go_wp2_with (go_at_call 49; refine (refPlanCheck_any cat A ca S _ hA).mono ?_; rintro e w1 ⟨rfl, hw1⟩; rw [Hp.out])
    go_ret3
    exact ⟨hw1, none, 0, ret3 (by rw [fin.out]; rfl) (by rw [fin.out]) (by rw [fin.out]), by rw [fin.out]; exact Arr.nil _ _ _⟩
  · have Hp := Lib.hid hp
    cases ht : tgt cat.length hv
    · have Ht := Lib.hid ht
      have fin := Lib.hid (show solveS cat hv want budget = ([], 0, 190) by unfold solveS; rw [hp, ht]; rfl)
      clear hp ht
      generalize solveS cat hv want budget = R at *
      go_enter Tryz.func15, Tryz.ntmps15
      go_wp2_with (first | (go_at_call 49; refine (refPlanCheck_any cat A ca S _ hA).mono ?_; rintro e w1 ⟨rfl, hw1⟩; rw [Hp.out]) | (go_at_call 50; refine (refTarget_any0 cat.length hv B cb T _ (by omega) (hB.below hw1)).mono ?_; rintro e w2 ⟨rfl, hw2⟩; rw [Ht.out]; have HW2 := Below.trans0 hw1 hw2 hw1.size))
      go_ret3
      exact ⟨HW2, none, 0, ret3 (by rw [fin.out]; rfl) (by rw [fin.out]) (by rw [fin.out]), by rw [fin.out]; exact Arr.nil _ _ _⟩
    · have Ht := Lib.hid ht
      cases hw : clausesOk want
      · have Hw := Lib.hid hw
        have fin := Lib.hid (show solveS cat hv want budget = ([], 0, 180) by unfold solveS; rw [hp, ht, hw]; rfl)
        clear hp ht hw
        generalize solveS cat hv want budget = R at *
        go_enter Tryz.func15, Tryz.ntmps15
        go_wp2_with (first | (go_at_call 49; refine (refPlanCheck_any cat A ca S _ hA).mono ?_; rintro e w1 ⟨rfl, hw1⟩; rw [Hp.out]) | (go_at_call 50; refine (refTarget_any0 cat.length hv B cb T _ (by omega) (hB.below hw1)).mono ?_; rintro e w2 ⟨rfl, hw2⟩; rw [Ht.out]; have HW2 := Below.trans0 hw1 hw2 hw1.size) | (go_at_call 37; refine (refCheckC_any want C cc U _ (hC.below HW2)).mono ?_; rintro e w3 ⟨rfl, hw3⟩; rw [Hw.out]; have HW3 := Below.trans0 HW2 hw3 HW2.size))
        go_ret3
        exact ⟨HW3, none, 0, ret3 (by rw [fin.out]; rfl) (by rw [fin.out]) (by rw [fin.out]), by rw [fin.out]; exact Arr.nil _ _ _⟩
      · have Hw := Lib.hid hw
        by_cases hbad : budget < 1 ∨ 1048576 < budget
        · have fin := Lib.hid (show solveS cat hv want budget = ([], 0, 2) by unfold solveS; rw [hp, ht, hw, if_pos hbad]; rfl)
          clear hp ht hw
          generalize solveS cat hv want budget = R at *
          by_cases hlow : budget < 1
          case' neg => have hhigh : 1048576 < budget := hbad.resolve_left hlow
          all_goals
            clear hbad
            go_enter Tryz.func15, Tryz.ntmps15
            go_wp2_with (first | (go_at_call 49; refine (refPlanCheck_any cat A ca S _ hA).mono ?_; rintro e w1 ⟨rfl, hw1⟩; rw [Hp.out]) | (go_at_call 50; refine (refTarget_any0 cat.length hv B cb T _ (by omega) (hB.below hw1)).mono ?_; rintro e w2 ⟨rfl, hw2⟩; rw [Ht.out]; have HW2 := Below.trans0 hw1 hw2 hw1.size) | (go_at_call 37; refine (refCheckC_any want C cc U _ (hC.below HW2)).mono ?_; rintro e w3 ⟨rfl, hw3⟩; rw [Hw.out]; have HW3 := Below.trans0 HW2 hw3 HW2.size))
            go_ret3
            exact ⟨HW3, none, 0, ret3 (by rw [fin.out]; rfl) (by rw [fin.out]) (by rw [fin.out]), by rw [fin.out]; exact Arr.nil _ _ _⟩
        · have hb1 : ¬ budget < 1 := fun e => hbad (Or.inl e)
          have hb2 : ¬ 1048576 < budget := fun e => hbad (Or.inr e)
          have hhit := Lib.hid (fun (t : Nat) => @finds_hit cat hv want budget t hp ht hw hbad)
          have hnone := Lib.hid (@finds_none cat hv want budget hp ht hw hbad (by omega))
          have hout := Lib.hid (fun (t : Nat) => @finds_out cat hv want budget t hp ht hw hbad)
          clear hp ht hw hbad
          have hpn : 2 ^ cat.length ≤ 512 := Nat.pow_le_pow_right (n := 2) (by omega) hn9
          have hct : Hid (countS cat.length = ((2 ^ cat.length : Nat) : Int)) := Lib.hid (countS_small (by omega))
          generalize solveS cat hv want budget = R at *
          generalize 2 ^ cat.length = N at *
          obtain ⟨m, hm⟩ : ∃ m : Nat, min (N : Int) budget = (m : Int) := ⟨(min (N : Int) budget).toNat, by omega⟩
          have hmN : m ≤ N := by omega
          have hmb : (m : Int) ≤ budget := by omega
          have hor : Hid ((m : Int) = N ∧ (N : Int) ≤ budget ∨ (m : Int) = budget ∧ budget < N) := Lib.hid (by omega)
          have hn20 : (cat.length : Int) ≤ 20 := by omega
          go_enter Tryz.func15, Tryz.ntmps15
          go_wp2_with (first | (go_at_call 49; refine (refPlanCheck_any cat A ca S _ hA).mono ?_; rintro e w1 ⟨rfl, hw1⟩; rw [Hp.out]) | (go_at_call 50; refine (refTarget_any0 cat.length hv B cb T _ (by omega) (hB.below hw1)).mono ?_; rintro e w2 ⟨rfl, hw2⟩; rw [Ht.out]; have HW2 := Below.trans0 hw1 hw2 hw1.size) | (go_at_call 37; refine (refCheckC_any want C cc U _ (hC.below HW2)).mono ?_; rintro e w3 ⟨rfl, hw3⟩; rw [Hw.out]; have HW3 := Below.trans0 HW2 hw3 HW2.size) | (go_at_call 51; refine (refCount_any _ _ ⟨by omega, by omega⟩).mono ?_; rintro e wa ⟨rfl, hwa⟩; have hwa' := hwa.symm; clear hwa; subst hwa'; rw [hct.out]))
          clear hw1 hw2 hw3
          go_loopw [12, 13] (fun i l wr => Below w.heap.size w wr ∧ ∃ k : Nat, k ≤ m ∧ i = .int .i64 k ∧ Hid (∀ j, j < k → good cat want (nthS hv cat.length j) = false)) (fun i _ _ => m - (intOf i).toNat)
          case atStart => exact ⟨HW3, 0, Nat.zero_le _, rfl, Lib.hid (fun j h => by omega)⟩
          case round =>
            obtain ⟨hb, k, hk, rfl, hj⟩ := hrel
            by_cases hlt : k < m
            · have hkb : (k : Int) < m := by omega
              have hs1 : IntKind.i64.wrap ((k : Int) + 1) = (k : Int) + 1 := IntWalk.i64_in _ (by omega)
              have hnl : Hid (tgt cat.length (nthS hv cat.length k) = true → (nthS hv cat.length k).length ≤ cat.length) := Lib.hid (fun h => tgt_len h)
              have hgood : Hid (good cat want (nthS hv cat.length k) = (validP cat (nthS hv cat.length k) && grants cat (nthS hv cat.length k) want)) := Lib.hid rfl
              have hnxt : Hid (good cat want (nthS hv cat.length k) = false → ∀ j, j < k + 1 → good cat want (nthS hv cat.length j) = false) := Lib.hid (fun h j hjk => by
                by_cases e : j = k
                · subst e; exact h
                · exact hj.out j (by omega))
              have hhit2 : Hid (good cat want (nthS hv cat.length k) = true → R = (nthS hv cat.length k, (k : Int) + 1, 0)) := Lib.hid (fun h => hhit.out k hj.out h (by omega) (by omega))
              have hnth := Lib.hid (fun W (h : Arr W T B hv) => refnth_any hv cat.length k B cb T W h (by omega) (by omega))
              generalize nthS hv cat.length k = L at *
              cases hg : grants cat L want
              · have Hg := Lib.hid hg
                have hno := Lib.hid (hnxt.out (by rw [hgood.out, hg, Bool.and_false]))
                clear hg hgood hnxt hhit2 hnl
                go_wp2_with (first | (go_at_call 52; refine (hnth.out _ (hB.below hb)).mono ?_; rintro e w4 ⟨hw4, A4, c4, rfl, h4⟩; have HW4 := Below.trans0 hb hw4 hb.size) | (go_at_call 22; refine (refGrants_any cat L want A A4 C ca c4 cc S _ U _ (hA.below HW4) h4 (hC.below HW4)).mono ?_; rintro e w5 ⟨rfl, hw5⟩; rw [Hg.out]; have HW5 := Below.trans0 HW4 hw5 HW4.size))
                go_roundw
                case rel => exact ⟨HW5, k + 1, by omega, by go_num, hno⟩
                case measure => simp [intOf]; omega
              · have Hg := Lib.hid hg
                cases hvl : validP cat L
                · have Hv := Lib.hid hvl
                  have hno := Lib.hid (hnxt.out (by rw [hgood.out, hvl, Bool.false_and]))
                  clear hg hvl hgood hnxt hhit2 hnl
                  go_wp2_with (first | (go_at_call 52; refine (hnth.out _ (hB.below hb)).mono ?_; rintro e w4 ⟨hw4, A4, c4, rfl, h4⟩; have HW4 := Below.trans0 hb hw4 hb.size) | (go_at_call 22; refine (refGrants_any cat L want A A4 C ca c4 cc S _ U _ (hA.below HW4) h4 (hC.below HW4)).mono ?_; rintro e w5 ⟨rfl, hw5⟩; rw [Hg.out]; have HW5 := Below.trans0 HW4 hw5 HW4.size) | (go_at_call 53; refine (refPlanValid_any cat L A A4 ca c4 S _ _ (hA.below HW5) (h4.below hw5)).mono ?_; rintro e w6 ⟨rfl, hw6⟩; rw [Hv.out]; have HW6 := Below.trans0 HW5 hw6 HW5.size))
                  go_roundw
                  case rel => exact ⟨HW6, k + 1, by omega, by go_num, hno⟩
                  case measure => simp [intOf]; omega
                · have Hv := Lib.hid hvl
                  have fin := Lib.hid (hhit2.out (by rw [hgood.out, hvl, hg]; rfl))
                  clear hg hvl hgood hnxt hhit2 hnl
                  go_wp2_with (first | (go_at_call 52; refine (hnth.out _ (hB.below hb)).mono ?_; rintro e w4 ⟨hw4, A4, c4, rfl, h4⟩; have HW4 := Below.trans0 hb hw4 hb.size) | (go_at_call 22; refine (refGrants_any cat L want A A4 C ca c4 cc S _ U _ (hA.below HW4) h4 (hC.below HW4)).mono ?_; rintro e w5 ⟨rfl, hw5⟩; rw [Hg.out]; have HW5 := Below.trans0 HW4 hw5 HW4.size) | (go_at_call 53; refine (refPlanValid_any cat L A A4 ca c4 S _ _ (hA.below HW5) (h4.below hw5)).mono ?_; rintro e w6 ⟨rfl, hw6⟩; rw [Hv.out]; have h6 := (h4.below hw5).below hw6; have HW6 := Below.trans0 HW5 hw6 HW5.size))
                  go_ret3
                  exact ⟨HW6, A4, c4, ret3 (by rw [fin.out]) (by rw [fin.out]) (by rw [fin.out]), by rw [fin.out]; exact h6⟩
            · have hkm : k = m := by omega
              subst hkm
              rcases hor.out with ⟨e1, e2⟩ | ⟨e1, e2⟩
              · have hkN : k = N := by omega
                subst hkN
                have fin := Lib.hid (hnone.out hj.out e2)
                clear hhit hnone hout hor
                go_wp2
                go_ret3
                first | exact ⟨hb, none, 0, ret3 (by rw [fin.out]; rfl) (by rw [fin.out]) (by rw [fin.out]), by rw [fin.out]; exact Arr.nil _ _ _⟩ | exact ⟨hb, none, ⟨0, ret3 (by rw [fin.out]; rfl) (by rw [fin.out]) (by rw [fin.out])⟩, by rw [fin.out]; exact Arr.nil _ _ _⟩
              · have fin := Lib.hid (hout.out k hj.out (by omega) (fun h => by have := h.2; omega))
                have e3 : ¬ (N : Int) ≤ budget := by omega
                clear hhit hnone hout hor
                go_wp2
                go_ret3
                first | exact ⟨hb, none, 0, ret3 (by rw [fin.out]; rfl) (by rw [fin.out]) (by rw [fin.out]), by rw [fin.out]; exact Arr.nil _ _ _⟩ | exact ⟨hb, none, ⟨0, ret3 (by rw [fin.out]; rfl) (by rw [fin.out]) (by rw [fin.out])⟩, by rw [fin.out]; exact Arr.nil _ _ _⟩
end

section
open Go.RowKit

set_option maxHeartbeats 0 in
set_option maxRecDepth 100000 in
theorem copies_any (l : List Pkg) (A : Option Addr) (ca : Nat) (S : Nat → Prop) (w : World) (h : Arr w S A l) :
    Calls Tryz.prog 11 #[.slice A l.length ca] w fun e w' => Below w.heap.size w w' ∧ ∃ A' c', e = .returned (.slice A' l.length c') ∧ Arr w' (Fr w S) A' l := by
  have hl := h.len
  have hby := h.1
  have ho := h.old
  go_enter Tryz.func11, Tryz.ntmps11
  go_wp2
  go_loopw [3, 4] (fun v i wr => Below w.heap.size w wr ∧ ∃ k : Nat, k ≤ l.length ∧ i = .int .i64 k ∧ Own wr w.heap.size 36 (Fr w S) v (l.take k)) (fun _ i _ => l.length - (intOf i).toNat)
  case atStart => exact ⟨by (repeat (first | exact Below.refl _ _ | assumption | (refine Below.setCell ?_ (by first | omega | (simp; done) | (simp; omega) | exact Below.size (by assumption)) _) | (refine Below.alloc ?_ (by first | omega | (simp; done) | (simp; omega) | exact Below.size (by assumption)) _) | refine Below.drew ?_ | refine Below.trans0 ?_ (by assumption))), 0, Nat.zero_le _, rfl, Own.made _ _ _ _ (Nat.le_refl _)⟩
  case round =>
    obtain ⟨hb, k, hk, rfl, hown⟩ := hrel
    by_cases hlt : k < l.length
    · obtain ⟨b, o, B2, cb2, C2, cc2, D2, cd2, rfl, hb0, e0, e1, e2, e3, e4, hrep, -, -, -⟩ := (ho.below hb).getPkg k hlt
      have hlm : (l.take k).length = k := by simp; omega
      have Hlm := Lib.hid hlm
      clear hlm
      go_wp2_with (first | (go_at_call 43; refine (basePkg_any l[k] [_, _, _, _, _] _ _ hrep).mono ?_; rintro e w1 ⟨hw1, vs, rfl, hr1⟩; obtain ⟨A1, a1, A2, a2, A3, a3, rfl, k1, k2, k3, k4, k5⟩ := id hr1) | (at_builtin; refine Hold.out ?_))
      have hr2 : Cd.rep w1 (fun b => Fr w S b ∧ Value.ownBlock u3 ≠ some b) l[k] [.string l[k].name, .slice A1 l[k].ver.parts.length a1, .string l[k].ver.tail, .slice A2 l[k].provides.length a2, .slice A3 l[k].clauses.length a3] :=
        hr1.mono (fun b _ hb1 => by
          have hsz := hb.size
          rcases hb1 with ⟨⟨h1, h2⟩, h3⟩ | h3
          · exact ⟨.inl ⟨h1, h2⟩, fun e => by have := hown.block_ge b e; omega⟩
          · exact ⟨.inr (by omega), fun e => by have := hown.block_ge b e; omega⟩)
      refine ⟨?_⟩
      refine wpList_own_app rfl _ _ 22 rfl w.heap.size 36 elPkg (Fr w S) u3 (l.take k) ?_ ((hown.below hw1).below ((Below.refl _ _).alloc (Nat.le_refl _) _)) ⟨w1.heap.size, 0, none⟩ 1 [l[k]] ?_ (Src.one 36 hr2) ?_ ?_ ?_ ?_
      · simp [Act.eval]
      · simp [Act.eval]
      · rw [Hlm.out]; exact app_bound hby (by simp; omega)
      · rw [Hlm.out]; simp; omega
      · have := hb.size; have := hw1.size; simp; omega
      intro v2 w6 hown6 hg6 hat6
      have hb1 : Below w.heap.size w w1 := Below.trans0 hb hw1 hb.size
      have hb6 : Below w.heap.size w w6 := (hb1.alloc hb1.size _).grown hg6 (by have := hb1.size; simp; omega) (fun b e => (hown.block_ge _ e).1)
      have hown7 : Own w6 w.heap.size 36 (Fr w S) v2 (l.take (k + 1)) := by rw [← List.take_append_getElem hlt]; exact hown6
      clear hg6 hat6 hown hown6 hr1 hr2 hw1 e0 e1 e2 e3 e4
      go_wp2
      go_roundw
      case rel => exact ⟨hb6, k + 1, by omega, by go_num, hown7⟩
      case measure => simp [intOf]; omega
    · rw [List.take_of_length_le (by omega)] at hown
      obtain ⟨A8, c8, e8, hr8⟩ := hown.rep (S' := Fr w S) (fun b _ h => h) (fun b h _ => .inr h) hby hl
      subst e8
      go_wp2
      go_ret
      exact ⟨hb, A8, c8, rfl, hr8⟩


theorem take9_len (cat : List Pkg) : (cat.take 9).length ≤ 9 := by simp; omega

set_option maxHeartbeats 0 in
set_option maxRecDepth 100000 in
theorem solveFinds_any (cat0 : List Pkg) (hv : List Int) (want : List Clause) (A0 B C : Option Addr) (ca cb cc : Nat) (S T U : Nat → Prop) (budget : Int) (w : World) (hA0 : Arr w S A0 cat0) (hB : Arr w T B hv) (hC : Arr w U C want) (hcap : Cap A0 cat0.length ca) (hb64 : In64 budget) (hL : Laid w) :
    Calls Tryz.prog 3 #[.slice A0 cat0.length ca, .slice B hv.length cb, .slice C want.length cc, .int .i64 budget] w fun e w' => e = .returned (.bool true) ∧ Below w.heap.size w w' := by
  have hbl := hB.len
  have hcl0 := hC.len
  go_enter Tryz.func3, Tryz.ntmps3
  go_wp2_with fail
  refine (small_any cat0 A0 ca S _ hA0 hcap).mono ?_
  rintro e wz ⟨⟨A, rfl, hA⟩, hwz⟩
  have hwz' := hwz.symm
  clear hwz
  subst hwz'
  have hn9 := take9_len cat0
  generalize cat0.take 9 = cat at *
  clear hA0 hcap
  have hcl := hA.len
  obtain ⟨R, hR⟩ : ∃ R, Hid (solveS cat hv want budget = R) := ⟨_, Lib.hid rfl⟩
  go_wp2_with (first
    | (go_at_call 11; refine (copies_any cat A ca S _ hA).mono ?_; rintro e w1 ⟨hw1, A1, k1, rfl, ho0⟩; have HW := hw1; have ho : Arr w1 (fun _ => True) A1 cat := ho0.mono (fun _ _ _ => trivial))
    | (go_at_call 13; refine (baseInts_any hv B cb T _ (hB.below HW)).mono ?_; rintro e w2 ⟨hw2, v, rfl, hown⟩; obtain ⟨A2, k2, rfl, hi0⟩ := hown.rep (S' := fun _ => True) (fun _ _ _ => trivial) (fun _ _ _ => trivial) hB.1 hbl; have hi := hi0; have ho := ho.below hw2; have HW := Below.trans0 HW hw2 HW.size)
    | (go_at_call 14; refine (baseClauses_any want C cc U _ (hC.below HW)).mono ?_; rintro e w3 ⟨hw3, A3, k3, rfl, hq0⟩; have hq : Arr w3 (fun _ => True) A3 want := hq0.mono (fun _ _ _ => trivial); have hi := hi.below hw3; have ho := ho.below hw3; have HW := Below.trans0 HW hw3 HW.size)
    | (go_at_call 12; refine (solve_any cat hv want A1 A2 A3 k1 k2 k3 _ _ _ budget _ ho hi hq hb64 (hL.below HW)).mono ?_; rintro e w4 ⟨hw4, A4, k4, he4, h40⟩; rw [hR.out] at he4 h40; subst he4; have h4 := h40; have ho := ho.below hw4; have HW := Below.trans0 HW hw4 HW.size)
    | (go_at_call 15; refine (refSolve_any cat hv want A B C ca cb cc _ _ _ budget _ (hA.below HW) (hB.below HW) (hC.below HW) hb64 hn9).mono ?_; rintro e w5 ⟨hw5, A5, k5, he5, h50⟩; rw [hR.out] at he5 h50; subst he5; have h5 := h50; have h4 := h4.below hw5; have ho := ho.below hw5; have HW := Below.trans0 HW hw5 HW.size))
  have HW9 : Below w.heap.size w w5 := HW
  have ho9 : Arr w5 (fun _ => True) A1 cat := ho
  have h49 : Arr w5 (fun _ => True) A4 R.1 := h4
  have h59 : Arr w5 (fun _ => True) A5 R.1 := h5
  clear HW ho h4 h5 hw1 hw2 hw3 hw4 hw5 ho0 hown hi0 hi hq0 hq h40 h50
  obtain ⟨r1, r2, r3⟩ := R
  simp only at h49 h59
  go_loopw [16] (fun i wr => Below w5.heap.size w5 wr ∧ ∃ k : Nat, k ≤ cat.length ∧ i = .int .i64 k) (fun i _ => cat.length - (intOf i).toNat)
  case atStart => exact ⟨Below.refl _ _, 0, Nat.zero_le _, rfl⟩
  case round =>
    obtain ⟨hb, k, hk, rfl⟩ := hrel
    have HWr : Below w.heap.size w wr := Below.trans0 HW9 hb HW9.size
    by_cases hlt : k < cat.length
    · have hlt' : (k : Int) < cat.length := by omega
      obtain ⟨b, o, B2, cb2, C2, cc2, D2, cd2, rfl, hb0, e0, e1, e2, e3, e4, hrep, -, -, -⟩ := (hA.below HWr).getPkg k hlt
      obtain ⟨b', o', B3, cb3, C3, cc3, D3, cd3, rfl, hb1, g0, g1, g2, g3, g4, hrep2, -, -, -⟩ := (ho9.below hb).getPkg k hlt
      go_wp2
      refine region_quiet (by kernel_rfl) (by kernel_rfl) ?_
      repeat (go_big_quiet_step ((go_at_call 16; exact call_quiet (samePkg_any cat[k] [_, _, _, _, _] [_, _, _, _, _] _ _ _ (hrep2.below (ext_below _ _)) (hrep.below (ext_below _ _))))))
      refine wpQuiet_nil ?_
      intro W1 hw1
      replace hw1 := below_of_ext hw1
      go_wp2
      go_roundw
      case rel => exact ⟨Below.trans0 hb hw1 hb.size, k + 1, by omega, by go_num⟩
      case measure => simp [intOf]; omega
    · have h4 := h49.below hb
      have h5 := h59.below hb
      go_wp2_with (first
        | (go_at_call 17; refine (sameInts_any r1 r1 A4 A5 k4 k5 _ _ _ h4 h5).mono ?_; rintro e w10 ⟨rfl, hw10⟩; rw [decide_eq_true rfl]; have HW := Below.trans0 HWr hw10 HWr.size)
        | (go_at_call 18; refine (works20_any _ (hL.below HW)).mono ?_; rintro e w11 ⟨rfl, hw11⟩; have HW := Below.trans0 HW hw11 HW.size))
      go_ret
      exact ⟨rfl, HW⟩
end

end Go.Proofs.YtppbjmhllmaakaaGreatDoor
