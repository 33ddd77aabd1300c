/- Contracts: the reference's target, nth, Nth; SolveOrders. -/
import Derived.Test.YteoafnkcplealaaDoorC54
set_option linter.unusedVariables false
namespace Go.Proofs.YteoafnkcplealaaDoor
open Go.RowKit

set_option maxHeartbeats 0 in
set_option maxRecDepth 100000 in
theorem refTarget_any0 (n : Nat) (l : List Int) (A : Option Addr) (ca : Nat) (S : Nat → Prop) (w : World) (hn : n ≤ 9223372036854775807) (h : Arr w S A l) :
    Calls Tryd.prog 74 #[.int .i64 n, .slice A l.length ca] w fun e w' => e = .returned (.bool (tgt n l)) ∧ Below w.heap.size w w' := by
  have hl := h.len
  go_enter Tryd.func74, Tryd.ntmps74
  go_wp2
  go_loopw [4, 5] (fun r i wr => Below w.heap.size w wr ∧ r = .bool false ∧ ∃ k : Nat, k ≤ l.length ∧ i = .int .i64 k ∧ Hid (tgt n l = tgtFrom n (lastOf l k) (l.drop k)) ∧ -1 ≤ lastOf l k ∧ (0 < k → 0 ≤ lastOf l k)) (fun _ i _ => l.length - (intOf i).toNat)
  case atStart => exact ⟨Below.refl _ _, rfl, 0, Nat.zero_le _, rfl, Lib.hid rfl, by rw [lastOf_zero]; omega, fun h => by omega⟩
  case round =>
    obtain ⟨hB, rfl, k, hk, rfl, hj, hla, hlb⟩ := hrel
    by_cases hlt : k < l.length
    · obtain ⟨b, o, rfl, hb, hs, hc⟩ := (h.below hB).getI k hlt
      have hstep := Lib.hid (hj.out.trans (tgtFrom_step hlt _))
      have hlt' : (k : Int) < l.length := by omega
      clear hj
      by_cases hk0 : k = 0
      · subst hk0
        have hc0 : wr.cell? ⟨b, o, none⟩ = some (.int .i64 l[0]) := by simpa using hc
        rw [lastOf_zero] at hstep
        by_cases b1 : l[0] < 0
        · have fin : Hid (tgt n l = false) := Lib.hid (by rw [hstep.out, lastOf_not (by omega), Bool.false_and])
          have d1 : decide (l[0] < 0) = true := decide_eq_true b1
          clear hstep
          go_wp2
          refine region_quiet (by kernel_rfl) (by kernel_rfl) ?_
          repeat (go_big_quiet_step (fail))
          refine wpQuiet_nil ?_
          intro W1 hw1
          replace hw1 := below_of_ext hw1
          go_wp2
          go_ret
          exact ⟨ret_bool fin.out.symm, Below.trans0 hB hw1 hB.size⟩
        · by_cases b2 : (n : Int) ≤ l[0]
          · have fin : Hid (tgt n l = false) := Lib.hid (by rw [hstep.out, lastOf_not (by omega), Bool.false_and])
            have d1 : decide (l[0] < 0) = false := decide_eq_false b1
            have d2 : decide ((n : Int) ≤ l[0]) = true := decide_eq_true b2
            clear hstep
            go_wp2
            refine region_quiet (by kernel_rfl) (by kernel_rfl) ?_
            repeat (go_big_quiet_step (fail))
            refine wpQuiet_nil ?_
            intro W1 hw1
            replace hw1 := below_of_ext hw1
            go_wp2
            go_ret
            exact ⟨ret_bool fin.out.symm, Below.trans0 hB hw1 hB.size⟩
          · have fin : Hid (tgt n l = tgtFrom n (lastOf l (0 + 1)) (l.drop (0 + 1))) := Lib.hid (by rw [hstep.out, lastOf_succ hlt, decide_eq_true (show (-1 : Int) < l[0] by omega), decide_eq_true (show l[0] < n by omega)]; rfl)
            have f2 : Hid (0 ≤ lastOf l (0 + 1)) := Lib.hid (by rw [lastOf_succ hlt]; omega)
            have d1 : decide (l[0] < 0) = false := decide_eq_false b1
            have d2 : decide ((n : Int) ≤ l[0]) = false := decide_eq_false b2
            clear hstep
            go_wp2
            refine region_quiet (by kernel_rfl) (by kernel_rfl) ?_
            repeat (go_big_quiet_step (fail))
            refine wpQuiet_nil ?_
            intro W1 hw1
            replace hw1 := below_of_ext hw1
            go_wp2
            go_roundw
            case rel => exact ⟨Below.trans0 hB hw1 hB.size, rfl, 0 + 1, by omega, by go_num, fin, by have := f2.out; omega, fun _ => f2.out⟩
            case measure => simp [intOf]; omega
      · obtain ⟨b', o', e, hb', hs', hc'⟩ := (h.below hB).getI (k - 1) (by omega)
        cases e
        have hlo : lastOf l k = l[k - 1] := by unfold lastOf; rw [if_neg hk0]; simp [List.getD, show k - 1 < l.length from by omega]
        have c0 : (0 : Int) ≤ l[k - 1] := by rw [← hlo]; exact hlb (by omega)
        have k1 : ((k : Int) - 1).toNat = k - 1 := by omega
        have k2 : (0 : Int) < k := by omega
        have k2n : 0 < k := by omega
        have k3 : (k : Int) - 1 < l.length := by omega
        have k5 : (0 : Int) ≤ (k : Int) - 1 := by omega
        have k4 : wrap64 ((k : Int) - 1) = (k : Int) - 1 := by unfold wrap64; omega
        have k6 : IntKind.i64.wrap ((k : Int) - 1) = (k : Int) - 1 := IntWalk.i64_in _ (by omega)
        have dk : decide ((0 : Int) < k) = true := decide_eq_true k2
        have dn : decide (0 < k) = true := decide_eq_true k2n
        rw [hlo] at hstep
        by_cases b1 : l[k] < 0
        · have fin : Hid (tgt n l = false) := Lib.hid (by rw [hstep.out, lastOf_not (by omega), Bool.false_and])
          have d1 : decide (l[k] < 0) = true := decide_eq_true b1
          clear hstep hlo
          go_wp2
          refine region_quiet (by kernel_rfl) (by kernel_rfl) ?_
          repeat (go_big_quiet_step (fail))
          refine wpQuiet_nil ?_
          intro W1 hw1
          replace hw1 := below_of_ext hw1
          go_wp2
          go_ret
          exact ⟨ret_bool fin.out.symm, Below.trans0 hB hw1 hB.size⟩
        · by_cases b2 : (n : Int) ≤ l[k]
          · have fin : Hid (tgt n l = false) := Lib.hid (by rw [hstep.out, lastOf_not (by omega), Bool.false_and])
            have d1 : decide (l[k] < 0) = false := decide_eq_false b1
            have d2 : decide ((n : Int) ≤ l[k]) = true := decide_eq_true b2
            clear hstep hlo
            go_wp2
            refine region_quiet (by kernel_rfl) (by kernel_rfl) ?_
            repeat (go_big_quiet_step (fail))
            refine wpQuiet_nil ?_
            intro W1 hw1
            replace hw1 := below_of_ext hw1
            go_wp2
            go_ret
            exact ⟨ret_bool fin.out.symm, Below.trans0 hB hw1 hB.size⟩
          · by_cases b3 : l[k] ≤ l[k - 1]
            · have fin : Hid (tgt n l = false) := Lib.hid (by rw [hstep.out, lastOf_not (by omega), Bool.false_and])
              have d1 : decide (l[k] < 0) = false := decide_eq_false b1
              have d2 : decide ((n : Int) ≤ l[k]) = false := decide_eq_false b2
              have d3 : decide (l[k] ≤ l[k - 1]) = true := decide_eq_true b3
              clear hstep hlo
              go_wp2
              refine region_quiet (by kernel_rfl) (by kernel_rfl) ?_
              repeat (go_big_quiet_step (fail))
              refine wpQuiet_nil ?_
              intro W1 hw1
              replace hw1 := below_of_ext hw1
              go_wp2
              go_ret
              exact ⟨ret_bool fin.out.symm, Below.trans0 hB hw1 hB.size⟩
            · have fin : Hid (tgt n l = tgtFrom n (lastOf l (k + 1)) (l.drop (k + 1))) := Lib.hid (by rw [hstep.out, lastOf_succ hlt, decide_eq_true (show l[k - 1] < l[k] by omega), decide_eq_true (show l[k] < n by omega)]; rfl)
              have f2 : Hid (0 ≤ lastOf l (k + 1)) := Lib.hid (by rw [lastOf_succ hlt]; omega)
              have d1 : decide (l[k] < 0) = false := decide_eq_false b1
              have d2 : decide ((n : Int) ≤ l[k]) = false := decide_eq_false b2
              have d3 : decide (l[k] ≤ l[k - 1]) = false := decide_eq_false b3
              clear hstep hlo
              go_wp2
              refine region_quiet (by kernel_rfl) (by kernel_rfl) ?_
              repeat (go_big_quiet_step (fail))
              refine wpQuiet_nil ?_
              intro W1 hw1
              replace hw1 := below_of_ext hw1
              go_wp2
              go_roundw
              case rel => exact ⟨Below.trans0 hB hw1 hB.size, rfl, k + 1, by omega, by go_num, fin, by have := f2.out; omega, fun _ => f2.out⟩
              case measure => simp [intOf]; omega
    · have fin : Hid (tgt n l = true) := Lib.hid (by rw [hj.out, tgtFrom_end hlt])
      clear hj
      go_wp2
      go_ret
      exact ⟨ret_bool fin.out.symm, hB⟩

end Go.Proofs.YteoafnkcplealaaDoor
