/- Contracts: solve's Count, aims; the search's skip. -/
import Derived.Test.YtppbjmhllmaakaaGreatDoorC6
import Derived.Test.YtppbjmhllmaakaaGreatDoorX2
import Derived.Test.YtppbjmhllmaakaaGreatDoorX14
set_option linter.unusedVariables false
namespace Go.Proofs.YtppbjmhllmaakaaGreatDoor
open Go.RowKit

theorem shl_one (m : Nat) (hm : m ≤ 20) : wrap64 ((2 : Int) ^ m) = ((2 ^ m : Nat) : Int) := by
  have hp := pow_small hm
  have e : (2 : Int) ^ m = ((2 ^ m : Nat) : Int) := by norm_cast
  rw [e]
  generalize 2 ^ m = y at *
  unfold wrap64
  omega

set_option maxHeartbeats 400000 in
theorem count_any (n : Int) (w : World) (hn : In64 n) : Calls Tryz.prog 47 #[.int .i64 n] w fun e w' => e = .returned (.int .i64 (countS n)) ∧ w' = w := by
  by_cases h0 : n < 0
  · have fin : Hid (countS n = 0) := Lib.hid (by unfold countS; rw [if_pos h0])
    go_enter Tryz.func47, Tryz.ntmps47
    go_wp2
    go_ret
    exact ⟨ret_int fin.out.symm, rfl⟩
  · by_cases h2 : 20 < n
    · have fin : Hid (countS n = 1048576) := Lib.hid (by unfold countS; rw [if_neg h0, if_pos h2])
      go_enter Tryz.func47, Tryz.ntmps47
      go_wp2
      go_ret
      exact ⟨ret_int fin.out.symm, rfl⟩
    · have fin : Hid (countS n = wrap64 ((2 : Int) ^ n.toNat)) := Lib.hid (by rw [shl_one _ (by omega)]; unfold countS; rw [if_neg h0, if_neg h2])
      have h0' : 0 ≤ n := by omega
      have h64 : n ≤ 64 := by omega
      go_enter Tryz.func47, Tryz.ntmps47
      go_wp2
      go_ret
      exact ⟨ret_int fin.out.symm, rfl⟩

theorem lastOf_not {a b : Int} {n : Int} (h : ¬ (a < b ∧ b < n)) : (decide (a < b) && decide (b < n)) = false := by
  simp only [Bool.and_eq_false_iff, decide_eq_false_iff_not]; omega

set_option maxHeartbeats 1000000 in
theorem aimsS_any (n : Nat) (l : List Int) (A : Option Addr) (ca : Nat) (S : Nat → Prop) (w : World) (hn : n ≤ 9223372036854775807) (h : Arr w S A l) :
    Calls Tryz.prog 45 #[.int .i64 n, .slice A l.length ca] w fun e w' => e = .returned (.bool (tgt n l)) ∧ w' = w := by
  have hl := h.len
  go_enter Tryz.func45, Tryz.ntmps45
  go_wp2
  go_loopw [4, 5, 6, 9] (fun r a b i wr => wr = w ∧ r = .bool false ∧ ∃ k : Nat, k ≤ l.length ∧ i = .int .i64 k ∧ Hid (tgt n l = tgtFrom n (lastOf l k) (l.drop k)) ∧ -1 ≤ lastOf l k ∧ (0 < k → 0 ≤ lastOf l k)) (fun _ _ _ i _ => l.length - (intOf i).toNat)
  case atStart => exact ⟨rfl, rfl, 0, Nat.zero_le _, rfl, Lib.hid rfl, by rw [lastOf_zero]; omega, fun h => by omega⟩
  case round =>
    obtain ⟨rfl, rfl, k, hk, rfl, hj, hla, hlb⟩ := hrel
    by_cases hlt : k < l.length
    · obtain ⟨b, o, rfl, hb, hs, hc⟩ := h.getI k hlt
      have hstep := Lib.hid (hj.out.trans (tgtFrom_step hlt _))
      clear hj
      by_cases hk0 : k = 0
      · subst hk0
        have hc0 : wr.cell? ⟨b, o, none⟩ = some (.int .i64 l[0]) := by simpa using hc
        have z0 : ¬ (0 : Int) < 0 := by omega
        rw [lastOf_zero] at hstep
        by_cases hin : (0 : Int) ≤ l[0] ∧ l[0] < n
        · have a1 := hin.1
          have a2 := hin.2
          have b1 : ¬ l[0] < 0 := by omega
          have b2 : ¬ (n : Int) ≤ l[0] := by omega
          have fin : Hid (tgt n l = tgtFrom n (lastOf l (0 + 1)) (l.drop (0 + 1))) := Lib.hid (by rw [hstep.out, lastOf_succ hlt, decide_eq_true (show (-1 : Int) < l[0] by omega), decide_eq_true a2]; rfl)
          have f2 : Hid (0 ≤ lastOf l (0 + 1)) := Lib.hid (by rw [lastOf_succ hlt]; exact a1)
          clear hstep
          go_wp2
          go_roundw
          case rel => exact ⟨by first | rfl | trivial, rfl, 0 + 1, by omega, by go_num, fin, by have := f2.out; omega, fun _ => f2.out⟩
          case measure => simp [intOf]; omega
        · have fin : Hid (tgt n l = false) := Lib.hid (by rw [hstep.out, lastOf_not (by omega), Bool.false_and])
          clear hstep
          by_cases b1 : l[0] < 0
          all_goals
            have b2 : l[0] < 0 ∨ (n : Int) ≤ l[0] := by omega
            first
              | (have b3 : (n : Int) ≤ l[0] := by omega
                 go_wp2
                 go_ret
                 exact ⟨ret_bool fin.out.symm, rfl⟩)
              | (go_wp2
                 go_ret
                 exact ⟨ret_bool fin.out.symm, rfl⟩)
      · obtain ⟨b', o', e, hb', hs', hc'⟩ := h.getI (k - 1) (by omega)
        cases e
        have hlo : lastOf l k = l[k - 1] := by unfold lastOf; rw [if_neg hk0]; simp [List.getD, show k - 1 < l.length from by omega]
        have c0 : (0 : Int) ≤ l[k - 1] := by rw [← hlo]; exact hlb (by omega)
        have k1 : ((k : Int) - 1).toNat = k - 1 := by omega
        have k2 : (0 : Int) < k := by omega
        have k3 : (k : Int) - 1 < l.length := by omega
        have k4 : wrap64 ((k : Int) - 1) = (k : Int) - 1 := by unfold wrap64; omega
        rw [hlo] at hstep
        by_cases hin : l[k - 1] < l[k] ∧ l[k] < n
        · have a1 := hin.1
          have a2 := hin.2
          have b1 : ¬ l[k] < 0 := by omega
          have b2 : ¬ (n : Int) ≤ l[k] := by omega
          have b3 : ¬ l[k] ≤ l[k - 1] := by omega
          have fin : Hid (tgt n l = tgtFrom n (lastOf l (k + 1)) (l.drop (k + 1))) := Lib.hid (by rw [hstep.out, lastOf_succ hlt, decide_eq_true a1, decide_eq_true a2]; rfl)
          have f2 : Hid (0 ≤ lastOf l (k + 1)) := Lib.hid (by rw [lastOf_succ hlt]; omega)
          clear hstep hlo
          go_wp2
          go_roundw
          case rel => exact ⟨by first | rfl | trivial, rfl, k + 1, by omega, by go_num, fin, by have := f2.out; omega, fun _ => f2.out⟩
          case measure => simp [intOf]; omega
        · have fin : Hid (tgt n l = false) := Lib.hid (by rw [hstep.out, lastOf_not hin, Bool.false_and])
          clear hstep hlo
          by_cases b1 : l[k] < 0
          · go_wp2
            go_ret
            exact ⟨ret_bool fin.out.symm, rfl⟩
          · by_cases b2 : (n : Int) ≤ l[k]
            · go_wp2
              go_ret
              exact ⟨ret_bool fin.out.symm, rfl⟩
            · have b3 : l[k] ≤ l[k - 1] := by omega
              go_wp2
              go_ret
              exact ⟨ret_bool fin.out.symm, rfl⟩
    · have fin : Hid (tgt n l = true) := Lib.hid (by rw [hj.out, tgtFrom_end hlt])
      clear hj
      go_wp2
      go_ret
      exact ⟨ret_bool fin.out.symm, rfl⟩


end Go.Proofs.YtppbjmhllmaakaaGreatDoor
