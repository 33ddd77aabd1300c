/- Contracts: the reference's Count, solve.Nth, the reference's Nth; SolveOrders. -/
import Derived.Test.YteoafnkcplealaaDoorC47
import Derived.Test.YteoafnkcplealaaDoorX13
set_option linter.unusedVariables false
namespace Go.Proofs.YteoafnkcplealaaDoor
open Go.RowKit

theorem pow_lt20 {j : Nat} (h : j < 20) : 2 ^ j < 1048576 := by
  have := Nat.pow_lt_pow_right (show 1 < 2 by omega) h
  simpa using this

set_option maxHeartbeats 2000000 in
theorem refCount_any (n : Int) (w : World) (hn : In64 n) : Calls Tryd.prog 37 #[.int .i64 n] w fun e w' => e = .returned (.int .i64 (countS n)) ∧ w' = w := by
  by_cases h0 : n < 0
  · have fin : Hid (countS n = 0) := Lib.hid (by unfold countS; rw [if_pos h0])
    go_enter Tryd.func37, Tryd.ntmps37
    go_wp2
    go_ret
    exact ⟨ret_int fin.out.symm, rfl⟩
  · have hfin : countS n = if 20 < n then 1048576 else ((2 ^ n.toNat : Nat) : Int) := by unfold countS; rw [if_neg h0]
    have Hfin := Lib.hid hfin
    clear hfin
    go_enter Tryd.func37, Tryd.ntmps37
    go_wp2
    go_loopw [3, 4] (fun v i wr => wr = w ∧ ∃ j : Nat, ∃ P : Int, j ≤ 20 ∧ (j : Int) ≤ n ∧ v = .int .i64 P ∧ i = .int .i64 j ∧ Hid (P = ((2 ^ j : Nat) : Int))) (fun _ i _ => 20 - (intOf i).toNat)
    case atStart => exact ⟨rfl, 0, 1, by omega, by omega, rfl, rfl, Lib.hid rfl⟩
    case round =>
      obtain ⟨rfl, j, P, hj, hjn, rfl, rfl, hP⟩ := hrel
      by_cases hlt : (j : Int) < n
      · by_cases h20 : j < 20
        · have hPl : P < 1048576 := by have := pow_lt20 h20; have := hP.out; omega
          have hP0 : 0 ≤ P := by have := hP.out; have := Nat.two_pow_pos j; omega
          have hz : IntKind.i64.wrap (2 * P) = 2 * P := IntWalk.i64_in _ (by omega)
          have hP2 : Hid (2 * P = ((2 ^ (j + 1) : Nat) : Int)) := Lib.hid (by rw [hP.out, two_pow]; omega)
          go_wp2
          go_roundw
          case rel => exact ⟨by first | rfl | trivial, j + 1, 2 * P, by omega, by omega, rfl, by go_num, hP2⟩
          case measure => simp [intOf]; omega
        · have hj20 : j = 20 := by omega
          have hPe : P = 1048576 := by rw [hP.out, hj20]; rfl
          subst hPe
          have fin : Hid (countS n = 1048576) := Lib.hid (by rw [Hfin.out, if_pos (by omega)])
          go_wp2
          go_ret
          exact ⟨ret_int fin.out.symm, rfl⟩
      · have fin : Hid (countS n = P) := Lib.hid (by rw [Hfin.out, if_neg (by omega), hP.out, show n.toNat = j by omega])
        go_wp2
        go_ret
        exact ⟨ret_int fin.out.symm, rfl⟩

end Go.Proofs.YteoafnkcplealaaDoor
