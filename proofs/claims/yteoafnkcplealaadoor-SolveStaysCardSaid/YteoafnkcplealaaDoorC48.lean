/- Contract: SolveStays. -/
import Derived.Test.YteoafnkcplealaaDoorC47
import Derived.Test.YteoafnkcplealaaDoorX12
set_option linter.unusedVariables false
namespace Go.Proofs.YteoafnkcplealaaDoor
open Go.RowKit

set_option maxHeartbeats 0 in
set_option maxRecDepth 100000 in
theorem solveStays_any (cat : List Pkg) (hv : List Int) (want : List Clause) (A B C : Option Addr) (ca cb cc : Nat) (S T U : Nat → Prop) (x : Int) (w : World) (hA : Arr w S A cat) (hB : Arr w T B hv) (hC : Arr w U C want) (hx : In64 x) (hL : Laid w) :
    Calls Tryd.prog 11 #[.slice A cat.length ca, .slice B hv.length cb, .slice C want.length cc, .int .i64 x] w fun e w' => e = .returned (.bool true) ∧ Below w.heap.size w w' := by
  go_enter Tryd.func11, Tryd.ntmps11
  go_wp2_with fail
  refine (works20_any _ hL).mono ?_
  rintro e w1 ⟨rfl, HW1⟩
  go_wp2_with fail
  refine (among_any x 100 _ (by omega) (by omega) hx).mono ?_
  rintro e wa ⟨⟨k, hk, rfl⟩, hwa⟩
  have hwa' := hwa.symm
  clear hwa
  subst hwa'
  have hz : IntKind.i64.wrap (1 + (k : Int)) = 1 + (k : Int) := IntWalk.i64_in _ (by omega)
  go_wp2_with fail
  refine (solve_any cat hv want A B C ca cb cc S T U (1 + (k : Int)) _ (hA.below HW1) (hB.below HW1) (hC.below HW1) ⟨by omega, by omega⟩ (hL.below HW1)).mono ?_
  rintro e w2 ⟨hw2, A2, c2, rfl, hr2⟩
  have HW2 := Below.trans0 HW1 hw2 HW1.size
  have hst := Lib.hid (@solve_stays cat hv want (1 + (k : Int)) (by omega) (by omega))
  generalize solveS cat hv want (1 + (k : Int)) = R at *
  obtain ⟨l, n, e⟩ := R
  simp only at hst hr2
  have hA2 := hA.below HW2
  have hB2 := hB.below HW2
  have hC2 := hC.below HW2
  have hL2 := hL.below HW2
  clear hw2 hA hB hC hL
  cases hval : validP cat hv
  · have Hv := Lib.hid hval
    clear hval
    go_wp2_with fail
    refine (planValid_any cat hv A B ca cb S T _ hA2 hB2 hL2).mono ?_
    rintro e w3 ⟨rfl, hw3⟩
    rw [Hv.out]
    go_wp2
    go_ret
    exact ⟨rfl, Below.trans0 HW2 hw3 HW2.size⟩
  · have Hv := Lib.hid hval
    cases hw : clausesOk want
    · have Hw := Lib.hid hw
      clear hval hw
      go_wp2_with fail
      refine (planValid_any cat hv A B ca cb S T _ hA2 hB2 hL2).mono ?_
      rintro e w3 ⟨rfl, hw3⟩
      rw [Hv.out]
      go_wp2_with fail
      refine (checkC_any want C cc U _ (hC2.below hw3) (hL2.below hw3)).mono ?_
      rintro e w4 ⟨rfl, hw4⟩
      rw [Hw.out]
      go_wp2
      go_ret
      exact ⟨rfl, Below.trans0 (Below.trans0 HW2 hw3 HW2.size) hw4 (Nat.le_trans HW2.size hw3.size)⟩
    · have Hw := Lib.hid hw
      have hiff := Lib.hid (hst.out hval hw)
      clear hval hw hst
      go_wp2_with fail
      refine (planValid_any cat hv A B ca cb S T _ hA2 hB2 hL2).mono ?_
      rintro e w3 ⟨rfl, hw3⟩
      rw [Hv.out]
      go_wp2_with fail
      refine (checkC_any want C cc U _ (hC2.below hw3) (hL2.below hw3)).mono ?_
      rintro e w4 ⟨rfl, hw4⟩
      rw [Hw.out]
      have HX4 := Below.trans0 hw3 hw4 hw3.size
      have HW4 := Below.trans0 HW2 HX4 HW2.size
      have hA4 := hA2.below HX4
      have hB4 := hB2.below HX4
      have hC4 := hC2.below HX4
      have hr4 := hr2.below HX4
      clear hw3 hw4 hA2 hB2 hC2 hr2
      cases hg : grants cat hv want
      · have Hg := Lib.hid hg
        have hno := Lib.hid (show ¬ (n = 1 ∧ e = 0 ∧ l = hv) from fun h => by rw [hiff.out.1 h] at hg; cases hg)
        clear hg hiff
        by_cases h1 : n = 1
        · subst h1
          by_cases h2 : e = 0
          · subst h2
            have hne := Lib.hid (show decide (l = hv) = false from decide_eq_false (fun h => hno.out ⟨rfl, rfl, h⟩))
            clear hno
            go_wp2_with fail
            refine (sameInts_any l hv A2 B c2 cb (fun _ => True) T _ hr4 hB4).mono ?_
            rintro e w5 ⟨rfl, hw5⟩
            rw [hne.out]
            go_wp2_with fail
            refine (planGrants_any cat hv want A B C ca cb cc S T U _ (hA4.below hw5) (hB4.below hw5) (hC4.below hw5)).mono ?_
            rintro e w6 ⟨rfl, hw6⟩
            rw [Hg.out]
            go_wp2
            go_ret
            exact ⟨by simp, Below.trans0 (Below.trans0 HW4 hw5 HW4.size) hw6 (Nat.le_trans HW4.size hw5.size)⟩
          · clear hno
            have h2b : (e == 0) = false := beq_eq_false_iff_ne.2 h2
            go_wp2_with fail
            refine (planGrants_any cat hv want A B C ca cb cc S T U _ hA4 hB4 hC4).mono ?_
            rintro e w6 ⟨rfl, hw6⟩
            rw [Hg.out]
            go_wp2
            go_ret
            exact ⟨by simp, Below.trans0 HW4 hw6 HW4.size⟩
        · clear hno
          have h1b : (n == 1) = false := beq_eq_false_iff_ne.2 h1
          go_wp2_with fail
          refine (planGrants_any cat hv want A B C ca cb cc S T U _ hA4 hB4 hC4).mono ?_
          rintro e w6 ⟨rfl, hw6⟩
          rw [Hg.out]
          go_wp2
          go_ret
          exact ⟨by simp, Below.trans0 HW4 hw6 HW4.size⟩
      · have Hg := Lib.hid hg
        obtain ⟨rfl, rfl, rfl⟩ := hiff.out.2 hg
        clear hg hiff
        go_wp2_with fail
        refine (sameInts_any _ _ A2 B c2 cb (fun _ => True) T _ hr4 hB4).mono ?_
        rintro e w5 ⟨rfl, hw5⟩
        rw [decide_eq_true rfl]
        go_wp2_with fail
        refine (planGrants_any cat _ want A B C ca cb cc S T U _ (hA4.below hw5) (hB4.below hw5) (hC4.below hw5)).mono ?_
        rintro e w6 ⟨rfl, hw6⟩
        rw [Hg.out]
        go_wp2
        go_ret
        exact ⟨by simp, Below.trans0 (Below.trans0 HW4 hw5 HW4.size) hw6 (Nat.le_trans HW4.size hw5.size)⟩

end Go.Proofs.YteoafnkcplealaaDoor
