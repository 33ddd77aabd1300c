/- Contract: SolveEnough. -/
import Derived.Test.YteoafnkcplealaaDoorC50
import Derived.Test.YteoafnkcplealaaDoorC49
import Derived.Deep.DeepCutAuto
set_option linter.unusedVariables false
namespace Go.Proofs.YteoafnkcplealaaDoor
open Go.RowKit

theorem pick_all {cat : List Pkg} {l : List Int} (h : (pick cat l).length = l.length) : tgt cat.length l = true := by
  cases ht : tgt cat.length l
  · rw [pick_no ht] at h
    cases l with
    | nil => exact absurd ht (by simp [tgt, tgtFrom])
    | cons a r => simp at h
  · rfl

set_option maxHeartbeats 0 in
set_option maxRecDepth 100000 in
theorem solveEnough_any (cat0 : List Pkg) (hv : List Int) (want : List Clause) (A B C : Option Addr) (ca cb cc : Nat) (S T U : Nat → Prop) (w : World) (hA0 : Arr w S A cat0) (hB : Arr w T B hv) (hC : Arr w U C want) (hcap : Cap A cat0.length ca) (hL : Laid w) :
    Calls Tryd.prog 8 #[.slice A cat0.length ca, .slice B hv.length cb, .slice C want.length cc] w fun e w' => e = .returned (.bool true) ∧ Below w.heap.size w w' := by
  have hcl0 := hA0.len
  have hhl := hB.len
  go_enter Tryd.func8, Tryd.ntmps8
  go_wp2_with fail
  refine (works20_any _ hL).mono ?_
  rintro e w1 ⟨rfl, HW1⟩
  go_upto_region 3 with fail
  obtain ⟨k, hk⟩ : ∃ k, k = min cat0.length 16 := ⟨_, rfl⟩
  go_cut [0] (fun s0 wx => s0 = .slice A k ca ∧ wx = w1)
  case first =>
    have hle := hcap.le
    have hhi := hcap.hi
    have e1 : min (cat0.length : Int) 16 = (k : Int) := by omega
    have e3 : (k : Int) ≤ ca := by omega
    have e4 : (0 : Int) ≤ k := by omega
    have e5 : k ≤ ca := by omega
    cases A with
    | none =>
      have hca := hcap.nil rfl
      have hk0 : k = 0 := by omega
      have hc0 : cat0.length = 0 := by omega
      subst hca hk0
      have m1 : min (0 : Int) 16 = 0 := by omega
      clear hk hle hhi e1 e3 e4 e5 hcap
      rw [hc0]
      go_wp2
      go_meet
      case rel => exact ⟨rfl, rfl⟩
    | some a =>
      clear hk hcap
      go_wp2
      go_meet
      case rel => exact ⟨rfl, rfl⟩
  case rest =>
    obtain ⟨rfl, rfl⟩ := hcut
    have hA1 := hA0.below HW1
    have hA : Arr wc S A (cat0.take 16) := by
      by_cases hne : cat0 = []
      · subst hne; exact Arr.nil _ _ _
      · obtain ⟨b, o, rfl, _⟩ := hA1.lt (by cases cat0 with | nil => exact absurd rfl hne | cons a r => simp)
        have := hA1.part 0 k (by omega) (by omega)
        have e6 : cat0.take 16 = cat0.take k := by rw [hk, Nat.min_comm]; simp [List.take_eq_take_iff]
        rw [e6]
        simpa using this
    have hkl : k = (cat0.take 16).length := by rw [List.length_take, hk, Nat.min_comm]
    have hcl : (cat0.take 16).length ≤ 16 := by rw [List.length_take]; omega
    subst hkl
    generalize cat0.take 16 = cat at *
    clear hk hA1 hcap hA0 hcl0
    have hB1 := hB.below HW1
    have hC1 := hC.below HW1
    have hL1 := hL.below HW1
    clear hB hC hL
    go_wp2_with fail
    refine (weight_any cat A ca S _ hA).mono ?_
    rintro e wa ⟨⟨n, rfl⟩, hwa⟩
    have hwa' := hwa.symm
    clear hwa
    subst hwa'
    by_cases hn : 60 < n
    · go_wp2
      go_ret
      exact ⟨rfl, HW1⟩
    · cases hp : planOk cat
      · have Hp := Lib.hid hp
        clear hp
        go_wp2_with fail
        refine (planCheck_any cat A ca S _ hA hL1).mono ?_
        rintro e w2 ⟨rfl, hw2⟩
        rw [Hp.out]
        go_wp2
        go_ret
        exact ⟨rfl, Below.trans0 HW1 hw2 HW1.size⟩
      · have Hp := Lib.hid hp
        cases hw : clausesOk want
        · have Hw := Lib.hid hw
          clear hp hw
          go_wp2_with fail
          refine (planCheck_any cat A ca S _ hA hL1).mono ?_
          rintro e w2 ⟨rfl, hw2⟩
          rw [Hp.out]
          go_wp2_with fail
          refine (checkC_any want C cc U _ (hC1.below hw2) (hL1.below hw2)).mono ?_
          rintro e w3 ⟨rfl, hw3⟩
          rw [Hw.out]
          go_wp2
          go_ret
          exact ⟨rfl, Below.trans0 (Below.trans0 HW1 hw2 HW1.size) hw3 (Nat.le_trans HW1.size hw2.size)⟩
        · have Hw := Lib.hid hw
          have hen := @solve_enough cat hv want (by omega) hp
          clear hp
          go_wp2_with fail
          refine (planCheck_any cat A ca S _ hA hL1).mono ?_
          rintro e w2 ⟨rfl, hw2⟩
          rw [Hp.out]
          go_wp2_with fail
          refine (checkC_any want C cc U _ (hC1.below hw2) (hL1.below hw2)).mono ?_
          rintro e w3 ⟨rfl, hw3⟩
          rw [Hw.out]
          have HX3 := Below.trans0 hw2 hw3 hw2.size
          have HW3 := Below.trans0 HW1 HX3 HW1.size
          have hA3 := hA.below HX3
          have hB3 := hB1.below HX3
          have hC3 := hC1.below HX3
          have hL3 := hL1.below HX3
          clear hw2 hw3 hA hB1 hC1 hL1
          go_wp2_with fail
          refine (planPick_any cat hv A B ca cb S T _ hA3 hB3).mono ?_
          rintro e w4 ⟨hw4, A4, c4, rfl, -, -⟩
          have HW4 := Below.trans0 HW3 hw4 HW3.size
          by_cases hpk : (pick cat hv).length = hv.length
          · have ht := pick_all hpk
            have hpk' : ((pick cat hv).length : Int) = hv.length := by omega
            have Hen := Lib.hid (hen ht hw)
            have hct := Lib.hid (countS_small (n := cat.length) (by omega))
            have hlo := Nat.two_pow_pos cat.length
            have hhi := pow_small (m := cat.length) (by omega)
            have hA4 := hA3.below hw4
            have hB4 := hB3.below hw4
            have hC4 := hC3.below hw4
            have hL4 := hL3.below hw4
            clear hen hw ht hw4 hA3 hB3 hC3 hL3
            obtain ⟨P, hP⟩ : ∃ P : Int, P = ((2 ^ cat.length : Nat) : Int) := ⟨_, rfl⟩
            rw [← hP] at Hen hct
            have hP1 : 1 ≤ P := by omega
            have hP2 : P ≤ 1048576 := by omega
            clear hP hlo hhi
            rw [hpk]
            clear hpk hpk'
            go_wp2_with fail
            refine (count_any _ _ ⟨by omega, by omega⟩).mono ?_
            rintro e wa ⟨rfl, hwa⟩
            have hwa' := hwa.symm
            clear hwa
            subst hwa'
            rw [hct.out]
            go_wp2_with fail
            refine (solve_any cat hv want A B C ca cb cc S T U P _ hA4 hB4 hC4 ⟨by omega, by omega⟩ hL4).mono ?_
            rintro e w5 ⟨hw5, A5, c5, rfl, -⟩
            have HW5 := Below.trans0 HW4 hw5 HW4.size
            generalize solveS cat hv want P = R at *
            obtain ⟨l1, n1, e1⟩ := R
            simp only at Hen
            rcases Hen.out with ⟨g1, g2, g3⟩ | ⟨g1, g2, g3⟩
            · have g1' : e1 = 0 := g1
              have g2' : n1 ≤ P := g2
              have g3' : (l1.length : Int) ≤ cat.length := by have : l1.length ≤ cat.length := g3; omega
              have g3'' : l1.length ≤ cat.length := g3
              clear Hen g1 g2 g3
              subst g1'
              go_wp2_with fail
              refine (count_any _ _ ⟨by omega, by omega⟩).mono ?_
              rintro e wa ⟨rfl, hwa⟩
              have hwa' := hwa.symm
              clear hwa
              subst hwa'
              rw [hct.out]
              go_wp2
              go_ret
              exact ⟨by simp, HW5⟩
            · have g2' : e1 = 200 := g2
              have g3' : n1 = P := g3
              clear Hen g1 g2 g3
              subst g2' g3'
              go_wp2_with fail
              refine (count_any _ _ ⟨by omega, by omega⟩).mono ?_
              rintro e wa ⟨rfl, hwa⟩
              have hwa' := hwa.symm
              clear hwa
              subst hwa'
              rw [hct.out]
              go_wp2
              go_ret
              exact ⟨by simp, HW5⟩
          · have hpk' : ¬ ((pick cat hv).length : Int) = hv.length := by omega
            have hpb : (((pick cat hv).length : Int) != (hv.length : Int)) = true := by rw [bne_iff_ne]; exact hpk'
            go_wp2
            go_ret
            exact ⟨rfl, HW4⟩

end Go.Proofs.YteoafnkcplealaaDoor
