/- Contract: solve.Solve. -/
import Derived.Test.YtppbjmhllmaakaaGreatDoorC45
import Derived.OwnWalk
set_option linter.unusedVariables false
namespace Go.Proofs.YtppbjmhllmaakaaGreatDoor
open Go.RowKit

theorem plan_small {cat : List Pkg} (h : planOk cat = true) : cat.length ≤ 256 := by
  unfold planOk at h
  simp only [Bool.and_eq_true, decide_eq_true_eq] at h
  exact h.1
theorem countS_small {n : Nat} (h : n ≤ 20) : countS n = ((2 ^ n : Nat) : Int) := by
  unfold countS
  rw [if_neg (by omega), if_neg (by omega), show ((n : Int)).toNat = n from by omega]
theorem ret3 {A : Option Addr} {n n' c : Nat} {a a' b b' : Int} (h : n = n') (h1 : a = a') (h2 : b = b') : Ending.returned (.tuple #[.slice A n c, .int .i64 a, .int .i64 b]) = .returned (.tuple #[.slice A n' c, .int .i64 a', .int .i64 b']) := by rw [h, h1, h2]

set_option maxHeartbeats 0 in
set_option maxRecDepth 100000 in
theorem solve_any (cat : List Pkg) (hv : List Int) (want : List Clause) (A B C : Option Addr) (ca cb cc : Nat) (S T U : Nat → Prop) (budget : Int) (w : World) (hA : Arr w S A cat) (hB : Arr w T B hv) (hC : Arr w U C want) (hb64 : In64 budget) (hL : Laid w) :
    Calls Tryz.prog 12 #[.slice A cat.length ca, .slice B hv.length cb, .slice C want.length cc, .int .i64 budget] w fun e w' => Below w.heap.size w w' ∧ ∃ A' c', e = .returned (.tuple #[.slice A' (solveS cat hv want budget).1.length c', .int .i64 (solveS cat hv want budget).2.1, .int .i64 (solveS cat hv want budget).2.2]) ∧ Arr w' (fun _ => True) A' (solveS cat hv want budget).1 := by
  have hcl := hA.len
  cases hp : planOk cat
  · have Hp := Lib.hid hp
    have fin := Lib.hid (show solveS cat hv want budget = ([], 0, 190) by unfold solveS; rw [hp, Bool.false_and]; rfl)
    clear hp
    generalize solveS cat hv want budget = R at *
    go_enter Tryz.func12, Tryz.ntmps12
    go_wp2_with (go_at_call 44; refine (planCheck_any cat A ca S _ hA hL).mono ?_; rintro e w1 ⟨rfl, hw1⟩; rw [Hp.out])
    go_ret3
    exact ⟨hw1, none, 0, ret3 (by rw [fin.out]; rfl) (by rw [fin.out]) (by rw [fin.out]), by rw [fin.out]; exact Arr.nil _ _ _⟩
  · have Hp := Lib.hid hp
    cases ht : tgt cat.length hv
    · have Ht := Lib.hid ht
      have fin := Lib.hid (show solveS cat hv want budget = ([], 0, 190) by unfold solveS; rw [hp, ht]; rfl)
      clear hp ht
      generalize solveS cat hv want budget = R at *
      go_enter Tryz.func12, Tryz.ntmps12
      go_wp2_with (first | (go_at_call 44; refine (planCheck_any cat A ca S _ hA hL).mono ?_; rintro e w1 ⟨rfl, hw1⟩; rw [Hp.out]) | (go_at_call 45; refine (aimsS_any cat.length hv B cb T _ (by omega) (hB.below hw1)).mono ?_; rintro e w2 ⟨rfl, hw2⟩; have hw2' := hw2.symm; clear hw2; subst hw2'; rw [Ht.out]))
      go_ret3
      exact ⟨hw1, none, 0, ret3 (by rw [fin.out]; rfl) (by rw [fin.out]) (by rw [fin.out]), by rw [fin.out]; exact Arr.nil _ _ _⟩
    · have Ht := Lib.hid ht
      cases hw : clausesOk want
      · have Hw := Lib.hid hw
        have fin := Lib.hid (show solveS cat hv want budget = ([], 0, 180) by unfold solveS; rw [hp, ht, hw]; rfl)
        clear hp ht hw
        generalize solveS cat hv want budget = R at *
        go_enter Tryz.func12, Tryz.ntmps12
        go_wp2_with (first | (go_at_call 44; refine (planCheck_any cat A ca S _ hA hL).mono ?_; rintro e w1 ⟨rfl, hw1⟩; rw [Hp.out]) | (go_at_call 45; refine (aimsS_any cat.length hv B cb T _ (by omega) (hB.below hw1)).mono ?_; rintro e w2 ⟨rfl, hw2⟩; have hw2' := hw2.symm; clear hw2; subst hw2'; rw [Ht.out]) | (go_at_call 36; refine (checkC_any want C cc U _ (hC.below hw1) (hL.below hw1)).mono ?_; rintro e w3 ⟨rfl, hw3⟩; rw [Hw.out]))
        go_ret3
        exact ⟨Below.trans0 hw1 hw3 hw1.size, none, 0, ret3 (by rw [fin.out]; rfl) (by rw [fin.out]) (by rw [fin.out]), by rw [fin.out]; exact Arr.nil _ _ _⟩
      · have Hw := Lib.hid hw
        by_cases hbad : budget < 1 ∨ 1048576 < budget
        · have fin := Lib.hid (show solveS cat hv want budget = ([], 0, 2) by unfold solveS; rw [hp, ht, hw, if_pos hbad]; rfl)
          clear hp ht hw
          generalize solveS cat hv want budget = R at *
          by_cases hlow : budget < 1
          case' neg => have hhigh : 1048576 < budget := hbad.resolve_left hlow
          all_goals
            clear hbad
            go_enter Tryz.func12, Tryz.ntmps12
            go_wp2_with (first | (go_at_call 44; refine (planCheck_any cat A ca S _ hA hL).mono ?_; rintro e w1 ⟨rfl, hw1⟩; rw [Hp.out]) | (go_at_call 45; refine (aimsS_any cat.length hv B cb T _ (by omega) (hB.below hw1)).mono ?_; rintro e w2 ⟨rfl, hw2⟩; have hw2' := hw2.symm; clear hw2; subst hw2'; rw [Ht.out]) | (go_at_call 36; refine (checkC_any want C cc U _ (hC.below hw1) (hL.below hw1)).mono ?_; rintro e w3 ⟨rfl, hw3⟩; rw [Hw.out]))
            go_ret3
            exact ⟨Below.trans0 hw1 hw3 hw1.size, none, 0, ret3 (by rw [fin.out]; rfl) (by rw [fin.out]) (by rw [fin.out]), by rw [fin.out]; exact Arr.nil _ _ _⟩
        · have hn := plan_small hp
          have hb1 : ¬ budget < 1 := fun e => hbad (Or.inl e)
          have hb2 : ¬ 1048576 < budget := fun e => hbad (Or.inr e)
          have hns := @countS_small cat.length
          have hpow := @pow_small cat.length
          have hcs := countS_le (m := cat.length)
          have fin0 : solveS cat hv want budget = if (runS (good cat want) hv cat.length cat.length budget 0 []).found then ((runS (good cat want) hv cat.length cat.length budget 0 []).ins, (runS (good cat want) hv cat.length cat.length budget 0 []).steps, 0)
              else if cat.length ≤ 20 ∧ ((2 ^ cat.length : Nat) : Int) ≤ budget then ([], ((2 ^ cat.length : Nat) : Int), 200) else ([], budget, 201) := by
            unfold solveS; rw [hp, ht, hw, if_neg hbad]; rfl
          have hins : (runS (good cat want) hv cat.length cat.length budget 0 []).found = true → (runS (good cat want) hv cat.length cat.length budget 0 []).ins.length ≤ cat.length := fun h => tgt_len (good_tgt (runS_found (Nat.le_refl _) (Int.le_refl 0) h).1)
          have hstep : 0 ≤ (runS (good cat want) hv cat.length cat.length budget 0 []).steps ∧ (runS (good cat want) hv cat.length cat.length budget 0 []).steps ≤ budget := runS_steps (Int.le_refl 0) (by omega)
          have hrun := Lib.hid (fun (h1 bs : Nat) (w0 : World) => run_any w.heap.size h1 bs ⟨cat, hv, want, budget, A, ca, B, cb, C, cc⟩ w0 hp (by show cat.length ≤ _; omega) (by show 1 ≤ budget; omega) (by show budget ≤ _; omega))
          have Fin0 := Lib.hid fin0
          clear fin0 hbad hp ht hw
          have hAo : Arr w (fun b => b < w.heap.size) A cat := hA.old.mono (fun b _ h => h.2)
          have hBo : Arr w (fun b => b < w.heap.size) B hv := hB.old.mono (fun b _ h => h.2)
          have hCo : Arr w (fun b => b < w.heap.size) C want := hC.old.mono (fun b _ h => h.2)
          generalize solveS cat hv want budget = R at *
          generalize runS (good cat want) hv cat.length cat.length budget 0 [] = X at *
          go_enter Tryz.func12, Tryz.ntmps12
          go_wp2_with (first | (go_at_call 44; refine (planCheck_any cat A ca S _ hA hL).mono ?_; rintro e w1 ⟨rfl, hw1⟩; rw [Hp.out]) | (go_at_call 45; refine (aimsS_any cat.length hv B cb T _ (by omega) (hB.below hw1)).mono ?_; rintro e w2 ⟨rfl, hw2⟩; have hw2' := hw2.symm; clear hw2; subst hw2'; rw [Ht.out]) | (go_at_call 36; refine (checkC_any want C cc U _ (hC.below hw1) (hL.below hw1)).mono ?_; rintro e w3 ⟨rfl, hw3⟩; rw [Hw.out]) | (go_at_call 46; fail))
          have HW3 := Below.trans0 hw1 hw3 hw1.size
          have hWB : Below w.heap.size w (w3.alloc (.cells #[.slice A cat.length ca, .slice B hv.length cb, .slice C want.length cc, .int .i64 budget, .int .i64 0, .slice none 0 0] 70)) := HW3.alloc HW3.size _
          have hSr : Srch (w3.alloc (.cells #[.slice A cat.length ca, .slice B hv.length cb, .slice C want.length cc, .int .i64 budget, .int .i64 0, .slice none 0 0] 70)) w.heap.size (w3.heap.size + 1) 3 w3.heap.size ⟨cat, hv, want, budget, A, ca, B, cb, C, cc⟩ 0 (.slice none 0 0) [] :=
            { lo := HW3.size
              hi := by omega
              le := by rw [size_alloc]; exact Nat.le_refl _
              c0 := laid_new
              c1 := laid_new
              c2 := laid_new
              c3 := laid_new
              c4 := laid_new
              c5 := laid_new
              f4 := frozen_box _ _ rfl
              f5 := frozen_box _ _ rfl
              own := Own.nil _ _ _ _
              ac := hAo.below hWB
              ah := hBo.below hWB
              aw := hCo.below hWB }
          refine (hrun.out _ _ _ hSr).mono ?_
          rintro e w5 ⟨rfl, hB5, h2, v5, l5, hS5, hl5⟩
          have HB5 : Below w.heap.size w w5 := hWB.trans hB5
          clear hrun hSr hWB hAo hBo hCo
          cases hf : X.found
          · have fin1 : R = if cat.length ≤ 20 ∧ ((2 ^ cat.length : Nat) : Int) ≤ budget then ([], ((2 ^ cat.length : Nat) : Int), 200) else ([], budget, 201) := by rw [Fin0.out, hf]; rfl
            clear Fin0 hl5 hins hf hstep
            by_cases hk : cat.length ≤ 20
            · have hk' : (cat.length : Int) ≤ 20 := by omega
              have hct := Lib.hid (hns hk)
              have hp2 := hpow hk
              rw [hns hk] at hcs
              generalize hP : ((2 ^ cat.length : Nat) : Int) = P at *
              clear hns hpow hP
              by_cases hk2 : P ≤ budget
              · have fin := Lib.hid (show R = ([], P, 200) by rw [fin1, if_pos ⟨hk, hk2⟩])
                clear fin1
                go_wp2_with (go_at_call 47; refine (count_any _ _ ⟨by omega, by omega⟩).mono ?_; rintro e w6 ⟨rfl, hw6⟩; have hw6' := hw6.symm; clear hw6; subst hw6'; rw [hct.out])
                go_ret3
                exact ⟨HB5, none, 0, ret3 (by rw [fin.out]; rfl) (by rw [fin.out]) (by rw [fin.out]), by rw [fin.out]; exact Arr.nil _ _ _⟩
              · have fin := Lib.hid (show R = ([], budget, 201) by rw [fin1, if_neg (fun h => hk2 h.2)])
                clear fin1
                go_wp2_with (go_at_call 47; refine (count_any _ _ ⟨by omega, by omega⟩).mono ?_; rintro e w6 ⟨rfl, hw6⟩; have hw6' := hw6.symm; clear hw6; subst hw6'; rw [hct.out])
                go_ret3
                exact ⟨HB5, none, 0, ret3 (by rw [fin.out]; rfl) (by rw [fin.out]) (by rw [fin.out]), by rw [fin.out]; exact Arr.nil _ _ _⟩
            · have hk' : ¬ (cat.length : Int) ≤ 20 := by omega
              have fin := Lib.hid (show R = ([], budget, 201) by rw [fin1, if_neg (fun h => hk h.1)])
              clear fin1 hns hpow hcs
              go_wp2
              go_ret3
              first | exact ⟨HB5, none, 0, ret3 (by rw [fin.out]; rfl) (by rw [fin.out]) (by rw [fin.out]), by rw [fin.out]; exact Arr.nil _ _ _⟩ | exact ⟨HB5, none, ⟨0, ret3 (by rw [fin.out]; rfl) (by rw [fin.out]) (by rw [fin.out])⟩, by rw [fin.out]; exact Arr.nil _ _ _⟩
          · have fin := Lib.hid (show R = (X.ins, X.steps, 0) by rw [Fin0.out, hf]; rfl)
            have hl := hl5 hf
            subst hl
            have hil := hins hf
            clear Fin0 hl5 hins hf hns hpow hcs
            obtain ⟨A5, c5, rfl, hA5, -⟩ := hS5.own.rep2 (S' := fun _ => True) (fun b _ h => h.elim) (fun b _ _ => trivial) (mul_bound (n := 256) (by show 256 * 8 ≤ reach; decide) (by omega)) (by omega)
            have q5 := hS5.c5
            have q4 := hS5.c4
            have z5 := hS5.lt
            go_wp2
            refine region_quiet (by kernel_rfl) (by kernel_rfl) ?_
            repeat (go_big_quiet_step (fail))
            refine wpQuiet_nil ?_
            intro W1 hw9
            replace hw9 := below_of_ext hw9
            go_wp2
            go_ret3
            first | exact ⟨Below.trans0 HB5 hw9 HB5.size, A5, c5, ret3 (by rw [fin.out]) (by rw [fin.out]) (by rw [fin.out]), by rw [fin.out]; exact hA5.below hw9⟩ | exact ⟨Below.trans0 HB5 hw9 HB5.size, A5, ⟨c5, ret3 (by rw [fin.out]) (by rw [fin.out]) (by rw [fin.out])⟩, by rw [fin.out]; exact hA5.below hw9⟩

end Go.Proofs.YtppbjmhllmaakaaGreatDoor
