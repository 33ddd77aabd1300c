/- Contract: PlanTells. -/
import Derived.Test.YtppbjmhllmaakaaGreatDoorC73
import Derived.Test.YtppbjmhllmaakaaGreatDoorC60
import Derived.Test.YtppbjmhllmaakaaGreatDoorC57
import Derived.Test.YtppbjmhllmaakaaGreatDoorC20
import Derived.Test.YtppbjmhllmaakaaGreatDoorC22
set_option linter.unusedVariables false
namespace Go.Proofs.YtppbjmhllmaakaaGreatDoor
open Go.RowKit

set_option maxHeartbeats 0 in
set_option maxRecDepth 100000 in
theorem planTells_any (cat : List Pkg) (l hv : List Int) (want : List Clause) (A B D C : Option Addr) (ca cb cd cc : Nat) (S T V U : Nat → Prop) (w : World) (hA : Arr w S A cat) (hB : Arr w T B l) (hD : Arr w V D hv) (hC : Arr w U C want) (hL : Laid w) :
    Calls Tryz.prog 4 #[.slice A cat.length ca, .slice B l.length cb, .slice D hv.length cd, .slice C want.length cc] w fun e w' => e = .returned (.bool true) ∧ Below w.heap.size w w' := by
  have hbl := hB.len
  have hdl := hD.len
  have e1 := lessAll_ref hv l
  have e2 := lessAll_ref l hv
  have E1 := Lib.hid e1
  have E2 := Lib.hid e2
  clear e1 e2
  obtain ⟨gr, hgr⟩ : ∃ gr, Hid (grants cat l want = gr) := ⟨_, Lib.hid rfl⟩
  go_enter Tryz.func4, Tryz.ntmps4
  go_wp2_with fail
  refine (planPick_any cat l A B ca cb S T _ hA hB).mono ?_
  rintro e w1 ⟨hw1, A1, c1, rfl, hp1, hc1⟩
  go_wp2_with fail
  refine (refPick_any cat l A B ca cb S T _ (hA.below hw1) (hB.below hw1)).mono ?_
  rintro e w2 ⟨hw2, A2, c2, rfl, hp2, hc2⟩
  have HW2 := Below.trans0 hw1 hw2 hw1.size
  have hP1 : Arr w2 (fun _ => True) A1 (pick cat l) := (hp1.below hw2).mono (fun _ _ _ => trivial)
  have hP2 : Arr w2 (fun _ => True) A2 (pick cat l) := hp2.mono (fun _ _ _ => trivial)
  go_wp2_with fail
  refine (planGrants_any cat l want A B C ca cb cc S T U _ (hA.below HW2) (hB.below HW2) (hC.below HW2)).mono ?_
  rintro e w3 ⟨rfl, hw3⟩
  rw [hgr.out]
  have HW3 := Below.trans0 HW2 hw3 HW2.size
  go_wp2_with fail
  refine (refGrants_any cat l want A B C ca cb cc S T U _ (hA.below HW3) (hB.below HW3) (hC.below HW3)).mono ?_
  rintro e w4 ⟨rfl, hw4⟩
  rw [hgr.out]
  have HW4 := Below.trans0 HW3 hw4 HW3.size
  have Q1 := (hP1.below hw3).below hw4
  have Q2 := (hP2.below hw3).below hw4
  clear hp1 hp2 hP1 hP2 hw1 hw2 hw3 hw4 HW2 HW3
  generalize pick cat l = pk at *
  have hpl := Q1.len
  have hgg : (gr != gr) = false := by simp
  go_wp2
  go_loopw [11] (fun i wr => Below w4.heap.size w4 wr ∧ ∃ k : Nat, k ≤ pk.length ∧ i = .int .i64 k) (fun i _ => pk.length - (intOf i).toNat)
  case atStart => exact ⟨Below.refl _ _, 0, Nat.zero_le _, rfl⟩
  case round =>
    obtain ⟨hb, k, hk, rfl⟩ := hrel
    have HWr := Below.trans0 HW4 hb HW4.size
    by_cases hlt : k < pk.length
    · have hlt' : (k : Int) < pk.length := by omega
      obtain ⟨b, o, B2, cb2, C2, cc2, D2, cd2, rfl, hb0, e0, e1, e2, e3, e4, hrep, -, -, -⟩ := (Q1.below hb).getPkg k hlt
      obtain ⟨b', o', B3, cb3, C3, cc3, D3, cd3, rfl, hb1, g0, g1, g2, g3, g4, hrep2, -, -, -⟩ := (Q2.below hb).getPkg k hlt
      go_wp2
      refine region_quiet (by kernel_rfl) (by kernel_rfl) ?_
      repeat (go_big_quiet_step ((go_at_call 16; exact call_quiet (samePkg_any pk[k] [_, _, _, _, _] [_, _, _, _, _] _ _ _ (hrep.below (ext_below _ _)) (hrep2.below (ext_below _ _))))))
      refine wpQuiet_nil ?_
      intro W1 hw1
      replace hw1 := below_of_ext hw1
      go_wp2
      go_roundw
      case rel => exact ⟨Below.trans0 hb hw1 hb.size, k + 1, by omega, by go_num⟩
      case measure => simp [intOf]; omega
    · have hty : hv.length * 8 ≤ reach := hD.1
      have hly : l.length * 8 ≤ reach := hB.1
      go_wp2_with fail
      refine (baseInts_any hv D cd V _ (hD.below HWr)).mono ?_
      rintro e w5 ⟨hw5, v5, rfl, hown5⟩
      obtain ⟨A5, k5, rfl, h5⟩ := hown5.rep (S' := fun _ => True) (fun _ _ _ => trivial) (fun _ _ _ => trivial) hty hdl
      have HW5 := Below.trans0 HWr hw5 HWr.size
      go_wp2_with fail
      refine (baseInts_any l B cb T _ (hB.below HW5)).mono ?_
      rintro e w6 ⟨hw6, v6, rfl, hown6⟩
      obtain ⟨A6, k6, rfl, h6⟩ := hown6.rep (S' := fun _ => True) (fun _ _ _ => trivial) (fun _ _ _ => trivial) hly hbl
      have HW6 := Below.trans0 HW5 hw6 HW5.size
      clear hown5 hown6
      obtain ⟨Z1, hZ1⟩ : ∃ Z1, Hid ((lessRef hv l).reverse = Z1) := ⟨_, Lib.hid rfl⟩
      obtain ⟨Z2, hZ2⟩ : ∃ Z2, Hid (lessRef l hv = Z2) := ⟨_, Lib.hid rfl⟩
      go_wp2_with fail
      refine (stepsAll_any hv l A5 A6 k5 k6 _ _ _ (h5.below hw6) h6).mono ?_
      rintro e w7 ⟨hw7, X1, x1, X2, x2, he, hX1, hX2⟩
      have HW7 := Below.trans0 HW6 hw7 HW6.size
      rw [E1.out, E2.out, hZ1.out, hZ2.out] at he
      rw [E1.out, hZ1.out] at hX1
      rw [E2.out, hZ2.out] at hX2
      subst he
      clear E1 E2
      go_wp2_with fail
      refine (refSteps_any hv l D B cd cb V T _ (hD.below HW7) (hB.below HW7)).mono ?_
      rintro e w8 ⟨hw8, Y1, y1, Y2, y2, he, hY1, hY2⟩
      rw [hZ1.out, hZ2.out] at he
      rw [hZ1.out] at hY1
      rw [hZ2.out] at hY2
      subst he
      have HW8 := Below.trans0 HW7 hw8 HW7.size
      replace hX1 := hX1.below hw8
      replace hX2 := hX2.below hw8
      go_wp2_with fail
      refine (sameInts_any Z1 Z1 X1 Y1 x1 y1 _ _ _ hX1 hY1).mono ?_
      rintro e w9 ⟨rfl, hw9⟩
      rw [decide_eq_true rfl]
      have HW9 := Below.trans0 HW8 hw9 HW8.size
      go_wp2_with fail
      refine (sameInts_any Z2 Z2 X2 Y2 x2 y2 _ _ _ (hX2.below hw9) (hY2.below hw9)).mono ?_
      rintro e w10 ⟨rfl, hw10⟩
      rw [decide_eq_true rfl]
      have HW10 := Below.trans0 HW9 hw10 HW9.size
      go_wp2_with fail
      refine (works19_any _ (hL.below HW10)).mono ?_
      rintro e w11 ⟨rfl, hw11⟩
      go_wp2
      go_ret
      exact ⟨rfl, Below.trans0 HW10 hw11 HW10.size⟩

end Go.Proofs.YtppbjmhllmaakaaGreatDoor
