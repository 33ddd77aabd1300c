/- Contract: PlanEmpty. -/
import Derived.Test.YteoafnkcplealaaDoorC22
set_option linter.unusedVariables false
namespace Go.Proofs.YteoafnkcplealaaDoor
open Go.RowKit

theorem pick_nil (cat : List Pkg) : pick cat [] = [] := by unfold pick; split <;> rfl
theorem broken_nil (cat : List Pkg) : broken cat [] = [] := by unfold broken; rw [pick_nil]; rfl
theorem valid_nil (cat : List Pkg) : validP cat [] = planOk cat := by
  unfold validP
  rw [broken_nil, pick_nil]
  have h1 : tgt cat.length [] = true := rfl
  have h2 : namesOnce [] = true := rfl
  rw [h1, h2]
  simp
theorem met_nil (c : Clause) : met c [] = c.neg := by unfold met; simp
theorem grants_nil (cat : List Pkg) (want : List Clause) : grants cat [] want = want.all fun c => c.neg := by
  unfold grants
  rw [pick_nil]
  have h1 : tgt cat.length [] = true := rfl
  rw [h1]
  simp only [met_nil, Bool.true_and]
theorem all_take_succ {α : Type} (p : α → Bool) {l : List α} {k : Nat} (hk : k < l.length) : (l.take (k + 1)).all p = ((l.take k).all p && p l[k]) := by
  rw [← List.take_append_getElem hk, List.all_append]; simp

set_option maxHeartbeats 4000000 in
set_option maxRecDepth 100000 in
theorem planEmpty_any (cat : List Pkg) (want : List Clause) (A C : Option Addr) (ca cc : Nat) (S U : Nat → Prop) (w : World) (hA : Arr w S A cat) (hC : Arr w U C want) (hL : Laid w) :
    Calls Tryd.prog 5 #[.slice A cat.length ca, .slice C want.length cc] w fun e w' => e = .returned (.bool true) ∧ Below w.heap.size w w' := by
  have hl := hC.len
  cases hk : planOk cat
  · have Hk := Lib.hid hk
    have Hv : Hid (validP cat [] = false) := Lib.hid (by rw [valid_nil, hk])
    clear hk
    go_enter Tryd.func5, Tryd.ntmps5
    go_wp2_with (first
      | (go_at_call 24; refine (works19_any _ hL).mono ?_; rintro e w1 ⟨rfl, hw1⟩)
      | (go_at_call 16; refine (planCheck_any cat A ca S _ (hA.below hw1) (hL.below hw1)).mono ?_; rintro e w2 ⟨rfl, hw2⟩; rw [Hk.out]; have HW := Below.trans0 hw1 hw2 hw1.size)
      | (go_at_call 18; refine (planValid_any cat [] A none ca 0 S U _ (hA.below HW) (Arr.nil _ _ _) (hL.below HW)).mono ?_; rintro e w3 ⟨rfl, hw3⟩; rw [Hv.out]; have HW := Below.trans0 HW hw3 HW.size))
    go_ret
    exact ⟨rfl, HW⟩
  · have Hk := Lib.hid hk
    have Hv : Hid (validP cat [] = true) := Lib.hid (by rw [valid_nil, hk])
    have Hb : Hid ((broken cat []).length = 0) := Lib.hid (by rw [broken_nil]; rfl)
    have Hg := Lib.hid (grants_nil cat want)
    clear hk
    go_enter Tryd.func5, Tryd.ntmps5
    go_wp2_with (first
      | (go_at_call 24; refine (works19_any _ hL).mono ?_; rintro e w1 ⟨rfl, hw1⟩)
      | (go_at_call 16; refine (planCheck_any cat A ca S _ (hA.below hw1) (hL.below hw1)).mono ?_; rintro e w2 ⟨rfl, hw2⟩; rw [Hk.out]; have HW := Below.trans0 hw1 hw2 hw1.size))
    clear hw1 hw2
    have hC2 := hC.below HW
    go_loop [5, 6] (fun o i => ∃ k : Nat, k ≤ want.length ∧ i = .int .i64 k ∧ ∃ b, o = .bool b ∧ Hid ((want.take k).all (fun c => c.neg) = b)) (fun _ i => want.length - (intOf i).toNat)
    case atStart => exact ⟨0, Nat.zero_le _, rfl, true, rfl, Lib.hid (by simp)⟩
    case round =>
      obtain ⟨k, hk, rfl, b, rfl, hj⟩ := hrel
      by_cases hlt : k < want.length
      · obtain ⟨bb, o, B, cb, rfl, hb0, e0, e1, hrep, -⟩ := hC2.getClause k hlt
        cases b
        · have fin : Hid ((want.take (k + 1)).all (fun c => c.neg) = false) := Lib.hid (by rw [all_take_succ _ hlt, hj.out]; rfl)
          go_wp2
          go_round
          case rel => exact ⟨k + 1, by omega, by go_num, false, rfl, fin⟩
          case measure => simp [intOf]; omega
        · have fin : Hid ((want.take (k + 1)).all (fun c => c.neg) = want[k].neg) := Lib.hid (by rw [all_take_succ _ hlt, hj.out]; rfl)
          go_wp2
          go_round
          case rel => exact ⟨k + 1, by omega, by go_num, want[k].neg, rfl, fin⟩
          case measure => simp [intOf]; omega
      · have fin : Hid ((want.all fun c => c.neg) = b) := Lib.hid (by rw [← hj.out, List.take_of_length_le (by omega)])
        go_wp2_with (first
          | (go_at_call 18; refine (planValid_any cat [] A none ca 0 S U _ (hA.below HW) (Arr.nil _ _ _) (hL.below HW)).mono ?_; rintro e w3 ⟨rfl, hw3⟩; rw [Hv.out]; have HW := Below.trans0 HW hw3 HW.size)
          | (go_at_call 21; refine (planBroken_any cat [] A none ca 0 S U _ (hA.below HW) (Arr.nil _ _ _)).mono ?_; rintro e w4 ⟨hw4, A4, c4, rfl, -, -⟩; rw [Hb.out]; have HW := Below.trans0 HW hw4 HW.size)
          | (go_at_call 29; refine (planGrants_any cat [] want A none C ca 0 cc S U U _ (hA.below HW) (Arr.nil _ _ _) (hC.below HW)).mono ?_; rintro e w5 ⟨rfl, hw5⟩; rw [Hg.out, fin.out]; have HW := Below.trans0 HW hw5 HW.size))
        go_ret
        exact ⟨by simp, HW⟩

end Go.Proofs.YteoafnkcplealaaDoor
