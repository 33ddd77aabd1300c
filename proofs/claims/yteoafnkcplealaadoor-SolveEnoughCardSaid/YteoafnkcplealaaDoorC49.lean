/- Contract: SolvePlans; how many needs there are. -/
import Derived.Test.YteoafnkcplealaaDoorC47
import Derived.Test.YteoafnkcplealaaDoorX12
set_option linter.unusedVariables false
namespace Go.Proofs.YteoafnkcplealaaDoor
open Go.RowKit

set_option maxHeartbeats 0 in
set_option maxRecDepth 100000 in
theorem weight_any (cat : List Pkg) (A : Option Addr) (ca : Nat) (S : Nat → Prop) (w : World) (hA : Arr w S A cat) :
    Calls Tryd.prog 38 #[.slice A cat.length ca] w fun e w' => (∃ n : Int, e = .returned (.int .i64 n)) ∧ w' = w := by
  have hcl := hA.len
  go_enter Tryd.func38, Tryd.ntmps38
  go_wp2
  go_loopw [3, 4, 5] (fun s i j wr => wr = w ∧ ∃ n : Int, s = .int .i64 n ∧ ∃ k : Nat, k ≤ cat.length ∧ i = .int .i64 k) (fun _ i _ _ => cat.length - (intOf i).toNat)
  case atStart => exact ⟨rfl, 0, rfl, 0, Nat.zero_le _, rfl⟩
  case round =>
    obtain ⟨rfl, n, rfl, k, hk, rfl⟩ := hrel
    by_cases hlt : k < cat.length
    · obtain ⟨b, o, B, cb, C, cc, D, cd, rfl, hb0, e0, e1, e2, e3, e4, -, -, -, hcl4⟩ := hA.getPkg k hlt
      have hdl := hcl4.len
      go_wp2
      go_loopw [3, 5] (fun s j w2 => w2 = wr ∧ ∃ n : Int, s = .int .i64 n ∧ ∃ m : Nat, m ≤ cat[k].clauses.length ∧ j = .int .i64 m) (fun _ j _ => cat[k].clauses.length - (intOf j).toNat)
      case atStart => exact ⟨rfl, n, rfl, 0, Nat.zero_le _, rfl⟩
      case round =>
        obtain ⟨hww, n2, rfl, m, hm, rfl⟩ := hrel
        subst hww
        by_cases hlm : m < cat[k].clauses.length
        · obtain ⟨b2, o2, N, cn, hDe, hb2, f0, f1, -, -⟩ := hcl4.getClause m hlm
          subst hDe
          go_wp2
          go_roundw
          case rel => exact ⟨by first | rfl | trivial, _, rfl, m + 1, by omega, by go_num⟩
          case measure => simp [intOf]; omega
        · go_wp2
          go_roundw
          case rel => exact ⟨by first | rfl | trivial, n2, rfl, k + 1, by omega, by go_num⟩
          case measure => simp [intOf]; omega
    · go_wp2
      go_ret
      exact ⟨⟨n, rfl⟩, rfl⟩

set_option maxHeartbeats 0 in
set_option maxRecDepth 100000 in
theorem solvePlans_any (cat : List Pkg) (hv : List Int) (want : List Clause) (A B C : Option Addr) (ca cb cc : Nat) (S T U : Nat → Prop) (x : Int) (w : World) (hA : Arr w S A cat) (hB : Arr w T B hv) (hC : Arr w U C want) (hx : In64 x) (hL : Laid w) :
    Calls Tryd.prog 9 #[.slice A cat.length ca, .slice B hv.length cb, .slice C want.length cc, .int .i64 x] w fun e w' => e = .returned (.bool true) ∧ Below w.heap.size w w' := by
  have hcl := hA.len
  go_enter Tryd.func9, Tryd.ntmps9
  go_wp2_with fail
  refine (works20_any _ hL).mono ?_
  rintro e w1 ⟨rfl, HW1⟩
  go_wp2_with fail
  refine (weight_any cat A ca S _ (hA.below HW1)).mono ?_
  rintro e wa ⟨⟨n, rfl⟩, hwa⟩
  have hwa' := hwa.symm
  clear hwa
  subst hwa'
  by_cases hn : 100 < n
  · go_wp2
    go_ret
    exact ⟨rfl, HW1⟩
  · by_cases hm : 40 < cat.length
    · have hm' : (40 : Int) < cat.length := by omega
      go_wp2
      go_ret
      exact ⟨rfl, HW1⟩
    · have hm' : ¬ (40 : Int) < cat.length := by omega
      go_wp2_with fail
      refine (among_any x 5000 _ (by omega) (by omega) hx).mono ?_
      rintro e wa ⟨⟨k, hk, rfl⟩, hwa⟩
      have hwa' := hwa.symm
      clear hwa
      subst hwa'
      have hz : IntKind.i64.wrap (1 + (k : Int)) = 1 + (k : Int) := IntWalk.i64_in _ (by omega)
      go_wp2_with fail
      refine (solve_any cat hv want A B C ca cb cc S T U (1 + (k : Int)) _ (hA.below HW1) (hB.below HW1) (hC.below HW1) ⟨by omega, by omega⟩ (hL.below HW1)).mono ?_
      rintro e w2 ⟨hw2, A2, c2, rfl, hr2⟩
      have HW2 := Below.trans0 HW1 hw2 HW1.size
      have hst := Lib.hid (@solve_sound cat hv want (1 + (k : Int)) (by omega))
      generalize solveS cat hv want (1 + (k : Int)) = R at *
      obtain ⟨l, n2, e⟩ := R
      simp only at hst hr2
      have hA2 := hA.below HW2
      have hC2 := hC.below HW2
      have hL2 := hL.below HW2
      clear hw2 hA hB hC hL
      by_cases he : e = 0
      · subst he
        obtain ⟨hg, hlo, hhi⟩ := hst.out.1 rfl
        unfold good at hg
        rw [Bool.and_eq_true] at hg
        have Hv := Lib.hid hg.1
        have Hg := Lib.hid hg.2
        clear hg hst
        go_wp2_with fail
        refine (planValid_any cat l A A2 ca c2 S (fun _ => True) _ hA2 hr2 hL2).mono ?_
        rintro e w3 ⟨rfl, hw3⟩
        rw [Hv.out]
        go_wp2_with fail
        refine (planGrants_any cat l want A A2 C ca c2 cc S (fun _ => True) U _ (hA2.below hw3) (hr2.below hw3) (hC2.below hw3)).mono ?_
        rintro e w4 ⟨rfl, hw4⟩
        rw [Hg.out]
        go_wp2
        go_ret
        exact ⟨by simp, Below.trans0 (Below.trans0 HW2 hw3 HW2.size) hw4 (Nat.le_trans HW2.size hw3.size)⟩
      · obtain ⟨hnil, hhi⟩ := hst.out.2 he
        have hnil' : l = [] := hnil
        subst hnil'
        have heb : (e == 0) = false := beq_eq_false_iff_ne.2 he
        clear hst
        go_wp2
        go_ret
        exact ⟨by simp, HW2⟩

end Go.Proofs.YteoafnkcplealaaDoor
