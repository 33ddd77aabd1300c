/- Contracts: sutlerlaw20.small; SolveBudgets. -/
import Derived.Test.YteoafnkcplealaaDoorC47
import Derived.Test.YteoafnkcplealaaDoorX12
import Derived.Deep.Slices
set_option linter.unusedVariables false
namespace Go.Proofs.YteoafnkcplealaaDoor
open Go.RowKit

/-- What a slice that came in is, besides what it reads as. -/
structure Cap (A : Option Addr) (n ca : Nat) : Prop where
  le : n ≤ ca
  nil : A = none → ca = 0
  hi : ca ≤ 9223372036854775807

theorem cap_of {H : Type} {P : Program} {t e : TypeId} (ht : P.underlying t = some (.slice e)) {enc : TypeId × Value → H} {w : World} {base : Nat} {sp : Nat → Bool} {held : Bool} {A : Option Addr} {n c : Nat} {d : DataW H} {ps : List MemPlace}
    (h : DataW.Trod enc P w base sp held t (.slice A n c) d ps) : Cap A n c := by
  obtain ⟨m, hm⟩ := h
  have hcl : (Value.slice A n c).cells.toList = [.slice A n c] := rfl
  rw [hcl] at hm
  rcases Deep.open_slice ht hm with ⟨h0, _⟩ | ⟨a, len, cap, m2, k, D, Pl, h0, _, hle, hm2, _⟩
  · simp only [List.cons.injEq, Value.slice.injEq, and_true] at h0
    obtain ⟨rfl, rfl, rfl⟩ := h0
    exact ⟨Nat.le_refl 0, fun _ => rfl, by omega⟩
  · simp only [List.cons.injEq, Value.slice.injEq, and_true] at h0
    obtain ⟨rfl, rfl, rfl⟩ := h0
    exact ⟨hle, (fun h => by cases h), by unfold maxLen at hm2; omega⟩

set_option maxHeartbeats 2000000 in
theorem small_any (cat : List Pkg) (A : Option Addr) (ca : Nat) (S : Nat → Prop) (w : World) (hA : Arr w S A cat) (hc : Cap A cat.length ca) :
    Calls Tryd.prog 31 #[.slice A cat.length ca] w fun e w' => (∃ A', e = .returned (.slice A' (cat.take 9).length ca) ∧ Arr w S A' (cat.take 9)) ∧ w' = w := by
  have hcl := hA.len
  have hle := hc.le
  have hhi := hc.hi
  obtain ⟨k, hk⟩ : ∃ k, k = min cat.length 9 := ⟨_, rfl⟩
  have e1 : min (cat.length : Int) 9 = (k : Int) := by omega
  have e2 : (cat.take 9).length = k := by rw [List.length_take, hk, Nat.min_comm]
  have e3 : (k : Int) ≤ ca := by omega
  have e4 : (0 : Int) ≤ k := by omega
  have e5 : k ≤ ca := by omega
  have hpart : cat ≠ [] → ∃ b o, A = some ⟨b, o, none⟩ := fun h => by
    obtain ⟨b, o, rfl, _⟩ := hA.lt (by cases cat with | nil => exact absurd rfl h | cons a r => simp)
    exact ⟨b, o, rfl⟩
  have Hk := Lib.hid hk
  have E2 := Lib.hid e2
  by_cases hne : cat = []
  · subst hne
    have hk0 : k = 0 := by rw [hk]; rfl
    subst hk0
    clear hk e2 hpart e1 e3 e4 e5 Hk
    have m1 : min (0 : Int) 9 = 0 := by omega
    cases A with
    | none =>
      have hca := hc.nil rfl
      subst hca
      clear hc hle hhi
      go_enter Tryd.func31, Tryd.ntmps31
      go_wp2
      go_ret
      exact ⟨⟨none, rfl, Arr.nil _ _ _⟩, rfl⟩
    | some a =>
      have h1 : (0 : Int) ≤ ca := by omega
      clear hc
      go_enter Tryd.func31, Tryd.ntmps31
      go_wp2
      go_ret
      exact ⟨⟨some a, rfl, Arr.nil _ _ _⟩, rfl⟩
  · obtain ⟨b, o, rfl⟩ := hpart hne
    have hp : Arr w S (some ⟨b, o, none⟩) (cat.take 9) := by
      have := hA.part 0 k (by omega) (by omega)
      have e6 : cat.take 9 = cat.take k := by rw [hk, Nat.min_comm]; simp [List.take_eq_take_iff]
      rw [e6]
      simpa using this
    clear hk e2 hpart hne hc
    go_enter Tryd.func31, Tryd.ntmps31
    go_wp2
    go_ret
    exact ⟨⟨some ⟨b, o, none⟩, by rw [E2.out]; rfl, hp⟩, rfl⟩

set_option maxHeartbeats 0 in
set_option maxRecDepth 100000 in
theorem solveBudgets_any (cat0 : List Pkg) (hv : List Int) (want : List Clause) (A0 B C : Option Addr) (ca cb cc : Nat) (S T U : Nat → Prop) (x y : Int) (w : World) (hA0 : Arr w S A0 cat0) (hB : Arr w T B hv) (hC : Arr w U C want) (hcap : Cap A0 cat0.length ca) (hx : In64 x) (hy : In64 y) (hL : Laid w) :
    Calls Tryd.prog 6 #[.slice A0 cat0.length ca, .slice B hv.length cb, .slice C want.length cc, .int .i64 x, .int .i64 y] w fun e w' => e = .returned (.bool true) ∧ Below w.heap.size w w' := by
  go_enter Tryd.func6, Tryd.ntmps6
  go_wp2_with fail
  refine (works20_any _ hL).mono ?_
  rintro e w1 ⟨rfl, HW1⟩
  go_wp2_with fail
  refine (small_any cat0 A0 ca S _ (hA0.below HW1) hcap).mono ?_
  rintro e wa ⟨⟨A, rfl, hA⟩, hwa⟩
  have hwa' := hwa.symm
  clear hwa
  subst hwa'
  have hcl : (cat0.take 9).length ≤ 9 := by rw [List.length_take]; omega
  generalize cat0.take 9 = cat at *
  clear hcap hA0
  go_wp2_with fail
  refine (among_any x 600 _ (by omega) (by omega) hx).mono ?_
  rintro e wa ⟨⟨k, hk, rfl⟩, hwa⟩
  have hwa' := hwa.symm
  clear hwa
  subst hwa'
  have hz : IntKind.i64.wrap (1 + (k : Int)) = 1 + (k : Int) := IntWalk.i64_in _ (by omega)
  go_wp2_with fail
  refine (solve_any cat hv want A B C ca cb cc S T U (1 + (k : Int)) _ hA (hB.below HW1) (hC.below HW1) ⟨by omega, by omega⟩ (hL.below HW1)).mono ?_
  rintro e w2 ⟨hw2, A2, c2, rfl, hr2⟩
  have HW2 := Below.trans0 HW1 hw2 HW1.size
  have hA2 := hA.below hw2
  have hB2 := hB.below HW2
  have hC2 := hC.below HW2
  have hL2 := hL.below HW2
  clear hw2 hA hB hC hL
  obtain ⟨R1, hR1⟩ : ∃ R, R = solveS cat hv want (1 + (k : Int)) := ⟨_, rfl⟩
  rw [← hR1] at hr2 ⊢
  have HR1 := Lib.hid hR1
  clear hR1
  go_wp2_with fail
  refine (among_any y 600 _ (by omega) (by omega) hy).mono ?_
  rintro e wa ⟨⟨j, hj, rfl⟩, hwa⟩
  have hwa' := hwa.symm
  clear hwa
  subst hwa'
  have hz2 : IntKind.i64.wrap (1 + (k : Int) + (j : Int)) = 1 + (k : Int) + (j : Int) := IntWalk.i64_in _ (by omega)
  go_wp2_with fail
  refine (solve_any cat hv want A B C ca cb cc S T U (1 + (k : Int) + (j : Int)) _ hA2 hB2 hC2 ⟨by omega, by omega⟩ hL2).mono ?_
  rintro e w3 ⟨hw3, A3, c3, rfl, hr3⟩
  have HW3 := Below.trans0 HW2 hw3 HW2.size
  have hr2' := hr2.below hw3
  obtain ⟨R2, hR2⟩ : ∃ R, R = solveS cat hv want (1 + (k : Int) + (j : Int)) := ⟨_, rfl⟩
  rw [← hR2] at hr3 ⊢
  have hst := @solve_budgets cat hv want (1 + (k : Int)) (j : Int) (by omega) (by omega) (by omega) (by omega)
  rw [← HR1.out, ← hR2] at hst
  have Hst := Lib.hid hst
  clear hst hR2 HR1 hr2 hw3 hA2 hB2 hC2 hL2
  obtain ⟨l1, n1, e1⟩ := R1
  obtain ⟨l2, n2, e2⟩ := R2
  simp only at Hst hr2' hr3
  by_cases he : e1 = 201
  · subst he
    obtain ⟨q1, q2, q3⟩ := Hst.out.1 rfl
    have q1' : n1 = 1 + (k : Int) := q1
    have q3' : l1 = [] := q3
    have q2' : ¬ e2 = 0 ∨ 1 + (k : Int) < n2 := q2
    clear Hst q1 q2 q3
    subst q1' q3'
    by_cases h2 : e2 = 0
    · have h3 : 1 + (k : Int) < n2 := q2'.resolve_left (fun h => h h2)
      subst h2
      clear q2'
      go_wp2
      go_ret
      exact ⟨by simp, HW3⟩
    · have h2b : (e2 == 0) = false := beq_eq_false_iff_ne.2 h2
      have h2c : (e2 != 0) = true := by rw [bne_iff_ne]; exact h2
      clear q2'
      go_wp2
      go_ret
      exact ⟨by simp, HW3⟩
  · have hq := Hst.out.2 he
    clear Hst
    have heb : (e1 == 201) = false := beq_eq_false_iff_ne.2 he
    injection hq with g1 g2
    injection g2 with g2 g3
    subst g1 g2 g3
    go_wp2_with fail
    refine (sameInts_any _ _ A2 A3 c2 c3 (fun _ => True) (fun _ => True) _ hr2' hr3).mono ?_
    rintro e w7 ⟨rfl, hw7⟩
    rw [decide_eq_true rfl]
    go_wp2
    go_ret
    exact ⟨by simp, Below.trans0 HW3 hw7 HW3.size⟩

end Go.Proofs.YteoafnkcplealaaDoor
