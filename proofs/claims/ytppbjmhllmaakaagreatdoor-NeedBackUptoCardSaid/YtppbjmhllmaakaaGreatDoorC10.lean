/- Contracts: the program's need.right, need.Check, need.Meets, need.Met. -/
import Derived.Test.YtppbjmhllmaakaaGreatDoorC9
set_option linter.unusedVariables false
namespace Go.Proofs.YtppbjmhllmaakaaGreatDoor
open Go.RowKit

theorem needOk_op' {n : Need} (h0 : n.op ≠ 0) : needOk n = (nameOk n.name && (wordOk n.op && verOk n.ver)) := by
  unfold needOk wordOk; rw [if_neg h0]

set_option maxHeartbeats 2000000 in
theorem right_any (n : Need) (va : List Value) (S : Nat → Prop) (w : World) (h : Cd.rep w S n va) (hL : Laid w) :
    Calls Tryz.prog 88 #[.agg va.toArray] w fun e w' => e = .returned (.bool (needOk n)) ∧ Below w.heap.size w w' := by
  obtain ⟨A, ca, rfl, hn, ho, ha, hta⟩ := h
  have hla := ha.len
  by_cases h0 : n.op = 0
  · have h0' : (n.op == 0) = true := by simp [h0]
    cases hk : nameOk n.name
    · have fin := Lib.hid (needOk_no hk)
      have Hk := Lib.hid hk
      clear hk h0
      go_enter Tryz.func88, Tryz.ntmps88
      go_wp2_with (go_at_call 38; refine (name_any _ _ hn (hL.below (by (repeat (first | exact Below.refl _ _ | assumption | (refine Below.setCell ?_ (by first | omega | (simp; done) | (simp; omega) | exact Below.size (by assumption)) _) | (refine Below.alloc ?_ (by first | omega | (simp; done) | (simp; omega) | exact Below.size (by assumption)) _) | refine Below.drew ?_ | refine Below.trans0 ?_ (by assumption)))))).mono ?_; rintro e w1 ⟨rfl, hw1⟩; rw [Hk.out]; have z0 : w.heap.size < w1.heap.size := (by have := hw1.size; simp at this; omega); obtain ⟨q1, -⟩ := bcell hw1)
      go_ret
      exact ⟨ret_bool fin.out.symm, by (repeat (first | exact Below.refl _ _ | assumption | (refine Below.setCell ?_ (by first | omega | (simp; done) | (simp; omega) | exact Below.size (by assumption)) _) | (refine Below.alloc ?_ (by first | omega | (simp; done) | (simp; omega) | exact Below.size (by assumption)) _) | refine Below.drew ?_ | refine Below.trans0 ?_ (by assumption)))⟩
    · have fin := Lib.hid (needOk_any hk h0)
      have Hk := Lib.hid hk
      clear hk h0
      go_enter Tryz.func88, Tryz.ntmps88
      go_wp2_with (go_at_call 38; refine (name_any _ _ hn (hL.below (by (repeat (first | exact Below.refl _ _ | assumption | (refine Below.setCell ?_ (by first | omega | (simp; done) | (simp; omega) | exact Below.size (by assumption)) _) | (refine Below.alloc ?_ (by first | omega | (simp; done) | (simp; omega) | exact Below.size (by assumption)) _) | refine Below.drew ?_ | refine Below.trans0 ?_ (by assumption)))))).mono ?_; rintro e w1 ⟨rfl, hw1⟩; rw [Hk.out]; have z0 : w.heap.size < w1.heap.size := (by have := hw1.size; simp at this; omega); obtain ⟨q1, -⟩ := bcell hw1)
      all_goals
        go_ret
        refine ⟨ret_bool ?_, by (repeat (first | exact Below.refl _ _ | assumption | (refine Below.setCell ?_ (by first | omega | (simp; done) | (simp; omega) | exact Below.size (by assumption)) _) | (refine Below.alloc ?_ (by first | omega | (simp; done) | (simp; omega) | exact Below.size (by assumption)) _) | refine Below.drew ?_ | refine Below.trans0 ?_ (by assumption)))⟩
        rw [fin.out]
        simp [*]
  · have h0' : (n.op == 0) = false := by simp [h0]
    have fin := Lib.hid (needOk_op' h0)
    clear h0
    cases hw : wordOk n.op
    · have Hw := Lib.hid hw
      clear hw
      go_enter Tryz.func88, Tryz.ntmps88
      go_wp2_with (go_at_call 119; refine (word_any _ _ (hL.below (by (repeat (first | exact Below.refl _ _ | assumption | (refine Below.setCell ?_ (by first | omega | (simp; done) | (simp; omega) | exact Below.size (by assumption)) _) | (refine Below.alloc ?_ (by first | omega | (simp; done) | (simp; omega) | exact Below.size (by assumption)) _) | refine Below.drew ?_ | refine Below.trans0 ?_ (by assumption)))))).mono ?_; rintro e w1 ⟨rfl, hw1⟩; rw [Hw.out]; have z0 : w.heap.size < w1.heap.size := (by have := hw1.size; simp at this; omega); obtain ⟨q1, -⟩ := bcell hw1)
      go_ret
      exact ⟨ret_bool (by rw [fin.out, Hw.out]; simp), by (repeat (first | exact Below.refl _ _ | assumption | (refine Below.setCell ?_ (by first | omega | (simp; done) | (simp; omega) | exact Below.size (by assumption)) _) | (refine Below.alloc ?_ (by first | omega | (simp; done) | (simp; omega) | exact Below.size (by assumption)) _) | refine Below.drew ?_ | refine Below.trans0 ?_ (by assumption)))⟩
    · have Hw := Lib.hid hw
      clear hw
      cases hk : nameOk n.name
      · have Hk := Lib.hid hk
        clear hk
        go_enter Tryz.func88, Tryz.ntmps88
        go_wp2_with (go_at_call 119; refine (word_any _ _ (hL.below (by (repeat (first | exact Below.refl _ _ | assumption | (refine Below.setCell ?_ (by first | omega | (simp; done) | (simp; omega) | exact Below.size (by assumption)) _) | (refine Below.alloc ?_ (by first | omega | (simp; done) | (simp; omega) | exact Below.size (by assumption)) _) | refine Below.drew ?_ | refine Below.trans0 ?_ (by assumption)))))).mono ?_; rintro e w1 ⟨rfl, hw1⟩; rw [Hw.out]; have z0 : w.heap.size < w1.heap.size := (by have := hw1.size; simp at this; omega); obtain ⟨q1, -⟩ := bcell hw1)
        have hb1 : Below w.heap.size w w1 := by (repeat (first | exact Below.refl _ _ | assumption | (refine Below.setCell ?_ (by first | omega | (simp; done) | (simp; omega) | exact Below.size (by assumption)) _) | (refine Below.alloc ?_ (by first | omega | (simp; done) | (simp; omega) | exact Below.size (by assumption)) _) | refine Below.drew ?_ | refine Below.trans0 ?_ (by assumption)))
        go_wp2_with (go_at_call 38; refine (name_any _ _ hn (hL.below hb1)).mono ?_; rintro e w2 ⟨rfl, hw2⟩; rw [Hk.out]; have z1 : w.heap.size < w2.heap.size := (by have := hw2.size; omega); obtain ⟨q2, -⟩ := bcell hw2)
        go_ret
        exact ⟨ret_bool (by rw [fin.out, Hk.out]; rfl), hb1.trans (hw2.mono hb1.size)⟩
      · have Hk := Lib.hid hk
        clear hk
        cases hv : verOk n.ver
        all_goals
          have Hv := Lib.hid hv
          clear hv
          go_enter Tryz.func88, Tryz.ntmps88
          go_wp2_with (go_at_call 119; refine (word_any _ _ (hL.below (by (repeat (first | exact Below.refl _ _ | assumption | (refine Below.setCell ?_ (by first | omega | (simp; done) | (simp; omega) | exact Below.size (by assumption)) _) | (refine Below.alloc ?_ (by first | omega | (simp; done) | (simp; omega) | exact Below.size (by assumption)) _) | refine Below.drew ?_ | refine Below.trans0 ?_ (by assumption)))))).mono ?_; rintro e w1 ⟨rfl, hw1⟩; rw [Hw.out]; have z0 : w.heap.size < w1.heap.size := (by have := hw1.size; simp at this; omega); obtain ⟨q1, -⟩ := bcell hw1)
          have hb1 : Below w.heap.size w w1 := by (repeat (first | exact Below.refl _ _ | assumption | (refine Below.setCell ?_ (by first | omega | (simp; done) | (simp; omega) | exact Below.size (by assumption)) _) | (refine Below.alloc ?_ (by first | omega | (simp; done) | (simp; omega) | exact Below.size (by assumption)) _) | refine Below.drew ?_ | refine Below.trans0 ?_ (by assumption)))
          go_wp2_with (go_at_call 38; refine (name_any _ _ hn (hL.below hb1)).mono ?_; rintro e w2 ⟨rfl, hw2⟩; rw [Hk.out]; have z1 : w.heap.size < w2.heap.size := (by have := hw2.size; omega); obtain ⟨q2, -⟩ := bcell hw2)
          have hb2 := hb1.trans (hw2.mono hb1.size)
          go_wp2_with (go_at_call 97; refine (checkV_any n.ver [_, _] S _ ⟨_, _, rfl, ha.below hb2, hta⟩).mono ?_; rintro e w3 ⟨rfl, hw3⟩; rw [Hv.out])
          go_ret
          exact ⟨ret_bool (by rw [fin.out, Hk.out, Hv.out, Hw.out]; rfl), hb2.trans (hw3.mono hb2.size)⟩

theorem enters78 : ∀ args w, (callFunc 87 args).run Tryz.prog w = .ok (.enter 87 args) w := enters_of Tryz.func87 (by kernel_rfl) rfl
theorem enters77 : ∀ args w, (callFunc 86 args).run Tryz.prog w = .ok (.enter 86 args) w := enters_of Tryz.func86 (by kernel_rfl) rfl

set_option maxHeartbeats 400000 in
theorem notRight_pred (w : World) (S : Nat → Prop) (l : List Need) (hL : Laid w) : Pred 87 #[] w S (fun n => !needOk n) l := by
  intro x hx W vs hb hr
  have hr' := hr
  obtain ⟨A, ca, rfl, hn, ho, ha, hta⟩ := hr'
  go_enter Tryz.func87, Tryz.ntmps87
  go_wp2_with (go_at_call 88; refine (right_any x [_, _, _, _] S _ (hr.below (by (repeat (first | exact Below.refl _ _ | assumption | (refine Below.setCell ?_ (by first | omega | (simp; done) | (simp; omega) | exact Below.size (by assumption)) _) | (refine Below.alloc ?_ (by first | omega | (simp; done) | (simp; omega) | exact Below.size (by assumption)) _) | refine Below.drew ?_ | refine Below.trans0 ?_ (by assumption))))) ((hL.below hb).below (by (repeat (first | exact Below.refl _ _ | assumption | (refine Below.setCell ?_ (by first | omega | (simp; done) | (simp; omega) | exact Below.size (by assumption)) _) | (refine Below.alloc ?_ (by first | omega | (simp; done) | (simp; omega) | exact Below.size (by assumption)) _) | refine Below.drew ?_ | refine Below.trans0 ?_ (by assumption)))))).mono ?_; rintro e w1 ⟨rfl, hw1⟩)
  go_ret
  exact ⟨rfl, by (repeat (first | exact Below.refl _ _ | assumption | (refine Below.setCell ?_ (by first | omega | (simp; done) | (simp; omega) | exact Below.size (by assumption)) _) | (refine Below.alloc ?_ (by first | omega | (simp; done) | (simp; omega) | exact Below.size (by assumption)) _) | refine Below.drew ?_ | refine Below.trans0 ?_ (by assumption)))⟩

set_option maxHeartbeats 1000000 in
theorem oddClause_pred (w : World) (S : Nat → Prop) (l : List Clause) (hL : Laid w) : Pred 86 #[] w S (fun c => !clauseOk c) l := by
  intro c hx W vs hb hr
  have hr' := hr
  obtain ⟨A, ca, rfl, ha⟩ := hr'
  have hla := ha.len
  by_cases h1 : c.any.length < 1
  · have fin := Lib.hid (show clauseOk c = false by rw [← Bool.not_eq_true, clauseOk_iff]; omega)
    go_enter Tryz.func86, Tryz.ntmps86
    go_wp2
    go_ret
    exact ⟨ret_bool (by rw [fin.out]; rfl), by (repeat (first | exact Below.refl _ _ | assumption | (refine Below.setCell ?_ (by first | omega | (simp; done) | (simp; omega) | exact Below.size (by assumption)) _) | (refine Below.alloc ?_ (by first | omega | (simp; done) | (simp; omega) | exact Below.size (by assumption)) _) | refine Below.drew ?_ | refine Below.trans0 ?_ (by assumption)))⟩
  · by_cases h2 : 8 < c.any.length
    · have fin := Lib.hid (show clauseOk c = false by rw [← Bool.not_eq_true, clauseOk_iff]; omega)
      have h1' : 1 ≤ c.any.length := by omega
      clear h1
      go_enter Tryz.func86, Tryz.ntmps86
      go_wp2
      go_ret
      exact ⟨ret_bool (by rw [fin.out]; rfl), by (repeat (first | exact Below.refl _ _ | assumption | (refine Below.setCell ?_ (by first | omega | (simp; done) | (simp; omega) | exact Below.size (by assumption)) _) | (refine Below.alloc ?_ (by first | omega | (simp; done) | (simp; omega) | exact Below.size (by assumption)) _) | refine Below.drew ?_ | refine Below.trans0 ?_ (by assumption)))⟩
    · have fin := Lib.hid (show clauseOk c = c.any.all needOk by unfold clauseOk; rw [decide_eq_true (by omega), decide_eq_true (by omega)]; rfl)
      go_enter Tryz.func86, Tryz.ntmps86
      go_wp2_with fail
      refine (containsNeed_any c.any _ _ #[] _ _ S _ enters78 (ha.below (by (repeat (first | exact Below.refl _ _ | assumption | (refine Below.setCell ?_ (by first | omega | (simp; done) | (simp; omega) | exact Below.size (by assumption)) _) | (refine Below.alloc ?_ (by first | omega | (simp; done) | (simp; omega) | exact Below.size (by assumption)) _) | refine Below.drew ?_ | refine Below.trans0 ?_ (by assumption))))) (notRight_pred _ S _ ((hL.below hb).below (by (repeat (first | exact Below.refl _ _ | assumption | (refine Below.setCell ?_ (by first | omega | (simp; done) | (simp; omega) | exact Below.size (by assumption)) _) | (refine Below.alloc ?_ (by first | omega | (simp; done) | (simp; omega) | exact Below.size (by assumption)) _) | refine Below.drew ?_ | refine Below.trans0 ?_ (by assumption))))))).mono ?_
      rintro e w1 ⟨rfl, hw1⟩
      rw [any_not_all]
      go_wp2
      go_ret
      exact ⟨ret_bool (by rw [fin.out, decide_eq_false (p := (c.any.length : Int) < 1) (by omega), decide_eq_false (p := (8 : Int) < c.any.length) (by omega)]; simp), by (repeat (first | exact Below.refl _ _ | assumption | (refine Below.setCell ?_ (by first | omega | (simp; done) | (simp; omega) | exact Below.size (by assumption)) _) | (refine Below.alloc ?_ (by first | omega | (simp; done) | (simp; omega) | exact Below.size (by assumption)) _) | refine Below.drew ?_ | refine Below.trans0 ?_ (by assumption)))⟩

set_option maxHeartbeats 1000000 in
theorem checkC_any (l : List Clause) (A : Option Addr) (ca : Nat) (S : Nat → Prop) (w : World) (h : Arr w S A l) (hL : Laid w) :
    Calls Tryz.prog 36 #[.slice A l.length ca] w fun e w' => e = .returned (.int .i64 (okE (clausesOk l) 180)) ∧ Below w.heap.size w w' := by
  have hl := h.len
  by_cases h1 : 32 < l.length
  · have fin := Lib.hid (show clausesOk l = false by unfold clausesOk; rw [decide_eq_false (by omega)]; rfl)
    go_enter Tryz.func36, Tryz.ntmps36
    go_wp2
    go_ret
    exact ⟨ret_int (by rw [fin.out]; rfl), Below.refl _ _⟩
  · have fin := Lib.hid (show clausesOk l = l.all clauseOk by unfold clausesOk; rw [decide_eq_true (by omega)]; rfl)
    cases hv : l.all clauseOk
    all_goals
      have Hv := Lib.hid hv
      clear hv
      go_enter Tryz.func36, Tryz.ntmps36
      go_wp2_with fail
      refine (containsClause_any l _ _ #[] _ _ S _ enters77 h (oddClause_pred _ S _ hL)).mono ?_
      rintro e w1 ⟨rfl, hw1⟩
      rw [any_not_all, Hv.out]
      go_wp2
      go_ret
      exact ⟨ret_int (by rw [fin.out, Hv.out]; rfl), hw1⟩

/-! ### need.Meets, need.Met -/
theorem meets_mid {n : Need} {p : Pkg} (h : (seqb p.name n.name && vholds n.op p.ver n.ver) = false) : meets n p = (decide (n.op = 0) && decide (n.name ∈ p.provides)) := by
  unfold meets; rw [h]; rfl
theorem meets_one {n : Need} {p : Pkg} (h : (seqb p.name n.name && vholds n.op p.ver n.ver) = true) : meets n p = true := by
  unfold meets; rw [h]; rfl
theorem vholdsE_ne {op : Int} {a b : Ver} (h : vholds op a b = true) : vholdsE op = 0 := by
  by_cases g : vholdsE op = 0
  · exact g
  · rw [vholds_bad g] at h; cases h

end Go.Proofs.YtppbjmhllmaakaaGreatDoor
