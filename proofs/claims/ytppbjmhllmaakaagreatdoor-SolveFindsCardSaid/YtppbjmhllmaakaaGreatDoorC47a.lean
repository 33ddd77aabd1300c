/- Contracts: the chapter's catalogue and its examples (the statements of layer 20). -/
import Derived.Test.YtppbjmhllmaakaaGreatDoorC46
import Derived.Test.YtppbjmhllmaakaaGreatDoorC21
set_option linter.unusedVariables false
namespace Go.Proofs.YtppbjmhllmaakaaGreatDoor
open Go.RowKit

theorem in64_of {x : Int} (h : (Lit.int .i64 x).wf = true) : In64 x := by
  have h1 : IntKind.i64.min = -9223372036854775808 := by decide
  have h2 : IntKind.i64.max = 9223372036854775807 := by decide
  simp only [Lit.wf, Bool.and_eq_true, decide_eq_true_eq] at h
  exact ⟨by omega, by omega⟩
def wantA : List Clause := [⟨false, [needN 97]⟩]
def wantAB : List Clause := [⟨false, [needN 97]⟩, ⟨true, [needN 98]⟩]
theorem sv_a : solveS (cat2 []) [] wantA 100 = ([0, 1], 4, 0) := by decide +kernel
theorem sv_ab : solveS (cat2 []) [] wantAB 100 = ([], 4, 200) := by decide +kernel

theorem wpList_app_full {α : Type} [Cd α] {P : Program} {w : World} {ops : Array Oper} {rest : List Oper} {o : Oper} {a : Act} {Q : Exit → Act → World → Prop} (hgd : o.guard = none) (s x : Operand) (t : TypeId)
    (ho : o.op = .call { callee := .builtin .append, args := #[s, x], argTypes := #[t, t] })
    (e : TypeId) (hE : ElemT P t e (Cd.n α) (Cd.bytes α)) (S : Nat → Prop) (b f : Nat) (l r : List α) (A : Option Addr) (c : Nat)
    (hs : a.eval s = .slice (some ⟨b, f, none⟩) l.length l.length) (hx : a.eval x = .slice A r.length c) (h1 : Arr w S (some ⟨b, f, none⟩) l) (h2 : Arr w S A r)
    (hbytes : (l.length + r.length) * Cd.bytes α ≤ reach) (hlen : l.length + r.length ≤ 9223372036854775807)
    (h : ∀ A' c' w', Arr w' (Fr w S) A' (l ++ r) → w.grownBy w' none → wpList P ops Q rest (a.put o.dst (.slice A' (l ++ r).length c')) w') : wpList P ops Q (o :: rest) a w := by
  refine wpList_plain hgd fun K hK => ?_
  obtain ⟨A', c', w', hrun, r1, r2⟩ := run_app_full (P := P) t o.type e hE S b f l r A c h1 h2 hbytes hlen
  unfold Oper.wp
  simp [-List.length_append, execOp, ho, resolve, invoke, builtin, hs, hx, hrun, Result.andThen]
  exact hK _ _ (h A' c' w' r1 r2)

set_option maxHeartbeats 2000000 in
set_option maxRecDepth 100000 in
theorem two20_any (w : World) : Calls Tryz.prog 55 #[] w fun e w' => Below w.heap.size w w' ∧ ∃ b, e = .returned (.slice (some ⟨b, 0, none⟩) 2 2) ∧ Arr w' (fun _ => True) (some ⟨b, 0, none⟩) (cat2 []) := by
  go_enter Tryz.func55, Tryz.ntmps55
  go_wp2
  go_ret
  refine ⟨by (repeat (first | exact Below.refl _ _ | assumption | (refine Below.setCell ?_ (by first | omega | (simp; done) | (simp; omega) | exact Below.size (by assumption)) _) | (refine Below.alloc ?_ (by first | omega | (simp; done) | (simp; omega) | exact Below.size (by assumption)) _) | refine Below.drew ?_ | refine Below.trans0 ?_ (by assumption))), w.heap.size + 1 + 1 + 1 + 1, rfl, Two.arr (l := []) (p := w.heap.size) (q := w.heap.size + 1 + 1 + 1) (A := none) (ca := 0) ⟨?_, ?_, ?_, ?_, ?_, ?_, ?_, ?_, ?_, ?_⟩ trivial (arr_ints1 trivial ⟨by decide, by decide⟩ ?_) (arr_clause (A := some ⟨w.heap.size + 1 + 1, 0, none⟩) (ca := 1) trivial ?_ ?_ (arr_need trivial ?_ ?_ ?_ ?_)) (Arr.nil _ _ _)⟩
  all_goals (simp [go_sem])

/-- A want of one need, as it is laid. -/
theorem arr_wish {w : World} {n : Bool} {c : UInt8} : Arr ((w.alloc (.cells #[.string ⟨#[c]⟩, .int .i64 0, .slice none 0 0, .string ⟨#[]⟩] 51)).alloc (.cells #[.bool n, .slice (some ⟨w.heap.size, 0, none⟩) 1 1] 48)) (fun _ => True) (some ⟨w.heap.size + 1, 0, none⟩) [(⟨n, [needN c]⟩ : Clause)] :=
  arr_clause (A := some ⟨w.heap.size, 0, none⟩) (ca := 1) trivial two1 two1 (arr_need trivial two0 two0 two0 two0)

set_option maxHeartbeats 0 in
set_option maxRecDepth 100000 in
theorem works20_any (w : World) (hL : Laid w) : Calls Tryz.prog 18 #[] w fun e w' => e = .returned (.bool true) ∧ Below w.heap.size w w' := by
  have va := Lib.hid sv_a
  have vb := Lib.hid sv_ab
  have HW : Below w.heap.size w ((w.alloc (.cells #[.string ⟨#[97]⟩, .int .i64 0, .slice none 0 0, .string ⟨#[]⟩] 51)).alloc (.cells #[.bool false, .slice (some ⟨w.heap.size, 0, none⟩) 1 1] 48)) := by (repeat (first | exact Below.refl _ _ | assumption | (refine Below.setCell ?_ (by first | omega | (simp; done) | (simp; omega) | exact Below.size (by assumption)) _) | (refine Below.alloc ?_ (by first | omega | (simp; done) | (simp; omega) | exact Below.size (by assumption)) _) | refine Below.drew ?_ | refine Below.trans0 ?_ (by assumption)))
  have hwt := @arr_wish w false 97
  go_enter Tryz.func18, Tryz.ntmps18
  go_wp2_with fail
  refine (two20_any _).mono ?_
  rintro e w1 ⟨hw1, b, rfl, ht⟩
  have HW1 := Below.trans0 HW hw1 HW.size
  have hw1t := hwt.below hw1
  clear hw1 hwt HW
  go_wp2_with fail
  refine (solve_any (cat2 []) [] wantA _ none _ 2 0 1 (fun _ => True) (fun _ => True) (fun _ => True) 100 _ ht (Arr.nil _ _ _) hw1t ⟨by decide, by decide⟩ (hL.below HW1)).mono ?_
  rintro e w2 ⟨hw2, A2, c2, rfl, hr2⟩
  rw [va.out] at hr2 ⊢
  have HW2 := Below.trans0 HW1 hw2 HW1.size
  have hw2t := hw1t.below hw2
  clear hw2 ht hw1t
  have HX : Below w2.heap.size w2 ((w2.alloc (.cells #[.string ⟨#[98]⟩, .int .i64 0, .slice none 0 0, .string ⟨#[]⟩] 51)).alloc (.cells #[.bool true, .slice (some ⟨w2.heap.size, 0, none⟩) 1 1] 48)) := by (repeat (first | exact Below.refl _ _ | assumption | (refine Below.setCell ?_ (by first | omega | (simp; done) | (simp; omega) | exact Below.size (by assumption)) _) | (refine Below.alloc ?_ (by first | omega | (simp; done) | (simp; omega) | exact Below.size (by assumption)) _) | refine Below.drew ?_ | refine Below.trans0 ?_ (by assumption)))
  have hx := @arr_wish w2 true 98
  go_wp2_with (at_builtin; refine Hold.out ?_)
  refine ⟨?_⟩
  refine wpList_app_full rfl _ _ 24 rfl 48 elClause (fun _ => True) (w.heap.size + 1) 0 wantA [(⟨true, [needN 98]⟩ : Clause)] (some ⟨w2.heap.size + 1, 0, none⟩) 1 rfl rfl (hw2t.below HX) hx (by decide) (by decide) ?_
  intro A3 c3 w3 h3 hg3
  have hw3 : Below w2.heap.size w2 w3 := Below.grown HX hg3 (by rw [size_alloc, size_alloc]; omega) (fun b e => by cases e)
  have HW3 := Below.trans0 HW2 hw3 HW2.size
  have h3t : Arr w3 (fun _ => True) A3 wantAB := h3.mono (fun _ _ _ => trivial)
  have hr3 := hr2.below hw3
  clear h3 hg3 hx HX hw3 hr2 hw2t
  go_wp2_with fail
  refine (two20_any _).mono ?_
  rintro e w4 ⟨hw4, b4, rfl, ht4⟩
  have HW4 := Below.trans0 HW3 hw4 HW3.size
  have h4t := h3t.below hw4
  have hr4 := hr3.below hw4
  clear hw4 h3t hr3
  go_wp2_with fail
  refine (solve_any (cat2 []) [] wantAB _ none _ 2 0 c3 (fun _ => True) (fun _ => True) (fun _ => True) 100 _ ht4 (Arr.nil _ _ _) h4t ⟨by decide, by decide⟩ (hL.below HW4)).mono ?_
  rintro e w5 ⟨hw5, A5, c5, rfl, hr5⟩
  rw [vb.out] at hr5 ⊢
  have HW5 := Below.trans0 HW4 hw5 HW4.size
  have hr6 := hr4.below hw5
  clear hw5 hr4 h4t ht4 hr5
  have HZ : Below w5.heap.size w5 (w5.alloc (.cells #[.int .i64 0, .int .i64 1] 3)) := (Below.refl _ _).alloc (Nat.le_refl _) _
  go_wp2_with fail
  refine (sameInts_any [0, 1] [0, 1] A2 (some ⟨w5.heap.size, 0, none⟩) c2 2 (fun _ => True) (fun _ => True) _ (hr6.below HZ) (arr_ints2 trivial ⟨by decide, by decide⟩ ⟨by decide, by decide⟩ laid_new laid_new)).mono ?_
  rintro e w7 ⟨rfl, hw7⟩
  go_wp2
  go_ret
  exact ⟨by simp, Below.trans0 (Below.trans0 HW5 HZ HW5.size) hw7 (Nat.le_trans HW5.size HZ.size)⟩

end Go.Proofs.YtppbjmhllmaakaaGreatDoor
