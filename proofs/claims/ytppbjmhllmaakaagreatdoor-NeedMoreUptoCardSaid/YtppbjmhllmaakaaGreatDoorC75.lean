/- Contract: NeedMore (of lists that are not too great). -/
import Derived.Test.YtppbjmhllmaakaaGreatDoorC72
import Derived.Test.YtppbjmhllmaakaaGreatDoorC16
set_option linter.unusedVariables false
namespace Go.Proofs.YtppbjmhllmaakaaGreatDoor
open Go.RowKit

set_option maxHeartbeats 0 in
set_option maxRecDepth 100000 in
theorem needMore_any (c : Clause) (va : List Value) (l m : List Pkg) (B D : Option Addr) (cb cd : Nat) (S T V : Nat → Prop) (w : World) (h : Cd.rep w S c va) (hB : Arr w T B l) (hD : Arr w V D m) (hsum : l.length + m.length ≤ 4000000) (hN : LaidN w) :
    Calls Tryz.prog 8 #[.agg va.toArray, .slice B l.length cb, .slice D m.length cd] w fun e w' => e = .returned (.bool true) ∧ Below w.heap.size w w' := by
  obtain ⟨neg, any⟩ := c
  obtain ⟨A, ca, rfl, hA⟩ := h
  change Arr w S A any at hA
  have hbl := hB.len
  have hdl := hD.len
  have hal := hA.len
  have r0 : (w.alloc (.cells #[.bool neg, .slice A any.length ca] 48)).cell? ⟨w.heap.size, 0, none⟩ = some (.bool neg) := laid_new
  have r1 : (w.alloc (.cells #[.bool neg, .slice A any.length ca] 48)).cell? ⟨w.heap.size, 1, none⟩ = some (.slice A any.length ca) := laid_new
  have hB0 : Below w.heap.size w (w.alloc (.cells #[.bool neg, .slice A any.length ca] 48)) := (Below.refl _ _).alloc (Nat.le_refl _) _
  have zz : w.heap.size < (w.alloc (.cells #[.bool neg, .slice A any.length ca] 48)).heap.size := by simp
  go_enter Tryz.func8, Tryz.ntmps8
  go_wp2_with fail
  refine (works18_any _ (hN.below hB0)).mono ?_
  generalize w.alloc (.cells #[.bool neg, .slice A any.length ca] 48) = W0 at *
  rintro e w1 ⟨rfl, hw1⟩
  have B1 := Below.trans0 hB0 hw1 hB0.size
  replace r0 := (World.cell?_of_block (hw1.block _ zz)).trans r0
  replace r1 := (World.cell?_of_block (hw1.block _ zz)).trans r1
  have zw1 : w.heap.size < w1.heap.size := World.block_lt_of_cell? _ _ r0
  obtain ⟨x, hx⟩ : ∃ x, Hid ((l.any fun p => any.any fun n => meets n p) = x) := ⟨_, Lib.hid rfl⟩
  obtain ⟨y, hy⟩ : ∃ y, Hid ((m.any fun p => any.any fun n => meets n p) = y) := ⟨_, Lib.hid rfl⟩
  have hm1 : Hid (∀ (W : World) (hw : Below w.heap.size w W), Calls Tryz.prog 26 #[.agg #[.bool neg, .slice A any.length ca], .slice B l.length cb] W fun e w' => e = .returned (.bool (x != neg)) ∧ Below W.heap.size W w') := Lib.hid (fun (W : World) (hw : Below w.heap.size w W) => by
    have := met_any ⟨neg, any⟩ l [.bool neg, .slice A any.length ca] B cb S T W ⟨A, ca, rfl, hA.below hw⟩ (hB.below hw)
    rw [show met ⟨neg, any⟩ l = (x != neg) by unfold met; rw [hx.out]] at this
    exact this)
  have hm2 : Hid (∀ (W : World) (X : Option Addr) (cx : Nat) (hw : Below w.heap.size w W) (hxs : Arr W (fun _ => True) X ([] ++ l ++ m)), Calls Tryz.prog 26 #[.agg #[.bool neg, .slice A any.length ca], .slice X ([] ++ l ++ m).length cx] W fun e w' => e = .returned (.bool ((x || y) != neg)) ∧ Below W.heap.size W w') := Lib.hid (fun (W : World) (X : Option Addr) (cx : Nat) (hw : Below w.heap.size w W) (hxs : Arr W (fun _ => True) X ([] ++ l ++ m)) => by
    have := met_any ⟨neg, any⟩ ([] ++ l ++ m) [.bool neg, .slice A any.length ca] X cx S _ W ⟨A, ca, rfl, hA.below hw⟩ hxs
    rw [show met ⟨neg, any⟩ ([] ++ l ++ m) = ((x || y) != neg) by unfold met; rw [List.nil_append, List.any_append, hx.out, hy.out]] at this
    exact this)
  have hBo : Arr w (fun b => b < w.heap.size) B l := hB.old.mono (fun b _ h => h.2)
  have hDo : Arr w (fun b => b < w.heap.size) D m := hD.old.mono (fun b _ h => h.2)
  have q1 : (([] : List Pkg).length + l.length) * Cd.bytes Pkg ≤ 140737488355328 := by show (0 + l.length) * 104 ≤ _; omega
  have q1' : ([] : List Pkg).length + l.length ≤ 9223372036854775807 := by simp; omega
  have q2 : (([] ++ l).length + m.length) * Cd.bytes Pkg ≤ 140737488355328 := by rw [List.nil_append]; show (l.length + m.length) * 104 ≤ _; omega
  have q2' : ([] ++ l).length + m.length ≤ 9223372036854775807 := by rw [List.nil_append]; omega
  have q3 : ([] ++ l ++ m).length * Cd.bytes Pkg ≤ reach := by rw [List.nil_append, List.length_append]; show (l.length + m.length) * 104 ≤ reach; unfold reach; omega
  have q3' : ([] ++ l ++ m).length ≤ 9223372036854775807 := by rw [List.nil_append, List.length_append]; omega
  clear hsum hw1 hB0
  have hD1 : Below w.heap.size w w1.drew := B1.drew
  have hown0 : Own ((w1.alloc (.cells #[] 36)).drew) (w.heap.size + 1) 36 (fun b => b < w.heap.size) (.slice (some ⟨w1.heap.size, 0, none⟩) 0 0) ([] : List Pkg) := (Own.made w1 _ _ _ (by omega)).below (Below.drew (Below.refl _ _))
  have hE1 : Below w.heap.size w (w1.alloc (.cells #[] 36)).drew := (B1.alloc B1.size _).drew
  go_wp2_with fail
  have re0 : ((w1.alloc (.cells #[] 36)).drew).cell? ⟨w.heap.size, 0, none⟩ = some (.bool neg) := (laid_old zw1).trans r0
  have re1 : ((w1.alloc (.cells #[] 36)).drew).cell? ⟨w.heap.size, 1, none⟩ = some (.slice A any.length ca) := (laid_old zw1).trans r1
  go_region_law (first
    | (go_simp; go_at_call 26; have hh := hown2; obtain ⟨A9, c9, e9, hr9⟩ := hown2.rep (S' := fun _ => True) (fun _ _ _ => trivial) (fun _ _ _ => trivial) q3 q3'; subst e9; refine (hm2.out _ A9 c9 (by first | exact BB | exact BB.drew) (by first | exact hr9 | exact hr9.below ((Below.refl _ _).drew))).mono ?_; rintro e w9 ⟨rfl, hw9⟩; (first | (have B9 := Below.trans0 BB hw9 BB.size; have rt0 := box_below hw9 rb0) | (have B9 := Below.trans0 BB.drew hw9 BB.drew.size; have rt0 := box_below hw9 rb0)); clear hown2 hh; dsimp only)
    | (go_simp; go_at_call 26; (first | refine (hm1.out _ hD1).mono ?_ | refine (hm1.out _ hE1).mono ?_); rintro e w2 ⟨rfl, hw2⟩; (first | have B2 : Below w.heap.size w w2 := Below.trans0 hD1 hw2 hD1.size | (have B2 : Below w.heap.size w w2 := Below.trans0 hE1 hw2 hE1.size; have hown2e := hown0.below hw2)); (first | (have rr0 := box_below hw2 r0; have rr1 := box_below hw2 r1) | (have rr0 := box_below hw2 re0; have rr1 := box_below hw2 re1)); have zz2 : w.heap.size < w2.heap.size := World.block_lt_of_cell? _ _ rr0; have zz12 : w1.heap.size ≤ w2.heap.size := Nat.le_trans (by simp) hw2.size; dsimp only)
    | (refine step_own_src rfl (.tmp 15) (.tmp 16) 22 rfl (w.heap.size + 1) 36 elPkg (fun b => b < w.heap.size) _ ([] : List Pkg) rfl (by first | exact hown2e | exact Own.made w2 _ _ _ (by omega)) B cb l rfl ((hBo.below (by (repeat (first | exact Below.refl _ _ | assumption | (refine Below.setCell ?_ (by first | omega | (simp; done) | (simp; omega) | exact Below.size (by assumption)) _) | (refine Below.alloc ?_ (by first | omega | (simp; done) | (simp; omega) | exact Below.size (by assumption)) _) | refine Below.drew ?_ | refine Below.trans0 ?_ (by assumption))))).mono (fun b _ h => ⟨h, fun e => by have := ownBlock_eq e; omega⟩)) q1 q1' (by first | omega | (simp; omega)) ?_; intro v1 wa hown1 hg1 hl1; have BA : Below w.heap.size w wa := Below.grown (by (repeat (first | exact Below.refl _ _ | assumption | (refine Below.setCell ?_ (by first | omega | (simp; done) | (simp; omega) | exact Below.size (by assumption)) _) | (refine Below.alloc ?_ (by first | omega | (simp; done) | (simp; omega) | exact Below.size (by assumption)) _) | refine Below.drew ?_ | refine Below.trans0 ?_ (by assumption)))) hg1 (by first | omega | (simp; omega)) (fun b e => by have := ownBlock_eq e; omega); (first | (have ra0 := grown_cell hg1 rr0 (fun e => by have := ownBlock_eq e; omega); have ra1 := grown_cell hg1 rr1 (fun e => by have := ownBlock_eq e; omega)) | (have ra0 := grown_cell hg1 ((laid_old zz2).trans rr0) (fun e => by have := ownBlock_eq e; omega); have ra1 := grown_cell hg1 ((laid_old zz2).trans rr1) (fun e => by have := ownBlock_eq e; omega))))
    | (refine step_own_src rfl (.tmp 17) (.tmp 18) 22 rfl (w.heap.size + 1) 36 elPkg (fun b => b < w.heap.size) v1 ([] ++ l) rfl (hown1.below (by first | exact Below.refl _ _ | exact (Below.refl _ _).drew)) D cd m rfl ((hDo.below (by first | exact BA | exact BA.drew)).mono (fun b _ h => ⟨h, fun e => by have := hown1.block_ge b e; omega⟩)) q2 q2' (by have := World.block_lt_of_cell? _ _ ra0; first | exact this | (simp; omega)) ?_; intro v2 wb hown2 hg2 hl2; have BB : Below w.heap.size w wb := Below.grown (by first | exact BA | exact BA.drew) hg2 BA.size (fun b e => by have := hown1.block_ge b e; omega); have rb0 := grown_cell hg2 ra0 (fun e => by have := hown1.block_ge _ e; omega); have rb1 := grown_cell hg2 ra1 (fun e => by have := hown1.block_ge _ e; omega)))
  all_goals
    clear hm1 hm2 hown0 hE1 hD1 re0 re1
    cases neg <;> cases x <;> cases y
    all_goals
      go_wp2
      go_ret
      exact ⟨rfl, B9⟩

end Go.Proofs.YtppbjmhllmaakaaGreatDoor
