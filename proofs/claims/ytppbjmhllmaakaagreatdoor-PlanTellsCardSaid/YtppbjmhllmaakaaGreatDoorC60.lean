/- Contracts: plan.less and plan.Steps, of any lists. -/
import Derived.Test.YtppbjmhllmaakaaGreatDoorC34
import Derived.Test.YtppbjmhllmaakaaGreatDoorX18
set_option linter.unusedVariables false
namespace Go.Proofs.YtppbjmhllmaakaaGreatDoor
open Go.RowKit Go.Sort

theorem lessAll_nil (but : List Int) : lessAll [] but = [] := by simp [lessAll, sortI, Lib.compact, Lib.compactUpTo]
theorem mem_lessAll {l but : List Int} {x : Int} (h : x ∈ lessAll l but) : x ∈ l := by
  unfold lessAll at h
  rw [mem_compact, mem_sortI] at h
  exact (List.mem_filter.1 h).1

set_option maxHeartbeats 0 in
set_option maxRecDepth 100000 in
theorem lessAll_any (l but : List Int) (A B : Option Addr) (ca cb : Nat) (S T : Nat → Prop) (w : World) (h : Arr w S A l) (hb : Arr w T B but) :
    Calls Tryz.prog 60 #[.slice A l.length ca, .slice B but.length cb] w (LessRet w (lessAll l but)) := by
  have hby : l.length * 8 ≤ reach := h.1
  have hi := h.ints
  have hfl : (lessL l but).length ≤ l.length := List.length_filter_le _ _
  have hall : Hid (∀ fl, fl = lessL l but → Lib.compact (fl.mergeSort fun x y => decide (x ≤ y)) = lessAll l but) := Lib.hid (fun fl e => by subst e; rfl)
  have hnil : Hid (l = [] → lessAll l but = []) := Lib.hid (fun e => by subst e; exact lessAll_nil but)
  have hba : Below w.heap.size w (w.alloc (.cells #[.slice B but.length cb] 23)) := (Below.refl _ _).alloc (Nat.le_refl _) _
  have hpred := Lib.hid (less1_pred but B cb T (w.alloc (.cells #[.slice B but.length cb] 23)) w.heap.size (hb.below hba) (by simp))
  have hsz0 : (w.alloc (.cells #[.slice B but.length cb] 23)).heap.size = w.heap.size + 1 := by simp
  generalize lessAll l but = R at *
  go_enter Tryz.func60, Tryz.ntmps60
  go_wp2_with fail
  refine (cloneInt_any l A ca S _ (h.below hba)).mono ?_
  generalize w.alloc (.cells #[.slice B but.length cb] 23) = W0 at *
  rintro e w1 ⟨hw1, hcl⟩
  have B1 : Below w.heap.size w w1 := Below.trans0 hba hw1 hba.size
  rcases hcl with ⟨hl0, rfl⟩ | ⟨g, cap, rfl, hrow, hg⟩
  · have hR := Lib.hid (hnil.out hl0)
    clear hl0
    go_wp2_with fail
    refine (deleteNil_any _ _ _ W0 _ entersL1 hw1 hpred.out).mono ?_
    rintro e w2 ⟨rfl, hw2⟩
    have B2 : Below w.heap.size w w2 := Below.trans0 B1 hw2 B1.size
    go_wp2_with fail
    refine (Tryz.slices_Sort_int_none none 0 w2).mono ?_
    rintro e w3 ⟨rfl, hw3⟩
    have hw3' := hw3.symm
    clear hw3
    subst hw3'
    go_wp2_with fail
    refine (Tryz.slices_Compact_int_empty none 0 _).mono ?_
    rintro e w4 ⟨rfl, hw4⟩
    have hw4' := hw4.symm
    clear hw4
    subst hw4'
    go_wp2
    go_ret
    exact ⟨B2, .inl ⟨hR.out, rfl⟩⟩
  · go_wp2_with fail
    refine (deleteInt_any l _ _ _ g cap W0 W0.heap.size w1 entersL1 hw1 hg hrow hpred.out hi hby).mono ?_
    rintro e w2 ⟨rfl, hrow2, hg2⟩
    have B2 : Below w.heap.size w w2 := Below.grown B1 hg2 B1.size (fun b e => by cases e; omega)
    change RowI w2 g cap (lessL l but) at hrow2
    rw [show (List.filter (fun x => !decide (x ∈ but)) l) = lessL l but from rfl]
    have hall2 := Lib.hid (hall.out _ rfl)
    clear hall
    generalize hfe : lessL l but = fl at *
    have hml : (fl.mergeSort fun x y => decide (x ≤ y)).length = fl.length := List.length_mergeSort fl
    have hcl2 : (Lib.compact (fl.mergeSort fun x y => decide (x ≤ y))).length ≤ (fl.mergeSort fun x y => decide (x ≤ y)).length := by
      unfold Lib.compact Lib.compactUpTo
      rw [List.length_map]
      exact Nat.le_trans (List.length_filter_le _ _) (by simp)
    go_wp2_with fail
    refine (Tryz.slices_Sort_int g 0 cap fl _ hrow2.holds hrow2.lt (by unfold reach at hby; omega)).mono ?_
    rintro e w3 ⟨rfl, n3, os3, hw3⟩
    have Hml := Lib.hid hml
    clear hml hfe
    have hs3 := hrow2.sorted (n := n3) (os := os3) (fl.mergeSort fun x y => decide (x ≤ y)) Hml.out
    generalize (fl.mergeSort fun x y => decide (x ≤ y)) = sl at *
    rw [← hw3] at hs3
    obtain ⟨hrow3, hg3⟩ := hs3
    clear hw3
    have B3 : Below w.heap.size w w3 := Below.grown B2 hg3 B2.size (fun b e => by cases e; omega)
    have hfs : sl.length ≤ l.length := by rw [Hml.out]; exact hfl
    rw [← Hml.out]
    clear hfl
    go_wp2_with fail
    refine (Tryz.slices_Compact_int g 0 cap sl _ hrow3.holds (by unfold reach at hby; omega) (by obtain ⟨_, _, h, _⟩ := hrow3; exact h)).mono ?_
    rintro e w4 ⟨rfl, n4, hw4⟩
    have hs4 := hrow3.sorted (n := n4) (os := #[]) (Lib.compact sl ++ List.replicate (sl.length - (Lib.compact sl).length) 0) (by simp; omega)
    rw [grow_empty, ← hw4] at hs4
    obtain ⟨hrow4, hg4⟩ := hs4
    clear hw4
    have B4 : Below w.heap.size w w4 := Below.grown B3 hg4 B3.size (fun b e => by cases e; omega)
    have hrow5 := hrow4.take (Lib.compact sl).length
    rw [List.take_left] at hrow5
    rw [hall2.out] at hrow5
    rw [hall2.out]
    go_wp2
    go_ret
    exact ⟨B4, .inr ⟨g, cap, rfl, hrow5, by omega⟩⟩

set_option maxHeartbeats 0 in
set_option maxRecDepth 100000 in
theorem stepsAll_any (l m : List Int) (A B : Option Addr) (ca cb : Nat) (S T : Nat → Prop) (w : World) (h : Arr w S A l) (hm : Arr w T B m) :
    Calls Tryz.prog 23 #[.slice A l.length ca, .slice B m.length cb] w fun e w' => Below w.heap.size w w' ∧ ∃ A1 c1 A2 c2, e = .returned (.tuple #[.slice A1 (lessAll l m).reverse.length c1, .slice A2 (lessAll m l).length c2]) ∧ Arr w' (fun _ => True) A1 (lessAll l m).reverse ∧ Arr w' (fun _ => True) A2 (lessAll m l) := by
  have hby : l.length * 8 ≤ reach := h.1
  have hby2 : m.length * 8 ≤ reach := hm.1
  have hfl := lessAll_len l m
  have hfm := lessAll_len m l
  have hil : ∀ x ∈ lessAll l m, In64 x := fun x hx => h.ints x (mem_lessAll hx)
  have him : ∀ x ∈ lessAll m l, In64 x := fun x hx => hm.ints x (mem_lessAll hx)
  have hrl : Hid ((lessAll l m).reverse.length = (lessAll l m).length) := Lib.hid List.length_reverse
  rw [hrl.out]
  go_enter Tryz.func23, Tryz.ntmps23
  go_wp2_with fail
  refine (lessAll_any l m A B ca cb S T _ h hm).mono ?_
  rintro e w1 ⟨hw1, hc⟩
  rcases hc with ⟨hnil, rfl⟩ | ⟨g, cap, rfl, hrow, hg⟩
  · have Hn := Lib.hid hnil
    clear hnil
    go_wp2_with fail
    refine (Tryz.slices_Reverse_int_empty none 0 _).mono ?_
    rintro e w2 ⟨rfl, hw2⟩
    have hw2' := hw2.symm
    clear hw2
    subst hw2'
    go_wp2_with fail
    refine (lessAll_any m l B A cb ca T S _ (hm.below hw1) (h.below hw1)).mono ?_
    intro e w3 hret
    obtain ⟨hw3, A2, c2, rfl, h2⟩ := hret.form (by omega) him
    go_wp2
    go_ret2
    exact ⟨Below.trans0 hw1 hw3 hw1.size, none, 0, A2, c2, by rw [Hn.out]; rfl, by rw [Hn.out]; exact Arr.nil _ _ _, h2⟩
  · go_wp2_with fail
    refine (Tryz.slices_Reverse_int g 0 cap (lessAll l m) _ hrow.holds (by unfold reach at hby; omega)).mono ?_
    rintro e w2 ⟨rfl, n2, hw2⟩
    have hs2 := hrow.sorted (n := n2) (os := #[]) (lessAll l m).reverse hrl.out
    rw [grow_empty, ← hw2] at hs2
    obtain ⟨hrow2, hg2⟩ := hs2
    clear hw2
    have B2 : Below w.heap.size w w2 := Below.grown hw1 hg2 hw1.size (fun b e => by cases e; exact hg)
    go_wp2_with fail
    refine (lessAll_any m l B A cb ca T S _ (hm.below B2) (h.below B2)).mono ?_
    intro e w3 hret
    obtain ⟨hw3, A2, c2, rfl, h2⟩ := hret.form (by omega) him
    have hrow3 : RowI w3 g cap (lessAll l m).reverse := hrow2.below hw3 hrow2.lt
    go_wp2
    go_ret2
    exact ⟨Below.trans0 B2 hw3 B2.size, _, _, A2, c2, rfl, hrow3.arr _ trivial (by rw [hrl.out]; omega) (fun x hx => hil x (List.mem_reverse.1 hx)), h2⟩

end Go.Proofs.YtppbjmhllmaakaaGreatDoor
