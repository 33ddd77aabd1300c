/- Contracts: plan.less and plan.Steps, of rising lists. -/
import Derived.Test.YtppbjmhllmaakaaGreatDoorC33
set_option linter.unusedVariables false
namespace Go.Proofs.YtppbjmhllmaakaaGreatDoor
open Go.RowKit Go.Sort

theorem Arr.ints {w : World} {S : Nat → Prop} {A : Option Addr} {l : List Int} (h : Arr w S A l) : ∀ x ∈ l, In64 x := by
  intro x hx
  obtain ⟨i, hi, rfl⟩ := List.getElem_of_mem hx
  obtain ⟨_, _, _, _, h, _⟩ := h.getI i hi
  exact h

/-- What plan.less hands back: nothing, or a row of its own. -/
def LessRet (w : World) (fl : List Int) (e : Ending) (w' : World) : Prop :=
  Below w.heap.size w w' ∧ ((fl = [] ∧ e = .returned (.slice none 0 0)) ∨ ∃ g cap, e = .returned (.slice (some ⟨g, 0, none⟩) fl.length cap) ∧ RowI w' g cap fl ∧ w.heap.size ≤ g)

set_option maxHeartbeats 0 in
set_option maxRecDepth 100000 in
theorem less_any (l but : List Int) (A B : Option Addr) (ca cb : Nat) (S T : Nat → Prop) (w : World) (h : Arr w S A l) (hb : Arr w T B but) (hr : Rises l) :
    Calls Tryz.prog 60 #[.slice A l.length ca, .slice B but.length cb] w (LessRet w (lessL l but)) := by
  have hby : l.length * 8 ≤ reach := h.1
  have hi := h.ints
  have hfr := hr.less but
  have hfl : (lessL l but).length ≤ l.length := List.length_filter_le _ _
  have hcmp := Lib.hid hfr.compact
  have hsrt := Lib.hid hfr.sort
  have hba : Below w.heap.size w (w.alloc (.cells #[.slice B but.length cb] 23)) := (Below.refl _ _).alloc (Nat.le_refl _) _
  have hpred := Lib.hid (less1_pred but B cb T (w.alloc (.cells #[.slice B but.length cb] 23)) w.heap.size (hb.below hba) (by simp))
  have hsz0 : (w.alloc (.cells #[.slice B but.length cb] 23)).heap.size = w.heap.size + 1 := by simp
  go_enter Tryz.func60, Tryz.ntmps60
  go_wp2_with fail
  refine (cloneInt_any l A ca S _ (h.below hba)).mono ?_
  generalize w.alloc (.cells #[.slice B but.length cb] 23) = W0 at *
  rintro e w1 ⟨hw1, hcl⟩
  have B1 : Below w.heap.size w w1 := Below.trans0 hba hw1 hba.size
  rcases hcl with ⟨rfl, rfl⟩ | ⟨g, cap, rfl, hrow, hg⟩
  · go_wp2_with fail
    refine (deleteNil_any _ _ _ W0 _ entersL1 hw1 hpred.out).mono ?_
    rintro e w2 ⟨rfl, hw2⟩
    have B2 : Below w.heap.size w w2 := Below.trans0 B1 hw2 B1.size
    go_wp2_with fail
    refine (Tryz.slices_Sort_int_none none 0 w2).mono ?_
    rintro e w3 ⟨rfl, hw3⟩
    have hw3' := hw3.symm
    clear hw3
    subst hw3'
    go_wp2_with fail
    refine (Tryz.slices_Compact_int_empty none 0 _).mono ?_
    rintro e w4 ⟨rfl, hw4⟩
    have hw4' := hw4.symm
    clear hw4
    subst hw4'
    go_wp2
    go_ret
    exact ⟨B2, .inl ⟨rfl, rfl⟩⟩
  · go_wp2_with fail
    refine (deleteInt_any l _ _ _ g cap W0 W0.heap.size w1 entersL1 hw1 hg hrow hpred.out hi hby).mono ?_
    rintro e w2 ⟨rfl, hrow2, hg2⟩
    have B2 : Below w.heap.size w w2 := Below.grown B1 hg2 B1.size (fun b e => by cases e; omega)
    change RowI w2 g cap (lessL l but) at hrow2
    rw [show (List.filter (fun x => !decide (x ∈ but)) l) = lessL l but from rfl]
    generalize hfe : lessL l but = fl at *
    go_wp2_with fail
    refine (Tryz.slices_Sort_int g 0 cap fl _ hrow2.holds hrow2.lt (by unfold reach at hby; omega)).mono ?_
    rintro e w3 ⟨rfl, n3, os3, hw3⟩
    rw [hsrt.out] at hw3
    have hs3 := hrow2.sorted (n := n3) (os := os3) fl rfl
    rw [← hw3] at hs3
    obtain ⟨hrow3, hg3⟩ := hs3
    clear hw3
    have B3 : Below w.heap.size w w3 := Below.grown B2 hg3 B2.size (fun b e => by cases e; omega)
    go_wp2_with fail
    refine (Tryz.slices_Compact_int g 0 cap fl _ hrow3.holds (by unfold reach at hby; omega) (by obtain ⟨_, _, h, _⟩ := hrow3; exact h)).mono ?_
    rintro e w4 ⟨rfl, n4, hw4⟩
    rw [hcmp.out, Nat.sub_self, List.replicate_zero, List.append_nil] at hw4
    rw [hcmp.out]
    have hs4 := hrow3.sorted (n := n4) (os := #[]) fl rfl
    rw [grow_empty, ← hw4] at hs4
    obtain ⟨hrow4, hg4⟩ := hs4
    clear hw4
    have B4 : Below w.heap.size w w4 := Below.grown B3 hg4 B3.size (fun b e => by cases e; omega)
    go_wp2
    go_ret
    exact ⟨B4, .inr ⟨g, cap, rfl, hrow4, by omega⟩⟩

theorem LessRet.form {w w' : World} {fl : List Int} {e : Ending} (h : LessRet w fl e w') (hl : fl.length * 8 ≤ reach) (hi : ∀ x ∈ fl, In64 x) : Below w.heap.size w w' ∧ ∃ A c, e = .returned (.slice A fl.length c) ∧ Arr w' (fun _ => True) A fl := by
  refine ⟨h.1, ?_⟩
  rcases h.2 with ⟨rfl, he⟩ | ⟨g, cap, he, hr, _⟩
  · exact ⟨none, 0, he, Arr.nil _ _ _⟩
  · exact ⟨_, _, he, hr.arr _ trivial hl hi⟩

set_option maxHeartbeats 0 in
set_option maxRecDepth 100000 in
theorem steps_any (l m : List Int) (A B : Option Addr) (ca cb : Nat) (S T : Nat → Prop) (w : World) (h : Arr w S A l) (hm : Arr w T B m) (hr : Rises l) (hr2 : Rises m) :
    Calls Tryz.prog 23 #[.slice A l.length ca, .slice B m.length cb] w fun e w' => Below w.heap.size w w' ∧ ∃ A1 c1 A2 c2, e = .returned (.tuple #[.slice A1 (lessL l m).length c1, .slice A2 (lessL m l).length c2]) ∧ Arr w' (fun _ => True) A1 (lessL l m).reverse ∧ Arr w' (fun _ => True) A2 (lessL m l) := by
  have hby : l.length * 8 ≤ reach := h.1
  have hby2 : m.length * 8 ≤ reach := hm.1
  have hfl : (lessL l m).length ≤ l.length := List.length_filter_le _ _
  have hfm : (lessL m l).length ≤ m.length := List.length_filter_le _ _
  have hil : ∀ x ∈ lessL l m, In64 x := fun x hx => h.ints x (List.mem_filter.1 hx).1
  have him : ∀ x ∈ lessL m l, In64 x := fun x hx => hm.ints x (List.mem_filter.1 hx).1
  go_enter Tryz.func23, Tryz.ntmps23
  go_wp2_with fail
  refine (less_any l m A B ca cb S T _ h hm hr).mono ?_
  rintro e w1 ⟨hw1, hc⟩
  rcases hc with ⟨hnil, rfl⟩ | ⟨g, cap, rfl, hrow, hg⟩
  · have Hn := Lib.hid hnil
    clear hnil
    go_wp2_with fail
    refine (Tryz.slices_Reverse_int_empty none 0 _).mono ?_
    rintro e w2 ⟨rfl, hw2⟩
    have hw2' := hw2.symm
    clear hw2
    subst hw2'
    go_wp2_with fail
    refine (less_any m l B A cb ca T S _ (hm.below hw1) (h.below hw1) hr2).mono ?_
    intro e w3 hret
    obtain ⟨hw3, A2, c2, rfl, h2⟩ := hret.form (by omega) him
    go_wp2
    go_ret2
    exact ⟨Below.trans0 hw1 hw3 hw1.size, none, 0, A2, c2, by rw [Hn.out]; rfl, by rw [Hn.out]; exact Arr.nil _ _ _, h2⟩
  · have hrl : (lessL l m).reverse.length = (lessL l m).length := List.length_reverse
    go_wp2_with fail
    refine (Tryz.slices_Reverse_int g 0 cap (lessL l m) _ hrow.holds (by unfold reach at hby; omega)).mono ?_
    rintro e w2 ⟨rfl, n2, hw2⟩
    have hs2 := hrow.sorted (n := n2) (os := #[]) (lessL l m).reverse hrl
    rw [grow_empty, ← hw2] at hs2
    obtain ⟨hrow2, hg2⟩ := hs2
    clear hw2
    have B2 : Below w.heap.size w w2 := Below.grown hw1 hg2 hw1.size (fun b e => by cases e; exact hg)
    go_wp2_with fail
    refine (less_any m l B A cb ca T S _ (hm.below B2) (h.below B2) hr2).mono ?_
    intro e w3 hret
    obtain ⟨hw3, A2, c2, rfl, h2⟩ := hret.form (by omega) him
    have hrow3 : RowI w3 g cap (lessL l m).reverse := hrow2.below hw3 hrow2.lt
    go_wp2
    go_ret2
    exact ⟨Below.trans0 B2 hw3 B2.size, _, _, A2, c2, rfl, hrow3.arr _ trivial (by rw [hrl]; omega) (fun x hx => hil x (List.mem_reverse.1 hx)), h2⟩

end Go.Proofs.YtppbjmhllmaakaaGreatDoor
