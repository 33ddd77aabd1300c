/- Contracts: slices.Clone of ints, plan.less, plan.Steps. -/
import Derived.Test.YtppbjmhllmaakaaGreatDoorC32
import Derived.Test.YtppbjmhllmaakaaGreatDoorSh
set_option linter.unusedVariables false
namespace Go.Proofs.YtppbjmhllmaakaaGreatDoor
open Go.RowKit Go.Sort

theorem RowI.of_own {w : World} {base : Nat} {v : Value} {l : List Int} (h : w.ownsRow base 3 1 v l.length (l.map (Value.int .i64))) (hne : v ≠ .slice none 0 0) : ∃ g cap, v = .slice (some ⟨g, 0, none⟩) l.length cap ∧ RowI w g cap l ∧ base ≤ g := by
  rcases h.2 with ⟨h0, _⟩ | ⟨g, cap, cur, hv, hb, hg, hc, hm, hs, ht⟩
  · exact absurd h0 hne
  · exact ⟨g, cap, hv, ⟨cur, hg, hc, hm, by simpa using hs, by simpa using ht⟩, hb⟩

theorem cloneInt_any (l : List Int) (A : Option Addr) (ca : Nat) (S : Nat → Prop) (w : World) (h : Arr w S A l) :
    Calls Tryz.prog 109 #[.slice A l.length ca] w fun e w' => Below w.heap.size w w' ∧ ((l = [] ∧ e = .returned (.slice none 0 0)) ∨ ∃ g cap, e = .returned (.slice (some ⟨g, 0, none⟩) l.length cap) ∧ RowI w' g cap l ∧ w.heap.size ≤ g) := by
  cases l with
  | nil =>
    cases A with
    | none => exact (Tryz.slices_Clone_int_nil 0 ca w).mono fun e w' ⟨he, hw⟩ => by subst hw; exact ⟨Below.refl _ _, .inl ⟨rfl, he⟩⟩
    | some ad =>
      refine (Tryz.slices_Clone_int_zero ad ca w).mono ?_
      rintro e w' ⟨v, he, ho, hne, hb⟩
      obtain ⟨g, cap, rfl, hr, hg⟩ := RowI.of_own (l := []) ho hne
      exact ⟨hb, .inr ⟨g, cap, he, hr, hg⟩⟩
  | cons a r =>
    obtain ⟨b, o, rfl, _⟩ := h.lt (by simp)
    have hby := h.1
    refine (Tryz.slices_Clone_int b o (a :: r).length ca (a :: r) w (Nat.le_refl _) (by change _ * 8 ≤ reach at hby; unfold reach at hby; omega) (fun j hj => ?_)).mono fun e w' ⟨v, he, ho, hne, hb⟩ => ?_
    · obtain ⟨b', o', e, _, _, hc⟩ := h.getI j hj
      cases e
      rw [hc, List.getD, List.getElem?_eq_getElem hj]
      rfl
    · rw [List.take_length] at ho
      obtain ⟨g, cap, rfl, hr, hg⟩ := RowI.of_own ho hne
      exact ⟨hb, .inr ⟨g, cap, he, hr, hg⟩⟩

theorem entersL1 : ∀ args w, (callFunc 110 args).run Tryz.prog w = .ok (.enter 110 args) w := enters_of Tryz.func110 (by kernel_rfl) rfl

set_option maxHeartbeats 1000000 in
set_option maxRecDepth 100000 in
theorem less1_pred (but : List Int) (A : Option Addr) (ca : Nat) (S : Nat → Prop) (w0 : World) (q : Nat) (h : Arr w0 S A but) (hc : w0.cell? ⟨q, 0, none⟩ = some (.slice A but.length ca)) : PredB 110 #[.pointer (some ⟨q, 0, none⟩)] w0 w0.heap.size (fun x => decide (x ∈ but)) := by
  intro x W hb hx
  replace h := h.below hb
  replace hc := box_below hb hc
  have hl := h.len
  cases but with
  | nil =>
    go_enter Tryz.func110, Tryz.ntmps110
    go_wp2_with (go_at_call 103; refine (Tryz.slices_Contains_int_empty A ca x _).mono ?_; rintro e w1 ⟨rfl, hw1⟩; have hw1' := hw1.symm; clear hw1; subst hw1')
    go_ret
    exact ⟨by simp, Below.refl _ _⟩
  | cons a r =>
    obtain ⟨b, o, rfl, _⟩ := h.lt (by simp)
    have hcs : ∀ j, j < (a :: r).length → W.cell? ⟨b, o + j, none⟩ = some (.int .i64 ((a :: r).getD j 0)) := fun j hj => by
      obtain ⟨b', o', e, _, _, hc⟩ := h.getI j hj
      cases e
      rw [hc, List.getD, List.getElem?_eq_getElem hj]
      rfl
    have hval : Hid ((((a :: r).take (a :: r).length).contains x) = decide (x ∈ a :: r)) := Lib.hid (by rw [List.take_length, Bool.eq_iff_iff]; simp)
    generalize hlr : a :: r = lr at *
    go_enter Tryz.func110, Tryz.ntmps110
    go_wp2_with (go_at_call 103; refine (Tryz.slices_Contains_int b o lr.length ca lr x _ (Nat.le_refl _) hl hcs).mono ?_; rintro e w1 ⟨rfl, hw1⟩; have hw1' := hw1.symm; clear hw1; subst hw1'; rw [hval.out])
    go_ret
    exact ⟨rfl, Below.refl _ _⟩

/-- DeleteFunc of nothing. -/
theorem deleteNil_any (p : Int → Bool) (gf : FuncId) (cs : Array Value) (w0 : World) (w : World) (eg : ∀ args w, (callFunc gf args).run Tryz.prog w = .ok (.enter gf args) w) (h0 : Below w0.heap.size w0 w) (hp : PredB gf cs w0 w0.heap.size p) :
    Calls Tryz.prog 108 #[.slice none 0 0, .func (.func gf) #[] cs] w fun e w' => e = .returned (.slice none 0 0) ∧ Below w.heap.size w w' := by
  have HP := Lib.hid hp
  clear hp
  go_enter Tryz.func108, Tryz.ntmps108
  go_wp2_with fail
  refine (indexInt_any ([] : List Int) p gf cs none 0 (fun _ => True) _ eg (Arr.nil _ _ _) (fun x _ W hb hx => HP.out x W (h0.trans (hb.mono h0.size)) hx)).mono ?_
  rintro e w1 ⟨hw1, r, rfl, hf⟩
  rcases hf with ⟨rfl, hnone⟩ | ⟨k, hk, _⟩
  · go_wp2
    go_ret
    exact ⟨rfl, hw1⟩
  · simp at hk

/-- What is in l and not in but; l rises. -/
def lessL (l but : List Int) : List Int := l.filter fun x => !decide (x ∈ but)
def Rises (l : List Int) : Prop := l.Pairwise (· < ·)
theorem Rises.less {l : List Int} (h : Rises l) (but : List Int) : Rises (lessL l but) := List.Pairwise.filter _ h
theorem Rises.sort {l : List Int} (h : Rises l) : (l.mergeSort fun x y => decide (x ≤ y)) = l :=
  List.mergeSort_of_pairwise (h.imp fun h => by simp; omega)
theorem Rises.compact {l : List Int} (h : Rises l) : Lib.compact l = l := by
  refine Lib.compact_all l fun j hj => ?_
  by_cases h0 : j = 0
  · subst h0; simp [Lib.keeps]
  · refine Lib.keeps_pos ?_
    have h1 : j - 1 < l.length := by omega
    have := List.pairwise_iff_getElem.1 h (j - 1) j h1 hj (by omega)
    simp [getElem!_pos, hj, h1]
    omega
theorem RowI.sorted {w : World} {g cap n : Nat} {l : List Int} {os : Array Obj} (h : RowI w g cap l) (ts : List Int) (hl : ts.length = l.length) : RowI (grow (putRow (Value.int .i64) (Sort.ahead w n) g 0 ts.toArray) os) g cap ts ∧ w.grownBy (grow (putRow (Value.int .i64) (Sort.ahead w n) g 0 ts.toArray) os) (some g) := by
  obtain ⟨cur, h1, h2, h3, h4, h5⟩ := h
  exact ⟨⟨_, heap_sortedI _ h1, by omega, h3, by simpa [putCells] using h4, take_putCellsI cur ts (by omega)⟩, grownBy_sortedI _⟩
theorem RowI.holds {w : World} {g cap : Nat} {l : List Int} (h : RowI w g cap l) : Holds (Value.int .i64) w g 0 l.toArray := by
  obtain ⟨cur, h1, h2, h3, h4, h5⟩ := h
  exact holds_of_blockI h1 h5

end Go.Proofs.YtppbjmhllmaakaaGreatDoor
