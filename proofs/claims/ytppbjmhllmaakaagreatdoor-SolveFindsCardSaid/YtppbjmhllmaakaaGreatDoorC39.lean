/- Contract: the search's skip. -/
import Derived.Test.YtppbjmhllmaakaaGreatDoorC38
import Derived.Test.YtppbjmhllmaakaaGreatDoorC11
set_option linter.unusedVariables false
namespace Go.Proofs.YtppbjmhllmaakaaGreatDoor
open Go.RowKit

set_option maxHeartbeats 2000000 in
theorem skip_any (m : Nat) (h0 h1 bs : Nat) (k : Work) (s : Int) (v : Value) (l : List Int) (w : World) (hm : m ≤ 1000000000000) (hS : Srch w h0 h1 3 bs k s v l) (hs : 0 ≤ s) (hb : s < k.budget) (hx : k.budget ≤ 1048576) :
    Calls Tryz.prog 102 #[.pointer (some ⟨bs, 0, none⟩), .int .i64 m] w fun e w' => e = .returned (.bool (goOn m k.budget s)) ∧ Below h0 w w' ∧ Srch w' h0 h1 3 bs k (skipTo m k.budget s) v l ∧ ∀ b, b < w.heap.size → b ≠ bs → w'.heap[b]? = w.heap[b]? := by
  have hm64 : In64 (m : Int) := ⟨by omega, by omega⟩
  have hlt := hS.lt
  have hlo := hS.lo
  have hcl := countS_le (m := m)
  have c3 := hS.c3
  have c4 := hS.c4
  have hz : IntKind.i64.wrap (s + countS m) = s + countS m := IntWalk.i64_in _ (by omega)
  have hB0 : ∀ {W : World}, Below w.heap.size w W → Below h0 w W := fun h => h.mono (Nat.le_trans hlo (Nat.le_of_lt hlt))
  by_cases hoff : (20 : Int) ≤ m ∨ s + countS m ≥ k.budget
  · have fin := Lib.hid (skip_off hs hb hx hoff)
    have fm : Hid (min k.budget (s + countS m) = k.budget) := Lib.hid fin.out.2
    by_cases hbig : (20 : Int) ≤ m
    case' pos => (have d1 : decide ((20 : Int) ≤ m) = true := decide_eq_true hbig; have d2 : decide (20 ≤ m) = true := decide_eq_true (by omega))
    case' neg => (have hoff2 : k.budget ≤ s + countS m := hoff.resolve_left hbig; have d1 : decide ((20 : Int) ≤ m) = false := decide_eq_false hbig; have d2 : decide (20 ≤ m) = false := decide_eq_false (by omega))
    all_goals
      clear hoff
      go_enter Tryz.func102, Tryz.ntmps102
      go_wp2
      refine region_quiet (by kernel_rfl) (by kernel_rfl) ?_
      repeat (go_big_quiet_step ((go_at_call 47; exact call_quiet ((count_any m _ hm64).mono fun e W ⟨he, hw⟩ => ⟨he, by rw [hw]; exact Below.refl _ _⟩))))
      refine wpQuiet_nil ?_
      intro W1 hw1
      replace hw1 := below_of_ext hw1
      replace hS := hS.below hw1
      clear c3 c4
      have c3 := hS.c3
      have c4 := hS.c4
      have f4 := hS.f4
      have HB1 := hB0 hw1
      go_wp2
      go_region_with (go_at_call 47; refine (count_any _ _ hm64).mono ?_; rintro e w2 ⟨rfl, hw2⟩; have hw2' := hw2.symm; clear hw2; subst hw2')
      all_goals
        rw [fm.out]
        have HK : ∀ b, b < w.heap.size → b ≠ bs → (W1.setCell ⟨bs, 4, none⟩ (.int .i64 k.budget)).drew.heap[b]? = w.heap[b]? := fun b hb hne => (Below.heap_setCell W1 _ _ b hne).trans (hw1.block b hb)
        have HB2 : Below h0 w (W1.setCell ⟨bs, 4, none⟩ (.int .i64 k.budget)).drew := (HB1.setCell hlo _).drew
        replace hS := (hS.tick k.budget).below ((Below.refl _ _).drew)
        clear c3 c4 f4
        generalize (W1.setCell ⟨bs, 4, none⟩ (.int .i64 k.budget)).drew = w3 at *
        have c3 := hS.c3
        have c4 := hS.c4
        have hlt3 := hS.lt
        have d3 : decide (k.budget < k.budget) = false := decide_eq_false (by omega)
        have d4 : ¬ k.budget < k.budget := by omega
        go_wp2
        refine region_quiet (by kernel_rfl) (by kernel_rfl) ?_
        repeat (go_big_quiet_step (fail))
        refine wpQuiet_nil ?_
        intro W2 hw2
        replace hw2 := below_of_ext hw2
        go_wp2
        go_ret
        exact ⟨ret_bool (by rw [fin.out.1]), HB2.trans (hw2.mono (Nat.le_trans (Nat.le_trans hlo (Nat.le_of_lt hlt)) HB2.size)), by rw [skipTo_off fin.out.1]; exact hS.below hw2, fun b hb hne => (hw2.block b (Nat.lt_of_lt_of_le hb HB2.size)).trans (HK b hb hne)⟩
  · have fin := Lib.hid (skip_on hs hb hx hoff)
    have hbig : ¬ (20 : Int) ≤ m := fun e => hoff (Or.inl e)
    have hoff2 : ¬ k.budget ≤ s + countS m := fun e => hoff (Or.inr e)
    have d1 : decide ((20 : Int) ≤ m) = false := decide_eq_false hbig
    have d2 : decide (20 ≤ m) = false := decide_eq_false (by omega)
    clear hoff
    go_enter Tryz.func102, Tryz.ntmps102
    go_wp2
    refine region_quiet (by kernel_rfl) (by kernel_rfl) ?_
    repeat (go_big_quiet_step ((go_at_call 47; exact call_quiet ((count_any m _ hm64).mono fun e W ⟨he, hw⟩ => ⟨he, by rw [hw]; exact Below.refl _ _⟩))))
    refine wpQuiet_nil ?_
    intro W1 hw1
    replace hw1 := below_of_ext hw1
    replace hS := hS.below hw1
    clear c3 c4
    have c3 := hS.c3
    have c4 := hS.c4
    have f4 := hS.f4
    have HB1 := hB0 hw1
    go_wp2
    go_region_with (go_at_call 47; refine (count_any _ _ hm64).mono ?_; rintro e w2 ⟨rfl, hw2⟩; have hw2' := hw2.symm; clear hw2; subst hw2')
    all_goals
      go_wp2
      go_ret
      exact ⟨ret_bool fin.out.1.symm, (HB1.setCell hlo _).drew, by rw [skipTo_on fin.out.1, ← fin.out.2]; exact (hS.tick _).below ((Below.refl _ _).drew), fun b hb hne => (Below.heap_setCell W1 _ _ b hne).trans (hw1.block b hb)⟩

end Go.Proofs.YtppbjmhllmaakaaGreatDoor
