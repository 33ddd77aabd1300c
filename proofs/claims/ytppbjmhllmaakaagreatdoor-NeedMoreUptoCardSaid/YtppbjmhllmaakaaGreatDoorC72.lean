/- Contract: NeedNot. -/
import Derived.Test.YtppbjmhllmaakaaGreatDoorC70
set_option linter.unusedVariables false
namespace Go.Proofs.YtppbjmhllmaakaaGreatDoor
open Go.RowKit

/-- A struct that is an argument. -/
theorem Opens.argS {P : Program} {t : TypeId} {α : Type} [Cd α] (hO : Opens P t α) {H : Type} {enc : TypeId × Value → H} {w : World} {base : Nat} {sp : Nat → Bool} {held : Bool} {cs : Array Value} {d : DataW H} {ps : List MemPlace}
    (h : DataW.Trod enc P w base sp held t (.agg cs) d ps) (hw : (d.weights P t).all (· ≤ reachBytes) = true) : ∃ (a : α) (va : List Value), cs = va.toArray ∧ Cd.rep w (fun _ => True) a va := by
  obtain ⟨n, hn⟩ := h
  obtain ⟨a, ha⟩ := hO enc w base sp held n _ _ hn hw
  exact ⟨a, cs.toList, by simp, ha⟩

set_option maxHeartbeats 0 in
set_option maxRecDepth 100000 in
theorem needNot_any (c : Clause) (va : List Value) (l : List Pkg) (B : Option Addr) (cb : Nat) (S T : Nat → Prop) (w : World) (h : Cd.rep w S c va) (hB : Arr w T B l) (hN : LaidN w) :
    Calls Tryz.prog 7 #[.agg va.toArray, .slice B l.length cb] w fun e w' => e = .returned (.bool true) ∧ Below w.heap.size w w' := by
  obtain ⟨neg, any⟩ := c
  obtain ⟨A, ca, rfl, hA⟩ := h
  change Arr w S A any at hA
  have hbl := hB.len
  have hal := hA.len
  obtain ⟨mt, hmt⟩ : ∃ mt, Hid ((l.any fun p => any.any fun n => meets n p) = mt) := ⟨_, Lib.hid rfl⟩
  have hcc := Lib.hid (fun (b : Bool) (W : World) (X : Ext) (h : Below w.heap.size w (W.ext X)) => met_any ⟨b, any⟩ l [.bool b, .slice A any.length ca] B cb S T (W.ext X) ⟨A, ca, rfl, hA.below h⟩ (hB.below h))
  have hmb : Hid (∀ b, met ⟨b, any⟩ l = (mt != b)) := Lib.hid (fun b => by unfold met; rw [hmt.out])
  replace hcc : Hid (∀ (b : Bool) (W : World) (X : Ext) (h : Below w.heap.size w (W.ext X)), Calls Tryz.prog 26 #[.agg #[.bool b, .slice A any.length ca], .slice B l.length cb] (W.ext X) fun e w' => e = .returned (.bool (mt != b)) ∧ Below (W.ext X).heap.size (W.ext X) w') := Lib.hid (fun b W X h => by
    have := hcc.out b W X h
    rw [hmb.out b] at this
    exact this)
  have r0 : (w.alloc (.cells #[.bool neg, .slice A any.length ca] 48)).cell? ⟨w.heap.size, 0, none⟩ = some (.bool neg) := laid_new
  have r1 : (w.alloc (.cells #[.bool neg, .slice A any.length ca] 48)).cell? ⟨w.heap.size, 1, none⟩ = some (.slice A any.length ca) := laid_new
  have hB0 : Below w.heap.size w (w.alloc (.cells #[.bool neg, .slice A any.length ca] 48)) := (Below.refl _ _).alloc (Nat.le_refl _) _
  have zz : w.heap.size < (w.alloc (.cells #[.bool neg, .slice A any.length ca] 48)).heap.size := by simp
  go_enter Tryz.func7, Tryz.ntmps7
  go_wp2_with fail
  refine (works18_any _ (hN.below hB0)).mono ?_
  change ∀ _ _, _
  generalize w.alloc (.cells #[.bool neg, .slice A any.length ca] 48) = W0 at *
  rintro e w1 ⟨rfl, hw1⟩
  have B1 := Below.trans0 hB0 hw1 hB0.size
  replace r0 := (World.cell?_of_block (hw1.block _ zz)).trans r0
  replace r1 := (World.cell?_of_block (hw1.block _ zz)).trans r1
  have zw1 : w.heap.size < w1.heap.size := World.block_lt_of_cell? _ _ r0
  cases neg
  · have y0 : (w1.alloc (.cells #[.bool true, .slice A any.length ca] 48)).cell? ⟨w1.heap.size, 0, none⟩ = some (.bool true) := laid_new
    have y1 : (w1.alloc (.cells #[.bool true, .slice A any.length ca] 48)).cell? ⟨w1.heap.size, 1, none⟩ = some (.slice A any.length ca) := laid_new
    have x0 : (w1.alloc (.cells #[.bool true, .slice A any.length ca] 48)).cell? ⟨w.heap.size, 0, none⟩ = some (.bool false) := (laid_old zw1).trans r0
    have x1 : (w1.alloc (.cells #[.bool true, .slice A any.length ca] 48)).cell? ⟨w.heap.size, 1, none⟩ = some (.slice A any.length ca) := (laid_old zw1).trans r1
    have B2 : Below w.heap.size w (w1.alloc (.cells #[.bool true, .slice A any.length ca] 48)) := B1.alloc B1.size _
    have hb0 : w.heap.size < (w1.alloc (.cells #[.bool true, .slice A any.length ca] 48)).heap.size := World.block_lt_of_cell? _ _ x0
    have hb1 : w1.heap.size < (w1.alloc (.cells #[.bool true, .slice A any.length ca] 48)).heap.size := World.block_lt_of_cell? _ _ y0
    go_wp2
    clear r0 r1
    generalize (w1.alloc (.cells #[.bool true, .slice A any.length ca] 48)) = W2 at *
    have hin : ∀ X : Ext, Below w.heap.size w (W2.ext X) := fun X => Below.trans0 B2 (ext_below _ _) B2.size
    refine region_quiet (by kernel_rfl) (by kernel_rfl) ?_
    repeat (go_big_quiet_step ((go_at_call 26; exact call_quiet (hcc.out _ W2 _ (hin _)))))
    refine wpQuiet_nil ?_
    intro W3 hw3
    replace hw3 := below_of_ext hw3
    cases mt
    all_goals
      go_wp2
      go_ret
      exact ⟨rfl, Below.trans0 B2 hw3 B2.size⟩
  · have y0 : (w1.alloc (.cells #[.bool false, .slice A any.length ca] 48)).cell? ⟨w1.heap.size, 0, none⟩ = some (.bool false) := laid_new
    have y1 : (w1.alloc (.cells #[.bool false, .slice A any.length ca] 48)).cell? ⟨w1.heap.size, 1, none⟩ = some (.slice A any.length ca) := laid_new
    have x0 : (w1.alloc (.cells #[.bool false, .slice A any.length ca] 48)).cell? ⟨w.heap.size, 0, none⟩ = some (.bool true) := (laid_old zw1).trans r0
    have x1 : (w1.alloc (.cells #[.bool false, .slice A any.length ca] 48)).cell? ⟨w.heap.size, 1, none⟩ = some (.slice A any.length ca) := (laid_old zw1).trans r1
    have B2 : Below w.heap.size w (w1.alloc (.cells #[.bool false, .slice A any.length ca] 48)) := B1.alloc B1.size _
    have hb0 : w.heap.size < (w1.alloc (.cells #[.bool false, .slice A any.length ca] 48)).heap.size := World.block_lt_of_cell? _ _ x0
    have hb1 : w1.heap.size < (w1.alloc (.cells #[.bool false, .slice A any.length ca] 48)).heap.size := World.block_lt_of_cell? _ _ y0
    go_wp2
    clear r0 r1
    generalize (w1.alloc (.cells #[.bool false, .slice A any.length ca] 48)) = W2 at *
    have hin : ∀ X : Ext, Below w.heap.size w (W2.ext X) := fun X => Below.trans0 B2 (ext_below _ _) B2.size
    refine region_quiet (by kernel_rfl) (by kernel_rfl) ?_
    repeat (go_big_quiet_step ((go_at_call 26; exact call_quiet (hcc.out _ W2 _ (hin _)))))
    refine wpQuiet_nil ?_
    intro W3 hw3
    replace hw3 := below_of_ext hw3
    cases mt
    all_goals
      go_wp2
      go_ret
      exact ⟨rfl, Below.trans0 B2 hw3 B2.size⟩

end Go.Proofs.YtppbjmhllmaakaaGreatDoor
