/- One old block turns, new ones may come. -/
import Derived.Test.YtppbjmhllmaakaaGreatDoorX3
set_option linter.unusedVariables false
namespace Go.Proofs.YtppbjmhllmaakaaGreatDoor
open Go.RowKit

theorem one_refl (w : World) (x : Nat) : w.grownBy w (some x) := ⟨rfl, rfl, rfl, Nat.le_refl _, fun _ _ _ => rfl⟩
theorem one_below {w w1 w2 : World} {x B : Nat} (h : w.grownBy w1 (some x)) (k : Below B w1 w2) (hB : w.heap.size ≤ B) : w.grownBy w2 (some x) :=
  ⟨k.os.trans h.os, k.tape.trans h.tape, k.output.trans h.output, Nat.le_trans h.size k.size, fun b hb hne => (k.block b (by omega)).trans (h.block b hb hne)⟩
theorem one_row {w w1 w2 : World} {x : Nat} {row : Option Nat} (h : w.grownBy w1 (some x)) (k : w1.grownBy w2 row) (hr : ∀ b, row = some b → b = x ∨ w.heap.size ≤ b) : w.grownBy w2 (some x) :=
  ⟨k.os.trans h.os, k.tape.trans h.tape, k.output.trans h.output, Nat.le_trans h.size k.size, fun b hb hne => (k.block b (Nat.lt_of_lt_of_le hb h.size) (fun e => by
    rcases hr b e.symm with h1 | h1
    · exact hne (by rw [h1])
    · omega)).trans (h.block b hb hne)⟩
theorem one_set {w w1 : World} {x : Nat} (h : w.grownBy w1 (some x)) (j : Nat) (v : Value) : w.grownBy (w1.setCell ⟨x, j, none⟩ v) (some x) :=
  ⟨h.os, h.tape, h.output, by simpa using h.size, fun b hb hne => (Below.heap_setCell w1 ⟨x, j, none⟩ v b (fun e => hne (by rw [e]))).trans (h.block b hb hne)⟩
theorem Arr.one {α : Type} [Cd α] {w w' : World} {x : Nat} {S : Nat → Prop} {A : Option Addr} {l : List α} (h : Arr w S A l) (hg : w.grownBy w' (some x)) (hS : ∀ b, S b → b ≠ x) : Arr w' S A l :=
  h.keep fun b hs hlt => ⟨hs, hg.block b hlt (fun e => hS b hs (Option.some.inj e))⟩
theorem one_to_below {B x : Nat} {w0 w w' : World} (h : Below B w0 w) (hg : w.grownBy w' (some x)) (hB : B ≤ w.heap.size) (hx : B ≤ x) : Below B w0 w' := Below.grown h hg hB (fun b e => by cases e; exact hx)

end Go.Proofs.YtppbjmhllmaakaaGreatDoor
