/- Contract: slices.DeleteFunc of ints, on a row of the caller's own. -/
import Derived.Test.YtppbjmhllmaakaaGreatDoorC25a
import Derived.Sort.OwnSortedInts
import Derived.Lib.SliceRun
set_option linter.unusedVariables false
namespace Go.Proofs.YtppbjmhllmaakaaGreatDoor
open Go.RowKit

/-- Block g is a row of ints of room cap; the first of them are l. -/
def RowI (w : World) (g cap : Nat) (l : List Int) : Prop :=
  ∃ cur : Array Value, w.heap[g]? = some (.cells cur 3 (0, 0)) ∧ l.length ≤ cap ∧ cap ≤ maxLen ∧ cur.size = cap ∧ cur.toList.take l.length = l.map (Value.int .i64)
theorem RowI.lt {w : World} {g cap : Nat} {l : List Int} (h : RowI w g cap l) : g < w.heap.size := by
  obtain ⟨cur, h, _⟩ := h; exact (Array.getElem?_eq_some_iff.1 h).1
theorem RowI.at {w : World} {g cap : Nat} {l : List Int} (h : RowI w g cap l) (k : Nat) (hk : k < l.length) : w.cell? ⟨g, k, none⟩ = some (.int .i64 l[k]) ∧ w.frozen? ⟨g, k, none⟩ = false := by
  obtain ⟨cur, h1, h2, h3, h4, h5⟩ := h
  have := holds_of_blockI h1 h5 k (by simpa using hk)
  simpa [hk] using this
theorem RowI.below {w w' : World} {g cap B : Nat} {l : List Int} (h : RowI w g cap l) (hb : Below B w w') (hg : g < B) : RowI w' g cap l := by
  obtain ⟨cur, h1, h2⟩ := h
  exact ⟨cur, (hb.block g hg).trans h1, h2⟩
theorem RowI.take {w : World} {g cap : Nat} {l : List Int} (h : RowI w g cap l) (k : Nat) : RowI w g cap (l.take k) := by
  obtain ⟨cur, h1, h2, h3, h4, h5⟩ := h
  refine ⟨cur, h1, by simp; omega, h3, h4, ?_⟩
  rw [List.map_take, ← h5, List.take_take, List.length_take]
theorem RowI.set {w : World} {g cap : Nat} {l : List Int} (h : RowI w g cap l) (k : Nat) (hk : k < l.length) (x : Int) : RowI (w.setCell ⟨g, k, none⟩ (.int .i64 x)) g cap (l.set k x) := by
  obtain ⟨cur, h1, h2, h3, h4, h5⟩ := h
  refine ⟨cur.setIfInBounds k (.int .i64 x), ?_, by simpa using h2, h3, by simpa using h4, ?_⟩
  · rw [setCell_eq_setRow w g k cur 3 (0, 0) _ h1]
    exact setRow_heap w g cur _ 3 _ h1
  · rw [Array.toList_setIfInBounds, List.length_set, List.take_set, h5, List.map_set]
theorem RowI.arr {w : World} {g cap : Nat} {l : List Int} (h : RowI w g cap l) (S : Nat → Prop) (hS : S g) (hl : l.length * 8 ≤ reach) (hi : ∀ x ∈ l, In64 x) : Arr w S (some ⟨g, 0, none⟩) l := by
  refine ⟨hl, by unfold reach at hl; omega, fun _ => ⟨g, 0, rfl, hS, fun i x hx => ?_⟩⟩
  have hil : i < l.length := (List.getElem?_eq_some_iff.1 hx).1
  have hxe : l[i] = x := (List.getElem?_eq_some_iff.1 hx).2
  refine ⟨[.int .i64 x], ⟨rfl, hi x (hxe ▸ List.getElem_mem hil)⟩, fun j v hj => ?_⟩
  match j, hj with
  | 0, hj =>
    cases hj
    have := (h.at i hil).1
    rw [hxe] at this
    simpa [Cd.n] using this
theorem RowI.past {w : World} {g cap : Nat} {l : List Int} (h : RowI w g cap l) (k : Nat) (hk : l.length ≤ k) (v : Value) : RowI (w.setCell ⟨g, k, none⟩ v) g cap l := by
  obtain ⟨cur, h1, h2, h3, h4, h5⟩ := h
  refine ⟨cur.setIfInBounds k v, ?_, h2, h3, by simpa using h4, ?_⟩
  · rw [setCell_eq_setRow w g k cur 3 (0, 0) _ h1]
    exact setRow_heap w g cur _ 3 _ h1
  · rw [Array.toList_setIfInBounds, List.take_set_of_le hk, h5]
theorem RowI.pasts {g cap : Nat} {l : List Int} : ∀ (vs : List Value) {w : World} (k : Nat), RowI w g cap l → l.length ≤ k → RowI (w.setCells g k vs) g cap l
  | [], _, _, h, _ => h
  | v :: vs, w, k, h, hk => RowI.pasts vs (k + 1) (h.past k hk v) (by omega)
theorem gb_set (w : World) (g k : Nat) (v : Value) : w.grownBy (w.setCell ⟨g, k, none⟩ v) (some g) :=
  ⟨rfl, rfl, rfl, by simp, fun b _ hne => Below.heap_setCell w _ v b (fun e => hne (by rw [e]))⟩
theorem gb_trans {w w1 w2 : World} {x : Nat} (h : w.grownBy w1 (some x)) (k : w1.grownBy w2 (some x)) : w.grownBy w2 (some x) :=
  ⟨k.os.trans h.os, k.tape.trans h.tape, k.output.trans h.output, Nat.le_trans h.size k.size, fun b hb hne => (k.block b (Nat.lt_of_lt_of_le hb h.size) hne).trans (h.block b hb hne)⟩
theorem gb_sets (g : Nat) : ∀ (vs : List Value) (w : World) (k : Nat), w.grownBy (w.setCells g k vs) (some g)
  | [], w, _ => ⟨rfl, rfl, rfl, Nat.le_refl _, fun _ _ _ => rfl⟩
  | v :: vs, w, k => gb_trans (gb_set w g k v) (gb_sets g vs _ _)
theorem gb_of_below {w w1 : World} {x : Nat} (h : Below w.heap.size w w1) : w.grownBy w1 (some x) := ⟨h.os, h.tape, h.output, h.size, fun b hb _ => h.block b hb⟩
theorem below_gb {B g : Nat} {w0 w w' : World} (h : Below B w0 w) (hg : w.grownBy w' (some g)) (hB : B ≤ w.heap.size) (hBg : B ≤ g) : Below B w0 w' := Below.grown h hg hB (fun b e => by cases e; exact hBg)

/-- A function value that answers a predicate of ints, in whatever world that has the blocks below B as they were. -/
def PredB (f : FuncId) (cs : Array Value) (w : World) (B : Nat) (p : Int → Bool) : Prop :=
  ∀ x W, Below B w W → In64 x → Calls Tryz.prog f (#[.int .i64 x] ++ cs) W fun e w' => e = .returned (.bool (p x)) ∧ Below W.heap.size W w'

/-- Where DeleteFunc is: i kept, the first j looked at. -/
structure DelAt (p : Int → Bool) (l L : List Int) (i j : Nat) : Prop where
  len : L.length = l.length
  le : i ≤ j
  kept : L.take i = (l.take j).filter fun x => !p x
  rest : ∀ k, j ≤ k → L[k]? = l[k]?
theorem DelAt.no {p : Int → Bool} {l L : List Int} {i j : Nat} (h : DelAt p l L i j) (hj : j < l.length) (hp : p l[j] = true) : DelAt p l L i (j + 1) :=
  ⟨h.len, by have := h.le; omega, by rw [h.kept, ← List.take_append_getElem hj, List.filter_append]; simp [hp], fun k hk => h.rest k (by omega)⟩
theorem DelAt.yes {p : Int → Bool} {l L : List Int} {i j : Nat} (h : DelAt p l L i j) (hj : j < l.length) (hij : i < j) (hp : p l[j] = false) : DelAt p l (L.set i l[j]) (i + 1) (j + 1) := by
  have hlen := h.len
  refine ⟨by rw [List.length_set, hlen], by omega, ?_, fun k hk => ?_⟩
  · rw [← List.take_append_getElem (l := L.set i l[j]) (by rw [List.length_set]; omega), List.take_set_of_le (Nat.le_refl _), h.kept, ← List.take_append_getElem hj, List.filter_append]
    simp [hp]
  · rw [List.getElem?_set_ne (by omega)]
    exact h.rest k (by omega)

end Go.Proofs.YtppbjmhllmaakaaGreatDoor
