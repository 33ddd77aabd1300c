/- The search's state in memory: its struct, and what it owns. -/
import Derived.Test.YtppbjmhllmaakaaGreatDoorX11
set_option linter.unusedVariables false
namespace Go.Proofs.YtppbjmhllmaakaaGreatDoor
open Go.RowKit

theorem Chunks.take {α : Type} {R : α → List Value → Prop} {n m : Nat} {l : List α} {xs : List Value} (h : Chunks R n l xs) (hm : m ≤ l.length) : Chunks R n (l.take m) (xs.take (m * n)) := by
  have hle : m * n ≤ l.length * n := Nat.mul_le_mul_right n hm
  refine ⟨by rw [List.length_take, List.length_take, h.1, Nat.min_eq_left hle, Nat.min_eq_left hm], fun i y hi => ?_⟩
  rw [List.getElem?_take] at hi
  split at hi
  · rename_i hlt
    have h2 := h.2 i y hi
    have : i * n + n ≤ m * n := by rw [← Nat.succ_mul]; exact Nat.mul_le_mul_right n hlt
    rw [List.drop_take, List.take_take, Nat.min_eq_left (by omega)]
    exact h2
  · cases hi
/-- The first part of a slice of one's own. -/
theorem Own.cut {α : Type} [Cd α] {w : World} {base : Nat} {e : TypeId} {S : Nat → Prop} {g : Nat} {l : List α} {n cap m : Nat} (h : Own w base e S (.slice (some ⟨g, 0, none⟩) n cap) l) (hm : m ≤ l.length) : Own w base e S (.slice (some ⟨g, 0, none⟩) m cap) (l.take m) := by
  obtain ⟨xs, h1, h2⟩ := h
  rcases h1.2 with ⟨h0, _⟩ | ⟨g', cap', cur, hv, hg, hh, hc, hx, hs, ht⟩
  · cases h0
  · cases hv
    have hl : (l.take m).length = m := by rw [List.length_take, Nat.min_eq_left hm]
    have hle : m * Cd.n α ≤ l.length * Cd.n α := Nat.mul_le_mul_right _ hm
    refine ⟨xs.take (m * Cd.n α), ⟨?_, .inr ⟨g, cap, cur, by rw [hl], hg, hh, by omega, hx, hs, ?_⟩⟩, h2.take hm⟩
    · rw [hl, List.length_take, h1.1, Nat.min_eq_left hle]
    · rw [hl, ← ht, List.take_take, Nat.min_eq_left hle]

theorem Arr.belowK {α : Type} [Cd α] {B : Nat} {w w' : World} {S : Nat → Prop} {A : Option Addr} {l : List α} (h : Arr w S A l) (hb : Below B w w') (hS : ∀ b, S b → b < B) : Arr w' S A l :=
  h.keep fun b hb1 hlt => ⟨hb1, hb.block b (hS b hb1)⟩

/-- What the search works on: it doesn't change. -/
structure Work where
  cat : List Pkg
  hv : List Int
  want : List Clause
  budget : Int
  A : Option Addr
  ca : Nat
  B : Option Addr
  cb : Nat
  C : Option Addr
  cc : Nat
/-- The search's struct in block bs, the slice v of its own (in blocks from h1 on), which reads as l; all that came in lies below h0. -/
structure Srch (w : World) (h0 h1 : Nat) (e : TypeId) (bs : Nat) (k : Work) (steps : Int) (v : Value) (l : List Int) : Prop where
  lo : h0 ≤ bs
  hi : bs < h1
  le : h1 ≤ w.heap.size
  c0 : w.cell? ⟨bs, 0, none⟩ = some (.slice k.A k.cat.length k.ca)
  c1 : w.cell? ⟨bs, 1, none⟩ = some (.slice k.B k.hv.length k.cb)
  c2 : w.cell? ⟨bs, 2, none⟩ = some (.slice k.C k.want.length k.cc)
  c3 : w.cell? ⟨bs, 3, none⟩ = some (.int .i64 k.budget)
  c4 : w.cell? ⟨bs, 4, none⟩ = some (.int .i64 steps)
  c5 : w.cell? ⟨bs, 5, none⟩ = some v
  f4 : w.frozen? ⟨bs, 4, none⟩ = false
  f5 : w.frozen? ⟨bs, 5, none⟩ = false
  own : Own w h1 e (fun _ => False) v l
  ac : Arr w (fun b => b < h0) k.A k.cat
  ah : Arr w (fun b => b < h0) k.B k.hv
  aw : Arr w (fun b => b < h0) k.C k.want
theorem Srch.lt {w : World} {h0 h1 : Nat} {e : TypeId} {bs : Nat} {k : Work} {steps : Int} {v : Value} {l : List Int} (h : Srch w h0 h1 e bs k steps v l) : bs < w.heap.size := Nat.lt_of_lt_of_le h.hi h.le
/-- Only new blocks. -/
theorem Srch.below {w w' : World} {h0 h1 : Nat} {e : TypeId} {bs : Nat} {k : Work} {steps : Int} {v : Value} {l : List Int} (h : Srch w h0 h1 e bs k steps v l) (hb : Below w.heap.size w w') : Srch w' h0 h1 e bs k steps v l := by
  have hc : ∀ j, w'.cell? ⟨bs, j, none⟩ = w.cell? ⟨bs, j, none⟩ := fun j => World.cell?_of_block (hb.block bs h.lt)
  have hf : ∀ j, w'.frozen? ⟨bs, j, none⟩ = w.frozen? ⟨bs, j, none⟩ := fun j => World.frozen?_of_block (hb.block bs h.lt)
  exact ⟨h.lo, h.hi, Nat.le_trans h.le hb.size, (hc 0).trans h.c0, (hc 1).trans h.c1, (hc 2).trans h.c2, (hc 3).trans h.c3, (hc 4).trans h.c4, (hc 5).trans h.c5, (hf 4).trans h.f4, (hf 5).trans h.f5, h.own.below hb, h.ac.below hb, h.ah.below hb, h.aw.below hb⟩

/-- A store into another block (a box of the search's). -/
theorem Srch.box {w : World} {h0 h1 : Nat} {e : TypeId} {bs : Nat} {k : Work} {steps : Int} {v : Value} {l : List Int} (h : Srch w h0 h1 e bs k steps v l) {b : Nat} (u : Value) (h0b : h0 ≤ b) (hb1 : b < h1) (hne : b ≠ bs) : Srch (w.setCell ⟨b, 0, none⟩ u) h0 h1 e bs k steps v l := by
  have hc : ∀ j, (w.setCell ⟨b, 0, none⟩ u).cell? ⟨bs, j, none⟩ = w.cell? ⟨bs, j, none⟩ := fun j => World.cell?_setCell_other _ _ _ _ (by intro e; injection e with e1 e2; exact hne e1)
  have ar : ∀ b', b' < h0 → b' < w.heap.size → b' < h0 ∧ (w.setCell ⟨b, 0, none⟩ u).heap[b']? = w.heap[b']? := fun b' hb' _ => ⟨hb', Below.heap_setCell w _ u b' (by simp only; omega)⟩
  exact ⟨h.lo, h.hi, by simpa using h.le, (hc 0).trans h.c0, (hc 1).trans h.c1, (hc 2).trans h.c2, (hc 3).trans h.c3, (hc 4).trans h.c4, (hc 5).trans h.c5, by simpa using h.f4, by simpa using h.f5, h.own.set _ _ hb1 (fun b h => h.elim), h.ac.keep ar, h.ah.keep ar, h.aw.keep ar⟩
/-- The steps are stored. -/
theorem Srch.tick {w : World} {h0 h1 : Nat} {e : TypeId} {bs : Nat} {k : Work} {steps : Int} {v : Value} {l : List Int} (h : Srch w h0 h1 e bs k steps v l) (s' : Int) : Srch (w.setCell ⟨bs, 4, none⟩ (.int .i64 s')) h0 h1 e bs k s' v l := by
  have hc : ∀ j, j ≠ 4 → (w.setCell ⟨bs, 4, none⟩ (.int .i64 s')).cell? ⟨bs, j, none⟩ = w.cell? ⟨bs, j, none⟩ := fun j hj => World.cell?_setCell_other _ _ _ _ (by intro e; apply hj; injection e with e1 e2; exact e2.symm)
  have ar : ∀ b', b' < h0 → b' < w.heap.size → b' < h0 ∧ (w.setCell ⟨bs, 4, none⟩ (.int .i64 s')).heap[b']? = w.heap[b']? := fun b' hb' _ => ⟨hb', Below.heap_setCell w _ _ b' (by have := h.lo; simp only; omega)⟩
  exact ⟨h.lo, h.hi, by simpa using h.le, (hc 0 (by omega)).trans h.c0, (hc 1 (by omega)).trans h.c1, (hc 2 (by omega)).trans h.c2, (hc 3 (by omega)).trans h.c3, World.cell?_setCell_same' _ _ _ (by rw [h.c4]; rfl), (hc 5 (by omega)).trans h.c5, by simpa using h.f4, by simpa using h.f5, h.own.set _ _ h.hi (fun b h => h.elim), h.ac.keep ar, h.ah.keep ar, h.aw.keep ar⟩
/-- What is in is stored: v' reads as l' already. -/
theorem Srch.put {w : World} {h0 h1 : Nat} {e : TypeId} {bs : Nat} {k : Work} {steps : Int} {v v' : Value} {l l' : List Int} (h : Srch w h0 h1 e bs k steps v l) (ho : Own w h1 e (fun _ => False) v' l') : Srch (w.setCell ⟨bs, 5, none⟩ v') h0 h1 e bs k steps v' l' := by
  have hc : ∀ j, j ≠ 5 → (w.setCell ⟨bs, 5, none⟩ v').cell? ⟨bs, j, none⟩ = w.cell? ⟨bs, j, none⟩ := fun j hj => World.cell?_setCell_other _ _ _ _ (by intro e; apply hj; injection e with e1 e2; exact e2.symm)
  have ar : ∀ b', b' < h0 → b' < w.heap.size → b' < h0 ∧ (w.setCell ⟨bs, 5, none⟩ v').heap[b']? = w.heap[b']? := fun b' hb' _ => ⟨hb', Below.heap_setCell w _ _ b' (by have := h.lo; simp only; omega)⟩
  exact ⟨h.lo, h.hi, by simpa using h.le, (hc 0 (by omega)).trans h.c0, (hc 1 (by omega)).trans h.c1, (hc 2 (by omega)).trans h.c2, (hc 3 (by omega)).trans h.c3, (hc 4 (by omega)).trans h.c4, World.cell?_setCell_same' _ _ _ (by rw [h.c5]; rfl), by simpa using h.f4, by simpa using h.f5, ho.set _ _ h.hi (fun b h => h.elim), h.ac.keep ar, h.ah.keep ar, h.aw.keep ar⟩

/-- After an append: the state without what is owned. -/
theorem Srch.grown {w w' : World} {h0 h1 : Nat} {e : TypeId} {bs : Nat} {k : Work} {steps : Int} {v v' : Value} {l l' : List Int} (h : Srch w h0 h1 e bs k steps v l) {row : Option Nat} (hg : w.grownBy w' row) (hr : ∀ b, row = some b → h1 ≤ b) (ho : Own w' h1 e (fun _ => False) v' l') : Srch (w'.setCell ⟨bs, 5, none⟩ v') h0 h1 e bs k steps v' l' := by
  have hne : some bs ≠ row := fun e => by have := hr bs e.symm; have := h.hi; omega
  have hc : ∀ j, w'.cell? ⟨bs, j, none⟩ = w.cell? ⟨bs, j, none⟩ := fun j => World.cell?_of_block (hg.block bs h.lt hne)
  have hf : ∀ j, w'.frozen? ⟨bs, j, none⟩ = w.frozen? ⟨bs, j, none⟩ := fun j => World.frozen?_of_block (hg.block bs h.lt hne)
  have hcc : ∀ j, j ≠ 5 → (w'.setCell ⟨bs, 5, none⟩ v').cell? ⟨bs, j, none⟩ = w.cell? ⟨bs, j, none⟩ := fun j hj => (World.cell?_setCell_other _ _ _ _ (by intro e; apply hj; injection e with e1 e2; exact e2.symm)).trans (hc j)
  have ar : ∀ b', b' < h0 → b' < w.heap.size → b' < h0 ∧ (w'.setCell ⟨bs, 5, none⟩ v').heap[b']? = w.heap[b']? := fun b' hb' hlt => ⟨hb', (Below.heap_setCell w' _ _ b' (by have := h.lo; simp only; omega)).trans (hg.block b' hlt (fun e => by have := hr b' e.symm; have := h.lo; have := h.hi; omega))⟩
  exact ⟨h.lo, h.hi, by simpa using Nat.le_trans h.le hg.size, (hcc 0 (by omega)).trans h.c0, (hcc 1 (by omega)).trans h.c1, (hcc 2 (by omega)).trans h.c2, (hcc 3 (by omega)).trans h.c3, (hcc 4 (by omega)).trans h.c4, World.cell?_setCell_same' _ _ _ (by rw [hc 5, h.c5]; rfl), by simpa using (hf 4).trans h.f4, by simpa using (hf 5).trans h.f5, ho.set _ _ h.hi (fun b h => h.elim), h.ac.keep ar, h.ah.keep ar, h.aw.keep ar⟩

/-! ### Boxes that were laid one behind the other -/
theorem laid_old {w : World} {o : Obj} {b j : Nat} (h : b < w.heap.size) : (w.alloc o).cell? ⟨b, j, none⟩ = w.cell? ⟨b, j, none⟩ := World.cell?_of_block (Below.heap_alloc w o b h)
theorem laid_new {w : World} {xs : Array Value} {t : TypeId} {j : Nat} : (w.alloc (.cells xs t)).cell? ⟨w.heap.size, j, none⟩ = xs[j]? := by simp
theorem size_alloc (w : World) (o : Obj) : (w.alloc o).heap.size = w.heap.size + 1 := by simp
theorem three0 {w : World} {xs : Array Value} {t : TypeId} {o2 o3 : Obj} {j : Nat} : (((w.alloc (.cells xs t)).alloc o2).alloc o3).cell? ⟨w.heap.size, j, none⟩ = xs[j]? :=
  (laid_old (by rw [size_alloc, size_alloc]; omega)).trans ((laid_old (by rw [size_alloc]; omega)).trans laid_new)
theorem three1 {w : World} {xs : Array Value} {t : TypeId} {o1 o3 : Obj} {j : Nat} : (((w.alloc o1).alloc (.cells xs t)).alloc o3).cell? ⟨w.heap.size + 1, j, none⟩ = xs[j]? := by
  rw [← size_alloc w o1]
  exact (laid_old (by rw [size_alloc (w.alloc o1)]; omega)).trans laid_new
theorem three2 {w : World} {xs : Array Value} {t : TypeId} {o1 o2 : Obj} {j : Nat} : (((w.alloc o1).alloc o2).alloc (.cells xs t)).cell? ⟨w.heap.size + 1 + 1, j, none⟩ = xs[j]? := by
  rw [← size_alloc w o1, ← size_alloc _ o2]
  exact laid_new

end Go.Proofs.YtppbjmhllmaakaaGreatDoor
