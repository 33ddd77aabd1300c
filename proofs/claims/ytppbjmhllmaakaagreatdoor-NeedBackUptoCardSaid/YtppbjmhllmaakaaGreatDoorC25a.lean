/- Slices of elements without slices of their own: appends in a region that draws. -/
import Derived.Test.YtppbjmhllmaakaaGreatDoorC16
set_option linter.unusedVariables false
namespace Go.Proofs.YtppbjmhllmaakaaGreatDoor
open Go.RowKit

/-- Elements without slices of their own. -/
class Flat (α : Type) [Cd α] : Prop where
  any : ∀ {w w' : World} {S S' : Nat → Prop} {x : α} {vs : List Value}, Cd.rep w S x vs → Cd.rep w' S' x vs
instance : Flat ByteArray := ⟨fun h => h⟩
instance : Flat Int := ⟨fun h => h⟩
theorem run_own_flat {α : Type} [Cd α] [Flat α] {P : Program} {w : World} (t ty : TypeId) (base : Nat) (e : TypeId) (hE : ElemT P t e (Cd.n α) (Cd.bytes α)) (S S2 : Nat → Prop) (v : Value) (l : List α) (hown : Own w base e S v l)
    (A : Option Addr) (c : Nat) (r : List α) (hsrc : Arr w S2 A r)
    (hbytes : (l.length + r.length) * Cd.bytes α ≤ 140737488355328) (hlen : l.length + r.length ≤ 9223372036854775807) (hbase : base ≤ w.heap.size) :
    ∃ v' w', (Builtin.append_ #[t, t] ty #[v, .slice A r.length c]).run P w = .ok v' w' ∧ Own w' base e S v' (l ++ r) ∧ w.grownBy w' v.ownBlock ∧ (v'.ownBlock = v.ownBlock ∨ v'.ownBlock = some w.heap.size) := by
  cases r with
  | nil =>
    obtain ⟨i, z, hi, _⟩ := hE.info
    have hown' := hown
    obtain ⟨xs, h1, _⟩ := hown
    exact ⟨v, w, run_app_none (P := P) (w := w) base t ty e i _ hE.ht hi v l.length xs h1 A c, by rw [List.append_nil]; exact hown', ⟨rfl, rfl, rfl, Nat.le_refl _, fun _ _ _ => rfl⟩, .inl rfl⟩
  | cons y r =>
    obtain ⟨b, ofs, rfl, _⟩ := hsrc.lt (by simp)
    obtain ⟨xs, h1, h2⟩ := hown
    obtain ⟨news, k1, k2, k3⟩ := hsrc.src
    obtain ⟨i, z, hi, hz, hz1, hz2, hz3⟩ := hE.info
    obtain ⟨v', w', g0, g1, g2, _, g4⟩ := run_append_own_at (P := P) w base t ty e i z (Cd.n α) (Cd.bytes α) hE.ht hi hz hz1 hz2 hz3 Cd.pos v l.length xs h1 ⟨b, ofs, none⟩ (y :: r).length c news k1.1 k2 k3 (by unfold maxLen; omega) hbytes hbase
    exact ⟨v', w', g0, ⟨xs ++ news, by rw [List.length_append]; exact g1, (h2.mono fun y vs h => Flat.any h).append (k1.mono fun y vs h => Flat.any h)⟩, g2, g4⟩
/-- append, of elements without slices of their own, as one step of a region that draws its order. -/
theorem step_own_flat {α : Type} [Cd α] [Flat α] {P : Program} {w : World} {ops : Array Oper} {o : Oper} {a : Act} {K : Act → World → Prop} {Q : Exit → Act → World → Prop} {E : Prop} (hgd : o.guard = none) (s x : Operand) (t : TypeId)
    (ho : o.op = .call { callee := .builtin .append, args := #[s, x], argTypes := #[t, t] })
    (base : Nat) (e : TypeId) (hE : ElemT P t e (Cd.n α) (Cd.bytes α)) (S S2 : Nat → Prop) (v : Value) (l : List α) (hs : a.eval s = v) (hown : Own w base e S v l)
    (A : Option Addr) (c : Nat) (r : List α) (hx : a.eval x = .slice A r.length c) (hsrc : Arr w S2 A r)
    (hbytes : (l.length + r.length) * Cd.bytes α ≤ 140737488355328) (hlen : l.length + r.length ≤ 9223372036854775807) (hbase : base ≤ w.heap.size)
    (h : ∀ v' w', Own w' base e S v' (l ++ r) → w.grownBy w' v.ownBlock → (v'.ownBlock = v.ownBlock ∨ v'.ownBlock = some w.heap.size) → K (a.put o.dst v') w') :
    if Region.wanted o (yielded ops a.tmps) = true then Oper.wp P o a w K Q else E := by
  have hw : Region.wanted o (yielded ops a.tmps) = true := by simp [Region.wanted, hgd]
  rw [if_pos hw]
  obtain ⟨v', w', hrun, h1, h2, h3⟩ := run_own_flat (P := P) t o.type base e hE S S2 v l hown A c r hsrc hbytes hlen hbase
  unfold Oper.wp
  simp [execOp, ho, resolve, invoke, builtin, hs, hx, hrun, Result.andThen]
  exact h v' w' h1 h2 h3
theorem own_empty {α : Type} [Cd α] {w : World} {base g : Nat} {e : TypeId} {S : Nat → Prop} (hg : w.heap[g]? = some (.cells #[] e (0, 0))) (hb : base ≤ g) : Own w base e S (.slice (some ⟨g, 0, none⟩) 0 0) ([] : List α) :=
  ⟨[], ⟨by simp, .inr ⟨g, 0, #[], rfl, hb, hg, Nat.zero_le _, by simp [maxLen], by simp, by simp⟩⟩, Chunks.nil _ _⟩
theorem Own.base {α : Type} [Cd α] {w : World} {base base' : Nat} {e : TypeId} {S : Nat → Prop} {v : Value} {l : List α} (h : Own w base e S v l) (hb : base' ≤ base) : Own w base' e S v l := by
  obtain ⟨xs, h1, h2⟩ := h
  refine ⟨xs, ⟨h1.1, ?_⟩, h2⟩
  rcases h1.2 with h0 | ⟨g, cap, cur, hv, hg, hr⟩
  · exact .inl h0
  · exact .inr ⟨g, cap, cur, hv, Nat.le_trans hb hg, hr⟩
theorem own_form3 {α : Type} [Cd α] {w : World} {base : Nat} {e : TypeId} {S : Nat → Prop} {v : Value} {l : List α} (h : Own w base e S v l) : v = .slice none 0 0 ∨ ∃ g cap, v = .slice (some ⟨g, 0, none⟩) l.length cap ∧ l.length ≤ cap := by
  obtain ⟨xs, h1, h2⟩ := h
  rcases h1.2 with ⟨rfl, _⟩ | ⟨g, cap, cur, rfl, _, _, hc, _⟩
  · exact .inl rfl
  · exact .inr ⟨g, cap, rfl, hc⟩
theorem he1 (w : World) {W : World} (t : TypeId) (h : W.heap = (w.alloc (.cells #[] t)).heap) : W.heap[w.heap.size]? = some (.cells #[] t (0, 0)) := by
  rw [h]; exact (MapKept.heap_alloc w _).1
theorem he2 (w : World) {W : World} (t : TypeId) {o : Obj} (h : W.heap = ((w.alloc (.cells #[] t)).alloc o).heap) : W.heap[w.heap.size]? = some (.cells #[] t (0, 0)) := by
  rw [h]; exact ((MapKept.heap_alloc (w.alloc (.cells #[] t)) o).2 _ (by simp)).trans (MapKept.heap_alloc w _).1
theorem he3 (w : World) {W : World} (t : TypeId) {o : Obj} (h : W.heap = ((w.alloc o).alloc (.cells #[] t)).heap) : W.heap[w.heap.size + 1]? = some (.cells #[] t (0, 0)) := by
  rw [h]
  have e1 : (w.alloc o).heap.size = w.heap.size + 1 := by simp
  rw [← e1]; exact (MapKept.heap_alloc (w.alloc o) _).1
theorem g1a {w w9 : World} {o1 : Obj} {x : Value} {e : TypeId} {row : Option Nat} (hg : ((w.alloc o1).alloc (.cells #[x] e)).grownBy w9 row) (hr : row ≠ some (w.heap.size + 1)) : w9.cell? ⟨w.heap.size + 1, 0, none⟩ = some x :=
  have e1 : (w.alloc o1).heap.size = w.heap.size + 1 := by simp
  grown_cell hg (by rw [← e1]; simp) hr
theorem g1ad {w w9 : World} {o1 : Obj} {x : Value} {e : TypeId} {row : Option Nat} (hg : ((w.alloc o1).alloc (.cells #[x] e)).drew.grownBy w9 row) (hr : row ≠ some (w.heap.size + 1)) : w9.cell? ⟨w.heap.size + 1, 0, none⟩ = some x :=
  have e1 : (w.alloc o1).heap.size = w.heap.size + 1 := by simp
  grown_cell hg (by rw [World.cell?_drew, ← e1]; simp) hr
theorem g1b {w w9 : World} {o1 : Obj} {x : Value} {e : TypeId} {row : Option Nat} (hg : ((w.alloc (.cells #[x] e)).alloc o1).grownBy w9 row) (hr : row ≠ some w.heap.size) : w9.cell? ⟨w.heap.size, 0, none⟩ = some x :=
  grown_cell hg (by simp) hr
theorem g1bd {w w9 : World} {o1 : Obj} {x : Value} {e : TypeId} {row : Option Nat} (hg : ((w.alloc (.cells #[x] e)).alloc o1).drew.grownBy w9 row) (hr : row ≠ some w.heap.size) : w9.cell? ⟨w.heap.size, 0, none⟩ = some x :=
  grown_cell hg (by rw [World.cell?_drew]; simp) hr
theorem arr_text1 {w : World} {S : Nat → Prop} {b : Nat} {x : ByteArray} (hS : S b) (hx : x.size ≤ reach) (h0 : w.cell? ⟨b, 0, none⟩ = some (.string x)) : Arr w S (some ⟨b, 0, none⟩) [x] := by
  refine ⟨by change 1 * 16 ≤ _; unfold reach; omega, by simp, fun _ => ⟨b, 0, rfl, hS, fun i y hi => ?_⟩⟩
  match i, hi with
  | 0, hi =>
    cases hi
    refine ⟨[.string x], ⟨rfl, hx⟩, fun j v hj => ?_⟩
    match j, hj with
    | 0, hj => cases hj; exact h0

end Go.Proofs.YtppbjmhllmaakaaGreatDoor
