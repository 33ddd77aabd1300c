/- Parts of a slice; an append to a slice without room; without; plan.Broken's others. -/
import Derived.Test.YtppbjmhllmaakaaGreatDoorC15
set_option linter.unusedVariables false
namespace Go.Proofs.YtppbjmhllmaakaaGreatDoor
open Go.RowKit

/-- A part of a slice. -/
theorem Arr.part {α : Type} [Cd α] {w : World} {S : Nat → Prop} {b o : Nat} {l : List α} (h : Arr w S (some ⟨b, o, none⟩) l) (i j : Nat) (hij : i ≤ j) (hj : j ≤ l.length) :
    Arr w S (some ⟨b, o + i * Cd.n α, none⟩) ((l.drop i).take (j - i)) := by
  have hlen : ((l.drop i).take (j - i)).length = j - i := by simp; omega
  refine ⟨mul_bound h.1 (by rw [hlen]; omega), by rw [hlen]; have := h.len; omega, fun hpos => ?_⟩
  obtain ⟨b', o', e, _, hS⟩ := h.lt (by omega)
  cases e
  refine ⟨b, o + i * Cd.n α, rfl, hS, fun k x hk => ?_⟩
  have hkl : k < j - i := by rw [← hlen]; exact (List.getElem?_eq_some_iff.1 hk).1
  rw [List.getElem?_take, if_pos hkl, List.getElem?_drop] at hk
  have hlt : i + k < l.length := (List.getElem?_eq_some_iff.1 hk).1
  obtain ⟨b', o', vs, e, hr, hc⟩ := h.get (i + k) hlt
  cases e
  have hx : l[i + k] = x := (List.getElem?_eq_some_iff.1 hk).2
  refine ⟨vs, hx ▸ hr, fun m v hv => ?_⟩
  have := hc m v hv
  rwa [Nat.add_mul, ← Nat.add_assoc] at this

/-- append, to a slice without room, of the elements of a slice that is read (none, too). -/
theorem run_app_full {α : Type} [Cd α] {P : Program} {w : World} (t ty e : TypeId) (hE : ElemT P t e (Cd.n α) (Cd.bytes α)) (S : Nat → Prop) (b o : Nat) (l r : List α) (A : Option Addr) (c : Nat)
    (h1 : Arr w S (some ⟨b, o, none⟩) l) (h2 : Arr w S A r) (hbytes : (l.length + r.length) * Cd.bytes α ≤ reach) (hlen : l.length + r.length ≤ 9223372036854775807) :
    ∃ A' c' w', (Builtin.append_ #[t, t] ty #[.slice (some ⟨b, o, none⟩) l.length l.length, .slice A r.length c]).run P w = .ok (.slice A' (l ++ r).length c') w' ∧ Arr w' (Fr w S) A' (l ++ r) ∧ w.grownBy w' none := by
  obtain ⟨i, z, hi, hz, hz1, hz2, hz3⟩ := hE.info
  cases r with
  | nil =>
    refine ⟨some ⟨b, o, none⟩, l.length, w, ?_, by rw [List.append_nil]; exact h1.mono (fun b hb h => .inl ⟨h, hb⟩), ⟨rfl, rfl, rfl, Nat.le_refl _, fun _ _ _ => rfl⟩⟩
    cases A <;> simp [Builtin.append_, run_underlying hE.ht, sizeOf, typeInfo, hi, Builtin.lenOf, Builtin.firstCells, loadCells, loadCellsFrom, storeCells]
  | cons y r =>
    obtain ⟨b2, o2, rfl, _⟩ := h2.lt (by simp)
    obtain ⟨olds, j1, j2, j3⟩ := h1.src
    obtain ⟨news, k1, k2, k3⟩ := h2.old.src
    obtain ⟨v', w', g0, g1, g2⟩ := run_append_arg_grows (P := P) (w := w) t ty e i z (Cd.n α) (Cd.bytes α) hE.ht hi hz hz1 hz2 hz3 Cd.pos ⟨b, o, none⟩ l.length l.length olds j1.1 j2 ⟨b2, o2, none⟩ (y :: r).length c news k1.1 k2 (by simp) (by unfold maxLen; omega) (by have := hbytes; unfold reach at this; omega)
    have hown : Own w' w.heap.size e (fun b => S b ∧ b < w.heap.size) v' (l ++ y :: r) := by
      refine ⟨olds ++ news, by rw [List.length_append]; exact g1, ?_⟩
      have hge : ∀ k, v'.ownBlock = some k → w.heap.size ≤ k := by
        intro k hk
        rcases g1.2 with ⟨rfl, _⟩ | ⟨g, cap, cur, rfl, hg, _⟩
        · cases hk
        · cases hk; exact hg
      have conv : ∀ (y : α) vs, Cd.rep w (fun b => S b ∧ b < w.heap.size) y vs → Cd.rep w' (fun b => (S b ∧ b < w.heap.size) ∧ v'.ownBlock ≠ some b) y vs := fun y vs hr =>
        Cd.keep (fun b hS hlt => ⟨⟨hS, fun e => by have := hge b e; omega⟩, g2.block b hlt (by simp)⟩) hr
      exact (j1.mono fun y vs h => conv y vs (Cd.mono (fun b hb h => ⟨h, hb⟩) h)).append (k1.mono conv)
    obtain ⟨A2, c2, rfl, hr⟩ := hown.rep (S' := Fr w S) (fun b _ h => .inl h) (fun b h _ => .inr h) (by rw [List.length_append]; exact hbytes) (by rw [List.length_append]; exact hlen)
    exact ⟨A2, c2, w', g0, hr, g2⟩

set_option maxHeartbeats 2000000 in
set_option maxRecDepth 100000 in
theorem without_any (l : List Pkg) (k : Nat) (A : Option Addr) (ca : Nat) (S : Nat → Prop) (w : World) (h : Arr w S A l) (hk : k < l.length) (hcap : l.length ≤ ca) :
    Calls Tryz.prog 139 #[.slice A l.length ca, .int .i64 k] w fun e w' => Below w.heap.size w w' ∧ ∃ A' c', e = .returned (.slice A' (without l k).length c') ∧ Arr w' (Fr w S) A' (without l k) := by
  have hl := h.len
  have hby := h.1
  obtain ⟨b, o, rfl, hb, -⟩ := h.lt (by omega)
  have a1 : IntKind.i64.wrap ((k : Int) + 1) = (k : Int) + 1 := IntWalk.i64_in _ (by omega)
  have a2 : (0 : Int) ≤ (k : Int) + 1 := by omega
  have a3 : ((k : Int) + 1).toNat = k + 1 := by omega
  have a4 : (k : Int) + 1 ≤ l.length := by omega
  have a5 : (k : Int) ≤ ca := by omega
  have a6 : (l.length : Int) ≤ ca := by omega
  have a7 : (0 : Int) ≤ k := by omega
  have e1 : (l.take k).length = k := by simp; omega
  have e2 : (l.drop (k + 1)).length = l.length - (k + 1) := by simp
  have p1 : Arr w S (some ⟨b, o, none⟩) (l.take k) := by have := h.part 0 k (by omega) (by omega); simpa using this
  have p2 : Arr w S (some ⟨b, o + (k + 1) * 5, none⟩) (l.drop (k + 1)) := by have := h.part (k + 1) l.length (by omega) (by omega); rw [List.take_of_length_le (by simp)] at this; exact this
  have hown0 : Own ((w.alloc (.cells #[] 36)).drew) w.heap.size 36 (Fr w S) (.slice (some ⟨w.heap.size, 0, none⟩) 0 0) ([] : List Pkg) := (Own.made w _ _ _ (Nat.le_refl _)).below (Below.drew (Below.refl _ _))
  have hB0 : Below w.heap.size w ((w.alloc (.cells #[] 36)).drew) := by (repeat (first | exact Below.refl _ _ | assumption | (refine Below.setCell ?_ (by first | omega | (simp; done) | (simp; omega) | exact Below.size (by assumption)) _) | (refine Below.alloc ?_ (by first | omega | (simp; done) | (simp; omega) | exact Below.size (by assumption)) _) | refine Below.drew ?_ | refine Below.trans0 ?_ (by assumption)))
  have s1 : Arr ((w.alloc (.cells #[] 36)).drew) (fun b => Fr w S b ∧ (Value.slice (some ⟨w.heap.size, 0, none⟩) 0 0).ownBlock ≠ some b) (some ⟨b, o, none⟩) (l.take k) :=
    (p1.old.below hB0).mono (fun b _ h => ⟨.inl h, fun e => by have := ownBlock_eq e; have := h.2; omega⟩)
  have q1 : ((([] : List Pkg).length + (l.take k).length) * Cd.bytes Pkg ≤ 140737488355328) := by rw [e1]; exact app_bound hby (by simp; omega)
  have q2 : ([] : List Pkg).length + (l.take k).length ≤ 9223372036854775807 := by rw [e1]; simp; omega
  have q3 : w.heap.size ≤ ((w.alloc (.cells #[] 36)).drew).heap.size := hB0.size
  by_cases hca : ca = k + 1
  · subst hca
    have b1 : (k : Int) ≤ (k : Int) + 1 := by omega
    have b2 : (l.length : Int) ≤ (k : Int) + 1 := by omega
    have b3 : (0 : Int) ≤ (k : Int) + 1 := by omega
    have b4 : k ≤ k + 1 := by omega
    go_enter Tryz.func139, Tryz.ntmps139
    go_wp2
    go_region_law (first | (refine step_own_src rfl (.tmp 5) (.tmp 8) 22 rfl w.heap.size 36 elPkg (Fr w S) _ ([] : List Pkg) rfl hown0 (some ⟨b, o, none⟩) (k + 1) (l.take k) (by rw [e1]; rfl) s1 q1 q2 q3 ?_; intro v1 w1 hown1 hg1 hl1) | (have hB1 : Below w.heap.size w w1 := hB0.grown hg1 q3 (fun b e => by have := ownBlock_eq e; omega); have s2 : Arr w1 (fun b => Fr w S b ∧ v1.ownBlock ≠ some b) (some ⟨b, o, none⟩) (l.drop (k + 1)) := (by rw [List.drop_of_length_le (by omega)]; exact Arr.nil _ _ _); refine step_own_src rfl (.tmp 9) (.tmp 13) 22 rfl w.heap.size 36 elPkg (Fr w S) v1 ([] ++ l.take k) rfl (hown1.below (by first | exact Below.refl _ _ | exact Below.drew (Below.refl _ _))) (some ⟨b, o, none⟩) 0 (l.drop (k + 1)) (by first | (rw [e2]; rfl) | (rw [e2]; simp [Act.eval]; done) | (rw [e2]; simp [Act.eval]; omega)) (s2.below (by first | exact Below.refl _ _ | exact Below.drew (Below.refl _ _))) (by rw [List.nil_append, e1, e2]; exact app_bound hby (by omega)) (by rw [List.nil_append, e1, e2]; omega) hB1.size ?_; intro v2 w2 hown2 hg2 hl2))
    have hB2 : Below w.heap.size w w2 := by
      refine Below.grown (w' := w2) ?_ hg2 (by first | exact hB1.size) (fun b e => (hown1.block_ge _ e).1)
      first | exact hB1 | exact hB1.drew
    rw [List.nil_append] at hown2
    obtain ⟨A2, c2, e3, hr⟩ := hown2.rep (fun b _ h => h) (fun b h _ => .inr h) (by show (without l k).length * _ ≤ _; refine mul_bound hby ?_; simp [without]; omega) (by simp; omega)
    go_wp2
    go_ret
    exact ⟨hB2, A2, c2, by simp [without, e1, e2, go_sem]; rw [e3, List.length_append, e1, e2], hr⟩
  · have a8 : (k : Int) + 1 ≠ ca := by omega
    have a9 : ¬ ca = k + 1 := hca
    go_enter Tryz.func139, Tryz.ntmps139
    go_wp2
    go_region_law (first | (refine step_own_src rfl (.tmp 5) (.tmp 8) 22 rfl w.heap.size 36 elPkg (Fr w S) _ ([] : List Pkg) rfl hown0 (some ⟨b, o, none⟩) ca (l.take k) (by rw [e1]; rfl) s1 q1 q2 q3 ?_; intro v1 w1 hown1 hg1 hl1) | (have hB1 : Below w.heap.size w w1 := hB0.grown hg1 q3 (fun b e => by have := ownBlock_eq e; omega); have s2 : Arr w1 (fun b => Fr w S b ∧ v1.ownBlock ≠ some b) (some ⟨b, o + (k + 1) * 5, none⟩) (l.drop (k + 1)) := (p2.old.below hB1).mono (fun b _ h => ⟨.inl h, fun e => by have := hown1.block_ge _ e; have := h.2; omega⟩); refine step_own_src rfl (.tmp 9) (.tmp 13) 22 rfl w.heap.size 36 elPkg (Fr w S) v1 ([] ++ l.take k) rfl (hown1.below (by first | exact Below.refl _ _ | exact Below.drew (Below.refl _ _))) (some ⟨b, o + (k + 1) * 5, none⟩) (ca - (k + 1)) (l.drop (k + 1)) (by first | (rw [e2]; rfl) | (rw [e2]; simp [Act.eval]; done) | (rw [e2]; simp [Act.eval]; omega)) (s2.below (by first | exact Below.refl _ _ | exact Below.drew (Below.refl _ _))) (by rw [List.nil_append, e1, e2]; exact app_bound hby (by omega)) (by rw [List.nil_append, e1, e2]; omega) hB1.size ?_; intro v2 w2 hown2 hg2 hl2))
    have hB2 : Below w.heap.size w w2 := by
      refine Below.grown (w' := w2) ?_ hg2 (by first | exact hB1.size) (fun b e => (hown1.block_ge _ e).1)
      first | exact hB1 | exact hB1.drew
    rw [List.nil_append] at hown2
    obtain ⟨A2, c2, e3, hr⟩ := hown2.rep (fun b _ h => h) (fun b h _ => .inr h) (by show (without l k).length * _ ≤ _; refine mul_bound hby ?_; simp [without]; omega) (by simp; omega)
    go_wp2
    go_ret
    exact ⟨hB2, A2, c2, by simp [without, e1, e2, go_sem]; rw [e3, List.length_append, e1, e2], hr⟩

end Go.Proofs.YtppbjmhllmaakaaGreatDoor
