/- A slice that the call itself has made and appends to, whose elements are data. -/
import Derived.Test.YtppbjmhllmaakaaGreatDoorX1
import Derived.Maps.AppendAt
import Derived.Laws.AppendOwnNone
set_option linter.unusedVariables false
namespace Go.Proofs.YtppbjmhllmaakaaGreatDoor
open Go.RowKit

/-- The walk stops here. -/
structure Hold (p : Prop) : Prop where
  out : p
/-- The cells xs are the elements of l, one behind the other. -/
def Chunks {α : Type} (R : α → List Value → Prop) (n : Nat) (l : List α) (xs : List Value) : Prop :=
  xs.length = l.length * n ∧ ∀ i y, l[i]? = some y → R y ((xs.drop (i * n)).take n)
theorem Chunks.nil {α : Type} (R : α → List Value → Prop) (n : Nat) : Chunks R n [] [] := ⟨by simp, by simp⟩
theorem Chunks.append {α : Type} {R : α → List Value → Prop} {n : Nat} {l r : List α} {xs ys : List Value} (h : Chunks R n l xs) (k : Chunks R n r ys) : Chunks R n (l ++ r) (xs ++ ys) := by
  refine ⟨by rw [List.length_append, h.1, k.1, List.length_append, Nat.add_mul], fun i y hi => ?_⟩
  by_cases hl : i < l.length
  · rw [List.getElem?_append_left hl] at hi
    have h2 := h.2 i y hi
    have hle : i * n + n ≤ xs.length := by
      rw [h.1, ← Nat.succ_mul]; exact Nat.mul_le_mul_right n hl
    rw [List.drop_append_of_le_length (by omega), List.take_append_of_le_length (by rw [List.length_drop]; omega)]
    exact h2
  · rw [List.getElem?_append_right (by omega)] at hi
    have h2 := k.2 (i - l.length) y hi
    have e : i * n = xs.length + (i - l.length) * n := by rw [h.1, ← Nat.add_mul]; congr 1; omega
    rw [e, List.drop_append, List.drop_of_length_le (by omega), List.nil_append, show xs.length + (i - l.length) * n - xs.length = (i - l.length) * n from by omega]
    exact h2
theorem Chunks.mono {α : Type} {R R' : α → List Value → Prop} {n : Nat} {l : List α} {xs : List Value} (h : Chunks R n l xs) (hR : ∀ y vs, R y vs → R' y vs) : Chunks R' n l xs :=
  ⟨h.1, fun i y hi => hR _ _ (h.2 i y hi)⟩
theorem Chunks.one {α : Type} {R : α → List Value → Prop} {n : Nat} {y : α} {vs : List Value} (h : R y vs) (hn : vs.length = n) : Chunks R n [y] vs := by
  refine ⟨by simp [hn], fun i z hi => ?_⟩
  cases i with
  | zero => simp at hi; subst hi; simpa [← hn] using h
  | succ i => simp at hi

/-- An element's type's row of the program's table. -/
structure ElemT (P : Program) (t e : TypeId) (n bytes : Nat) : Prop where
  ht : P.underlying t = some (.slice e)
  info : ∃ i z, P.info? e = some i ∧ i.zero = some z ∧ i.size = n ∧ i.bytes = bytes ∧ z.cells.size = n

section
variable {α : Type} [Cd α]

/-- The call owns the slice v, whose elements read as l; their own slices lie in blocks of S, and in another block than v. -/
def Own (w : World) (base : Nat) (e : TypeId) (S : Nat → Prop) (v : Value) (l : List α) : Prop :=
  ∃ xs, w.ownsRow base e (Cd.n α) v l.length xs ∧ Chunks (fun y vs => Cd.rep w (fun b => S b ∧ v.ownBlock ≠ some b) y vs) (Cd.n α) l xs

theorem Own.nil (w : World) (base : Nat) (e : TypeId) (S : Nat → Prop) : Own w base e S (.slice none 0 0) ([] : List α) :=
  ⟨[], World.ownsRow_nil w base e _, Chunks.nil _ _⟩
theorem Own.below {w w' : World} {base : Nat} {e : TypeId} {S : Nat → Prop} {v : Value} {l : List α} (h : Own w base e S v l) (hb : Below w.heap.size w w') : Own w' base e S v l := by
  obtain ⟨xs, h1, h2⟩ := h
  exact ⟨xs, h1.kept (row := none) ⟨hb.os, hb.tape, hb.output, hb.size, fun k hk _ => hb.block k hk⟩ (by cases v.ownBlock <;> simp), h2.mono fun y vs h => Cd.below hb h⟩
theorem Own.mono {w : World} {base : Nat} {e : TypeId} {S S' : Nat → Prop} {v : Value} {l : List α} (h : Own w base e S v l) (hS : ∀ b, b < w.heap.size → S b → S' b) : Own w base e S' v l := by
  obtain ⟨xs, h1, h2⟩ := h
  exact ⟨xs, h1, h2.mono fun y vs h => Cd.mono (fun b hb ⟨a, c⟩ => ⟨hS b hb a, c⟩) h⟩
theorem Own.block_ge {w : World} {base : Nat} {e : TypeId} {S : Nat → Prop} {v : Value} {l : List α} (h : Own w base e S v l) : ∀ k, v.ownBlock = some k → base ≤ k ∧ k < w.heap.size := by
  obtain ⟨xs, h1, _⟩ := h
  exact h1.lt
theorem Own.form {w : World} {base : Nat} {e : TypeId} {S : Nat → Prop} {v : Value} {l : List α} (h : Own w base e S v l) : ∃ A cap, v = .slice A l.length cap := by
  obtain ⟨xs, h1, _⟩ := h
  rcases h1.2 with ⟨rfl, h0⟩ | ⟨g, cap, cur, rfl, _⟩
  · exact ⟨none, 0, by rw [h0]⟩
  · exact ⟨_, cap, rfl⟩
theorem Own.form2 {w : World} {base : Nat} {e : TypeId} {S : Nat → Prop} {v : Value} {l : List α} (h : Own w base e S v l) : ∃ A n cap, v = .slice A n cap ∧ Hid (n = l.length) := by
  obtain ⟨A, cap, rfl⟩ := h.form
  exact ⟨A, _, cap, rfl, Lib.hid rfl⟩
/-- The empty slice that is not nil. -/
theorem Own.made (w : World) (e : TypeId) (S : Nat → Prop) (base : Nat) (hb : base ≤ w.heap.size) : Own (w.alloc (.cells #[] e)) base e S (.slice (some ⟨w.heap.size, 0, none⟩) 0 0) ([] : List α) :=
  ⟨[], World.ownsRow_made w #[] 0 hb (by simp [maxLen]) (by simp), Chunks.nil _ _⟩

theorem Arr.old {w : World} {S : Nat → Prop} {A : Option Addr} {l : List α} (h : Arr w S A l) : Arr w (fun b => S b ∧ b < w.heap.size) A l := h.mono (fun b hb hS => ⟨hS, hb⟩)
theorem Arr.set {w : World} {S S' : Nat → Prop} {A : Option Addr} {l : List α} (h : Arr w S A l) (a : Addr) (u : Value) (hS : ∀ b, S b → b < w.heap.size → S' b ∧ b ≠ a.block) : Arr (w.setCell a u) S' A l :=
  h.keep fun b hb hlt => ⟨(hS b hb hlt).1, Below.heap_setCell w a u b (hS b hb hlt).2⟩
theorem Own.set {w : World} {base : Nat} {e : TypeId} {S : Nat → Prop} {v : Value} {l : List α} (h : Own w base e S v l) (a : Addr) (u : Value) (ha : a.block < base) (hS : ∀ b, S b → b ≠ a.block) : Own (w.setCell a u) base e S v l := by
  obtain ⟨xs, h1, h2⟩ := h
  exact ⟨xs, ownsRow_setCell_below h1 ha u, h2.mono fun y vs h => Cd.keep (fun b hb hlt => ⟨hb, Below.heap_setCell w a u b (hS b hb.1)⟩) h⟩
theorem grown_cell {w w' : World} {row : Option Nat} (hg : w.grownBy w' row) {b o : Nat} {v : Value} (h : w.cell? ⟨b, o, none⟩ = some v) (hne : row ≠ some b) : w'.cell? ⟨b, o, none⟩ = some v :=
  hg.cell h (fun e => hne e.symm)
theorem grown_frozen {w w' : World} {row : Option Nat} (hg : w.grownBy w' row) {b o : Nat} (hb : b < w.heap.size) (h : w.frozen? ⟨b, o, none⟩ = false) (hne : row ≠ some b) : w'.frozen? ⟨b, o, none⟩ = false :=
  (World.frozen?_of_block (w := w) (hg.block b hb (fun e => hne e.symm))).trans h
theorem grown_below {w w' : World} {row : Option Nat} {B : Nat} (hg : w.grownBy w' row) (hB : B ≤ w.heap.size) (hr : ∀ k, row = some k → B ≤ k) : Below B w w' :=
  (Below.refl B w).grown hg hB hr
theorem app_bound {n m k b : Nat} (h : n * b ≤ reach) (hm : m + k ≤ n) : (m + k) * b ≤ 140737488355328 :=
  Nat.le_trans (Nat.le_trans (Nat.mul_le_mul_right b hm) h) (by unfold reach; omega)
/-- What is appended: elements of r, one behind the other from ad on. -/
def Src (w : World) (S : Nat → Prop) (ad : Addr) (r : List α) : Prop :=
  ∃ news, Chunks (fun y vs => Cd.rep w S y vs) (Cd.n α) r news ∧ (∀ j u, news[j]? = some u → w.cell? (ad.add j) = some u) ∧ ∀ u ∈ news, u.oneCell' = true

theorem Src.one {w : World} {S : Nat → Prop} {y : α} {vs : List Value} (e : TypeId) (h : Cd.rep w S y vs) : Src (w.alloc (.cells vs.toArray e)) S ⟨w.heap.size, 0, none⟩ [y] := by
  refine ⟨vs, Chunks.one (Cd.keep (fun b hS hlt => ⟨hS, Below.heap_alloc w _ b hlt⟩) h) (Cd.len h), fun j u hu => ?_, Cd.one h⟩
  have e1 : (⟨w.heap.size, 0, none⟩ : Addr).add j = ⟨w.heap.size, j, none⟩ := by unfold Addr.add; split <;> simp_all
  rw [e1, World.cell?_alloc_new]
  simpa using hu

theorem Arr.src {w : World} {S : Nat → Prop} {b o : Nat} {r : List α} (h : Arr w S (some ⟨b, o, none⟩) r) : Src w S ⟨b, o, none⟩ r := by
  have hn := Cd.pos (α := α)
  have key : ∀ i x, r[i]? = some x → ∃ vs, Cd.rep w S x vs ∧ ∀ j v, vs[j]? = some v → w.cell? ⟨b, o + i * Cd.n α + j, none⟩ = some v := by
    intro i x hi
    have hlt : i < r.length := (List.getElem?_eq_some_iff.1 hi).1
    obtain ⟨b', o', vs, e, hr, hc⟩ := h.get i hlt
    cases e
    have : r[i] = x := (List.getElem?_eq_some_iff.1 hi).2
    exact ⟨vs, this ▸ hr, hc⟩
  let news : List Value := (List.range (r.length * Cd.n α)).map fun j => (w.cell? ⟨b, o + j, none⟩).getD undef
  have hnl : news.length = r.length * Cd.n α := by simp [news]
  have hat : ∀ i x vs, r[i]? = some x → Cd.rep w S x vs → (∀ j v, vs[j]? = some v → w.cell? ⟨b, o + i * Cd.n α + j, none⟩ = some v) → (news.drop (i * Cd.n α)).take (Cd.n α) = vs := by
    intro i x vs hi hr hc
    have hlt : i < r.length := (List.getElem?_eq_some_iff.1 hi).1
    have hlen := Cd.len hr
    have hle : i * Cd.n α + Cd.n α ≤ r.length * Cd.n α := by rw [← Nat.succ_mul]; exact Nat.mul_le_mul_right _ hlt
    apply List.ext_getElem
    · simp [hnl, hlen]; omega
    · intro j h1 h2
      have := hc j vs[j] (by simp)
      simp only [List.getElem_take, List.getElem_drop, news, List.getElem_map, List.getElem_range]
      rw [← Nat.add_assoc, this]; rfl
  refine ⟨news, ⟨hnl, fun i x hi => ?_⟩, fun j u hu => ?_, fun u hu => ?_⟩
  · obtain ⟨vs, hr, hc⟩ := key i x hi
    rw [hat i x vs hi hr hc]; exact hr
  · have hj : j < r.length * Cd.n α := by have := (List.getElem?_eq_some_iff.1 hu).1; omega
    have hd := Nat.div_add_mod j (Cd.n α)
    have hi : j / Cd.n α < r.length := Nat.div_lt_of_lt_mul (by rw [Nat.mul_comm]; exact hj)
    obtain ⟨vs, hr, hc⟩ := key (j / Cd.n α) r[j / Cd.n α] (by simp)
    have hlen := Cd.len hr
    have hm := Nat.mod_lt j hn
    have := hc (j % Cd.n α) (vs[j % Cd.n α]'(by omega)) (by simp)
    have e1 : (⟨b, o, none⟩ : Addr).add j = ⟨b, o + j, none⟩ := by unfold Addr.add; split <;> simp_all
    have e2 : o + j / Cd.n α * Cd.n α + j % Cd.n α = o + j := by rw [Nat.add_assoc, Nat.mul_comm]; omega
    rw [e2] at this
    rw [e1, this]
    have := (List.getElem?_eq_some_iff.1 hu).2
    simp only [news, List.getElem_map, List.getElem_range] at this
    rw [← this, ‹w.cell? ⟨b, o + j, none⟩ = _›]; rfl
  · obtain ⟨j, hj, rfl⟩ := List.getElem_of_mem hu
    have hj' : j < r.length * Cd.n α := by omega
    have hi : j / Cd.n α < r.length := Nat.div_lt_of_lt_mul (by rw [Nat.mul_comm]; exact hj')
    obtain ⟨vs, hr, hc⟩ := key (j / Cd.n α) r[j / Cd.n α] (by simp)
    have hlen := Cd.len hr
    have hm := Nat.mod_lt j hn
    have := hc (j % Cd.n α) (vs[j % Cd.n α]'(by omega)) (by simp)
    have e2 : o + j / Cd.n α * Cd.n α + j % Cd.n α = o + j := by rw [Nat.add_assoc, Nat.mul_comm]; have := Nat.div_add_mod j (Cd.n α); omega
    rw [e2] at this
    simp only [news, List.getElem_map, List.getElem_range]
    rw [this]
    exact Cd.one hr _ (List.getElem_mem _)

/-- **append, to a slice of the call's own, of elements that lie elsewhere.** -/
theorem wpList_own_app {P : Program} {w : World} {ops : Array Oper} {rest : List Oper} {o : Oper} {a : Act} {Q : Exit → Act → World → Prop} (hgd : o.guard = none) (s x : Operand) (t : TypeId)
    (ho : o.op = .call { callee := .builtin .append, args := #[s, x], argTypes := #[t, t] })
    (base : Nat) (e : TypeId) (hE : ElemT P t e (Cd.n α) (Cd.bytes α)) (S : Nat → Prop) (v : Value) (l : List α) (hs : a.eval s = v) (hown : Own w base e S v l)
    (ad : Addr) (c : Nat) (r : List α) (hx : a.eval x = .slice (some ad) r.length c) (hsrc : Src w (fun b => S b ∧ v.ownBlock ≠ some b) ad r)
    (hbytes : (l.length + r.length) * Cd.bytes α ≤ 140737488355328) (hlen : l.length + r.length ≤ 9223372036854775807) (hbase : base ≤ w.heap.size)
    (h : ∀ v' w', Own w' base e S v' (l ++ r) → w.grownBy w' v.ownBlock → (v'.ownBlock = v.ownBlock ∨ v'.ownBlock = some w.heap.size) → wpList P ops Q rest (a.put o.dst v') w') :
    wpList P ops Q (o :: rest) a w := by
  obtain ⟨xs, h1, h2⟩ := hown
  obtain ⟨news, k1, k2, k3⟩ := hsrc
  obtain ⟨i, z, hi, hz, hz1, hz2, hz3⟩ := hE.info
  refine wpList_append_own_at w hgd s x t ho base e i z (Cd.n α) (Cd.bytes α) hE.ht hi hz hz1 hz2 hz3 Cd.pos v l.length xs hs h1 ad r.length c news hx k1.1 k2 k3 (by unfold maxLen; omega) hbytes hbase ?_
  intro v' w' g1 g2 _ g4
  refine h v' w' ⟨xs ++ news, by rw [List.length_append]; exact g1, ?_⟩ g2 g4
  have conv : ∀ (y : α) vs, Cd.rep w (fun b => S b ∧ v.ownBlock ≠ some b) y vs → Cd.rep w' (fun b => S b ∧ v'.ownBlock ≠ some b) y vs := fun y vs hr =>
    Cd.keep (fun b ⟨hS, hne⟩ hlt => by
      refine ⟨⟨hS, ?_⟩, g2.block b hlt (fun e => hne e.symm)⟩
      rcases g4 with g4 | g4
      · rw [g4]; exact hne
      · rw [g4]; intro e; have := Option.some.inj e; omega) hr
  exact (h2.mono conv).append (k1.mono conv)
theorem run_app_none {P : Program} {w : World} (base : Nat) (t ty e : TypeId) (i : TypeInfo) (size : Nat) (ht : P.underlying t = some (.slice e)) (hi : P.info? e = some i)
    (v : Value) (n : Nat) (xs : List Value) (hown : w.ownsRow base e size v n xs) (A : Option Addr) (c : Nat) :
    (Builtin.append_ #[t, t] ty #[v, .slice A 0 c]).run P w = .ok v w := by
  rcases hown.2 with ⟨rfl, rfl⟩ | ⟨g, cap, cur, rfl, _, _, hnc, _⟩
  · cases A <;> simp [Builtin.append_, run_underlying ht, sizeOf, typeInfo, hi, Builtin.lenOf, Builtin.firstCells, loadCells, loadCellsFrom]
  · cases A <;> simp [Builtin.append_, run_underlying ht, sizeOf, typeInfo, hi, Builtin.lenOf, Builtin.firstCells, hnc, storeCells, loadCells, loadCellsFrom]

/-- **append, to a slice of the call's own, of the elements of a slice that is read (none, too).** -/
theorem wpList_own_src {P : Program} {w : World} {ops : Array Oper} {rest : List Oper} {o : Oper} {a : Act} {Q : Exit → Act → World → Prop} (hgd : o.guard = none) (s x : Operand) (t : TypeId)
    (ho : o.op = .call { callee := .builtin .append, args := #[s, x], argTypes := #[t, t] })
    (base : Nat) (e : TypeId) (hE : ElemT P t e (Cd.n α) (Cd.bytes α)) (S : Nat → Prop) (v : Value) (l : List α) (hs : a.eval s = v) (hown : Own w base e S v l)
    (A : Option Addr) (c : Nat) (r : List α) (hx : a.eval x = .slice A r.length c) (hsrc : Arr w (fun b => S b ∧ v.ownBlock ≠ some b) A r)
    (hbytes : (l.length + r.length) * Cd.bytes α ≤ 140737488355328) (hlen : l.length + r.length ≤ 9223372036854775807) (hbase : base ≤ w.heap.size)
    (h : ∀ v' w', Own w' base e S v' (l ++ r) → w.grownBy w' v.ownBlock → (v'.ownBlock = v.ownBlock ∨ v'.ownBlock = some w.heap.size) → wpList P ops Q rest (a.put o.dst v') w') :
    wpList P ops Q (o :: rest) a w := by
  cases r with
  | nil =>
    obtain ⟨i, z, hi, _⟩ := hE.info
    have hown' := hown
    obtain ⟨xs, h1, _⟩ := hown
    refine wpList_plain hgd fun K hK => ?_
    have hrun := run_app_none (P := P) (w := w) base t o.type e i _ hE.ht hi v l.length xs h1 A c
    simp only [List.length_nil] at hx
    unfold Oper.wp
    simp [execOp, ho, resolve, invoke, builtin, hs, hx, hrun, Result.andThen]
    exact hK _ _ (h v w (by rw [List.append_nil]; exact hown') ⟨rfl, rfl, rfl, Nat.le_refl _, fun _ _ _ => rfl⟩ (.inl rfl))
  | cons y r =>
    obtain ⟨b, ofs, rfl, _⟩ := hsrc.lt (by simp)
    exact wpList_own_app hgd s x t ho base e hE S v l hs hown _ c (y :: r) hx hsrc.src hbytes hlen hbase h

/-- The run of such an append. -/
theorem run_own_src {P : Program} {w : World} (t ty : TypeId) (base : Nat) (e : TypeId) (hE : ElemT P t e (Cd.n α) (Cd.bytes α)) (S : Nat → Prop) (v : Value) (l : List α) (hown : Own w base e S v l)
    (A : Option Addr) (c : Nat) (r : List α) (hsrc : Arr w (fun b => S b ∧ v.ownBlock ≠ some b) A r)
    (hbytes : (l.length + r.length) * Cd.bytes α ≤ 140737488355328) (hlen : l.length + r.length ≤ 9223372036854775807) (hbase : base ≤ w.heap.size) :
    ∃ v' w', (Builtin.append_ #[t, t] ty #[v, .slice A r.length c]).run P w = .ok v' w' ∧ Own w' base e S v' (l ++ r) ∧ w.grownBy w' v.ownBlock ∧ (v'.ownBlock = v.ownBlock ∨ v'.ownBlock = some w.heap.size) := by
  cases r with
  | nil =>
    obtain ⟨i, z, hi, _⟩ := hE.info
    have hown' := hown
    obtain ⟨xs, h1, _⟩ := hown
    exact ⟨v, w, run_app_none (P := P) (w := w) base t ty e i _ hE.ht hi v l.length xs h1 A c, by rw [List.append_nil]; exact hown', ⟨rfl, rfl, rfl, Nat.le_refl _, fun _ _ _ => rfl⟩, .inl rfl⟩
  | cons y r =>
    obtain ⟨b, ofs, rfl, _⟩ := hsrc.lt (by simp)
    obtain ⟨xs, h1, h2⟩ := hown
    obtain ⟨news, k1, k2, k3⟩ := hsrc.src
    obtain ⟨i, z, hi, hz, hz1, hz2, hz3⟩ := hE.info
    obtain ⟨v', w', g0, g1, g2, _, g4⟩ := run_append_own_at (P := P) w base t ty e i z (Cd.n α) (Cd.bytes α) hE.ht hi hz hz1 hz2 hz3 Cd.pos v l.length xs h1 ⟨b, ofs, none⟩ (y :: r).length c news k1.1 k2 k3 (by unfold maxLen; omega) hbytes hbase
    refine ⟨v', w', g0, ⟨xs ++ news, by rw [List.length_append]; exact g1, ?_⟩, g2, g4⟩
    have conv : ∀ (y : α) vs, Cd.rep w (fun b => S b ∧ v.ownBlock ≠ some b) y vs → Cd.rep w' (fun b => S b ∧ v'.ownBlock ≠ some b) y vs := fun y vs hr =>
      Cd.keep (fun b ⟨hS, hne⟩ hlt => by
        refine ⟨⟨hS, ?_⟩, g2.block b hlt (fun e => hne e.symm)⟩
        rcases g4 with g4 | g4
        · rw [g4]; exact hne
        · rw [g4]; intro e; have := Option.some.inj e; omega) hr
    exact (h2.mono conv).append (k1.mono conv)

/-- The same as one step of a region that draws its order. -/
theorem step_own_src {P : Program} {w : World} {ops : Array Oper} {o : Oper} {a : Act} {K : Act → World → Prop} {Q : Exit → Act → World → Prop} {E : Prop} (hgd : o.guard = none) (s x : Operand) (t : TypeId)
    (ho : o.op = .call { callee := .builtin .append, args := #[s, x], argTypes := #[t, t] })
    (base : Nat) (e : TypeId) (hE : ElemT P t e (Cd.n α) (Cd.bytes α)) (S : Nat → Prop) (v : Value) (l : List α) (hs : a.eval s = v) (hown : Own w base e S v l)
    (A : Option Addr) (c : Nat) (r : List α) (hx : a.eval x = .slice A r.length c) (hsrc : Arr w (fun b => S b ∧ v.ownBlock ≠ some b) A r)
    (hbytes : (l.length + r.length) * Cd.bytes α ≤ 140737488355328) (hlen : l.length + r.length ≤ 9223372036854775807) (hbase : base ≤ w.heap.size)
    (h : ∀ v' w', Own w' base e S v' (l ++ r) → w.grownBy w' v.ownBlock → (v'.ownBlock = v.ownBlock ∨ v'.ownBlock = some w.heap.size) → K (a.put o.dst v') w') :
    if Region.wanted o (yielded ops a.tmps) = true then Oper.wp P o a w K Q else E := by
  have hw : Region.wanted o (yielded ops a.tmps) = true := by simp [Region.wanted, hgd]
  rw [if_pos hw]
  obtain ⟨v', w', hrun, h1, h2, h3⟩ := run_own_src (P := P) t o.type base e hE S v l hown A c r hsrc hbytes hlen hbase
  unfold Oper.wp
  simp [execOp, ho, resolve, invoke, builtin, hs, hx, hrun, Result.andThen]
  exact h v' w' h1 h2 h3

/-- What the call owns reads as its elements. -/
theorem Own.rep {w : World} {base : Nat} {e : TypeId} {S S' : Nat → Prop} {v : Value} {l : List α} (h : Own w base e S v l) (hS : ∀ b, b < w.heap.size → S b → S' b) (hB : ∀ b, base ≤ b → b < w.heap.size → S' b)
    (hr : l.length * Cd.bytes α ≤ reach) (hl : l.length ≤ 9223372036854775807) : ∃ A cap, v = .slice A l.length cap ∧ Arr w S' A l := by
  obtain ⟨xs, h1, h2⟩ := h
  rcases h1.2 with ⟨rfl, h0⟩ | ⟨g, cap, cur, rfl, hb, hg, hnc, hcm, hcs, htake⟩
  · have : l = [] := List.eq_nil_of_length_eq_zero h0
    subst this
    exact ⟨none, 0, rfl, Arr.nil _ _ _⟩
  · have hglt : g < w.heap.size := (Array.getElem?_eq_some_iff.1 hg).1
    refine ⟨_, cap, rfl, hr, hl, fun hpos => ⟨g, 0, rfl, hB g hb hglt, fun i x hi => ?_⟩⟩
    have hlt : i < l.length := (List.getElem?_eq_some_iff.1 hi).1
    have hrep := h2.2 i x hi
    have hlen := Cd.len hrep
    refine ⟨_, Cd.mono (fun b hb ⟨a, _⟩ => hS b hb a) hrep, fun j u hu => ?_⟩
    have hj : j < Cd.n α := by have := (List.getElem?_eq_some_iff.1 hu).1; omega
    rw [cell_of_row w g (0 + i * Cd.n α + j) cur e (0, 0) hg]
    have e1 : xs[i * Cd.n α + j]? = some u := by
      rw [List.getElem?_take, if_pos hj, List.getElem?_drop] at hu
      exact hu
    have e2 : (cur.toList.take (l.length * Cd.n α))[i * Cd.n α + j]? = some u := by rw [htake]; exact e1
    rw [List.getElem?_take] at e2
    split at e2
    · rw [Nat.zero_add]; simpa using e2
    · cases e2
end

theorem ownBlock_eq {b o n c k : Nat} (h : (Value.slice (some ⟨b, o, none⟩) n c).ownBlock = some k) : k = b := (Option.some.inj h).symm

end Go.Proofs.YtppbjmhllmaakaaGreatDoor
