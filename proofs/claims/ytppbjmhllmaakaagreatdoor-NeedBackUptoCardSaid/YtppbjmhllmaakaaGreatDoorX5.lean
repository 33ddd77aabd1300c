/- A datum that an argument is read as, in this session's words. -/
import Derived.Test.YtppbjmhllmaakaaGreatDoorRows
import Derived.Test.YtppbjmhllmaakaaGreatDoorX1
import Derived.Deep.Slices
import Derived.SizedLaws
import Derived.ChangeArms
set_option linter.unusedVariables false
namespace Go.Proofs.YtppbjmhllmaakaaGreatDoor
open Go.RowKit

/-- What is read at this type, and isn't too large, is one of these. -/
def Opens (P : Program) (t : TypeId) (α : Type) [Cd α] : Prop :=
  ∀ {H : Type} (enc : TypeId × Value → H) (w : World) (base : Nat) (sp : Nat → Bool) (held : Bool) (n : Nat) (cs : List Value) (x : DataW H × List MemPlace),
    DataW.trod enc P w base sp held n t cs = some x → (x.1.weights P t).all (· ≤ reachBytes) = true → ∃ a : α, Cd.rep w (fun _ => True) a cs

theorem opens_int {P : Program} {t : TypeId} (ht : P.underlying t = some (.int .i64)) : Opens P t Int := by
  intro H enc w base sp held n cs x h _
  obtain ⟨a, rfl, rfl, hw⟩ := DataW.trod_int ht h
  refine ⟨a, rfl, ?_⟩
  have h1 : IntKind.i64.min = -9223372036854775808 := by decide
  have h2 : IntKind.i64.max = 9223372036854775807 := by decide
  simp only [Lit.wf, Bool.and_eq_true, decide_eq_true_eq] at hw
  exact ⟨by omega, by omega⟩
theorem opens_str {P : Program} {t : TypeId} (ht : P.underlying t = some .string) : Opens P t ByteArray := by
  intro H enc w base sp held n cs x h hw
  obtain ⟨s, rfl, rfl, _⟩ := DataW.trod_string ht h
  refine ⟨s, rfl, ?_⟩
  simp [DataW.weights, reachBytes] at hw
  unfold reach
  exact of_decide_eq_true hw
theorem opens_bool {P : Program} {t : TypeId} (ht : P.underlying t = some .bool) : Opens P t Bool := by
  intro H enc w base sp held n cs x h hw
  obtain ⟨b, rfl, rfl⟩ := DataW.trod_bool ht h
  exact ⟨b, rfl⟩
theorem weights_in_all {H : Type} {P : Program} {e : TypeId} : ∀ {l : List (DataW H)} {d : DataW H}, d ∈ l → ∀ n ∈ d.weights P e, n ∈ DataW.weightsAll P e l
  | [], _, h, _, _ => by cases h
  | a :: r, d, h, n, hn => by
    simp only [DataW.weightsAll, List.mem_append]
    rcases List.mem_cons.1 h with rfl | h
    · exact .inl hn
    · exact .inr (weights_in_all h n hn)
theorem opens_list {P : Program} {t e : TypeId} {α : Type} [Cd α] (ht : P.underlying t = some (.slice e)) (hn : P.cellsOf e = Cd.n α) (hb : P.bytesOf e = Cd.bytes α) (he : Opens P e α) : Opens P t (List α) := by
  classical
  intro H enc w base sp held n cs x h hw
  rcases Deep.open_slice ht h with ⟨rfl, rfl⟩ | ⟨a, len, cap, m, k, D, Pl, rfl, hba, hl, hm, hmm, rfl, hx⟩
  · exact ⟨[], none, 0, rfl, Arr.nil _ _ _⟩
  · have hlm : len ≤ m := by rw [hmm]; split <;> omega
    have hw' := List.all_eq_true.1 hw
    simp only [DataW.weights, ht] at hw'
    have hsize : len * Cd.bytes α ≤ reach := by
      have := hw' _ (List.mem_cons_self ..)
      simp only [decide_eq_true_eq, List.length_map, List.length_range, hb] at this
      exact Nat.le_trans (Nat.mul_le_mul_right _ (by omega)) this
    have each : ∀ i, i < len → ∃ y : α, ∃ cs', w.cells? base (a.add (i * P.cellsOf e)) (P.cellsOf e) = some cs' ∧ Cd.rep w (fun _ => True) y cs' := by
      intro i hi
      obtain ⟨cs', h1, h2⟩ := hx i (by omega)
      obtain ⟨y, hy⟩ := he enc w base sp held k cs' _ h2 (by
        rw [List.all_eq_true]
        intro z hz
        refine hw' z (List.mem_cons_of_mem _ (List.mem_append_left _ (weights_in_all (d := D i) ?_ z hz)))
        exact List.mem_map.2 ⟨i, List.mem_range.2 hi, rfl⟩)
      exact ⟨y, cs', h1, hy⟩
    have spot : 0 < len → a.spot = none := by
      intro h0
      obtain ⟨y, cs', h1, hy⟩ := each 0 h0
      have hc := World.cells?_some h1
      have hp := Cd.pos (α := α)
      have h3 := hc.2.2 0 (by rw [hn]; exact hp)
      have : 0 < cs'.length := by rw [hc.2.1, hn]; exact hp
      rw [List.getElem?_eq_getElem this] at h3
      have := World.cell?_spot h3
      simpa [Addr.add] using this
    refine ⟨(List.range len).attach.map fun i => Classical.choose (each i.1 (List.mem_range.1 i.2)), some a, cap, by simp, ?_⟩
    have hlen : ((List.range len).attach.map fun i => Classical.choose (each i.1 (List.mem_range.1 i.2))).length = len := by simp
    refine ⟨by rw [hlen]; exact hsize, by rw [hlen]; unfold maxLen at hm; omega, fun h0 => ?_⟩
    rw [hlen] at h0
    have hs := spot h0
    obtain ⟨b, o, s⟩ := a
    simp only at hs
    subst hs
    refine ⟨b, o, rfl, trivial, fun i y hi => ?_⟩
    have hil : i < len := by have := (List.getElem?_eq_some_iff.1 hi).1; omega
    have hy : y = Classical.choose (each i hil) := by
      have := (List.getElem?_eq_some_iff.1 hi).2
      rw [← this]
      simp
    obtain ⟨cs', h1, h2⟩ := Classical.choose_spec (each i hil)
    refine ⟨cs', hy ▸ h2, fun j v hv => ?_⟩
    have hc := World.cells?_some h1
    have hj : j < P.cellsOf e := by rw [← hc.2.1]; exact (List.getElem?_eq_some_iff.1 hv).1
    have h3 := hc.2.2 j hj
    rw [hv, Deep.add_add] at h3
    have e1 : (⟨b, o, none⟩ : Addr).add (i * P.cellsOf e + j) = ⟨b, o + i * Cd.n α + j, none⟩ := by
      unfold Addr.add
      split
      · rename_i h0; rw [hn] at h0; simp only [Addr.mk.injEq, true_and, and_true]; rw [Nat.add_assoc, h0, Nat.add_zero]
      · rw [hn]; simp only [Addr.mk.injEq, and_true, true_and]; rw [Nat.add_assoc]
    rw [e1] at h3
    exact h3

/-- A field. -/
theorem open_field {H : Type} {enc : TypeId × Value → H} {P : Program} {w : World} {base : Nat} {sp : Nat → Bool} {held : Bool} {n : Nat} {cs : List Value} {x : DataW H × List MemPlace} {t : TypeId} {fs : Array Field}
    (ht : P.underlying t = some (.struct fs)) (h : DataW.trod enc P w base sp held n t cs = some x) (hw : (x.1.weights P t).all (· ≤ reachBytes) = true) (i : Nat) {f : Field} (hf : fs[i]? = some f) (o c : Nat) (ho : f.offset = o) (hc : P.cellsOf f.type = c)
    {β : Type} [Cd β] (hO : Opens P f.type β) : ∃ a : β, Cd.rep w (fun _ => True) a ((cs.drop o).take c) := by
  obtain ⟨xs, k, _, rfl, hl, hxl, hx⟩ := DataW.trod_struct ht h
  subst ho
  subst hc
  have h1 := hx i f hf
  have hi : i < fs.size := (Array.getElem?_eq_some_iff.1 hf).1
  rw [List.getElem?_eq_getElem (by omega)] at h1
  refine hO enc w base sp held k _ _ h1 ?_
  rw [List.all_eq_true]
  intro z hz
  refine List.all_eq_true.1 hw z ?_
  simp only [DataW.weights, ht]
  refine DataW.weights_mem_each (j := i) (t := f.type) (d := xs[i].1) ?_ ?_ z hz
  · simp [hf]
  · simp [hxl, hi]
theorem open_len {H : Type} {enc : TypeId × Value → H} {P : Program} {w : World} {base : Nat} {sp : Nat → Bool} {held : Bool} {n : Nat} {cs : List Value} {x : DataW H × List MemPlace} {t : TypeId} {fs : Array Field}
    (ht : P.underlying t = some (.struct fs)) (h : DataW.trod enc P w base sp held n t cs = some x) (c : Nat) (hc : P.cellsOf t = c) : cs.length = c := by
  obtain ⟨xs, k, _, rfl, hl, hxl, hx⟩ := DataW.trod_struct ht h
  exact hl.trans hc

theorem opensInts : Opens Tryz.prog 23 (List Int) := opens_list Tryz.underlying23 (by kernel_rfl) (by kernel_rfl) (opens_int Tryz.underlying3)
theorem opensTexts : Opens Tryz.prog 34 (List ByteArray) := opens_list Tryz.underlying34 (by kernel_rfl) (by kernel_rfl) (opens_str Tryz.underlying9)
theorem opensVer : Opens Tryz.prog 33 Ver := by
  intro H enc w base sp held n cs x h hw
  obtain ⟨a0, h0⟩ := open_field Tryz.underlying33 h hw 0 rfl 0 1 rfl (by kernel_rfl) opensInts
  obtain ⟨a1, h1⟩ := open_field Tryz.underlying33 h hw 1 rfl 1 1 rfl (by kernel_rfl) (opens_str Tryz.underlying9)
  match cs, open_len Tryz.underlying33 h 2 (by kernel_rfl) with
  | [v0, v1], _ =>
    obtain ⟨A, cap, e0, g0⟩ := h0
    obtain ⟨e1, g1⟩ := h1
    simp at e0 e1
    subst e0
    subst e1
    exact ⟨⟨a0, a1⟩, A, cap, rfl, g0, g1⟩
theorem opensNeed : Opens Tryz.prog 51 Need := by
  intro H enc w base sp held n cs x h hw
  obtain ⟨a0, h0⟩ := open_field Tryz.underlying51 h hw 0 rfl 0 1 rfl (by kernel_rfl) (opens_str Tryz.underlying9)
  obtain ⟨a1, h1⟩ := open_field Tryz.underlying51 h hw 1 rfl 1 1 rfl (by kernel_rfl) (opens_int Tryz.underlying3)
  obtain ⟨a2, h2⟩ := open_field Tryz.underlying51 h hw 2 rfl 2 2 rfl (by kernel_rfl) opensVer
  match cs, open_len Tryz.underlying51 h 4 (by kernel_rfl) with
  | [v0, v1, v2, v3], _ =>
    obtain ⟨e0, g0⟩ := h0
    obtain ⟨e1, g1⟩ := h1
    obtain ⟨A, cap, e2, g2, g3⟩ := h2
    simp at e0 e1 e2
    obtain ⟨e2, e3⟩ := e2
    subst e0
    subst e1
    subst e2
    subst e3
    exact ⟨⟨a0, a1, a2⟩, A, cap, rfl, g0, g1, g2, g3⟩
theorem opensClause : Opens Tryz.prog 48 Clause := by
  intro H enc w base sp held n cs x h hw
  obtain ⟨a0, h0⟩ := open_field Tryz.underlying48 h hw 0 rfl 0 1 rfl (by kernel_rfl) (opens_bool Tryz.underlying4)
  obtain ⟨a1, h1⟩ := open_field Tryz.underlying48 h hw 1 rfl 1 1 rfl (by kernel_rfl) (opens_list Tryz.underlying46 (by kernel_rfl) (by kernel_rfl) opensNeed)
  match cs, open_len Tryz.underlying48 h 2 (by kernel_rfl) with
  | [v0, v1], _ =>
    have e0 : [v0] = [Value.bool a0] := h0
    obtain ⟨A, cap, e1, g1⟩ := h1
    simp at e0 e1
    subst e0
    subst e1
    exact ⟨⟨a0, a1⟩, A, cap, rfl, g1⟩
theorem opensClauses : Opens Tryz.prog 24 (List Clause) := opens_list Tryz.underlying24 (by kernel_rfl) (by kernel_rfl) opensClause
theorem opensPkg : Opens Tryz.prog 36 Pkg := by
  intro H enc w base sp held n cs x h hw
  obtain ⟨a0, h0⟩ := open_field Tryz.underlying36 h hw 0 rfl 0 1 rfl (by kernel_rfl) (opens_str Tryz.underlying9)
  obtain ⟨a1, h1⟩ := open_field Tryz.underlying36 h hw 1 rfl 1 2 rfl (by kernel_rfl) opensVer
  obtain ⟨a2, h2⟩ := open_field Tryz.underlying36 h hw 2 rfl 3 1 rfl (by kernel_rfl) opensTexts
  obtain ⟨a3, h3⟩ := open_field Tryz.underlying36 h hw 3 rfl 4 1 rfl (by kernel_rfl) opensClauses
  match cs, open_len Tryz.underlying36 h 5 (by kernel_rfl) with
  | [v0, v1, v2, v3, v4], _ =>
    obtain ⟨e0, g0⟩ := h0
    obtain ⟨A, a, e1, g1, g2⟩ := h1
    obtain ⟨B, b, e3, g3⟩ := h2
    obtain ⟨C, c, e4, g4⟩ := h3
    simp at e0 e1 e3 e4
    obtain ⟨e1, e2⟩ := e1
    subst e0
    subst e1
    subst e2
    subst e3
    subst e4
    exact ⟨⟨a0, a1, a2, a3⟩, A, a, B, b, C, c, rfl, g0, g1, g2, g3, g4⟩
theorem opensPkgs : Opens Tryz.prog 22 (List Pkg) := opens_list Tryz.underlying22 (by kernel_rfl) (by kernel_rfl) opensPkg

/-- A slice that is an argument. -/
theorem Opens.arg {P : Program} {t : TypeId} {α : Type} [Cd α] (hO : Opens P t (List α)) {H : Type} {enc : TypeId × Value → H} {w : World} {base : Nat} {sp : Nat → Bool} {held : Bool} {v : Value} {d : DataW H} {ps : List MemPlace}
    (h : DataW.Trod enc P w base sp held t v d ps) (hw : (d.weights P t).all (· ≤ reachBytes) = true) (hv : v.cells = #[v]) : ∃ A cap, ∃ l : List α, v = .slice A l.length cap ∧ Arr w (fun _ => True) A l := by
  obtain ⟨n, hn⟩ := h
  rw [hv] at hn
  obtain ⟨l, A, cap, e, h⟩ := hO enc w base sp held n _ _ hn hw
  simp at e
  exact ⟨A, cap, l, e, h⟩

end Go.Proofs.YtppbjmhllmaakaaGreatDoor
