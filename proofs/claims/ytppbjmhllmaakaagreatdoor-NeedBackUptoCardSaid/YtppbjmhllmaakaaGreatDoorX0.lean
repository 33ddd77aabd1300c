/- Own words of this session: how Go values read as Lean data (class Cd), slices that are read (Arr), slices that a call owns (Own). Generic: no program. -/
import Derived.WalkKit
import Derived.WalkSpells
import Derived.WalkLawsBesides
import Derived.Lib.Hide
import Derived.BigQuiet
set_option linter.unusedVariables false
namespace Go.Proofs.YtppbjmhllmaakaaGreatDoor
open Go.RowKit

/-- The most bytes that a slice or string that is read takes. -/
def reach : Nat := 140737488351232

/-- How an x of type α lies in cells; S: the blocks that its slices' elements may lie in. -/
class Cd (α : Type) where
  n : Nat
  bytes : Nat
  pos : 0 < n
  rep : World → (Nat → Prop) → α → List Value → Prop
  len : ∀ {w S x vs}, rep w S x vs → vs.length = n
  one : ∀ {w S x vs}, rep w S x vs → ∀ v ∈ vs, v.oneCell' = true
  keep : ∀ {w w' S S' x vs}, (∀ b, S b → b < w.heap.size → S' b ∧ w'.heap[b]? = w.heap[b]?) → rep w S x vs → rep w' S' x vs

section
variable {α : Type} [Cd α]

theorem Cd.below {w w' : World} {S : Nat → Prop} {x : α} {vs : List Value} (hb : Below w.heap.size w w') (h : Cd.rep w S x vs) : Cd.rep w' S x vs :=
  Cd.keep (fun b hS hlt => ⟨hS, hb.block b hlt⟩) h

theorem Cd.mono {w : World} {S S' : Nat → Prop} {x : α} {vs : List Value} (hS : ∀ b, b < w.heap.size → S b → S' b) (h : Cd.rep w S x vs) : Cd.rep w S' x vs :=
  Cd.keep (fun b h1 hlt => ⟨hS b hlt h1, rfl⟩) h

theorem Cd.rep.below {w w' : World} {S : Nat → Prop} {x : α} {vs : List Value} (h : Cd.rep w S x vs) (hb : Below w.heap.size w w') : Cd.rep w' S x vs := Cd.below hb h
theorem Cd.rep.mono {w : World} {S S' : Nat → Prop} {x : α} {vs : List Value} (h : Cd.rep w S x vs) (hS : ∀ b, b < w.heap.size → S b → S' b) : Cd.rep w S' x vs := Cd.mono hS h
/-- The slice value at A of these elements reads as l; its elements lie in a block of S. -/
def Arr (w : World) (S : Nat → Prop) (A : Option Addr) (l : List α) : Prop :=
  l.length * Cd.bytes α ≤ reach ∧ l.length ≤ 9223372036854775807 ∧ (0 < l.length → ∃ b o, A = some ⟨b, o, none⟩ ∧ S b ∧
    ∀ i x, l[i]? = some x → ∃ vs, Cd.rep w S x vs ∧ ∀ j v, vs[j]? = some v → w.cell? ⟨b, o + i * Cd.n α + j, none⟩ = some v)

theorem Arr.keep {w w' : World} {S S' : Nat → Prop} {A : Option Addr} {l : List α} (hk : ∀ b, S b → b < w.heap.size → S' b ∧ w'.heap[b]? = w.heap[b]?) (h : Arr w S A l) : Arr w' S' A l := by
  refine ⟨h.1, h.2.1, fun hl => ?_⟩
  obtain ⟨b, o, rfl, hS, hx⟩ := h.2.2 hl
  have hb : b < w.heap.size := by
    obtain ⟨vs, hr, hc⟩ := hx 0 l[0] (by simp)
    have hlen := Cd.len hr
    have hn := Cd.pos (α := α)
    exact World.block_lt_of_cell? w ⟨b, _, none⟩ (hc 0 vs[0] (by simp))
  refine ⟨b, o, rfl, (hk b hS hb).1, fun i x hi => ?_⟩
  obtain ⟨vs, hr, hc⟩ := hx i x hi
  refine ⟨vs, Cd.keep hk hr, fun j v hv => ?_⟩
  rw [World.cell?_of_block (w := w) (hk b hS hb).2]
  exact hc j v hv

theorem Arr.below {w w' : World} {S : Nat → Prop} {A : Option Addr} {l : List α} (hb : Below w.heap.size w w') (h : Arr w S A l) : Arr w' S A l :=
  h.keep (fun b hS hlt => ⟨hS, hb.block b hlt⟩)

theorem Arr.mono {w : World} {S S' : Nat → Prop} {A : Option Addr} {l : List α} (hS : ∀ b, b < w.heap.size → S b → S' b) (h : Arr w S A l) : Arr w S' A l :=
  h.keep (fun b h1 hlt => ⟨hS b hlt h1, rfl⟩)

theorem Arr.nil (w : World) (S : Nat → Prop) (A : Option Addr) : Arr w S A ([] : List α) := ⟨by simp, by simp, by simp⟩

theorem Arr.len {w : World} {S : Nat → Prop} {A : Option Addr} {l : List α} (h : Arr w S A l) : l.length ≤ 9223372036854775807 := h.2.1

/-- Element i: where the slice lies, and that element's cells. -/
theorem Arr.get {w : World} {S : Nat → Prop} {A : Option Addr} {l : List α} (h : Arr w S A l) (i : Nat) (hi : i < l.length) :
    ∃ b o vs, A = some ⟨b, o, none⟩ ∧ Cd.rep w S l[i] vs ∧ ∀ j v, vs[j]? = some v → w.cell? ⟨b, o + i * Cd.n α + j, none⟩ = some v := by
  obtain ⟨b, o, rfl, hS, hx⟩ := h.2.2 (by omega)
  obtain ⟨vs, hr, hc⟩ := hx i l[i] (by simp)
  exact ⟨b, o, vs, rfl, hr, hc⟩
end

/-! ### The kinds -/
def InI (k : IntKind) (x : Int) : Prop := (Lit.int k x).wf = true
structure In64 (x : Int) : Prop where
  lo : -9223372036854775808 ≤ x
  hi : x ≤ 9223372036854775807

instance : Cd Int where
  n := 1
  bytes := 8
  pos := by decide
  rep := fun _ _ x vs => vs = [.int .i64 x] ∧ In64 x
  len := by rintro _ _ _ _ ⟨rfl, _⟩; rfl
  one := by rintro _ _ _ _ ⟨rfl, _⟩; simp [Value.oneCell']
  keep := fun _ h => h
instance : Cd Bool where
  n := 1
  bytes := 1
  pos := by decide
  rep := fun _ _ x vs => vs = [.bool x]
  len := by rintro _ _ _ _ rfl; rfl
  one := by rintro _ _ _ _ rfl; simp [Value.oneCell']
  keep := fun _ h => h
instance : Cd ByteArray where
  n := 1
  bytes := 16
  pos := by decide
  rep := fun _ _ x vs => vs = [.string x] ∧ x.size ≤ reach
  len := by rintro _ _ _ _ ⟨rfl, _⟩; rfl
  one := by rintro _ _ _ _ ⟨rfl, _⟩; simp [Value.oneCell']
  keep := fun _ h => h
instance {α : Type} [Cd α] : Cd (List α) where
  n := 1
  bytes := 24
  pos := by decide
  rep := fun w S l vs => ∃ A cap, vs = [.slice A l.length cap] ∧ Arr w S A l
  len := by rintro _ _ _ _ ⟨_, _, rfl, _⟩; rfl
  one := by rintro _ _ _ _ ⟨_, _, rfl, _⟩; simp [Value.oneCell']
  keep := fun hk ⟨A, cap, e, h⟩ => ⟨A, cap, e, h.keep hk⟩

instance memBytes (s : ByteArray) (l : List ByteArray) : Decidable (s ∈ l) := @List.instDecidableMemOfLawfulBEq ByteArray instBEqOfDecidableEq inferInstance s l
theorem ret_bool {a b : Bool} (h : a = b) : Ending.returned (.bool a) = .returned (.bool b) := by rw [h]
theorem ret_int {k : IntKind} {a b : Int} (h : a = b) : Ending.returned (.int k a) = .returned (.int k b) := by rw [h]
theorem ret_bi {a b : Bool} {k : IntKind} {x y : Int} (h : a = b) (h' : x = y) : Ending.returned (.tuple #[.bool a, .int k x]) = .returned (.tuple #[.bool b, .int k y]) := by rw [h, h']
theorem toList_inj {a b : ByteArray} : a.toList = b.toList ↔ a = b := by
  rw [ByteArray.toList_eq, ByteArray.toList_eq]
  constructor
  · intro h
    cases a; cases b
    simpa using h
  · rintro rfl; rfl
theorem seqb_dec (a b : ByteArray) : (a.toList == b.toList) = decide (a = b) := by
  by_cases h : a = b
  · subst h; simp
  · have h2 : ¬ a.toList = b.toList := fun e => h (toList_inj.1 e)
    simp [h, h2]
theorem seq_of {a b : ByteArray} (h : (a.toList == b.toList) = true) : a = b := by rw [seqb_dec] at h; simpa using h
theorem sne_of {a b : ByteArray} (h : (a.toList == b.toList) = false) : ¬ a = b := by rw [seqb_dec] at h; simpa using h
theorem ieq_of {a b : Int} (h : (a == b) = true) : a = b := by simpa using h
theorem ine_of {a b : Int} (h : (a == b) = false) : ¬ a = b := by simpa using h
theorem notin_succ {α : Type} {l : List α} {k : Nat} {n : α} (hk : k < l.length) (h : ¬ n ∈ l.take k) (he : ¬ l[k] = n) : ¬ n ∈ l.take (k + 1) := by
  rw [← List.take_append_getElem hk]
  simp only [List.mem_append, List.mem_singleton, not_or]
  exact ⟨h, fun e => he e.symm⟩
theorem notin_all {α : Type} {l : List α} {k : Nat} {n : α} (hk : ¬ k < l.length) (h : ¬ n ∈ l.take k) : ¬ n ∈ l := by
  rwa [List.take_of_length_le (by omega)] at h
/-- The first k elements, all of them so. -/
def AllTo {α : Type} (p : α → Bool) (l : List α) (k : Nat) : Prop := ∀ x ∈ l.take k, p x = true
theorem AllTo.zero {α : Type} (p : α → Bool) (l : List α) : AllTo p l 0 := by simp [AllTo]
theorem AllTo.succ {α : Type} {p : α → Bool} {l : List α} {k : Nat} (hk : k < l.length) (h : AllTo p l k) (he : p l[k] = true) : AllTo p l (k + 1) := by
  unfold AllTo
  rw [← List.take_append_getElem hk]
  intro x hx
  rcases List.mem_append.1 hx with hx | hx
  · exact h x hx
  · rw [List.mem_singleton.1 hx]; exact he
theorem AllTo.all {α : Type} {p : α → Bool} {l : List α} {k : Nat} (hk : ¬ k < l.length) (h : AllTo p l k) : l.all p = true := by
  unfold AllTo at h
  rw [List.take_of_length_le (by omega)] at h
  simpa [List.all_eq_true] using h
theorem all_false {α : Type} {p : α → Bool} {l : List α} {k : Nat} (hk : k < l.length) (he : p l[k] = false) : l.all p = false := by
  rw [List.all_eq_false]
  exact ⟨l[k], List.getElem_mem hk, by simp [he]⟩
theorem any_true {α : Type} {p : α → Bool} {l : List α} {k : Nat} (hk : k < l.length) (he : p l[k] = true) : l.any p = true := by
  rw [List.any_eq_true]
  exact ⟨l[k], List.getElem_mem hk, he⟩
theorem AllTo.none {α : Type} {p : α → Bool} {l : List α} {k : Nat} (hk : ¬ k < l.length) (h : AllTo (fun x => !p x) l k) : l.any p = false := by
  have := h.all hk
  rw [List.any_eq_false]
  intro x hx
  have := List.all_eq_true.1 this x hx
  simpa using this

/-! ### A world with more blocks behind, and other draws -/
structure Ext where
  blocks : Array Obj
  drawn : Nat
instance : Inhabited Ext := ⟨⟨#[], 0⟩⟩
def _root_.Go.World.ext (w : World) (X : Ext) : World := { w with heap := w.heap ++ X.blocks, drawn := X.drawn }
theorem ext_below (w : World) (X : Ext) : Below w.heap.size w (w.ext X) :=
  ⟨rfl, rfl, rfl, by simp [World.ext], fun k hk => by simp [World.ext, Array.getElem?_append, hk]⟩
theorem ext_of_below {w W : World} (h : Below w.heap.size w W) : ∃ X, W = w.ext X := by
  refine ⟨⟨W.heap.extract w.heap.size W.heap.size, W.drawn⟩, ?_⟩
  have hh : W.heap = w.heap ++ W.heap.extract w.heap.size W.heap.size := by
    apply Array.ext_getElem?
    intro i
    have hs := h.size
    by_cases hi : i < w.heap.size
    · rw [Array.getElem?_append_left hi, h.block i hi]
    · rw [Array.getElem?_append_right (by omega), Array.getElem?_extract]
      by_cases h2 : i < W.heap.size
      · rw [if_pos (by omega)]
        congr 1
        omega
      · rw [if_neg (by omega)]
        exact Array.getElem?_eq_none (by omega)
  have e1 := h.os
  have e2 := h.tape
  have e3 := h.output
  cases W
  cases w
  simp only [World.ext] at *
  simp only [World.mk.injEq]
  exact ⟨hh, e2, trivial, e1, e3⟩
@[go_sem] theorem cell_ext (w : World) (X : Ext) (b o : Nat) (h : b < w.heap.size) : (w.ext X).cell? ⟨b, o, none⟩ = w.cell? ⟨b, o, none⟩ :=
  (ext_below w X).cell (p := ⟨b, o, none⟩) h
@[go_sem] theorem frozen_ext (w : World) (X : Ext) (b o : Nat) (h : b < w.heap.size) : (w.ext X).frozen? ⟨b, o, none⟩ = w.frozen? ⟨b, o, none⟩ :=
  (ext_below w X).frozen (p := ⟨b, o, none⟩) h
theorem ext_size (w : World) (X : Ext) : w.heap.size ≤ (w.ext X).heap.size := by simp [World.ext]

/-- Behind a call: its cells and marks as they were. -/
theorem bcell {W w1 : World} (hb : Below W.heap.size W w1) : (∀ b o, b < W.heap.size → w1.cell? ⟨b, o, none⟩ = W.cell? ⟨b, o, none⟩) ∧ (∀ b o, b < W.heap.size → w1.frozen? ⟨b, o, none⟩ = W.frozen? ⟨b, o, none⟩) :=
  ⟨fun b o h => hb.cell (p := ⟨b, o, none⟩) h, fun b o h => hb.frozen (p := ⟨b, o, none⟩) h⟩

/-- A region that draws its order, whose operations read alone and whose calls answer plain values (they may make blocks): one walk, in the text's order. -/
theorem region_quiet {P : Program} {id : Nat} {Q : Exit → Act → World → Prop} {a : Act} {w : World} {l : List Oper} (hm : P.follows .mixedOrders = true) (hB : Region.lexB .any l.toArray = true)
    (h : wpQuiet P l.toArray (fun W => ∃ X, W = w.ext X) (fun a' => ∀ W, (∃ X, W = w.ext X) → Q .normal a' W) l a) : (Code.region id l.toArray true).wp P Q a w :=
  wp_region_quiet (C := fun W => ∃ X, W = w.ext X) hm hB (by
    have : Below w.heap.size w { w with drawn := w.drawn + 1 } := (Below.refl _ w).drew
    exact ext_of_below this) (by simpa using h)
theorem below_of_ext {w W : World} (h : ∃ X, W = w.ext X) : Below w.heap.size w W := by
  obtain ⟨X, rfl⟩ := h
  exact ext_below _ _
theorem _root_.Go.RowKit.Below.trans0 {B : Nat} {a b c : World} (h : Below B a b) (k : Below b.heap.size b c) (hB : B ≤ b.heap.size := by first | assumption | omega | (simp; done) | (simp; omega) | exact Below.size (by assumption)) : Below B a c := h.trans (k.mono hB)
theorem call_quiet {P : Program} {f : FuncId} {args : Array Value} {w : World} {X : Ext} {v : Value}
    (h : Calls P f args (w.ext X) fun e W => e = .returned v ∧ Below (w.ext X).heap.size (w.ext X) W) : Calls P f args (w.ext X) fun e W => e = .returned v ∧ ∃ X', W = w.ext X' :=
  h.mono fun e W ⟨he, hb⟩ => ⟨he, ext_of_below ((ext_below w X).trans (hb.mono (ext_size w X)))⟩

end Go.Proofs.YtppbjmhllmaakaaGreatDoor
