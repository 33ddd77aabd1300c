/- Contract: the search itself, run$1. -/
import Derived.Test.YtppbjmhllmaakaaGreatDoorC42
import Derived.Test.YtppbjmhllmaakaaGreatDoorX15
import Derived.Test.YtppbjmhllmaakaaGreatDoorSh
set_option linter.unusedVariables false
namespace Go.Proofs.YtppbjmhllmaakaaGreatDoor
open Go.RowKit

theorem conI_any (l : List Int) (x : Int) (A : Option Addr) (ca : Nat) (S : Nat → Prop) (W : World) (h : Arr W S A l) :
    Calls Tryz.prog 103 #[.slice A l.length ca, .int .i64 x] W fun e w' => e = .returned (.bool (decide (x ∈ l))) ∧ w' = W := by
  have hl := h.len
  cases l with
  | nil =>
    refine (Tryz.slices_Contains_int_empty A ca x _).mono ?_
    rintro e w1 ⟨rfl, hw1⟩
    exact ⟨by simp, hw1⟩
  | cons a r =>
    obtain ⟨b, o, rfl, _⟩ := h.lt (by simp)
    have hcs : ∀ j, j < (a :: r).length → W.cell? ⟨b, o + j, none⟩ = some (.int .i64 ((a :: r).getD j 0)) := fun j hj => by
      obtain ⟨b', o', e, _, _, hc⟩ := h.getI j hj
      cases e
      rw [hc, List.getD, List.getElem?_eq_getElem hj]
      rfl
    refine (Tryz.slices_Contains_int b o (a :: r).length ca (a :: r) x _ (Nat.le_refl _) hl hcs).mono ?_
    rintro e w1 ⟨rfl, hw1⟩
    exact ⟨ret_bool (by rw [List.take_length, Bool.eq_iff_iff]; simp), hw1⟩

theorem entersR1 : ∀ args w, (callFunc 100 args).run Tryz.prog w = .ok (.enter 100 args) w := enters_of Tryz.func100 (by kernel_rfl) rfl

/-- The search's state with its boxes: sb holds the struct's address, fb tells whether one is found, gb holds the function itself. -/
structure RunAt (w : World) (h0 h1 bs sb fb gb : Nat) (k : Work) (s : Int) (f : Bool) (v : Value) (l : List Int) : Prop where
  st : Srch w h0 h1 3 bs k s v l
  s0 : w.cell? ⟨sb, 0, none⟩ = some (.pointer (some ⟨bs, 0, none⟩))
  f0 : w.cell? ⟨fb, 0, none⟩ = some (.bool f)
  ff : w.frozen? ⟨fb, 0, none⟩ = false
  g0 : w.cell? ⟨gb, 0, none⟩ = some (.func (.func 100) #[] #[.pointer (some ⟨sb, 0, none⟩), .pointer (some ⟨fb, 0, none⟩), .pointer (some ⟨gb, 0, none⟩)])
  sl : h0 ≤ sb
  fl : h0 ≤ fb
  gl : h0 ≤ gb
  sh : sb < h1
  fh : fb < h1
  gh : gb < h1
  ns : sb ≠ bs
  nf : fb ≠ bs
  ng : gb ≠ bs
  nfs : fb ≠ sb
  nfg : fb ≠ gb
theorem RunAt.below {w w' : World} {h0 h1 bs sb fb gb : Nat} {k : Work} {s : Int} {f : Bool} {v : Value} {l : List Int} (h : RunAt w h0 h1 bs sb fb gb k s f v l) (hb : Below w.heap.size w w') : RunAt w' h0 h1 bs sb fb gb k s f v l :=
  { h with st := h.st.below hb, s0 := box_below hb h.s0, f0 := box_below hb h.f0, g0 := box_below hb h.g0, ff := (World.frozen?_of_block (hb.block fb (World.block_lt_of_cell? w _ h.f0))).trans h.ff }
/-- Something was stored into the struct: the boxes stand. -/
theorem RunAt.part {w w' : World} {h0 h1 bs sb fb gb : Nat} {k : Work} {s s' : Int} {f : Bool} {v v' : Value} {l l' : List Int} (h : RunAt w h0 h1 bs sb fb gb k s f v l) (hS : Srch w' h0 h1 3 bs k s' v' l') (hb : ∀ b, b < h1 → b ≠ bs → w'.heap[b]? = w.heap[b]?) : RunAt w' h0 h1 bs sb fb gb k s' f v' l' :=
  { h with st := hS, s0 := (World.cell?_of_block (hb sb h.sh h.ns)).trans h.s0, f0 := (World.cell?_of_block (hb fb h.fh h.nf)).trans h.f0, g0 := (World.cell?_of_block (hb gb h.gh h.ng)).trans h.g0, ff := (World.frozen?_of_block (hb fb h.fh h.nf)).trans h.ff }

end Go.Proofs.YtppbjmhllmaakaaGreatDoor
