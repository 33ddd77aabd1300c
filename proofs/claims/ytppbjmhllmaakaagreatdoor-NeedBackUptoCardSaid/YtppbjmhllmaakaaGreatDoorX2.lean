/- A range over a string whose iterator lies in any block. -/
import Derived.Test.YtppbjmhllmaakaaGreatDoorX1
import Derived.Laws.RangeAny
import Derived.Shelf.Unicode.DecodeSlow
set_option linter.unusedVariables false
namespace Go.Proofs.YtppbjmhllmaakaaGreatDoor
open Go.RowKit

def _root_.Go.World.setIter (w : World) (b : Nat) (s : ByteArray) (p : Nat) : World := { w with heap := w.heap.setIfInBounds b (.stringIter s p) }
theorem next_at {P : Program} (w : World) (b : Nat) (s : ByteArray) (pos : Nat) (hb : w.heap[b]? = some (.stringIter s pos)) (h : pos < s.size) (ty : TypeId) :
    (Instr.next (.pointer (some ⟨b, 0, none⟩)) true ty).run P w = .ok (.tuple #[.bool true, .int .i64 pos, .int .i32 (Utf8.decode s pos).1]) (w.setIter b s (pos + (Utf8.decode s pos).2)) := by
  simp only [Instr.next, getObj, setObj, Sem.run_bind, Sem.run, hb, Result.andThen, h, if_true]
  simp [goInt, World.setIter]
theorem next_end {P : Program} (w : World) (b : Nat) (s : ByteArray) (pos : Nat) (hb : w.heap[b]? = some (.stringIter s pos)) (h : ¬ pos < s.size) (ty : TypeId) :
    (Instr.next (.pointer (some ⟨b, 0, none⟩)) true ty).run P w = .ok (.tuple #[.bool false]) w := by
  simp [Instr.next, getObj, Sem.run, hb, h]
theorem setIter_at (w : World) (b : Nat) (s : ByteArray) (p : Nat) (h : b < w.heap.size) : (w.setIter b s p).heap[b]? = some (.stringIter s p) := by
  simp [World.setIter, h]
@[go_sem] theorem setIter_size (w : World) (b : Nat) (s : ByteArray) (p : Nat) : (w.setIter b s p).heap.size = w.heap.size := by simp [World.setIter]
theorem setIter_ne (w : World) (b k : Nat) (s : ByteArray) (p : Nat) (h : k ≠ b) : (w.setIter b s p).heap[k]? = w.heap[k]? := by
  simp [World.setIter, Ne.symm h]
theorem _root_.Go.RowKit.Below.setIter {B : Nat} {a w : World} (h : Below B a w) {b : Nat} (hb : B ≤ b) (s : ByteArray) (p : Nat) : Below B a (w.setIter b s p) :=
  h.trans ⟨rfl, rfl, rfl, by simp [World.setIter], fun k hk => setIter_ne _ _ _ _ _ (by omega)⟩
theorem iter_at (w : World) (s : ByteArray) : (w.iter s 0).heap[w.heap.size]? = some (.stringIter s 0) := World.iter_heap w s 0
@[go_sem] theorem iter_size (w : World) (s : ByteArray) (p : Nat) : (w.iter s p).heap.size = w.heap.size + 1 := by simp [World.iter]
theorem iter_below (w : World) (s : ByteArray) (p : Nat) : Below w.heap.size w (w.iter s p) := (Below.refl _ w).alloc (Nat.le_refl _) _
theorem iter_lt {w : World} {b : Nat} {o : Obj} (h : w.heap[b]? = some o) : b < w.heap.size := (Array.getElem?_eq_some_iff.1 h).1
theorem below_at {w w' : World} (hb : Below w.heap.size w w') {b : Nat} {o : Obj} (h : w.heap[b]? = some o) : w'.heap[b]? = some o := (hb.block b (iter_lt h)).trans h

/-- The rune at place k of a text: an ASCII byte is itself; another byte opens a rune from 128 on. -/
theorem rune_ascii {s : ByteArray} {k : Nat} (h : k < s.size) (ha : (s[k].toNat : Int) < 128) : Utf8.decode s k = (s[k].toNat, 1) := decode_ascii s k h (by omega)
theorem rune_high {s : ByteArray} {k : Nat} (h : k < s.size) (ha : ¬ (s[k].toNat : Int) < 128) : 128 ≤ (Utf8.decode s k).1 := (decode_high s k h (by omega)).1
theorem iterPos_of {w : World} {b : Nat} {s : ByteArray} {p : Nat} (h : w.heap[b]? = some (.stringIter s p)) : w.iterPos b = p := by simp [World.iterPos, h]

/-! ### The package-level variables that the code reads -/
def opsCells : List Value := [.string ⟨#[60, 61]⟩, .int .i64 3, .string ⟨#[62, 61]⟩, .int .i64 5, .string ⟨#[33, 61]⟩, .int .i64 6, .string ⟨#[61]⟩, .int .i64 1, .string ⟨#[60]⟩, .int .i64 2, .string ⟨#[62]⟩, .int .i64 4]
/-- The listed variables hold what the text lays. -/
structure Laid (w : World) : Prop where
  ops : ∀ j v, opsCells[j]? = some v → w.cell? ⟨0, j, none⟩ = some v
  tabs : Lib.Utf8Tabs 2 3 w
theorem Laid.below {w w' : World} (h : Laid w) (hb : Below w.heap.size w w') : Laid w' :=
  ⟨fun j v hv => (hb.cell (World.block_lt_of_cell? w _ (h.ops j v hv))).trans (h.ops j v hv), Utf8Tabs_below h.tabs hb⟩

end Go.Proofs.YtppbjmhllmaakaaGreatDoor
