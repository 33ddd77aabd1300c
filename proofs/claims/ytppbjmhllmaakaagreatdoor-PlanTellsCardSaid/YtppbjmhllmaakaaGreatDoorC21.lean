/- Contracts: the chapter's catalogue and its example (the statements of layer 19). -/
import Derived.Test.YtppbjmhllmaakaaGreatDoorC20
set_option linter.unusedVariables false
namespace Go.Proofs.YtppbjmhllmaakaaGreatDoor
open Go.RowKit

def needN (c : UInt8) : Need := ⟨⟨#[c]⟩, 0, ⟨[], ⟨#[]⟩⟩⟩
def ver1 : Ver := ⟨[1], ⟨#[]⟩⟩
def pkgN (c : UInt8) (l : List Clause) : Pkg := ⟨⟨#[c]⟩, ver1, [], l⟩
/-- The chapter's catalogue; with other clauses of its second package. -/
def cat2 (l : List Clause) : List Pkg := [pkgN 97 [⟨false, [needN 98]⟩], pkgN 98 l]

theorem arr_need {w : World} {S : Nat → Prop} {b : Nat} {c : UInt8} (hS : S b) (h0 : w.cell? ⟨b, 0, none⟩ = some (.string ⟨#[c]⟩)) (h1 : w.cell? ⟨b, 1, none⟩ = some (.int .i64 0)) (h2 : w.cell? ⟨b, 2, none⟩ = some (.slice none 0 0)) (h3 : w.cell? ⟨b, 3, none⟩ = some (.string ⟨#[]⟩)) :
    Arr w S (some ⟨b, 0, none⟩) [needN c] := by
  refine ⟨by change 1 * 64 ≤ _; unfold reach; omega, by change 1 ≤ _; omega, fun _ => ⟨b, 0, rfl, hS, fun i x hi => ?_⟩⟩
  match i, hi with
  | 0, hi =>
    cases hi
    refine ⟨[.string ⟨#[c]⟩, .int .i64 0, .slice none 0 0, .string ⟨#[]⟩], ⟨none, 0, rfl, by simp [ByteArray.size, reach, needN], ⟨by change _ ≤ (0 : Int); omega, by change (0 : Int) ≤ _; omega⟩, Arr.nil _ _ _, by simp [ByteArray.size, reach, needN]⟩, fun j v hj => ?_⟩
    match j, hj with
    | 0, hj => cases hj; exact h0
    | 1, hj => cases hj; exact h1
    | 2, hj => cases hj; exact h2
    | 3, hj => cases hj; exact h3
theorem arr_clause {w : World} {S : Nat → Prop} {b : Nat} {n : Bool} {A : Option Addr} {ca : Nat} {l : List Need} (hS : S b) (h0 : w.cell? ⟨b, 0, none⟩ = some (.bool n)) (h1 : w.cell? ⟨b, 1, none⟩ = some (.slice A l.length ca)) (h : Arr w S A l) :
    Arr w S (some ⟨b, 0, none⟩) [(⟨n, l⟩ : Clause)] := by
  refine ⟨by change 1 * 32 ≤ _; unfold reach; omega, by change 1 ≤ _; omega, fun _ => ⟨b, 0, rfl, hS, fun i x hi => ?_⟩⟩
  match i, hi with
  | 0, hi =>
    cases hi
    refine ⟨[.bool n, .slice A l.length ca], ⟨A, ca, rfl, h⟩, fun j v hj => ?_⟩
    match j, hj with
    | 0, hj => cases hj; exact h0
    | 1, hj => cases hj; exact h1
theorem arr_ints1 {w : World} {S : Nat → Prop} {b : Nat} {x : Int} (hS : S b) (hx : In64 x) (h0 : w.cell? ⟨b, 0, none⟩ = some (.int .i64 x)) : Arr w S (some ⟨b, 0, none⟩) [x] := by
  refine ⟨by change 1 * 8 ≤ _; unfold reach; omega, by change 1 ≤ _; omega, fun _ => ⟨b, 0, rfl, hS, fun i y hi => ?_⟩⟩
  match i, hi with
  | 0, hi =>
    cases hi
    refine ⟨[.int .i64 x], ⟨rfl, hx⟩, fun j v hj => ?_⟩
    match j, hj with
    | 0, hj => cases hj; exact h0
theorem arr_ints2 {w : World} {S : Nat → Prop} {b : Nat} {x y : Int} (hS : S b) (hx : In64 x) (hy : In64 y) (h0 : w.cell? ⟨b, 0, none⟩ = some (.int .i64 x)) (h1 : w.cell? ⟨b, 1, none⟩ = some (.int .i64 y)) : Arr w S (some ⟨b, 0, none⟩) [x, y] := by
  refine ⟨by change 2 * 8 ≤ _; unfold reach; omega, by change 2 ≤ _; omega, fun _ => ⟨b, 0, rfl, hS, fun i z hi => ?_⟩⟩
  match i, hi with
  | 0, hi =>
    cases hi
    refine ⟨[.int .i64 x], ⟨rfl, hx⟩, fun j v hj => ?_⟩
    match j, hj with
    | 0, hj => cases hj; exact h0
  | 1, hi =>
    cases hi
    refine ⟨[.int .i64 y], ⟨rfl, hy⟩, fun j v hj => ?_⟩
    match j, hj with
    | 0, hj => cases hj; exact h1
/-- The ten cells of the chapter's catalogue: p its packages' version's parts, q its first one's clauses, A .. its second one's. -/
structure Two (w : World) (b : Nat) (p q : Nat) (A : Option Addr) (n ca : Nat) : Prop where
  c0 : w.cell? ⟨b, 0, none⟩ = some (.string ⟨#[97]⟩)
  c1 : w.cell? ⟨b, 1, none⟩ = some (.slice (some ⟨p, 0, none⟩) 1 1)
  c2 : w.cell? ⟨b, 2, none⟩ = some (.string ⟨#[]⟩)
  c3 : w.cell? ⟨b, 3, none⟩ = some (.slice none 0 0)
  c4 : w.cell? ⟨b, 4, none⟩ = some (.slice (some ⟨q, 0, none⟩) 1 1)
  c5 : w.cell? ⟨b, 5, none⟩ = some (.string ⟨#[98]⟩)
  c6 : w.cell? ⟨b, 6, none⟩ = some (.slice (some ⟨p, 0, none⟩) 1 1)
  c7 : w.cell? ⟨b, 7, none⟩ = some (.string ⟨#[]⟩)
  c8 : w.cell? ⟨b, 8, none⟩ = some (.slice none 0 0)
  c9 : w.cell? ⟨b, 9, none⟩ = some (.slice A n ca)
theorem Two.arr {w : World} {S : Nat → Prop} {b p q : Nat} {A : Option Addr} {ca : Nat} {l : List Clause} (h : Two w b p q A l.length ca) (hS : S b) (hp : Arr w S (some ⟨p, 0, none⟩) [(1 : Int)]) (hq : Arr w S (some ⟨q, 0, none⟩) [(⟨false, [needN 98]⟩ : Clause)]) (hA : Arr w S A l) :
    Arr w S (some ⟨b, 0, none⟩) (cat2 l) := by
  refine ⟨by change 2 * 104 ≤ _; unfold reach; omega, by change 2 ≤ _; omega, fun _ => ⟨b, 0, rfl, hS, fun i x hi => ?_⟩⟩
  match i, hi with
  | 0, hi =>
    cases hi
    refine ⟨[.string ⟨#[97]⟩, .slice (some ⟨p, 0, none⟩) 1 1, .string ⟨#[]⟩, .slice none 0 0, .slice (some ⟨q, 0, none⟩) 1 1], ⟨some ⟨p, 0, none⟩, 1, none, 0, some ⟨q, 0, none⟩, 1, rfl, by simp [ByteArray.size, reach, pkgN], hp, by simp [ByteArray.size, reach, pkgN, ver1], Arr.nil _ _ _, hq⟩, fun j v hj => ?_⟩
    match j, hj with
    | 0, hj => cases hj; exact h.c0
    | 1, hj => cases hj; exact h.c1
    | 2, hj => cases hj; exact h.c2
    | 3, hj => cases hj; exact h.c3
    | 4, hj => cases hj; exact h.c4
  | 1, hi =>
    cases hi
    refine ⟨[.string ⟨#[98]⟩, .slice (some ⟨p, 0, none⟩) 1 1, .string ⟨#[]⟩, .slice none 0 0, .slice A l.length ca], ⟨some ⟨p, 0, none⟩, 1, none, 0, A, ca, rfl, by simp [ByteArray.size, reach, pkgN], hp, by simp [ByteArray.size, reach, pkgN, ver1], Arr.nil _ _ _, hA⟩, fun j v hj => ?_⟩
    match j, hj with
    | 0, hj => cases hj; exact h.c5
    | 1, hj => cases hj; exact h.c6
    | 2, hj => cases hj; exact h.c7
    | 3, hj => cases hj; exact h.c8
    | 4, hj => cases hj; exact h.c9
theorem Two.below {w w' : World} {b p q : Nat} {A : Option Addr} {n ca : Nat} (h : Two w b p q A n ca) (hb : Below w.heap.size w w') : Two w' b p q A n ca :=
  ⟨box_below hb h.c0, box_below hb h.c1, box_below hb h.c2, box_below hb h.c3, box_below hb h.c4, box_below hb h.c5, box_below hb h.c6, box_below hb h.c7, box_below hb h.c8, box_below hb h.c9⟩

set_option maxHeartbeats 2000000 in
set_option maxRecDepth 100000 in
theorem two19_any (w : World) : Calls Tryz.prog 64 #[] w fun e w' => Below w.heap.size w w' ∧ ∃ b p q, e = .returned (.slice (some ⟨b, 0, none⟩) 2 2) ∧ Two w' b p q none 0 0 ∧ w.heap.size ≤ b ∧ b < w'.heap.size ∧ w'.frozen? ⟨b, 9, none⟩ = false ∧
    Arr w' (fun x => w.heap.size ≤ x ∧ x < b) (some ⟨p, 0, none⟩) [(1 : Int)] ∧ Arr w' (fun x => w.heap.size ≤ x ∧ x < b) (some ⟨q, 0, none⟩) [(⟨false, [needN 98]⟩ : Clause)] := by
  go_enter Tryz.func64, Tryz.ntmps64
  go_wp2
  go_ret
  refine ⟨by (repeat (first | exact Below.refl _ _ | assumption | (refine Below.setCell ?_ (by first | omega | (simp; done) | (simp; omega) | exact Below.size (by assumption)) _) | (refine Below.alloc ?_ (by first | omega | (simp; done) | (simp; omega) | exact Below.size (by assumption)) _) | refine Below.drew ?_ | refine Below.trans0 ?_ (by assumption))), w.heap.size + 1 + 1 + 1 + 1, w.heap.size, w.heap.size + 1 + 1 + 1, rfl, ⟨?_, ?_, ?_, ?_, ?_, ?_, ?_, ?_, ?_, ?_⟩, by omega, by simp, ?_, arr_ints1 ⟨by omega, by omega⟩ ⟨by decide, by decide⟩ ?_, arr_clause (A := some ⟨w.heap.size + 1 + 1, 0, none⟩) (ca := 1) ⟨by omega, by omega⟩ ?_ ?_ (arr_need ⟨by omega, by omega⟩ ?_ ?_ ?_ ?_)⟩
  all_goals (simp [go_sem])

end Go.Proofs.YtppbjmhllmaakaaGreatDoor
