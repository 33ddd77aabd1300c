/- What the rows' listed variables hold, and a world in which they hold it. -/
import Derived.Test.YtppbjmhllmaakaaGreatDoorX5
import Derived.Test.YtppbjmhllmaakaaGreatDoorX2
import Derived.Test.YtppbjmhllmaakaaGreatDoorSh
import Derived.Lib.LaidU8
import Derived.Lib.LaidIn
import Derived.LaidHandle
import Derived.Handed
set_option linter.unusedVariables false
namespace Go.Proofs.YtppbjmhllmaakaaGreatDoor
open Go.RowKit

/-- The rows' list. -/
def rowLaid : List (String × DataW Unit) := [("unicode/utf8.acceptRanges", Rows.laid_unicode_utf8_acceptRanges), ("sutler/need.ops", Rows.laid_sutler_need_ops), ("unicode/utf8.first", Rows.laid_unicode_utf8_first)]

theorem first_eq : Rows.laid_unicode_utf8_first = Lib.firstData := by kernel_rfl
theorem accept_eq : (Rows.laid_unicode_utf8_acceptRanges : DataW Unit) = Lib.acceptData := by kernel_rfl
theorem laidMet_of {P : Program} {W : World} (h : laidMetH P rowLaid W) : laidMet P rowLaid W := h
theorem laidMetH_of {P : Program} {W : World} (h : laidMet P rowLaid W) : laidMetH P rowLaid W := h

theorem opsName : Tryz.prog.globalNamed "sutler/need.ops" = some 0 := by kernel_rfl
theorem opsType : (Tryz.prog.globals[(0 : Nat)]?).map (·.type) = some 160 := by kernel_rfl
theorem ops_elem {w : World} {fuel : Nat} {cs : List Value} {bs : List UInt8} {k : Int} {q : List MemPlace} (h : DataW.trod (fun _ => ()) Tryz.prog w 0 (fun _ => true) false fuel 159 cs = some (.agg [.lit (.string bs), .lit (.int .i64 k)], q)) :
    cs[0]? = some (.string ⟨bs.toArray⟩) ∧ cs[1]? = some (.int .i64 k) := by
  have c9 : Tryz.prog.cellsOf 9 = 1 := by kernel_rfl
  have c3 : Tryz.prog.cellsOf 3 = 1 := by kernel_rfl
  obtain ⟨xs, n, -, hx, hl, hxl, hf⟩ := DataW.trod_struct Tryz.underlying159 h
  have h0 : DataW.trod (fun _ => ()) Tryz.prog w 0 (fun _ => true) false n 9 ((cs.drop 0).take (Tryz.prog.cellsOf 9)) = xs[0]? := hf 0 _ rfl
  have h1 : DataW.trod (fun _ => ()) Tryz.prog w 0 (fun _ => true) false n 3 ((cs.drop 1).take (Tryz.prog.cellsOf 3)) = xs[1]? := hf 1 _ rfl
  rw [c9] at h0
  rw [c3] at h1
  match xs, hxl with
  | [x0, x1], _ =>
    simp only [List.getElem?_cons_zero, List.getElem?_cons_succ] at h0 h1
    obtain ⟨s, e0, rfl, -⟩ := DataW.trod_string Tryz.underlying9 h0
    obtain ⟨z, e1, rfl, -⟩ := DataW.trod_int Tryz.underlying3 h1
    simp only [List.map_cons, List.map_nil, Prod.mk.injEq, DataW.agg.injEq, List.cons.injEq, DataW.lit.injEq, Lit.string.injEq, Lit.int.injEq, true_and, and_true] at hx
    obtain ⟨⟨hs, rfl⟩, -⟩ := hx
    have f0 := congrArg (·[0]?) e0
    have f1 := congrArg (·[0]?) e1
    simp only [List.getElem?_take, List.getElem?_drop] at f0 f1
    constructor
    · have : s = ⟨bs.toArray⟩ := by rw [hs]
      rw [← this]; simpa using f0
    · simpa using f1

set_option maxRecDepth 100000 in
theorem laid_of_reads {W : World} (r1 : Lib.VarReads Tryz.prog W "sutler/need.ops" Rows.laid_sutler_need_ops) (r2 : Lib.VarReads Tryz.prog W "unicode/utf8.first" Rows.laid_unicode_utf8_first) (r3 : Lib.VarReads Tryz.prog W "unicode/utf8.acceptRanges" Rows.laid_unicode_utf8_acceptRanges) : Laid W := by
  refine ⟨?_, ?_⟩
  · obtain ⟨g, t, cs, fuel, p, hg, hty, hvar, hd⟩ := r1
    obtain rfl := Option.some.inj (opsName.symm.trans hg)
    obtain rfl := Option.some.inj (opsType.symm.trans hty)
    have c2 : Tryz.prog.cellsOf 159 = 2 := by kernel_rfl
    have key : ∀ i, i < 6 → ∀ bs k, ([([60, 61], 3), ([62, 61], 5), ([33, 61], 6), ([61], 1), ([60], 2), ([62], 4)] : List (List UInt8 × Int))[i]? = some (bs, k) → W.cell? ⟨0, 2 * i, none⟩ = some (.string ⟨bs.toArray⟩) ∧ W.cell? ⟨0, 2 * i + 1, none⟩ = some (.int .i64 k) := by
      intro i hi bs k hik
      obtain ⟨fuel', d, q, hdi, he⟩ := Lib.array_elem Tryz.underlying160 hd i hi
      have hde : d = .agg [.lit (.string bs), .lit (.int .i64 k)] := by
        match i, hi with
        | 0, _ => cases hik; simpa using hdi.symm
        | 1, _ => cases hik; simpa using hdi.symm
        | 2, _ => cases hik; simpa using hdi.symm
        | 3, _ => cases hik; simpa using hdi.symm
        | 4, _ => cases hik; simpa using hdi.symm
        | 5, _ => cases hik; simpa using hdi.symm
      subst hde
      rw [c2] at he
      obtain ⟨e0, e1⟩ := ops_elem he
      simp only [List.getElem?_take, List.getElem?_drop] at e0 e1
      constructor
      · rw [World.var?_cell hg hvar (2 * i), ← Array.getElem?_toList]
        simpa [Nat.mul_comm] using e0
      · rw [World.var?_cell hg hvar (2 * i + 1), ← Array.getElem?_toList]
        simpa [Nat.mul_comm] using e1
    intro j v hj
    match j, hj with
    | 0, hj => cases hj; exact (key 0 (by omega) _ _ rfl).1
    | 1, hj => cases hj; exact (key 0 (by omega) _ _ rfl).2
    | 2, hj => cases hj; exact (key 1 (by omega) _ _ rfl).1
    | 3, hj => cases hj; exact (key 1 (by omega) _ _ rfl).2
    | 4, hj => cases hj; exact (key 2 (by omega) _ _ rfl).1
    | 5, hj => cases hj; exact (key 2 (by omega) _ _ rfl).2
    | 6, hj => cases hj; exact (key 3 (by omega) _ _ rfl).1
    | 7, hj => cases hj; exact (key 3 (by omega) _ _ rfl).2
    | 8, hj => cases hj; exact (key 4 (by omega) _ _ rfl).1
    | 9, hj => cases hj; exact (key 4 (by omega) _ _ rfl).2
    | 10, hj => cases hj; exact (key 5 (by omega) _ _ rfl).1
    | 11, hj => cases hj; exact (key 5 (by omega) _ _ rfl).2
  · exact utf8Tabs_of_reads Tryz.lays260 ⟨by kernel_rfl, by kernel_rfl, by kernel_rfl, by kernel_rfl, by kernel_rfl, by kernel_rfl, by kernel_rfl⟩ (first_eq ▸ r2) (accept_eq ▸ r3)
theorem laid_of {W : World} (h : laidMetH Tryz.prog rowLaid W) : Laid W := by
  have h' := laidMet_of h
  exact laid_of_reads (Lib.laidMet.reads h' (by simp [rowLaid])) (Lib.laidMet.reads h' (by simp [rowLaid])) (Lib.laidMet.reads h' (by simp [rowLaid]))

/-- A world that meets the condition: the settled one, the variables laid. -/
noncomputable def laidWorld (os : Os) : World :=
  let w0 := World.holding Tryz.prog os ⟨#[], #[], []⟩
  let put (h : Array Obj) (g : Nat) (cs : Array Value) : Array Obj := h.modify g fun
    | .cells _ t frozen => .cells cs t frozen
    | o => o
  let h1 := put w0.heap 2 (Lib.firstTab.map fun z => Value.int .u8 z).toArray
  let h2 := put h1 3 ((List.range 16).flatMap fun i => [Value.int .u8 (Lib.accLo i), Value.int .u8 (Lib.accHi i)]).toArray
  let h3 := put h2 0 opsCells.toArray
  { w0 with heap := h3 }
theorem laidWorld_met (os : Os) (args : Array Value) : laidMetH Tryz.prog rowLaid ((laidWorld os).forCall (fun _ _ => 0) ⟨#[], args, []⟩).memory :=
  laidMetH_of (LaidIn.of_run (l := rowLaid) [2, 3, 0] 8 (by kernel_rfl) (by kernel_rfl) (by kernel_rfl) (by kernel_rfl)).met

end Go.Proofs.YtppbjmhllmaakaaGreatDoor
