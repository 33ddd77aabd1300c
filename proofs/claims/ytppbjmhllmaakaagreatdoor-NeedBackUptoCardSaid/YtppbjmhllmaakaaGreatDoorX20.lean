/- What the rows of the layer need list: eight variables; a world in which they hold it. -/
import Derived.Test.YtppbjmhllmaakaaGreatDoorX7
import Derived.Test.YtppbjmhllmaakaaGreatDoorX19
import Derived.Stop.LaidErr
import Derived.Lib.LaidTab
import Derived.Lib.ItoaNum
set_option linter.unusedVariables false
namespace Go.Proofs.YtppbjmhllmaakaaGreatDoor
open Go.RowKit

/-- The rows' list. -/
def rowLaid8 : List (String × DataW Unit) := [("math/bits.deBruijn32tab", Rows.laid_math_bits_deBruijn32tab), ("math/bits.deBruijn64tab", Rows.laid_math_bits_deBruijn64tab), ("internal/strconv.uint64pow10", Rows.laid_internal_strconv_uint64pow10), ("unicode/utf8.acceptRanges", Rows.laid_unicode_utf8_acceptRanges), ("strconv.ErrRange", Rows.laid_strconv_ErrRange), ("strconv.ErrSyntax", Rows.laid_strconv_ErrSyntax), ("sutler/need.ops", Rows.laid_sutler_need_ops), ("unicode/utf8.first", Rows.laid_unicode_utf8_first)]

/-- What the texts of versions and needs ask of a world. -/
structure LaidN (w : World) : Prop where
  laid : Laid w
  pow : Lib.TabIs Tryz.prog w "internal/strconv.uint64pow10" .u64 Lib.pow10Tab
  syn : ∃ tp p, w.var? Tryz.prog "strconv.ErrSyntax" = some #[.iface tp p]
  rng : ∃ tp p, w.var? Tryz.prog "strconv.ErrRange" = some #[.iface tp p]
  max : ∃ m, w.cell? ⟨1, 0, none⟩ = some (.int .i64 m)
theorem var_below {P : Program} {w w' : World} {n : String} {cs : Array Value} (h : w.var? P n = some cs) (hb : Below w.heap.size w w') : w'.var? P n = some cs := by
  unfold World.var? at h ⊢
  cases hg : P.globalNamed n with
  | none => rw [hg] at h; cases h
  | some g =>
    rw [hg] at h
    simp only [Option.bind_some] at h ⊢
    have hlt : g < w.heap.size := by
      rcases Nat.lt_or_ge g w.heap.size with h1 | h1
      · exact h1
      · rw [Array.getElem?_eq_none h1] at h; cases h
    rw [hb.block g hlt]
    exact h
theorem LaidN.below {w w' : World} (h : LaidN w) (hb : Below w.heap.size w w') : LaidN w' where
  laid := h.laid.below hb
  pow := var_below h.pow hb
  syn := by obtain ⟨tp, p, h⟩ := h.syn; exact ⟨tp, p, var_below h hb⟩
  rng := by obtain ⟨tp, p, h⟩ := h.rng; exact ⟨tp, p, var_below h hb⟩
  max := by obtain ⟨m, h⟩ := h.max; exact ⟨m, (World.cell?_of_block (hb.block _ (World.block_lt_of_cell? _ _ h))).trans h⟩

theorem laidMet_of8 {P : Program} {W : World} (h : laidMetH P rowLaid8 W) : laidMet P rowLaid8 W := h
theorem laidMetH_of8 {P : Program} {W : World} (h : laidMet P rowLaid8 W) : laidMetH P rowLaid8 W := h
theorem laidMet_drop {P : Program} {W : World} : ∀ (l : List (String × DataW Unit)) (k : Nat), laidMet P l W → laidMet P (l.drop k) W
  | l, 0, h => h
  | [], _ + 1, h => h
  | _ :: r, k + 1, h => laidMet_drop r k h.tail

theorem starE : "*" ++ "errors.errorString" = "*errors.errorString" := by decide
theorem rowE (u : TypeId) (h : Tryz.prog.typeName? 3 u = some "*errors.errorString") : u = 242 :=
  typeName_ptr_named (nm := "errors.errorString") (by rw [starE]; kernel_rfl) (by kernel_rfl) (by decide) u (by rw [starE]; exact h)
theorem laid_of8 {W : World} (h : laidMetH Tryz.prog rowLaid8 W) (hs : W.ShapedOpen Tryz.prog) : LaidN W := by
  have h' := laidMet_of8 h
  refine ⟨laid_of_reads (Lib.laidMet.reads h' (by simp [rowLaid8])) (Lib.laidMet.reads h' (by simp [rowLaid8])) (Lib.laidMet.reads h' (by simp [rowLaid8])), ?_, ?_, ?_, ?_⟩
  · have h2 := laidMet_drop rowLaid8 2 h'
    exact Lib.tabIs_of_head (k := .u64) (zs := Lib.pow10Tab) (e := 176) (n := 20) (g := 4) (t := 231) (rest := rowLaid8.drop 3) (by kernel_rfl) (by kernel_rfl) Tryz.underlying231 Tryz.underlying176 (by kernel_rfl) (by kernel_rfl) h2
  · obtain ⟨a, s, hv, -⟩ := laid_sentinel (laidMet_drop rowLaid8 5 h') (g := 5) (by kernel_rfl) (ti := 155) (by kernel_rfl) Tryz.underlying155 rowE Tryz.underlying242 Tryz.underlying244 rfl rfl Tryz.underlying9 (by kernel_rfl) (by kernel_rfl)
    exact ⟨_, _, hv⟩
  · obtain ⟨a, s, hv, -⟩ := laid_sentinel (laidMet_drop rowLaid8 4 h') (g := 6) (by kernel_rfl) (ti := 155) (by kernel_rfl) Tryz.underlying155 rowE Tryz.underlying242 Tryz.underlying244 rfl rfl Tryz.underlying9 (by kernel_rfl) (by kernel_rfl)
    exact ⟨_, _, hv⟩
  · exact cell_of_shapedOpen_int (g := 1) (t := 3) (zero := #[.int .i64 0]) hs (by decide +kernel) (by kernel_rfl) rfl (by kernel_rfl) (by kernel_rfl) Tryz.underlying3

/-! ### One start that fits -/
noncomputable abbrev low8 : Nat := (World.settled Tryz.prog default).heap.size
noncomputable def laidWorld8 (os : Os) : World :=
  let N := (World.settled Tryz.prog os).heap.size
  let w0 := World.holding Tryz.prog os ⟨#[.cells #[.string ⟨#[105, 110, 118, 97, 108, 105, 100, 32, 115, 121, 110, 116, 97, 120]⟩] 244, .cells #[.string ⟨#[118, 97, 108, 117, 101, 32, 111, 117, 116, 32, 111, 102, 32, 114, 97, 110, 103, 101]⟩] 244], #[], []⟩
  let put (h : Array Obj) (g : Nat) (cs : Array Value) : Array Obj := h.modify g fun
    | .cells _ t frozen => .cells cs t frozen
    | o => o
  let h1 := put w0.heap 2 (Lib.firstTab.map fun z => Value.int .u8 z).toArray
  let h2 := put h1 3 ((List.range 16).flatMap fun i => [Value.int .u8 (Lib.accLo i), Value.int .u8 (Lib.accHi i)]).toArray
  let h3 := put h2 0 opsCells.toArray
  let h4 := put h3 4 (Lib.pow10Tab.map fun z => Value.int .u64 z).toArray
  let h5 := put h4 7 #[.int .u8 0, .int .u8 1, .int .u8 28, .int .u8 2, .int .u8 29, .int .u8 14, .int .u8 24, .int .u8 3, .int .u8 30, .int .u8 22, .int .u8 20, .int .u8 15, .int .u8 25, .int .u8 17, .int .u8 4, .int .u8 8, .int .u8 31, .int .u8 27, .int .u8 13, .int .u8 23, .int .u8 21, .int .u8 19, .int .u8 16, .int .u8 7, .int .u8 26, .int .u8 12, .int .u8 18, .int .u8 6, .int .u8 11, .int .u8 5, .int .u8 10, .int .u8 9]
  let h6 := put h5 8 #[.int .u8 0, .int .u8 1, .int .u8 56, .int .u8 2, .int .u8 57, .int .u8 49, .int .u8 28, .int .u8 3, .int .u8 61, .int .u8 58, .int .u8 42, .int .u8 50, .int .u8 38, .int .u8 29, .int .u8 17, .int .u8 4, .int .u8 62, .int .u8 47, .int .u8 59, .int .u8 36, .int .u8 45, .int .u8 43, .int .u8 51, .int .u8 22, .int .u8 53, .int .u8 39, .int .u8 33, .int .u8 30, .int .u8 24, .int .u8 18, .int .u8 12, .int .u8 5, .int .u8 63, .int .u8 55, .int .u8 48, .int .u8 27, .int .u8 60, .int .u8 41, .int .u8 37, .int .u8 16, .int .u8 46, .int .u8 35, .int .u8 44, .int .u8 21, .int .u8 52, .int .u8 32, .int .u8 23, .int .u8 11, .int .u8 54, .int .u8 26, .int .u8 40, .int .u8 15, .int .u8 34, .int .u8 20, .int .u8 31, .int .u8 10, .int .u8 25, .int .u8 14, .int .u8 19, .int .u8 9, .int .u8 13, .int .u8 8, .int .u8 7, .int .u8 6]
  let h7 := put h6 5 #[.iface 242 (.pointer (some ⟨N, 0, none⟩))]
  let h8 := put h7 6 #[.iface 242 (.pointer (some ⟨N + 1, 0, none⟩))]
  { w0 with heap := h8 }
set_option maxRecDepth 100000 in
theorem laidWorld8_met (os : Os) (args : Array Value) : laidMetH Tryz.prog rowLaid8 ((laidWorld8 os).forCall (fun _ _ => 0) ⟨#[], args, []⟩).memory :=
  laidMetH_of8 (LaidIn.of_run (l := rowLaid8) [7, 8, 4, 3, 6, low8 + 1, 5, low8, 0, 2] 8 (by kernel_rfl) (by kernel_rfl) (by kernel_rfl) (by kernel_rfl)).met

end Go.Proofs.YtppbjmhllmaakaaGreatDoor
