/-
  NARROWER THAN 'FOR EVERY INPUT', by the rows' own cells (each row's printed sentence says how): PlanChecks: laid · PlanWhole: laid · PlanEmpty: laid · SolveBudgets: laid · SolveOrders: laid · SolveEnough: laid · SolvePlans: laid · SolveNone: laid · SolveStays: laid · PlanLess: laid · PlanSteps: laid.
  DERIVED. THE GIVEN ROWS OF THIS SEAT. 11 by the template 'for every input the law returns true; each argument reads behind the call as it read before'; 0 by the template 'total and deterministic' (their statements: YteoafnkcplealaaDoorTotals.lean).
  GIVEN WITH THE SEED: the statements are not yours to turn. If you find one false, say at which input.
  Laid BY PROGRAM, IN A SANDBOX (cutbox-rows.mjs): the forced cells as the released guide's own fill.sh prints them over the translation 818414dfbd78b6a6… (all of the seat's roots in one cut). By AI agents, Wed Nov 11 2026. No macro, syntax, notation, axiom, sorry.
-/
import Derived.Test.YteoafnkcplealaaDoorChecked
import GoSem.PinnedTables
import GoSem.Claim
import GoSem.ClaimJoined
import GoSem.ClaimMapViews
import Derived.JoinedTies
import Derived.KernelRfl
namespace Go.Proofs.YteoafnkcplealaaDoor
/- THE CELL 'sum', in the pinned program and in every row, IS THE sha256 OF THE DUMP (.gsa) THAT YteoafnkcplealaaDoorProg.lean LOADS. Nothing in Lean hashes anything: it is a label: what it is worth is what the hold of that sum in a sandbox is worth. -/
noncomputable def Tryd.pinned : Pinned := { name := "yteoafnkcplealaadoor", sum := "818414dfbd78b6a66d19061ec8d56f82e106b714c5159eca32f8274c002d1dff", checked := Tryd.checked }
namespace Rows
def none {H : Type} : Left H := { results := [], args := [] }

/- WHAT THE LISTED PACKAGE-LEVEL VARIABLES READ AS WHEN THE CALL BEGINS. Each datum BY PROGRAM (the guide's laid-datum.mjs) off the statement by which the dump's own 'gosem.cut.vars' lays the variable. In a bare row this is a premise. The card (YteoafnkcplealaaDoorCards.lean) ties it to the program's text. -/
def laid_unicode_utf8_acceptRanges {H : Type} : DataW H := .agg [.agg [.lit (.int .u8 128), .lit (.int .u8 191)], .agg [.lit (.int .u8 160), .lit (.int .u8 191)], .agg [.lit (.int .u8 128), .lit (.int .u8 159)], .agg [.lit (.int .u8 144), .lit (.int .u8 191)], .agg [.lit (.int .u8 128), .lit (.int .u8 143)], .agg [.lit (.int .u8 0), .lit (.int .u8 0)], .agg [.lit (.int .u8 0), .lit (.int .u8 0)], .agg [.lit (.int .u8 0), .lit (.int .u8 0)], .agg [.lit (.int .u8 0), .lit (.int .u8 0)], .agg [.lit (.int .u8 0), .lit (.int .u8 0)], .agg [.lit (.int .u8 0), .lit (.int .u8 0)], .agg [.lit (.int .u8 0), .lit (.int .u8 0)], .agg [.lit (.int .u8 0), .lit (.int .u8 0)], .agg [.lit (.int .u8 0), .lit (.int .u8 0)], .agg [.lit (.int .u8 0), .lit (.int .u8 0)], .agg [.lit (.int .u8 0), .lit (.int .u8 0)]]
def laid_sutler_need_ops {H : Type} : DataW H := .agg [.agg [.lit (.string [60, 61]), .lit (.int .i64 3)], .agg [.lit (.string [62, 61]), .lit (.int .i64 5)], .agg [.lit (.string [33, 61]), .lit (.int .i64 6)], .agg [.lit (.string [61]), .lit (.int .i64 1)], .agg [.lit (.string [60]), .lit (.int .i64 2)], .agg [.lit (.string [62]), .lit (.int .i64 4)]]
/-- One of Go's own tables, pinned by name: the form's constant. -/
def laid_unicode_utf8_first : DataW Unit := Go.Pinned.utf8First

/-- 'sutlerlaw19.PlanChecks': WHATEVER THE INPUT: true; the input reads as it did. -/
def planChecksSpec : ChangeSpec := { name := "planChecks", fn := fun _ => fun
  | [d1, d2] => { results := [.lit (.bool true)], args := [d1, d2] }
  | _ => none }
def planChecksRow : OpenClaim := { program := "yteoafnkcplealaadoor", sum := "818414dfbd78b6a66d19061ec8d56f82e106b714c5159eca32f8274c002d1dff", func := "sutler/sutlerlaw19.PlanChecks", spec := "planChecks", inPlace := ["internal/bytealg.IndexByteString", "internal/bytealg.IndexString"], unfollowed := true, recurses := true, named := ["unicode/utf8.first", "unicode/utf8.acceptRanges", "sutler/need.ops", "internal/bytealg.MaxLen"], plainKeys := false, apart := false, laid := [("unicode/utf8.acceptRanges", laid_unicode_utf8_acceptRanges), ("sutler/need.ops", laid_sutler_need_ops), ("unicode/utf8.first", laid_unicode_utf8_first)] }
def PlanChecksSaid : Prop := planChecksRow.holds Tryd.pinned (OpenSpec.ofChange planChecksSpec)

/-- ITS FALSE NEIGHBOUR: 'it returns false'. Refute it at one input. -/
def planChecksWrong : ChangeSpec := { name := "planChecks", fn := fun _ => fun
  | [d1, d2] => { results := [.lit (.bool false)], args := [d1, d2] }
  | _ => none }
def PlanChecksWrongFalsely : Prop := planChecksRow.holds Tryd.pinned (OpenSpec.ofChange planChecksWrong)

/-- 'sutlerlaw19.PlanWhole': WHATEVER THE INPUT: true; the input reads as it did. -/
def planWholeSpec : ChangeSpec := { name := "planWhole", fn := fun _ => fun
  | [d1, d2] => { results := [.lit (.bool true)], args := [d1, d2] }
  | _ => none }
def planWholeRow : OpenClaim := { program := "yteoafnkcplealaadoor", sum := "818414dfbd78b6a66d19061ec8d56f82e106b714c5159eca32f8274c002d1dff", func := "sutler/sutlerlaw19.PlanWhole", spec := "planWhole", inPlace := ["internal/bytealg.IndexByteString", "internal/bytealg.IndexString"], unfollowed := true, recurses := true, named := ["unicode/utf8.first", "unicode/utf8.acceptRanges", "sutler/need.ops", "internal/bytealg.MaxLen"], plainKeys := false, apart := false, laid := [("unicode/utf8.acceptRanges", laid_unicode_utf8_acceptRanges), ("sutler/need.ops", laid_sutler_need_ops), ("unicode/utf8.first", laid_unicode_utf8_first)] }
def PlanWholeSaid : Prop := planWholeRow.holds Tryd.pinned (OpenSpec.ofChange planWholeSpec)

/-- ITS FALSE NEIGHBOUR: 'it returns false'. Refute it at one input. -/
def planWholeWrong : ChangeSpec := { name := "planWhole", fn := fun _ => fun
  | [d1, d2] => { results := [.lit (.bool false)], args := [d1, d2] }
  | _ => none }
def PlanWholeWrongFalsely : Prop := planWholeRow.holds Tryd.pinned (OpenSpec.ofChange planWholeWrong)

/-- 'sutlerlaw19.PlanEmpty': WHATEVER THE INPUT: true; the input reads as it did. -/
def planEmptySpec : ChangeSpec := { name := "planEmpty", fn := fun _ => fun
  | [d1, d2] => { results := [.lit (.bool true)], args := [d1, d2] }
  | _ => none }
def planEmptyRow : OpenClaim := { program := "yteoafnkcplealaadoor", sum := "818414dfbd78b6a66d19061ec8d56f82e106b714c5159eca32f8274c002d1dff", func := "sutler/sutlerlaw19.PlanEmpty", spec := "planEmpty", inPlace := ["internal/bytealg.IndexByteString", "internal/bytealg.IndexString"], unfollowed := true, recurses := true, named := ["unicode/utf8.first", "unicode/utf8.acceptRanges", "sutler/need.ops", "internal/bytealg.MaxLen"], plainKeys := false, apart := false, laid := [("unicode/utf8.acceptRanges", laid_unicode_utf8_acceptRanges), ("sutler/need.ops", laid_sutler_need_ops), ("unicode/utf8.first", laid_unicode_utf8_first)] }
def PlanEmptySaid : Prop := planEmptyRow.holds Tryd.pinned (OpenSpec.ofChange planEmptySpec)

/-- ITS FALSE NEIGHBOUR: 'it returns false'. Refute it at one input. -/
def planEmptyWrong : ChangeSpec := { name := "planEmpty", fn := fun _ => fun
  | [d1, d2] => { results := [.lit (.bool false)], args := [d1, d2] }
  | _ => none }
def PlanEmptyWrongFalsely : Prop := planEmptyRow.holds Tryd.pinned (OpenSpec.ofChange planEmptyWrong)

/-- 'sutlerlaw20.SolveBudgets': WHATEVER THE INPUT: true; the input reads as it did. -/
def solveBudgetsSpec : ChangeSpec := { name := "solveBudgets", fn := fun _ => fun
  | [d1, d2, d3, d4, d5] => { results := [.lit (.bool true)], args := [d1, d2, d3, d4, d5] }
  | _ => none }
def solveBudgetsRow : OpenClaim := { program := "yteoafnkcplealaadoor", sum := "818414dfbd78b6a66d19061ec8d56f82e106b714c5159eca32f8274c002d1dff", func := "sutler/sutlerlaw20.SolveBudgets", spec := "solveBudgets", inPlace := ["internal/bytealg.IndexByteString", "internal/bytealg.IndexString"], unfollowed := true, recurses := true, named := ["unicode/utf8.first", "unicode/utf8.acceptRanges", "sutler/need.ops", "internal/bytealg.MaxLen"], plainKeys := false, apart := false, laid := [("unicode/utf8.acceptRanges", laid_unicode_utf8_acceptRanges), ("sutler/need.ops", laid_sutler_need_ops), ("unicode/utf8.first", laid_unicode_utf8_first)] }
def SolveBudgetsSaid : Prop := solveBudgetsRow.holds Tryd.pinned (OpenSpec.ofChange solveBudgetsSpec)

/-- ITS FALSE NEIGHBOUR: 'it returns false'. Refute it at one input. -/
def solveBudgetsWrong : ChangeSpec := { name := "solveBudgets", fn := fun _ => fun
  | [d1, d2, d3, d4, d5] => { results := [.lit (.bool false)], args := [d1, d2, d3, d4, d5] }
  | _ => none }
def SolveBudgetsWrongFalsely : Prop := solveBudgetsRow.holds Tryd.pinned (OpenSpec.ofChange solveBudgetsWrong)

/-- 'sutlerlaw20.SolveOrders': WHATEVER THE INPUT: true; the input reads as it did. -/
def solveOrdersSpec : ChangeSpec := { name := "solveOrders", fn := fun _ => fun
  | [d1, d2, d3] => { results := [.lit (.bool true)], args := [d1, d2, d3] }
  | _ => none }
def solveOrdersRow : OpenClaim := { program := "yteoafnkcplealaadoor", sum := "818414dfbd78b6a66d19061ec8d56f82e106b714c5159eca32f8274c002d1dff", func := "sutler/sutlerlaw20.SolveOrders", spec := "solveOrders", inPlace := ["internal/bytealg.IndexByteString", "internal/bytealg.IndexString"], unfollowed := true, recurses := true, named := ["unicode/utf8.first", "unicode/utf8.acceptRanges", "sutler/need.ops", "internal/bytealg.MaxLen"], plainKeys := false, apart := false, laid := [("unicode/utf8.acceptRanges", laid_unicode_utf8_acceptRanges), ("sutler/need.ops", laid_sutler_need_ops), ("unicode/utf8.first", laid_unicode_utf8_first)] }
def SolveOrdersSaid : Prop := solveOrdersRow.holds Tryd.pinned (OpenSpec.ofChange solveOrdersSpec)

/-- ITS FALSE NEIGHBOUR: 'it returns false'. Refute it at one input. -/
def solveOrdersWrong : ChangeSpec := { name := "solveOrders", fn := fun _ => fun
  | [d1, d2, d3] => { results := [.lit (.bool false)], args := [d1, d2, d3] }
  | _ => none }
def SolveOrdersWrongFalsely : Prop := solveOrdersRow.holds Tryd.pinned (OpenSpec.ofChange solveOrdersWrong)

/-- 'sutlerlaw20.SolveEnough': WHATEVER THE INPUT: true; the input reads as it did. -/
def solveEnoughSpec : ChangeSpec := { name := "solveEnough", fn := fun _ => fun
  | [d1, d2, d3] => { results := [.lit (.bool true)], args := [d1, d2, d3] }
  | _ => none }
def solveEnoughRow : OpenClaim := { program := "yteoafnkcplealaadoor", sum := "818414dfbd78b6a66d19061ec8d56f82e106b714c5159eca32f8274c002d1dff", func := "sutler/sutlerlaw20.SolveEnough", spec := "solveEnough", inPlace := ["internal/bytealg.IndexByteString", "internal/bytealg.IndexString"], unfollowed := true, recurses := true, named := ["unicode/utf8.first", "unicode/utf8.acceptRanges", "sutler/need.ops", "internal/bytealg.MaxLen"], plainKeys := false, apart := false, laid := [("unicode/utf8.acceptRanges", laid_unicode_utf8_acceptRanges), ("sutler/need.ops", laid_sutler_need_ops), ("unicode/utf8.first", laid_unicode_utf8_first)] }
def SolveEnoughSaid : Prop := solveEnoughRow.holds Tryd.pinned (OpenSpec.ofChange solveEnoughSpec)

/-- ITS FALSE NEIGHBOUR: 'it returns false'. Refute it at one input. -/
def solveEnoughWrong : ChangeSpec := { name := "solveEnough", fn := fun _ => fun
  | [d1, d2, d3] => { results := [.lit (.bool false)], args := [d1, d2, d3] }
  | _ => none }
def SolveEnoughWrongFalsely : Prop := solveEnoughRow.holds Tryd.pinned (OpenSpec.ofChange solveEnoughWrong)

/-- 'sutlerlaw20.SolvePlans': WHATEVER THE INPUT: true; the input reads as it did. -/
def solvePlansSpec : ChangeSpec := { name := "solvePlans", fn := fun _ => fun
  | [d1, d2, d3, d4] => { results := [.lit (.bool true)], args := [d1, d2, d3, d4] }
  | _ => none }
def solvePlansRow : OpenClaim := { program := "yteoafnkcplealaadoor", sum := "818414dfbd78b6a66d19061ec8d56f82e106b714c5159eca32f8274c002d1dff", func := "sutler/sutlerlaw20.SolvePlans", spec := "solvePlans", inPlace := ["internal/bytealg.IndexByteString", "internal/bytealg.IndexString"], unfollowed := true, recurses := true, named := ["unicode/utf8.first", "unicode/utf8.acceptRanges", "sutler/need.ops", "internal/bytealg.MaxLen"], plainKeys := false, apart := false, laid := [("unicode/utf8.acceptRanges", laid_unicode_utf8_acceptRanges), ("sutler/need.ops", laid_sutler_need_ops), ("unicode/utf8.first", laid_unicode_utf8_first)] }
def SolvePlansSaid : Prop := solvePlansRow.holds Tryd.pinned (OpenSpec.ofChange solvePlansSpec)

/-- ITS FALSE NEIGHBOUR: 'it returns false'. Refute it at one input. -/
def solvePlansWrong : ChangeSpec := { name := "solvePlans", fn := fun _ => fun
  | [d1, d2, d3, d4] => { results := [.lit (.bool false)], args := [d1, d2, d3, d4] }
  | _ => none }
def SolvePlansWrongFalsely : Prop := solvePlansRow.holds Tryd.pinned (OpenSpec.ofChange solvePlansWrong)

/-- 'sutlerlaw20.SolveNone': WHATEVER THE INPUT: true; the input reads as it did. -/
def solveNoneSpec : ChangeSpec := { name := "solveNone", fn := fun _ => fun
  | [d1, d2, d3, d4] => { results := [.lit (.bool true)], args := [d1, d2, d3, d4] }
  | _ => none }
def solveNoneRow : OpenClaim := { program := "yteoafnkcplealaadoor", sum := "818414dfbd78b6a66d19061ec8d56f82e106b714c5159eca32f8274c002d1dff", func := "sutler/sutlerlaw20.SolveNone", spec := "solveNone", inPlace := ["internal/bytealg.IndexByteString", "internal/bytealg.IndexString"], unfollowed := true, recurses := true, named := ["unicode/utf8.first", "unicode/utf8.acceptRanges", "sutler/need.ops", "internal/bytealg.MaxLen"], plainKeys := false, apart := false, laid := [("unicode/utf8.acceptRanges", laid_unicode_utf8_acceptRanges), ("sutler/need.ops", laid_sutler_need_ops), ("unicode/utf8.first", laid_unicode_utf8_first)] }
def SolveNoneSaid : Prop := solveNoneRow.holds Tryd.pinned (OpenSpec.ofChange solveNoneSpec)

/-- ITS FALSE NEIGHBOUR: 'it returns false'. Refute it at one input. -/
def solveNoneWrong : ChangeSpec := { name := "solveNone", fn := fun _ => fun
  | [d1, d2, d3, d4] => { results := [.lit (.bool false)], args := [d1, d2, d3, d4] }
  | _ => none }
def SolveNoneWrongFalsely : Prop := solveNoneRow.holds Tryd.pinned (OpenSpec.ofChange solveNoneWrong)

/-- 'sutlerlaw20.SolveStays': WHATEVER THE INPUT: true; the input reads as it did. -/
def solveStaysSpec : ChangeSpec := { name := "solveStays", fn := fun _ => fun
  | [d1, d2, d3, d4] => { results := [.lit (.bool true)], args := [d1, d2, d3, d4] }
  | _ => none }
def solveStaysRow : OpenClaim := { program := "yteoafnkcplealaadoor", sum := "818414dfbd78b6a66d19061ec8d56f82e106b714c5159eca32f8274c002d1dff", func := "sutler/sutlerlaw20.SolveStays", spec := "solveStays", inPlace := ["internal/bytealg.IndexByteString", "internal/bytealg.IndexString"], unfollowed := true, recurses := true, named := ["unicode/utf8.first", "unicode/utf8.acceptRanges", "sutler/need.ops", "internal/bytealg.MaxLen"], plainKeys := false, apart := false, laid := [("unicode/utf8.acceptRanges", laid_unicode_utf8_acceptRanges), ("sutler/need.ops", laid_sutler_need_ops), ("unicode/utf8.first", laid_unicode_utf8_first)] }
def SolveStaysSaid : Prop := solveStaysRow.holds Tryd.pinned (OpenSpec.ofChange solveStaysSpec)

/-- ITS FALSE NEIGHBOUR: 'it returns false'. Refute it at one input. -/
def solveStaysWrong : ChangeSpec := { name := "solveStays", fn := fun _ => fun
  | [d1, d2, d3, d4] => { results := [.lit (.bool false)], args := [d1, d2, d3, d4] }
  | _ => none }
def SolveStaysWrongFalsely : Prop := solveStaysRow.holds Tryd.pinned (OpenSpec.ofChange solveStaysWrong)

/-- 'sutlerlaw19.PlanLess': WHATEVER THE INPUT: true; the input reads as it did. -/
def planLessSpec : ChangeSpec := { name := "planLess", fn := fun _ => fun
  | [d1, d2, d3] => { results := [.lit (.bool true)], args := [d1, d2, d3] }
  | _ => none }
def planLessRow : OpenClaim := { program := "yteoafnkcplealaadoor", sum := "818414dfbd78b6a66d19061ec8d56f82e106b714c5159eca32f8274c002d1dff", func := "sutler/sutlerlaw19.PlanLess", spec := "planLess", inPlace := ["internal/bytealg.IndexByteString", "internal/bytealg.IndexString"], unfollowed := true, recurses := true, named := ["unicode/utf8.first", "unicode/utf8.acceptRanges", "sutler/need.ops", "internal/bytealg.MaxLen"], plainKeys := false, apart := false, laid := [("unicode/utf8.acceptRanges", laid_unicode_utf8_acceptRanges), ("sutler/need.ops", laid_sutler_need_ops), ("unicode/utf8.first", laid_unicode_utf8_first)] }
def PlanLessSaid : Prop := planLessRow.holds Tryd.pinned (OpenSpec.ofChange planLessSpec)

/-- ITS FALSE NEIGHBOUR: 'it returns false'. Refute it at one input. -/
def planLessWrong : ChangeSpec := { name := "planLess", fn := fun _ => fun
  | [d1, d2, d3] => { results := [.lit (.bool false)], args := [d1, d2, d3] }
  | _ => none }
def PlanLessWrongFalsely : Prop := planLessRow.holds Tryd.pinned (OpenSpec.ofChange planLessWrong)

/-- 'sutlerlaw19.PlanSteps': WHATEVER THE INPUT: true; the input reads as it did. -/
def planStepsSpec : ChangeSpec := { name := "planSteps", fn := fun _ => fun
  | [d1, d2, d3] => { results := [.lit (.bool true)], args := [d1, d2, d3] }
  | _ => none }
def planStepsRow : OpenClaim := { program := "yteoafnkcplealaadoor", sum := "818414dfbd78b6a66d19061ec8d56f82e106b714c5159eca32f8274c002d1dff", func := "sutler/sutlerlaw19.PlanSteps", spec := "planSteps", inPlace := ["internal/bytealg.IndexByteString", "internal/bytealg.IndexString"], unfollowed := true, recurses := true, named := ["unicode/utf8.first", "unicode/utf8.acceptRanges", "sutler/need.ops", "internal/bytealg.MaxLen"], plainKeys := false, apart := false, laid := [("unicode/utf8.acceptRanges", laid_unicode_utf8_acceptRanges), ("sutler/need.ops", laid_sutler_need_ops), ("unicode/utf8.first", laid_unicode_utf8_first)] }
def PlanStepsSaid : Prop := planStepsRow.holds Tryd.pinned (OpenSpec.ofChange planStepsSpec)

/-- ITS FALSE NEIGHBOUR: 'it returns false'. Refute it at one input. -/
def planStepsWrong : ChangeSpec := { name := "planSteps", fn := fun _ => fun
  | [d1, d2, d3] => { results := [.lit (.bool false)], args := [d1, d2, d3] }
  | _ => none }
def PlanStepsWrongFalsely : Prop := planStepsRow.holds Tryd.pinned (OpenSpec.ofChange planStepsWrong)

/- THE SECOND FORM. 'bulk': how many values and letters a reading holds, each counted each time it is reached (what is shared counts as often as it is met; a slice's spare places count too). A statement '..UptoSaid' is the law's where the arguments, and the package variables that the reading takes, are together of bulk at most 1048576: NARROWER than '..Said'. Prove '..Said' where nothing that the law and all that it calls make is longer than what came in: it says more and counts as full. Else prove '..UptoSaid'. A law counts once. -/
mutual
def uptoBulk {H : Type} : DataW H → Nat
  | .lit (.string bytes) => bytes.length + 1
  | .lit _ => 1
  | .nil => 1
  | .ptr d => uptoBulk d + 1
  | .slice elems spare => uptoBulkAll elems + uptoBulkAll spare + 1
  | .agg parts => uptoBulkAll parts + 1
  | .iface _ d => uptoBulk d + 1
  | .map entries => uptoBulkEntries entries + 1
  | .held _ => 1
def uptoBulkAll {H : Type} : List (DataW H) → Nat
  | [] => 0
  | d :: r => uptoBulk d + uptoBulkAll r
def uptoBulkEntries {H : Type} : List (Lit × DataW H) → Nat
  | [] => 0
  | x :: r => uptoBulkEntry x + uptoBulkEntries r
def uptoBulkEntry {H : Type} : Lit × DataW H → Nat
  | (.string bytes, d) => bytes.length + uptoBulk d + 1
  | (_, d) => uptoBulk d + 1
 end
def uptoSmall : (H : Type) → List (DataW H) → Bool := fun _ ds => decide (uptoBulkAll ds ≤ 1048576)
def OpenSpec.upto (s : _root_.Go.ChangeSpec) : _root_.Go.OpenSpec := { _root_.Go.OpenSpec.ofChange s with cond := some uptoSmall }

/-- 'sutlerlaw19.PlanChecks', WHERE WHAT IT READS IS OF BULK AT MOST 1048576: true; the input reads as it did. -/
def planChecksUptoRow : OpenClaim := { program := "yteoafnkcplealaadoor", sum := "818414dfbd78b6a66d19061ec8d56f82e106b714c5159eca32f8274c002d1dff", func := "sutler/sutlerlaw19.PlanChecks", spec := "planChecks", inPlace := ["internal/bytealg.IndexByteString", "internal/bytealg.IndexString"], unfollowed := true, recurses := true, named := ["unicode/utf8.first", "unicode/utf8.acceptRanges", "sutler/need.ops", "internal/bytealg.MaxLen"], plainKeys := false, apart := false, laid := [("unicode/utf8.acceptRanges", laid_unicode_utf8_acceptRanges), ("sutler/need.ops", laid_sutler_need_ops), ("unicode/utf8.first", laid_unicode_utf8_first)], narrowed := true }
def PlanChecksUptoSaid : Prop := planChecksUptoRow.holds Tryd.pinned (OpenSpec.upto planChecksSpec)

/-- 'sutlerlaw19.PlanWhole', WHERE WHAT IT READS IS OF BULK AT MOST 1048576: true; the input reads as it did. -/
def planWholeUptoRow : OpenClaim := { program := "yteoafnkcplealaadoor", sum := "818414dfbd78b6a66d19061ec8d56f82e106b714c5159eca32f8274c002d1dff", func := "sutler/sutlerlaw19.PlanWhole", spec := "planWhole", inPlace := ["internal/bytealg.IndexByteString", "internal/bytealg.IndexString"], unfollowed := true, recurses := true, named := ["unicode/utf8.first", "unicode/utf8.acceptRanges", "sutler/need.ops", "internal/bytealg.MaxLen"], plainKeys := false, apart := false, laid := [("unicode/utf8.acceptRanges", laid_unicode_utf8_acceptRanges), ("sutler/need.ops", laid_sutler_need_ops), ("unicode/utf8.first", laid_unicode_utf8_first)], narrowed := true }
def PlanWholeUptoSaid : Prop := planWholeUptoRow.holds Tryd.pinned (OpenSpec.upto planWholeSpec)

/-- 'sutlerlaw19.PlanEmpty', WHERE WHAT IT READS IS OF BULK AT MOST 1048576: true; the input reads as it did. -/
def planEmptyUptoRow : OpenClaim := { program := "yteoafnkcplealaadoor", sum := "818414dfbd78b6a66d19061ec8d56f82e106b714c5159eca32f8274c002d1dff", func := "sutler/sutlerlaw19.PlanEmpty", spec := "planEmpty", inPlace := ["internal/bytealg.IndexByteString", "internal/bytealg.IndexString"], unfollowed := true, recurses := true, named := ["unicode/utf8.first", "unicode/utf8.acceptRanges", "sutler/need.ops", "internal/bytealg.MaxLen"], plainKeys := false, apart := false, laid := [("unicode/utf8.acceptRanges", laid_unicode_utf8_acceptRanges), ("sutler/need.ops", laid_sutler_need_ops), ("unicode/utf8.first", laid_unicode_utf8_first)], narrowed := true }
def PlanEmptyUptoSaid : Prop := planEmptyUptoRow.holds Tryd.pinned (OpenSpec.upto planEmptySpec)

/-- 'sutlerlaw20.SolveBudgets', WHERE WHAT IT READS IS OF BULK AT MOST 1048576: true; the input reads as it did. -/
def solveBudgetsUptoRow : OpenClaim := { program := "yteoafnkcplealaadoor", sum := "818414dfbd78b6a66d19061ec8d56f82e106b714c5159eca32f8274c002d1dff", func := "sutler/sutlerlaw20.SolveBudgets", spec := "solveBudgets", inPlace := ["internal/bytealg.IndexByteString", "internal/bytealg.IndexString"], unfollowed := true, recurses := true, named := ["unicode/utf8.first", "unicode/utf8.acceptRanges", "sutler/need.ops", "internal/bytealg.MaxLen"], plainKeys := false, apart := false, laid := [("unicode/utf8.acceptRanges", laid_unicode_utf8_acceptRanges), ("sutler/need.ops", laid_sutler_need_ops), ("unicode/utf8.first", laid_unicode_utf8_first)], narrowed := true }
def SolveBudgetsUptoSaid : Prop := solveBudgetsUptoRow.holds Tryd.pinned (OpenSpec.upto solveBudgetsSpec)

/-- 'sutlerlaw20.SolveOrders', WHERE WHAT IT READS IS OF BULK AT MOST 1048576: true; the input reads as it did. -/
def solveOrdersUptoRow : OpenClaim := { program := "yteoafnkcplealaadoor", sum := "818414dfbd78b6a66d19061ec8d56f82e106b714c5159eca32f8274c002d1dff", func := "sutler/sutlerlaw20.SolveOrders", spec := "solveOrders", inPlace := ["internal/bytealg.IndexByteString", "internal/bytealg.IndexString"], unfollowed := true, recurses := true, named := ["unicode/utf8.first", "unicode/utf8.acceptRanges", "sutler/need.ops", "internal/bytealg.MaxLen"], plainKeys := false, apart := false, laid := [("unicode/utf8.acceptRanges", laid_unicode_utf8_acceptRanges), ("sutler/need.ops", laid_sutler_need_ops), ("unicode/utf8.first", laid_unicode_utf8_first)], narrowed := true }
def SolveOrdersUptoSaid : Prop := solveOrdersUptoRow.holds Tryd.pinned (OpenSpec.upto solveOrdersSpec)

/-- 'sutlerlaw20.SolveEnough', WHERE WHAT IT READS IS OF BULK AT MOST 1048576: true; the input reads as it did. -/
def solveEnoughUptoRow : OpenClaim := { program := "yteoafnkcplealaadoor", sum := "818414dfbd78b6a66d19061ec8d56f82e106b714c5159eca32f8274c002d1dff", func := "sutler/sutlerlaw20.SolveEnough", spec := "solveEnough", inPlace := ["internal/bytealg.IndexByteString", "internal/bytealg.IndexString"], unfollowed := true, recurses := true, named := ["unicode/utf8.first", "unicode/utf8.acceptRanges", "sutler/need.ops", "internal/bytealg.MaxLen"], plainKeys := false, apart := false, laid := [("unicode/utf8.acceptRanges", laid_unicode_utf8_acceptRanges), ("sutler/need.ops", laid_sutler_need_ops), ("unicode/utf8.first", laid_unicode_utf8_first)], narrowed := true }
def SolveEnoughUptoSaid : Prop := solveEnoughUptoRow.holds Tryd.pinned (OpenSpec.upto solveEnoughSpec)

/-- 'sutlerlaw20.SolvePlans', WHERE WHAT IT READS IS OF BULK AT MOST 1048576: true; the input reads as it did. -/
def solvePlansUptoRow : OpenClaim := { program := "yteoafnkcplealaadoor", sum := "818414dfbd78b6a66d19061ec8d56f82e106b714c5159eca32f8274c002d1dff", func := "sutler/sutlerlaw20.SolvePlans", spec := "solvePlans", inPlace := ["internal/bytealg.IndexByteString", "internal/bytealg.IndexString"], unfollowed := true, recurses := true, named := ["unicode/utf8.first", "unicode/utf8.acceptRanges", "sutler/need.ops", "internal/bytealg.MaxLen"], plainKeys := false, apart := false, laid := [("unicode/utf8.acceptRanges", laid_unicode_utf8_acceptRanges), ("sutler/need.ops", laid_sutler_need_ops), ("unicode/utf8.first", laid_unicode_utf8_first)], narrowed := true }
def SolvePlansUptoSaid : Prop := solvePlansUptoRow.holds Tryd.pinned (OpenSpec.upto solvePlansSpec)

/-- 'sutlerlaw20.SolveNone', WHERE WHAT IT READS IS OF BULK AT MOST 1048576: true; the input reads as it did. -/
def solveNoneUptoRow : OpenClaim := { program := "yteoafnkcplealaadoor", sum := "818414dfbd78b6a66d19061ec8d56f82e106b714c5159eca32f8274c002d1dff", func := "sutler/sutlerlaw20.SolveNone", spec := "solveNone", inPlace := ["internal/bytealg.IndexByteString", "internal/bytealg.IndexString"], unfollowed := true, recurses := true, named := ["unicode/utf8.first", "unicode/utf8.acceptRanges", "sutler/need.ops", "internal/bytealg.MaxLen"], plainKeys := false, apart := false, laid := [("unicode/utf8.acceptRanges", laid_unicode_utf8_acceptRanges), ("sutler/need.ops", laid_sutler_need_ops), ("unicode/utf8.first", laid_unicode_utf8_first)], narrowed := true }
def SolveNoneUptoSaid : Prop := solveNoneUptoRow.holds Tryd.pinned (OpenSpec.upto solveNoneSpec)

/-- 'sutlerlaw20.SolveStays', WHERE WHAT IT READS IS OF BULK AT MOST 1048576: true; the input reads as it did. -/
def solveStaysUptoRow : OpenClaim := { program := "yteoafnkcplealaadoor", sum := "818414dfbd78b6a66d19061ec8d56f82e106b714c5159eca32f8274c002d1dff", func := "sutler/sutlerlaw20.SolveStays", spec := "solveStays", inPlace := ["internal/bytealg.IndexByteString", "internal/bytealg.IndexString"], unfollowed := true, recurses := true, named := ["unicode/utf8.first", "unicode/utf8.acceptRanges", "sutler/need.ops", "internal/bytealg.MaxLen"], plainKeys := false, apart := false, laid := [("unicode/utf8.acceptRanges", laid_unicode_utf8_acceptRanges), ("sutler/need.ops", laid_sutler_need_ops), ("unicode/utf8.first", laid_unicode_utf8_first)], narrowed := true }
def SolveStaysUptoSaid : Prop := solveStaysUptoRow.holds Tryd.pinned (OpenSpec.upto solveStaysSpec)

/-- 'sutlerlaw19.PlanLess', WHERE WHAT IT READS IS OF BULK AT MOST 1048576: true; the input reads as it did. -/
def planLessUptoRow : OpenClaim := { program := "yteoafnkcplealaadoor", sum := "818414dfbd78b6a66d19061ec8d56f82e106b714c5159eca32f8274c002d1dff", func := "sutler/sutlerlaw19.PlanLess", spec := "planLess", inPlace := ["internal/bytealg.IndexByteString", "internal/bytealg.IndexString"], unfollowed := true, recurses := true, named := ["unicode/utf8.first", "unicode/utf8.acceptRanges", "sutler/need.ops", "internal/bytealg.MaxLen"], plainKeys := false, apart := false, laid := [("unicode/utf8.acceptRanges", laid_unicode_utf8_acceptRanges), ("sutler/need.ops", laid_sutler_need_ops), ("unicode/utf8.first", laid_unicode_utf8_first)], narrowed := true }
def PlanLessUptoSaid : Prop := planLessUptoRow.holds Tryd.pinned (OpenSpec.upto planLessSpec)

/-- 'sutlerlaw19.PlanSteps', WHERE WHAT IT READS IS OF BULK AT MOST 1048576: true; the input reads as it did. -/
def planStepsUptoRow : OpenClaim := { program := "yteoafnkcplealaadoor", sum := "818414dfbd78b6a66d19061ec8d56f82e106b714c5159eca32f8274c002d1dff", func := "sutler/sutlerlaw19.PlanSteps", spec := "planSteps", inPlace := ["internal/bytealg.IndexByteString", "internal/bytealg.IndexString"], unfollowed := true, recurses := true, named := ["unicode/utf8.first", "unicode/utf8.acceptRanges", "sutler/need.ops", "internal/bytealg.MaxLen"], plainKeys := false, apart := false, laid := [("unicode/utf8.acceptRanges", laid_unicode_utf8_acceptRanges), ("sutler/need.ops", laid_sutler_need_ops), ("unicode/utf8.first", laid_unicode_utf8_first)], narrowed := true }
def PlanStepsUptoSaid : Prop := planStepsUptoRow.holds Tryd.pinned (OpenSpec.upto planStepsSpec)

end Rows
end Go.Proofs.YteoafnkcplealaaDoor
