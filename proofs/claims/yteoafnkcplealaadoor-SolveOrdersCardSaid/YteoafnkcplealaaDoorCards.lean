/-
  DERIVED. GIVEN WITH THE SEED: THE CARDS: each row of YteoafnkcplealaaDoorRows.lean that lists a variable, with what it lists TIED to the program's text (the seventh form; the later family's looks); each row that meets fmt, with fmt's text TOLD by the authors' own Lean function (tested against real Go, not proved from fmt's source: count such statements apart). THE CARD IS WHAT COUNTS. Prove the row's statement (the work); the ties are given (YteoafnkcplealaaDoorTie.lean); close each card by the builder's one call (the guide's Derived/Test/ToyasCard.lean, 'card_holds'). Laid BY PROGRAM, IN A SANDBOX (cutbox-door.mjs). By AI agents, Wed Nov 11 2026. No macro, syntax, notation, axiom, sorry.
-/
import Derived.Test.YteoafnkcplealaaDoorRows
import GoSem.ClaimSeven
namespace Go.Proofs.YteoafnkcplealaaDoor
namespace Rows

/-- THE TIED CARD OF 'sutlerlaw19.PlanChecks'. -/
def planChecksCard : Claim7 := { stood := { row := planChecksRow, standIns := [], harness := (true, "4e38f89d1dfba3835a1c989bd3ccf82ec321db592322fcb4fbbaed279a60172e"), looks := false }, kinds := [], alts := [], laidByText := true, laidKinds := [.data, .data, .pinned], laidTests := true, laidLooks := .later }
def PlanChecksCardSaid : Prop := Claim7.holds Tryd.pinned (.plain (OpenSpec.ofChange planChecksSpec)) planChecksCard

/-- THE TIED CARD OF 'sutlerlaw19.PlanWhole'. -/
def planWholeCard : Claim7 := { stood := { row := planWholeRow, standIns := [], harness := (true, "4e38f89d1dfba3835a1c989bd3ccf82ec321db592322fcb4fbbaed279a60172e"), looks := false }, kinds := [], alts := [], laidByText := true, laidKinds := [.data, .data, .pinned], laidTests := true, laidLooks := .later }
def PlanWholeCardSaid : Prop := Claim7.holds Tryd.pinned (.plain (OpenSpec.ofChange planWholeSpec)) planWholeCard

/-- THE TIED CARD OF 'sutlerlaw19.PlanEmpty'. -/
def planEmptyCard : Claim7 := { stood := { row := planEmptyRow, standIns := [], harness := (true, "4e38f89d1dfba3835a1c989bd3ccf82ec321db592322fcb4fbbaed279a60172e"), looks := false }, kinds := [], alts := [], laidByText := true, laidKinds := [.data, .data, .pinned], laidTests := true, laidLooks := .later }
def PlanEmptyCardSaid : Prop := Claim7.holds Tryd.pinned (.plain (OpenSpec.ofChange planEmptySpec)) planEmptyCard

/-- THE TIED CARD OF 'sutlerlaw20.SolveBudgets'. -/
def solveBudgetsCard : Claim7 := { stood := { row := solveBudgetsRow, standIns := [], harness := (true, "4e38f89d1dfba3835a1c989bd3ccf82ec321db592322fcb4fbbaed279a60172e"), looks := false }, kinds := [], alts := [], laidByText := true, laidKinds := [.data, .data, .pinned], laidTests := true, laidLooks := .later }
def SolveBudgetsCardSaid : Prop := Claim7.holds Tryd.pinned (.plain (OpenSpec.ofChange solveBudgetsSpec)) solveBudgetsCard

/-- THE TIED CARD OF 'sutlerlaw20.SolveOrders'. -/
def solveOrdersCard : Claim7 := { stood := { row := solveOrdersRow, standIns := [], harness := (true, "4e38f89d1dfba3835a1c989bd3ccf82ec321db592322fcb4fbbaed279a60172e"), looks := false }, kinds := [], alts := [], laidByText := true, laidKinds := [.data, .data, .pinned], laidTests := true, laidLooks := .later }
def SolveOrdersCardSaid : Prop := Claim7.holds Tryd.pinned (.plain (OpenSpec.ofChange solveOrdersSpec)) solveOrdersCard

/-- THE TIED CARD OF 'sutlerlaw20.SolveEnough'. -/
def solveEnoughCard : Claim7 := { stood := { row := solveEnoughRow, standIns := [], harness := (true, "4e38f89d1dfba3835a1c989bd3ccf82ec321db592322fcb4fbbaed279a60172e"), looks := false }, kinds := [], alts := [], laidByText := true, laidKinds := [.data, .data, .pinned], laidTests := true, laidLooks := .later }
def SolveEnoughCardSaid : Prop := Claim7.holds Tryd.pinned (.plain (OpenSpec.ofChange solveEnoughSpec)) solveEnoughCard

/-- THE TIED CARD OF 'sutlerlaw20.SolvePlans'. -/
def solvePlansCard : Claim7 := { stood := { row := solvePlansRow, standIns := [], harness := (true, "4e38f89d1dfba3835a1c989bd3ccf82ec321db592322fcb4fbbaed279a60172e"), looks := false }, kinds := [], alts := [], laidByText := true, laidKinds := [.data, .data, .pinned], laidTests := true, laidLooks := .later }
def SolvePlansCardSaid : Prop := Claim7.holds Tryd.pinned (.plain (OpenSpec.ofChange solvePlansSpec)) solvePlansCard

/-- THE TIED CARD OF 'sutlerlaw20.SolveNone'. -/
def solveNoneCard : Claim7 := { stood := { row := solveNoneRow, standIns := [], harness := (true, "4e38f89d1dfba3835a1c989bd3ccf82ec321db592322fcb4fbbaed279a60172e"), looks := false }, kinds := [], alts := [], laidByText := true, laidKinds := [.data, .data, .pinned], laidTests := true, laidLooks := .later }
def SolveNoneCardSaid : Prop := Claim7.holds Tryd.pinned (.plain (OpenSpec.ofChange solveNoneSpec)) solveNoneCard

/-- THE TIED CARD OF 'sutlerlaw20.SolveStays'. -/
def solveStaysCard : Claim7 := { stood := { row := solveStaysRow, standIns := [], harness := (true, "4e38f89d1dfba3835a1c989bd3ccf82ec321db592322fcb4fbbaed279a60172e"), looks := false }, kinds := [], alts := [], laidByText := true, laidKinds := [.data, .data, .pinned], laidTests := true, laidLooks := .later }
def SolveStaysCardSaid : Prop := Claim7.holds Tryd.pinned (.plain (OpenSpec.ofChange solveStaysSpec)) solveStaysCard

/-- THE TIED CARD OF 'sutlerlaw19.PlanLess'. -/
def planLessCard : Claim7 := { stood := { row := planLessRow, standIns := [], harness := (true, "4e38f89d1dfba3835a1c989bd3ccf82ec321db592322fcb4fbbaed279a60172e"), looks := false }, kinds := [], alts := [], laidByText := true, laidKinds := [.data, .data, .pinned], laidTests := true, laidLooks := .later }
def PlanLessCardSaid : Prop := Claim7.holds Tryd.pinned (.plain (OpenSpec.ofChange planLessSpec)) planLessCard

/-- THE TIED CARD OF 'sutlerlaw19.PlanSteps'. -/
def planStepsCard : Claim7 := { stood := { row := planStepsRow, standIns := [], harness := (true, "4e38f89d1dfba3835a1c989bd3ccf82ec321db592322fcb4fbbaed279a60172e"), looks := false }, kinds := [], alts := [], laidByText := true, laidKinds := [.data, .data, .pinned], laidTests := true, laidLooks := .later }
def PlanStepsCardSaid : Prop := Claim7.holds Tryd.pinned (.plain (OpenSpec.ofChange planStepsSpec)) planStepsCard

/-- THE SECOND FORM's CARD OF 'sutlerlaw19.PlanChecks'. -/
def planChecksUptoCard : Claim7 := { stood := { row := planChecksUptoRow, standIns := [], harness := (true, "4e38f89d1dfba3835a1c989bd3ccf82ec321db592322fcb4fbbaed279a60172e"), looks := false }, kinds := [], alts := [], laidByText := true, laidKinds := [.data, .data, .pinned], laidTests := true, laidLooks := .later }
def PlanChecksUptoCardSaid : Prop := Claim7.holds Tryd.pinned (.plain (OpenSpec.upto planChecksSpec)) planChecksUptoCard

/-- THE SECOND FORM's CARD OF 'sutlerlaw19.PlanWhole'. -/
def planWholeUptoCard : Claim7 := { stood := { row := planWholeUptoRow, standIns := [], harness := (true, "4e38f89d1dfba3835a1c989bd3ccf82ec321db592322fcb4fbbaed279a60172e"), looks := false }, kinds := [], alts := [], laidByText := true, laidKinds := [.data, .data, .pinned], laidTests := true, laidLooks := .later }
def PlanWholeUptoCardSaid : Prop := Claim7.holds Tryd.pinned (.plain (OpenSpec.upto planWholeSpec)) planWholeUptoCard

/-- THE SECOND FORM's CARD OF 'sutlerlaw19.PlanEmpty'. -/
def planEmptyUptoCard : Claim7 := { stood := { row := planEmptyUptoRow, standIns := [], harness := (true, "4e38f89d1dfba3835a1c989bd3ccf82ec321db592322fcb4fbbaed279a60172e"), looks := false }, kinds := [], alts := [], laidByText := true, laidKinds := [.data, .data, .pinned], laidTests := true, laidLooks := .later }
def PlanEmptyUptoCardSaid : Prop := Claim7.holds Tryd.pinned (.plain (OpenSpec.upto planEmptySpec)) planEmptyUptoCard

/-- THE SECOND FORM's CARD OF 'sutlerlaw20.SolveBudgets'. -/
def solveBudgetsUptoCard : Claim7 := { stood := { row := solveBudgetsUptoRow, standIns := [], harness := (true, "4e38f89d1dfba3835a1c989bd3ccf82ec321db592322fcb4fbbaed279a60172e"), looks := false }, kinds := [], alts := [], laidByText := true, laidKinds := [.data, .data, .pinned], laidTests := true, laidLooks := .later }
def SolveBudgetsUptoCardSaid : Prop := Claim7.holds Tryd.pinned (.plain (OpenSpec.upto solveBudgetsSpec)) solveBudgetsUptoCard

/-- THE SECOND FORM's CARD OF 'sutlerlaw20.SolveOrders'. -/
def solveOrdersUptoCard : Claim7 := { stood := { row := solveOrdersUptoRow, standIns := [], harness := (true, "4e38f89d1dfba3835a1c989bd3ccf82ec321db592322fcb4fbbaed279a60172e"), looks := false }, kinds := [], alts := [], laidByText := true, laidKinds := [.data, .data, .pinned], laidTests := true, laidLooks := .later }
def SolveOrdersUptoCardSaid : Prop := Claim7.holds Tryd.pinned (.plain (OpenSpec.upto solveOrdersSpec)) solveOrdersUptoCard

/-- THE SECOND FORM's CARD OF 'sutlerlaw20.SolveEnough'. -/
def solveEnoughUptoCard : Claim7 := { stood := { row := solveEnoughUptoRow, standIns := [], harness := (true, "4e38f89d1dfba3835a1c989bd3ccf82ec321db592322fcb4fbbaed279a60172e"), looks := false }, kinds := [], alts := [], laidByText := true, laidKinds := [.data, .data, .pinned], laidTests := true, laidLooks := .later }
def SolveEnoughUptoCardSaid : Prop := Claim7.holds Tryd.pinned (.plain (OpenSpec.upto solveEnoughSpec)) solveEnoughUptoCard

/-- THE SECOND FORM's CARD OF 'sutlerlaw20.SolvePlans'. -/
def solvePlansUptoCard : Claim7 := { stood := { row := solvePlansUptoRow, standIns := [], harness := (true, "4e38f89d1dfba3835a1c989bd3ccf82ec321db592322fcb4fbbaed279a60172e"), looks := false }, kinds := [], alts := [], laidByText := true, laidKinds := [.data, .data, .pinned], laidTests := true, laidLooks := .later }
def SolvePlansUptoCardSaid : Prop := Claim7.holds Tryd.pinned (.plain (OpenSpec.upto solvePlansSpec)) solvePlansUptoCard

/-- THE SECOND FORM's CARD OF 'sutlerlaw20.SolveNone'. -/
def solveNoneUptoCard : Claim7 := { stood := { row := solveNoneUptoRow, standIns := [], harness := (true, "4e38f89d1dfba3835a1c989bd3ccf82ec321db592322fcb4fbbaed279a60172e"), looks := false }, kinds := [], alts := [], laidByText := true, laidKinds := [.data, .data, .pinned], laidTests := true, laidLooks := .later }
def SolveNoneUptoCardSaid : Prop := Claim7.holds Tryd.pinned (.plain (OpenSpec.upto solveNoneSpec)) solveNoneUptoCard

/-- THE SECOND FORM's CARD OF 'sutlerlaw20.SolveStays'. -/
def solveStaysUptoCard : Claim7 := { stood := { row := solveStaysUptoRow, standIns := [], harness := (true, "4e38f89d1dfba3835a1c989bd3ccf82ec321db592322fcb4fbbaed279a60172e"), looks := false }, kinds := [], alts := [], laidByText := true, laidKinds := [.data, .data, .pinned], laidTests := true, laidLooks := .later }
def SolveStaysUptoCardSaid : Prop := Claim7.holds Tryd.pinned (.plain (OpenSpec.upto solveStaysSpec)) solveStaysUptoCard

/-- THE SECOND FORM's CARD OF 'sutlerlaw19.PlanLess'. -/
def planLessUptoCard : Claim7 := { stood := { row := planLessUptoRow, standIns := [], harness := (true, "4e38f89d1dfba3835a1c989bd3ccf82ec321db592322fcb4fbbaed279a60172e"), looks := false }, kinds := [], alts := [], laidByText := true, laidKinds := [.data, .data, .pinned], laidTests := true, laidLooks := .later }
def PlanLessUptoCardSaid : Prop := Claim7.holds Tryd.pinned (.plain (OpenSpec.upto planLessSpec)) planLessUptoCard

/-- THE SECOND FORM's CARD OF 'sutlerlaw19.PlanSteps'. -/
def planStepsUptoCard : Claim7 := { stood := { row := planStepsUptoRow, standIns := [], harness := (true, "4e38f89d1dfba3835a1c989bd3ccf82ec321db592322fcb4fbbaed279a60172e"), looks := false }, kinds := [], alts := [], laidByText := true, laidKinds := [.data, .data, .pinned], laidTests := true, laidLooks := .later }
def PlanStepsUptoCardSaid : Prop := Claim7.holds Tryd.pinned (.plain (OpenSpec.upto planStepsSpec)) planStepsUptoCard
end Rows
end Go.Proofs.YteoafnkcplealaaDoor
