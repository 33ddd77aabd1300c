/-
  DERIVED. GIVEN WITH THE SEED: THE CARDS: each row of YtppbjmhllmaakaaGreatDoorRows.lean that lists a variable, with what it lists TIED to the program's text (the seventh form; the later family's looks); each row that meets fmt, with fmt's text TOLD by the authors' own Lean function (tested against real Go, not proved from fmt's source: count such statements apart). THE CARD IS WHAT COUNTS. Prove the row's statement (the work); the ties are given (YtppbjmhllmaakaaGreatDoorTie.lean); close each card by the builder's one call (the guide's Derived/Test/ToyasCard.lean, 'card_holds'). Laid BY PROGRAM, IN A SANDBOX (cutbox-door.mjs). By AI agents, Wed Nov 11 2026. No macro, syntax, notation, axiom, sorry.
-/
import Derived.Test.YtppbjmhllmaakaaGreatDoorRows
import GoSem.ClaimSeven
namespace Go.Proofs.YtppbjmhllmaakaaGreatDoor
namespace Rows

/-- THE TIED CARD OF 'sutlerlaw20.SolveFinds'. -/
def solveFindsCard : Claim7 := { stood := { row := solveFindsRow, standIns := [], harness := (true, "18c288b9b0d7d7cdb5e98d25f68d0d45fdb67251bda99260d926d17dfd383a39"), looks := true }, kinds := [], alts := [], laidByText := true, laidKinds := [.data, .data, .pinned], laidTests := true, laidLooks := .later }
def SolveFindsCardSaid : Prop := Claim7.holds Tryz.pinned (.plain (OpenSpec.ofChange solveFindsSpec)) solveFindsCard

/-- THE TIED CARD OF 'sutlerlaw19.PlanTells'. -/
def planTellsCard : Claim7 := { stood := { row := planTellsRow, standIns := [], harness := (true, "18c288b9b0d7d7cdb5e98d25f68d0d45fdb67251bda99260d926d17dfd383a39"), looks := true }, kinds := [], alts := [], laidByText := true, laidKinds := [.data, .data, .pinned], laidTests := true, laidLooks := .later }
def PlanTellsCardSaid : Prop := Claim7.holds Tryz.pinned (.plain (OpenSpec.ofChange planTellsSpec)) planTellsCard

/-- THE TIED CARD OF 'sutlerlaw18.NeedMeets'. -/
def needMeetsCard : Claim7 := { stood := { row := needMeetsRow, standIns := [], harness := (true, "18c288b9b0d7d7cdb5e98d25f68d0d45fdb67251bda99260d926d17dfd383a39"), looks := true }, kinds := [], alts := [], laidByText := true, laidKinds := [.data, .data, .data, .data, .sentinel, .sentinel, .data, .pinned], laidTests := true, laidLooks := .later }
def NeedMeetsCardSaid : Prop := Claim7.holds Tryz.pinned (.plain (OpenSpec.ofChange needMeetsSpec)) needMeetsCard

/-- THE TIED CARD OF 'sutlerlaw18.NeedBack'. -/
def needBackCard : Claim7 := { stood := { row := needBackRow, standIns := [], harness := (true, "18c288b9b0d7d7cdb5e98d25f68d0d45fdb67251bda99260d926d17dfd383a39"), looks := true }, kinds := [], alts := [], laidByText := true, laidKinds := [.data, .data, .data, .data, .sentinel, .sentinel, .data, .pinned], laidTests := true, laidLooks := .later }
def NeedBackCardSaid : Prop := Claim7.holds Tryz.pinned (.plain (OpenSpec.ofChange needBackSpec)) needBackCard

/-- THE TIED CARD OF 'sutlerlaw18.NeedNot'. -/
def needNotCard : Claim7 := { stood := { row := needNotRow, standIns := [], harness := (true, "18c288b9b0d7d7cdb5e98d25f68d0d45fdb67251bda99260d926d17dfd383a39"), looks := true }, kinds := [], alts := [], laidByText := true, laidKinds := [.data, .data, .data, .data, .sentinel, .sentinel, .data, .pinned], laidTests := true, laidLooks := .later }
def NeedNotCardSaid : Prop := Claim7.holds Tryz.pinned (.plain (OpenSpec.ofChange needNotSpec)) needNotCard

/-- THE TIED CARD OF 'sutlerlaw18.NeedMore'. -/
def needMoreCard : Claim7 := { stood := { row := needMoreRow, standIns := [], harness := (true, "18c288b9b0d7d7cdb5e98d25f68d0d45fdb67251bda99260d926d17dfd383a39"), looks := true }, kinds := [], alts := [], laidByText := true, laidKinds := [.data, .data, .data, .data, .sentinel, .sentinel, .data, .pinned], laidTests := true, laidLooks := .later }
def NeedMoreCardSaid : Prop := Claim7.holds Tryz.pinned (.plain (OpenSpec.ofChange needMoreSpec)) needMoreCard

/-- THE TIED CARD OF 'sutlerlaw18.NeedReads'. -/
def needReadsCard : Claim7 := { stood := { row := needReadsRow, standIns := [], harness := (true, "18c288b9b0d7d7cdb5e98d25f68d0d45fdb67251bda99260d926d17dfd383a39"), looks := true }, kinds := [], alts := [], laidByText := true, laidKinds := [.data, .data, .data, .data, .sentinel, .sentinel, .data, .pinned], laidTests := true, laidLooks := .later }
def NeedReadsCardSaid : Prop := Claim7.holds Tryz.pinned (.plain (OpenSpec.ofChange needReadsSpec)) needReadsCard

/-- THE SECOND FORM's CARD OF 'sutlerlaw20.SolveFinds'. -/
def solveFindsUptoCard : Claim7 := { stood := { row := solveFindsUptoRow, standIns := [], harness := (true, "18c288b9b0d7d7cdb5e98d25f68d0d45fdb67251bda99260d926d17dfd383a39"), looks := true }, kinds := [], alts := [], laidByText := true, laidKinds := [.data, .data, .pinned], laidTests := true, laidLooks := .later }
def SolveFindsUptoCardSaid : Prop := Claim7.holds Tryz.pinned (.plain (OpenSpec.upto solveFindsSpec)) solveFindsUptoCard

/-- THE SECOND FORM's CARD OF 'sutlerlaw19.PlanTells'. -/
def planTellsUptoCard : Claim7 := { stood := { row := planTellsUptoRow, standIns := [], harness := (true, "18c288b9b0d7d7cdb5e98d25f68d0d45fdb67251bda99260d926d17dfd383a39"), looks := true }, kinds := [], alts := [], laidByText := true, laidKinds := [.data, .data, .pinned], laidTests := true, laidLooks := .later }
def PlanTellsUptoCardSaid : Prop := Claim7.holds Tryz.pinned (.plain (OpenSpec.upto planTellsSpec)) planTellsUptoCard

/-- THE SECOND FORM's CARD OF 'sutlerlaw18.NeedMeets'. -/
def needMeetsUptoCard : Claim7 := { stood := { row := needMeetsUptoRow, standIns := [], harness := (true, "18c288b9b0d7d7cdb5e98d25f68d0d45fdb67251bda99260d926d17dfd383a39"), looks := true }, kinds := [], alts := [], laidByText := true, laidKinds := [.data, .data, .data, .data, .sentinel, .sentinel, .data, .pinned], laidTests := true, laidLooks := .later }
def NeedMeetsUptoCardSaid : Prop := Claim7.holds Tryz.pinned (.plain (OpenSpec.upto needMeetsSpec)) needMeetsUptoCard

/-- THE SECOND FORM's CARD OF 'sutlerlaw18.NeedBack'. -/
def needBackUptoCard : Claim7 := { stood := { row := needBackUptoRow, standIns := [], harness := (true, "18c288b9b0d7d7cdb5e98d25f68d0d45fdb67251bda99260d926d17dfd383a39"), looks := true }, kinds := [], alts := [], laidByText := true, laidKinds := [.data, .data, .data, .data, .sentinel, .sentinel, .data, .pinned], laidTests := true, laidLooks := .later }
def NeedBackUptoCardSaid : Prop := Claim7.holds Tryz.pinned (.plain (OpenSpec.upto needBackSpec)) needBackUptoCard

/-- THE SECOND FORM's CARD OF 'sutlerlaw18.NeedNot'. -/
def needNotUptoCard : Claim7 := { stood := { row := needNotUptoRow, standIns := [], harness := (true, "18c288b9b0d7d7cdb5e98d25f68d0d45fdb67251bda99260d926d17dfd383a39"), looks := true }, kinds := [], alts := [], laidByText := true, laidKinds := [.data, .data, .data, .data, .sentinel, .sentinel, .data, .pinned], laidTests := true, laidLooks := .later }
def NeedNotUptoCardSaid : Prop := Claim7.holds Tryz.pinned (.plain (OpenSpec.upto needNotSpec)) needNotUptoCard

/-- THE SECOND FORM's CARD OF 'sutlerlaw18.NeedMore'. -/
def needMoreUptoCard : Claim7 := { stood := { row := needMoreUptoRow, standIns := [], harness := (true, "18c288b9b0d7d7cdb5e98d25f68d0d45fdb67251bda99260d926d17dfd383a39"), looks := true }, kinds := [], alts := [], laidByText := true, laidKinds := [.data, .data, .data, .data, .sentinel, .sentinel, .data, .pinned], laidTests := true, laidLooks := .later }
def NeedMoreUptoCardSaid : Prop := Claim7.holds Tryz.pinned (.plain (OpenSpec.upto needMoreSpec)) needMoreUptoCard

/-- THE SECOND FORM's CARD OF 'sutlerlaw18.NeedReads'. -/
def needReadsUptoCard : Claim7 := { stood := { row := needReadsUptoRow, standIns := [], harness := (true, "18c288b9b0d7d7cdb5e98d25f68d0d45fdb67251bda99260d926d17dfd383a39"), looks := true }, kinds := [], alts := [], laidByText := true, laidKinds := [.data, .data, .data, .data, .sentinel, .sentinel, .data, .pinned], laidTests := true, laidLooks := .later }
def NeedReadsUptoCardSaid : Prop := Claim7.holds Tryz.pinned (.plain (OpenSpec.upto needReadsSpec)) needReadsUptoCard
end Rows
end Go.Proofs.YtppbjmhllmaakaaGreatDoor
