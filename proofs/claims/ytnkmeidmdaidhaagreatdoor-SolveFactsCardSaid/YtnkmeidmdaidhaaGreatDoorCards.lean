/-
  DERIVED. GIVEN WITH THE SEED: THE CARDS: each row of YtnkmeidmdaidhaaGreatDoorRows.lean that lists a variable, with what it lists TIED to the program's text (the seventh form; the later family's looks); each row that meets fmt, with fmt's text TOLD by the authors' own Lean function (tested against real Go, not proved from fmt's source: count such statements apart). THE CARD IS WHAT COUNTS. Prove the row's statement (the work); the ties are given (YtnkmeidmdaidhaaGreatDoorTie.lean); close each card by the builder's one call (the guide's Derived/Test/ToyasCard.lean, 'card_holds'). Laid BY PROGRAM, IN A SANDBOX (cutbox-door.mjs). By AI agents, Wed Nov 11 2026. No macro, syntax, notation, axiom, sorry.
-/
import Derived.Test.YtnkmeidmdaidhaaGreatDoorRows
import GoSem.ClaimSeven
namespace Go.Proofs.YtnkmeidmdaidhaaGreatDoor
namespace Rows

/-- THE TIED CARD OF 'vouchsafelaw19.SolveFacts'. -/
def solveFactsCard : Claim7 := { stood := { row := solveFactsRow, standIns := [], harness := (true, "0d1e74668ec9f2094d98032b37a8cde79563d2bfdd718045ae666153a4be0c1d"), looks := false }, kinds := [], alts := [], laidByText := true, laidKinds := [.data, .data, .data, .listed, .data], laidTests := true, laidLooks := .later }
def SolveFactsCardSaid : Prop := Claim7.holds Tryz.pinned (.plain (OpenSpec.ofChange solveFactsSpec)) solveFactsCard

/-- THE TIED CARD OF 'vouchsafelaw19.SolveHolds'. -/
def solveHoldsCard : Claim7 := { stood := { row := solveHoldsRow, standIns := [], harness := (true, "0d1e74668ec9f2094d98032b37a8cde79563d2bfdd718045ae666153a4be0c1d"), looks := false }, kinds := [], alts := [], laidByText := true, laidKinds := [.data, .data, .data, .listed, .data], laidTests := true, laidLooks := .later }
def SolveHoldsCardSaid : Prop := Claim7.holds Tryz.pinned (.plain (OpenSpec.ofChange solveHoldsSpec)) solveHoldsCard

/-- THE TIED CARD OF 'vouchsafelaw19.SolveBudget'. -/
def solveBudgetCard : Claim7 := { stood := { row := solveBudgetRow, standIns := [], harness := (true, "0d1e74668ec9f2094d98032b37a8cde79563d2bfdd718045ae666153a4be0c1d"), looks := false }, kinds := [], alts := [], laidByText := true, laidKinds := [.data, .data, .data, .listed, .data], laidTests := true, laidLooks := .later }
def SolveBudgetCardSaid : Prop := Claim7.holds Tryz.pinned (.plain (OpenSpec.ofChange solveBudgetSpec)) solveBudgetCard

/-- THE SECOND FORM's CARD OF 'vouchsafelaw19.SolveFacts'. -/
def solveFactsUptoCard : Claim7 := { stood := { row := solveFactsUptoRow, standIns := [], harness := (true, "0d1e74668ec9f2094d98032b37a8cde79563d2bfdd718045ae666153a4be0c1d"), looks := false }, kinds := [], alts := [], laidByText := true, laidKinds := [.data, .data, .data, .listed, .data], laidTests := true, laidLooks := .later }
def SolveFactsUptoCardSaid : Prop := Claim7.holds Tryz.pinned (.plain (OpenSpec.upto solveFactsSpec)) solveFactsUptoCard

/-- THE SECOND FORM's CARD OF 'vouchsafelaw19.SolveHolds'. -/
def solveHoldsUptoCard : Claim7 := { stood := { row := solveHoldsUptoRow, standIns := [], harness := (true, "0d1e74668ec9f2094d98032b37a8cde79563d2bfdd718045ae666153a4be0c1d"), looks := false }, kinds := [], alts := [], laidByText := true, laidKinds := [.data, .data, .data, .listed, .data], laidTests := true, laidLooks := .later }
def SolveHoldsUptoCardSaid : Prop := Claim7.holds Tryz.pinned (.plain (OpenSpec.upto solveHoldsSpec)) solveHoldsUptoCard

/-- THE SECOND FORM's CARD OF 'vouchsafelaw19.SolveBudget'. -/
def solveBudgetUptoCard : Claim7 := { stood := { row := solveBudgetUptoRow, standIns := [], harness := (true, "0d1e74668ec9f2094d98032b37a8cde79563d2bfdd718045ae666153a4be0c1d"), looks := false }, kinds := [], alts := [], laidByText := true, laidKinds := [.data, .data, .data, .listed, .data], laidTests := true, laidLooks := .later }
def SolveBudgetUptoCardSaid : Prop := Claim7.holds Tryz.pinned (.plain (OpenSpec.upto solveBudgetSpec)) solveBudgetUptoCard
end Rows
end Go.Proofs.YtnkmeidmdaidhaaGreatDoor
