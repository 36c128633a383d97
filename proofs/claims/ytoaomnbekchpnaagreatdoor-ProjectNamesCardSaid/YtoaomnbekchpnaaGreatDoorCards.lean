/-
  DERIVED. GIVEN WITH THE SEED: THE CARDS: each row of YtoaomnbekchpnaaGreatDoorRows.lean that lists a variable, with what it lists TIED to the program's text (the seventh form; the later family's looks); each row that meets fmt, with fmt's text TOLD by the authors' own Lean function (tested against real Go, not proved from fmt's source: count such statements apart). THE CARD IS WHAT COUNTS. Prove the row's statement (the work); the ties are given (YtoaomnbekchpnaaGreatDoorTie.lean); close each card by the builder's one call (the guide's Derived/Test/ToyasCard.lean, 'card_holds'). Laid BY PROGRAM, IN A SANDBOX (cutbox-door.mjs). By AI agents, Wed Nov 11 2026. No macro, syntax, notation, axiom, sorry.
-/
import Derived.Test.YtoaomnbekchpnaaGreatDoorRows
import GoSem.ClaimSeven
namespace Go.Proofs.YtoaomnbekchpnaaGreatDoor
namespace Rows

/-- THE TIED CARD OF 'vouchsafelaw28.ProjectNames'. -/
def projectNamesCard : Claim7 := { stood := { row := projectNamesRow, standIns := [], harness := (true, "43e29b2173ed42ada5944f0238d2178a88d47311d993959768ecf7e5e26f6cc0"), looks := true }, kinds := [], alts := [], laidByText := true, laidKinds := [.listed, .data], laidTests := true, laidLooks := .later }
def ProjectNamesCardSaid : Prop := Claim7.holds Tryz.pinned (.plain (OpenSpec.ofChange projectNamesSpec)) projectNamesCard

/-- THE TIED CARD OF 'vouchsafelaw14.SpaceNames'. -/
def spaceNamesCard : Claim7 := { stood := { row := spaceNamesRow, standIns := [], harness := (true, "43e29b2173ed42ada5944f0238d2178a88d47311d993959768ecf7e5e26f6cc0"), looks := true }, kinds := [], alts := [], laidByText := true, laidKinds := [.listed, .data], laidTests := true, laidLooks := .later }
def SpaceNamesCardSaid : Prop := Claim7.holds Tryz.pinned (.plain (OpenSpec.ofChange spaceNamesSpec)) spaceNamesCard

/-- THE TIED CARD OF 'vouchsafelaw19.SolveNames'. -/
def solveNamesCard : Claim7 := { stood := { row := solveNamesRow, standIns := [], harness := (true, "43e29b2173ed42ada5944f0238d2178a88d47311d993959768ecf7e5e26f6cc0"), looks := true }, kinds := [], alts := [], laidByText := true, laidKinds := [.data, .data, .data, .listed, .data], laidTests := true, laidLooks := .later }
def SolveNamesCardSaid : Prop := Claim7.holds Tryz.pinned (.plain (OpenSpec.ofChange solveNamesSpec)) solveNamesCard

/-- THE TIED CARD OF 'vouchsafelaw17.CallsNames'. -/
def callsNamesCard : Claim7 := { stood := { row := callsNamesRow, standIns := [], harness := (true, "43e29b2173ed42ada5944f0238d2178a88d47311d993959768ecf7e5e26f6cc0"), looks := true }, kinds := [], alts := [], laidByText := true, laidKinds := [.data, .data, .data, .listed, .data], laidTests := true, laidLooks := .later }
def CallsNamesCardSaid : Prop := Claim7.holds Tryz.pinned (.plain (OpenSpec.ofChange callsNamesSpec)) callsNamesCard

/-- THE TIED CARD OF 'vouchsafelaw15.ViewNames'. -/
def viewNamesCard : Claim7 := { stood := { row := viewNamesRow, standIns := [], harness := (true, "43e29b2173ed42ada5944f0238d2178a88d47311d993959768ecf7e5e26f6cc0"), looks := true }, kinds := [], alts := [], laidByText := true, laidKinds := [.listed, .data], laidTests := true, laidLooks := .later }
def ViewNamesCardSaid : Prop := Claim7.holds Tryz.pinned (.plain (OpenSpec.ofChange viewNamesSpec)) viewNamesCard

/-- THE SECOND FORM's CARD OF 'vouchsafelaw28.ProjectNames'. -/
def projectNamesUptoCard : Claim7 := { stood := { row := projectNamesUptoRow, standIns := [], harness := (true, "43e29b2173ed42ada5944f0238d2178a88d47311d993959768ecf7e5e26f6cc0"), looks := true }, kinds := [], alts := [], laidByText := true, laidKinds := [.listed, .data], laidTests := true, laidLooks := .later }
def ProjectNamesUptoCardSaid : Prop := Claim7.holds Tryz.pinned (.plain (OpenSpec.upto projectNamesSpec)) projectNamesUptoCard

/-- THE SECOND FORM's CARD OF 'vouchsafelaw14.SpaceNames'. -/
def spaceNamesUptoCard : Claim7 := { stood := { row := spaceNamesUptoRow, standIns := [], harness := (true, "43e29b2173ed42ada5944f0238d2178a88d47311d993959768ecf7e5e26f6cc0"), looks := true }, kinds := [], alts := [], laidByText := true, laidKinds := [.listed, .data], laidTests := true, laidLooks := .later }
def SpaceNamesUptoCardSaid : Prop := Claim7.holds Tryz.pinned (.plain (OpenSpec.upto spaceNamesSpec)) spaceNamesUptoCard

/-- THE SECOND FORM's CARD OF 'vouchsafelaw19.SolveNames'. -/
def solveNamesUptoCard : Claim7 := { stood := { row := solveNamesUptoRow, standIns := [], harness := (true, "43e29b2173ed42ada5944f0238d2178a88d47311d993959768ecf7e5e26f6cc0"), looks := true }, kinds := [], alts := [], laidByText := true, laidKinds := [.data, .data, .data, .listed, .data], laidTests := true, laidLooks := .later }
def SolveNamesUptoCardSaid : Prop := Claim7.holds Tryz.pinned (.plain (OpenSpec.upto solveNamesSpec)) solveNamesUptoCard

/-- THE SECOND FORM's CARD OF 'vouchsafelaw17.CallsNames'. -/
def callsNamesUptoCard : Claim7 := { stood := { row := callsNamesUptoRow, standIns := [], harness := (true, "43e29b2173ed42ada5944f0238d2178a88d47311d993959768ecf7e5e26f6cc0"), looks := true }, kinds := [], alts := [], laidByText := true, laidKinds := [.data, .data, .data, .listed, .data], laidTests := true, laidLooks := .later }
def CallsNamesUptoCardSaid : Prop := Claim7.holds Tryz.pinned (.plain (OpenSpec.upto callsNamesSpec)) callsNamesUptoCard

/-- THE SECOND FORM's CARD OF 'vouchsafelaw15.ViewNames'. -/
def viewNamesUptoCard : Claim7 := { stood := { row := viewNamesUptoRow, standIns := [], harness := (true, "43e29b2173ed42ada5944f0238d2178a88d47311d993959768ecf7e5e26f6cc0"), looks := true }, kinds := [], alts := [], laidByText := true, laidKinds := [.listed, .data], laidTests := true, laidLooks := .later }
def ViewNamesUptoCardSaid : Prop := Claim7.holds Tryz.pinned (.plain (OpenSpec.upto viewNamesSpec)) viewNamesUptoCard
end Rows
end Go.Proofs.YtoaomnbekchpnaaGreatDoor
