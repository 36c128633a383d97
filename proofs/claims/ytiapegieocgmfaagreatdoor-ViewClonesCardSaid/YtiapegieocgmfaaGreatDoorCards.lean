/-
  DERIVED. GIVEN WITH THE SEED: THE CARDS: each row of YtiapegieocgmfaaGreatDoorRows.lean that lists a variable, with what it lists TIED to the program's text (the seventh form; the later family's looks); each row that meets fmt, with fmt's text TOLD by the authors' own Lean function (tested against real Go, not proved from fmt's source: count such statements apart). THE CARD IS WHAT COUNTS. Prove the row's statement (the work); the ties are given (YtiapegieocgmfaaGreatDoorTie.lean); close each card by the builder's one call (the guide's Derived/Test/ToyasCard.lean, 'card_holds'). Laid BY PROGRAM, IN A SANDBOX (cutbox-door.mjs). By AI agents, Wed Nov 11 2026. No macro, syntax, notation, axiom, sorry.
-/
import Derived.Test.YtiapegieocgmfaaGreatDoorRows
import GoSem.ClaimSeven
namespace Go.Proofs.YtiapegieocgmfaaGreatDoor
namespace Rows

/-- THE TIED CARD OF 'vouchsafelaw15.ViewClones'. -/
def viewClonesCard : Claim7 := { stood := { row := viewClonesRow, standIns := [], harness := (true, "86ddab0d3952f5d9cdf46073964e85e9921306fd335df94d91590056f64f9129"), looks := true }, kinds := [], alts := [], laidByText := true, laidKinds := [.listed, .data], laidTests := true, laidLooks := .later }
def ViewClonesCardSaid : Prop := Claim7.holds Tryz.pinned (.plain (OpenSpec.ofChange viewClonesSpec)) viewClonesCard

/-- THE SECOND FORM's CARD OF 'vouchsafelaw15.ViewClones'. -/
def viewClonesUptoCard : Claim7 := { stood := { row := viewClonesUptoRow, standIns := [], harness := (true, "86ddab0d3952f5d9cdf46073964e85e9921306fd335df94d91590056f64f9129"), looks := true }, kinds := [], alts := [], laidByText := true, laidKinds := [.listed, .data], laidTests := true, laidLooks := .later }
def ViewClonesUptoCardSaid : Prop := Claim7.holds Tryz.pinned (.plain (OpenSpec.upto viewClonesSpec)) viewClonesUptoCard
end Rows
end Go.Proofs.YtiapegieocgmfaaGreatDoor
