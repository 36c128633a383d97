/-
  DERIVED. GIVEN WITH THE SEED: THE CARDS: each row of YtmamldleclamjaaGreatDoorRows.lean that lists a variable, with what it lists TIED to the program's text (the seventh form; the later family's looks); each row that meets fmt, with fmt's text TOLD by the authors' own Lean function (tested against real Go, not proved from fmt's source: count such statements apart). THE CARD IS WHAT COUNTS. Prove the row's statement (the work); the ties are given (YtmamldleclamjaaGreatDoorTie.lean); close each card by the builder's one call (the guide's Derived/Test/ToyasCard.lean, 'card_holds'). Laid BY PROGRAM, IN A SANDBOX (cutbox-door.mjs). By AI agents, Wed Nov 11 2026. No macro, syntax, notation, axiom, sorry.
-/
import Derived.Test.YtmamldleclamjaaGreatDoorRows
import GoSem.ClaimSeven
namespace Go.Proofs.YtmamldleclamjaaGreatDoor
namespace Rows

/-- THE TIED CARD OF 'vouchsafelaw14.SpaceScript'. -/
def spaceScriptCard : Claim7 := { stood := { row := spaceScriptRow, standIns := [], harness := (true, "4a23b170cccd8f67f4905f3004050b38e83d559fb776561c402bd90958b956ab"), looks := true }, kinds := [], alts := [], laidByText := true, laidKinds := [.listed, .data], laidTests := true, laidLooks := .later }
def SpaceScriptCardSaid : Prop := Claim7.holds Tryz.pinned (.plain (OpenSpec.ofChange spaceScriptSpec)) spaceScriptCard

/-- THE SECOND FORM's CARD OF 'vouchsafelaw14.SpaceScript'. -/
def spaceScriptUptoCard : Claim7 := { stood := { row := spaceScriptUptoRow, standIns := [], harness := (true, "4a23b170cccd8f67f4905f3004050b38e83d559fb776561c402bd90958b956ab"), looks := true }, kinds := [], alts := [], laidByText := true, laidKinds := [.listed, .data], laidTests := true, laidLooks := .later }
def SpaceScriptUptoCardSaid : Prop := Claim7.holds Tryz.pinned (.plain (OpenSpec.upto spaceScriptSpec)) spaceScriptUptoCard
end Rows
end Go.Proofs.YtmamldleclamjaaGreatDoor
