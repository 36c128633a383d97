/-
  DERIVED. GIVEN WITH THE SEED: THE CARDS: each row of YtnehmgadngajmaaGreatDoorRows.lean that lists a variable, with what it lists TIED to the program's text (the seventh form; the later family's looks); each row that meets fmt, with fmt's text TOLD by the authors' own Lean function (tested against real Go, not proved from fmt's source: count such statements apart). THE CARD IS WHAT COUNTS. Prove the row's statement (the work); the ties are given (YtnehmgadngajmaaGreatDoorTie.lean); close each card by the builder's one call (the guide's Derived/Test/ToyasCard.lean, 'card_holds'). Laid BY PROGRAM, IN A SANDBOX (cutbox-door.mjs). By AI agents, Wed Nov 11 2026. No macro, syntax, notation, axiom, sorry.
-/
import Derived.Test.YtnehmgadngajmaaGreatDoorRows
import GoSem.ClaimSeven
namespace Go.Proofs.YtnehmgadngajmaaGreatDoor
namespace Rows

/-- THE TIED CARD OF 'vouchsafelaw25.DecideNames'. -/
def decideNamesCard : Claim7 := { stood := { row := decideNamesRow, standIns := [], harness := (true, "e9af28a1da3bafb9ee38fc17f0c4aee99b34a609cff1b79c6bad54e4e52c407a"), looks := false }, kinds := [], alts := [], laidByText := true, laidKinds := [.data, .data, .data, .listed, .data], laidTests := true, laidLooks := .later }
def DecideNamesCardSaid : Prop := Claim7.holds Tryz.pinned (.plain (OpenSpec.ofChange decideNamesSpec)) decideNamesCard

/-- THE SECOND FORM's CARD OF 'vouchsafelaw25.DecideNames'. -/
def decideNamesUptoCard : Claim7 := { stood := { row := decideNamesUptoRow, standIns := [], harness := (true, "e9af28a1da3bafb9ee38fc17f0c4aee99b34a609cff1b79c6bad54e4e52c407a"), looks := false }, kinds := [], alts := [], laidByText := true, laidKinds := [.data, .data, .data, .listed, .data], laidTests := true, laidLooks := .later }
def DecideNamesUptoCardSaid : Prop := Claim7.holds Tryz.pinned (.plain (OpenSpec.upto decideNamesSpec)) decideNamesUptoCard
end Rows
end Go.Proofs.YtnehmgadngajmaaGreatDoor
