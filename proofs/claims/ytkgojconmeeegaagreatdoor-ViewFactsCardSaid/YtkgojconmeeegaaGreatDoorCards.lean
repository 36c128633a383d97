/-
  DERIVED. GIVEN WITH THE SEED: THE CARDS: each row of YtkgojconmeeegaaGreatDoorRows.lean that lists a variable, with what it lists TIED to the program's text (the seventh form; the later family's looks); each row that meets fmt, with fmt's text TOLD by the authors' own Lean function (tested against real Go, not proved from fmt's source: count such statements apart). THE CARD IS WHAT COUNTS. Prove the row's statement (the work); the ties are given (YtkgojconmeeegaaGreatDoorTie.lean); close each card by the builder's one call (the guide's Derived/Test/ToyasCard.lean, 'card_holds'). Laid BY PROGRAM, IN A SANDBOX (cutbox-door.mjs). By AI agents, Wed Nov 11 2026. No macro, syntax, notation, axiom, sorry.
-/
import Derived.Test.YtkgojconmeeegaaGreatDoorRows
import GoSem.ClaimSeven
namespace Go.Proofs.YtkgojconmeeegaaGreatDoor
namespace Rows

/-- THE TIED CARD OF 'vouchsafelaw15.ViewApart'. -/
def viewApartCard : Claim7 := { stood := { row := viewApartRow, standIns := [], harness := (true, "69e295e677b05030abe06d499f3228d3c4ece7ff2c0666caa8fbd6a919de8044"), looks := true }, kinds := [], alts := [], laidByText := true, laidKinds := [.listed, .data], laidTests := true, laidLooks := .later }
def ViewApartCardSaid : Prop := Claim7.holds Tryz.pinned (.plain (OpenSpec.ofChange viewApartSpec)) viewApartCard

/-- THE TIED CARD OF 'vouchsafelaw15.ViewFacts'. -/
def viewFactsCard : Claim7 := { stood := { row := viewFactsRow, standIns := [], harness := (true, "69e295e677b05030abe06d499f3228d3c4ece7ff2c0666caa8fbd6a919de8044"), looks := true }, kinds := [], alts := [], laidByText := true, laidKinds := [.listed, .data], laidTests := true, laidLooks := .later }
def ViewFactsCardSaid : Prop := Claim7.holds Tryz.pinned (.plain (OpenSpec.ofChange viewFactsSpec)) viewFactsCard

/-- THE SECOND FORM's CARD OF 'vouchsafelaw15.ViewApart'. -/
def viewApartUptoCard : Claim7 := { stood := { row := viewApartUptoRow, standIns := [], harness := (true, "69e295e677b05030abe06d499f3228d3c4ece7ff2c0666caa8fbd6a919de8044"), looks := true }, kinds := [], alts := [], laidByText := true, laidKinds := [.listed, .data], laidTests := true, laidLooks := .later }
def ViewApartUptoCardSaid : Prop := Claim7.holds Tryz.pinned (.plain (OpenSpec.upto viewApartSpec)) viewApartUptoCard

/-- THE SECOND FORM's CARD OF 'vouchsafelaw15.ViewFacts'. -/
def viewFactsUptoCard : Claim7 := { stood := { row := viewFactsUptoRow, standIns := [], harness := (true, "69e295e677b05030abe06d499f3228d3c4ece7ff2c0666caa8fbd6a919de8044"), looks := true }, kinds := [], alts := [], laidByText := true, laidKinds := [.listed, .data], laidTests := true, laidLooks := .later }
def ViewFactsUptoCardSaid : Prop := Claim7.holds Tryz.pinned (.plain (OpenSpec.upto viewFactsSpec)) viewFactsUptoCard
end Rows
end Go.Proofs.YtkgojconmeeegaaGreatDoor
