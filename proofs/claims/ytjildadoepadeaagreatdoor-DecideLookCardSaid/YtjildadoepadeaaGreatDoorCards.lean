/-
  DERIVED. GIVEN WITH THE SEED: THE CARDS: each row of YtjildadoepadeaaGreatDoorRows.lean that lists a variable, with what it lists TIED to the program's text (the seventh form; the later family's looks); each row that meets fmt, with fmt's text TOLD by the authors' own Lean function (tested against real Go, not proved from fmt's source: count such statements apart). THE CARD IS WHAT COUNTS. Prove the row's statement (the work); the ties are given (YtjildadoepadeaaGreatDoorTie.lean); close each card by the builder's one call (the guide's Derived/Test/ToyasCard.lean, 'card_holds'). Laid BY PROGRAM, IN A SANDBOX (cutbox-door.mjs). By AI agents, Wed Nov 11 2026. No macro, syntax, notation, axiom, sorry.
-/
import Derived.Test.YtjildadoepadeaaGreatDoorRows
import GoSem.ClaimSeven
namespace Go.Proofs.YtjildadoepadeaaGreatDoor
namespace Rows

/-- THE TIED CARD OF 'vouchsafelaw14.SpaceNames'. -/
def spaceNamesCard : Claim7 := { stood := { row := spaceNamesRow, standIns := [], harness := (true, "d34d612c35b71bece39f95c1778b47d9df3d8f16c26c40ca79f4d58834f43137"), looks := true }, kinds := [], alts := [], laidByText := true, laidKinds := [.listed, .data], laidTests := true, laidLooks := .later }
def SpaceNamesCardSaid : Prop := Claim7.holds Tryz.pinned (.plain (OpenSpec.ofChange spaceNamesSpec)) spaceNamesCard

/-- THE TIED CARD OF 'vouchsafelaw25.DecideLook'. -/
def decideLookCard : Claim7 := { stood := { row := decideLookRow, standIns := [], harness := (true, "d34d612c35b71bece39f95c1778b47d9df3d8f16c26c40ca79f4d58834f43137"), looks := true }, kinds := [], alts := [], laidByText := true, laidKinds := [.data, .data, .data, .listed, .data], laidTests := true, laidLooks := .later }
def DecideLookCardSaid : Prop := Claim7.holds Tryz.pinned (.plain (OpenSpec.ofChange decideLookSpec)) decideLookCard

/-- THE SECOND FORM's CARD OF 'vouchsafelaw14.SpaceNames'. -/
def spaceNamesUptoCard : Claim7 := { stood := { row := spaceNamesUptoRow, standIns := [], harness := (true, "d34d612c35b71bece39f95c1778b47d9df3d8f16c26c40ca79f4d58834f43137"), looks := true }, kinds := [], alts := [], laidByText := true, laidKinds := [.listed, .data], laidTests := true, laidLooks := .later }
def SpaceNamesUptoCardSaid : Prop := Claim7.holds Tryz.pinned (.plain (OpenSpec.upto spaceNamesSpec)) spaceNamesUptoCard

/-- THE SECOND FORM's CARD OF 'vouchsafelaw25.DecideLook'. -/
def decideLookUptoCard : Claim7 := { stood := { row := decideLookUptoRow, standIns := [], harness := (true, "d34d612c35b71bece39f95c1778b47d9df3d8f16c26c40ca79f4d58834f43137"), looks := true }, kinds := [], alts := [], laidByText := true, laidKinds := [.data, .data, .data, .listed, .data], laidTests := true, laidLooks := .later }
def DecideLookUptoCardSaid : Prop := Claim7.holds Tryz.pinned (.plain (OpenSpec.upto decideLookSpec)) decideLookUptoCard
end Rows
end Go.Proofs.YtjildadoepadeaaGreatDoor
