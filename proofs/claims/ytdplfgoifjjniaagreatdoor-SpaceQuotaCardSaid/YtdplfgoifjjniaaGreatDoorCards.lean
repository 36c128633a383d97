/-
  DERIVED. GIVEN WITH THE SEED: THE CARDS: each row of YtdplfgoifjjniaaGreatDoorRows.lean that lists a variable, with what it lists TIED to the program's text (the seventh form; the later family's looks); each row that meets fmt, with fmt's text TOLD by the authors' own Lean function (tested against real Go, not proved from fmt's source: count such statements apart). THE CARD IS WHAT COUNTS. Prove the row's statement (the work); the ties are given (YtdplfgoifjjniaaGreatDoorTie.lean); close each card by the builder's one call (the guide's Derived/Test/ToyasCard.lean, 'card_holds'). Laid BY PROGRAM, IN A SANDBOX (cutbox-door.mjs). By AI agents, Wed Nov 11 2026. No macro, syntax, notation, axiom, sorry.
-/
import Derived.Test.YtdplfgoifjjniaaGreatDoorRows
import GoSem.ClaimSeven
namespace Go.Proofs.YtdplfgoifjjniaaGreatDoor
namespace Rows

/-- THE TIED CARD OF 'vouchsafelaw14.SpaceQuota'. -/
def spaceQuotaCard : Claim7 := { stood := { row := spaceQuotaRow, standIns := [], harness := (true, "e3b98ed704166d1a404fe1199d722dcaa9558a9c37ce96c3f94afdba96555796"), looks := true }, kinds := [], alts := [], laidByText := true, laidKinds := [.listed, .data], laidTests := true, laidLooks := .later }
def SpaceQuotaCardSaid : Prop := Claim7.holds Tryz.pinned (.plain (OpenSpec.ofChange spaceQuotaSpec)) spaceQuotaCard

/-- THE TIED CARD OF 'vouchsafelaw14.SpaceApart'. -/
def spaceApartCard : Claim7 := { stood := { row := spaceApartRow, standIns := [], harness := (true, "e3b98ed704166d1a404fe1199d722dcaa9558a9c37ce96c3f94afdba96555796"), looks := true }, kinds := [], alts := [], laidByText := true, laidKinds := [.listed, .data], laidTests := true, laidLooks := .later }
def SpaceApartCardSaid : Prop := Claim7.holds Tryz.pinned (.plain (OpenSpec.ofChange spaceApartSpec)) spaceApartCard

/-- THE TIED CARD OF 'vouchsafelaw14.SpaceTurns'. -/
def spaceTurnsCard : Claim7 := { stood := { row := spaceTurnsRow, standIns := [], harness := (true, "e3b98ed704166d1a404fe1199d722dcaa9558a9c37ce96c3f94afdba96555796"), looks := true }, kinds := [], alts := [], laidByText := true, laidKinds := [.listed, .data], laidTests := true, laidLooks := .later }
def SpaceTurnsCardSaid : Prop := Claim7.holds Tryz.pinned (.plain (OpenSpec.ofChange spaceTurnsSpec)) spaceTurnsCard

/-- THE TIED CARD OF 'vouchsafelaw14.SpaceHolds'. -/
def spaceHoldsCard : Claim7 := { stood := { row := spaceHoldsRow, standIns := [], harness := (true, "e3b98ed704166d1a404fe1199d722dcaa9558a9c37ce96c3f94afdba96555796"), looks := true }, kinds := [], alts := [], laidByText := true, laidKinds := [.listed, .data], laidTests := true, laidLooks := .later }
def SpaceHoldsCardSaid : Prop := Claim7.holds Tryz.pinned (.plain (OpenSpec.ofChange spaceHoldsSpec)) spaceHoldsCard

/-- THE SECOND FORM's CARD OF 'vouchsafelaw14.SpaceQuota'. -/
def spaceQuotaUptoCard : Claim7 := { stood := { row := spaceQuotaUptoRow, standIns := [], harness := (true, "e3b98ed704166d1a404fe1199d722dcaa9558a9c37ce96c3f94afdba96555796"), looks := true }, kinds := [], alts := [], laidByText := true, laidKinds := [.listed, .data], laidTests := true, laidLooks := .later }
def SpaceQuotaUptoCardSaid : Prop := Claim7.holds Tryz.pinned (.plain (OpenSpec.upto spaceQuotaSpec)) spaceQuotaUptoCard

/-- THE SECOND FORM's CARD OF 'vouchsafelaw14.SpaceApart'. -/
def spaceApartUptoCard : Claim7 := { stood := { row := spaceApartUptoRow, standIns := [], harness := (true, "e3b98ed704166d1a404fe1199d722dcaa9558a9c37ce96c3f94afdba96555796"), looks := true }, kinds := [], alts := [], laidByText := true, laidKinds := [.listed, .data], laidTests := true, laidLooks := .later }
def SpaceApartUptoCardSaid : Prop := Claim7.holds Tryz.pinned (.plain (OpenSpec.upto spaceApartSpec)) spaceApartUptoCard

/-- THE SECOND FORM's CARD OF 'vouchsafelaw14.SpaceTurns'. -/
def spaceTurnsUptoCard : Claim7 := { stood := { row := spaceTurnsUptoRow, standIns := [], harness := (true, "e3b98ed704166d1a404fe1199d722dcaa9558a9c37ce96c3f94afdba96555796"), looks := true }, kinds := [], alts := [], laidByText := true, laidKinds := [.listed, .data], laidTests := true, laidLooks := .later }
def SpaceTurnsUptoCardSaid : Prop := Claim7.holds Tryz.pinned (.plain (OpenSpec.upto spaceTurnsSpec)) spaceTurnsUptoCard

/-- THE SECOND FORM's CARD OF 'vouchsafelaw14.SpaceHolds'. -/
def spaceHoldsUptoCard : Claim7 := { stood := { row := spaceHoldsUptoRow, standIns := [], harness := (true, "e3b98ed704166d1a404fe1199d722dcaa9558a9c37ce96c3f94afdba96555796"), looks := true }, kinds := [], alts := [], laidByText := true, laidKinds := [.listed, .data], laidTests := true, laidLooks := .later }
def SpaceHoldsUptoCardSaid : Prop := Claim7.holds Tryz.pinned (.plain (OpenSpec.upto spaceHoldsSpec)) spaceHoldsUptoCard
end Rows
end Go.Proofs.YtdplfgoifjjniaaGreatDoor
