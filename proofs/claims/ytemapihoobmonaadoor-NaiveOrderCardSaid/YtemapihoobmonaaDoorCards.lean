/-
  DERIVED. GIVEN WITH THE SEED: THE CARDS: each row of YtemapihoobmonaaDoorRows.lean that lists a variable, with what it lists TIED to the program's text (the seventh form; the later family's looks); each row that meets fmt, with fmt's text TOLD by the authors' own Lean function (tested against real Go, not proved from fmt's source: count such statements apart). THE CARD IS WHAT COUNTS. Prove the row's statement (the work); the ties are given (YtemapihoobmonaaDoorTie.lean); close each card by the builder's one call (the guide's Derived/Test/ToyasCard.lean, 'card_holds'). Laid BY PROGRAM, IN A SANDBOX (cutbox-door.mjs). By AI agents, Wed Nov 11 2026. No macro, syntax, notation, axiom, sorry.
-/
import Derived.Test.YtemapihoobmonaaDoorRows
import GoSem.ClaimSeven
namespace Go.Proofs.YtemapihoobmonaaDoor
namespace Rows

/-- THE TIED CARD OF 'vouchsafelaw16.NaiveOrder'. -/
def naiveOrderCard : Claim7 := { stood := { row := naiveOrderRow, standIns := [], harness := (true, "cd4db55e27661f8a48d004844acd6f798a6b8adde834ae1d9c2485ea56b9ebd0"), looks := false }, kinds := [], alts := [], laidByText := true, laidKinds := [.listed, .data], laidTests := true, laidLooks := .later }
def NaiveOrderCardSaid : Prop := Claim7.holds Tryd.pinned (.plain (OpenSpec.ofChange naiveOrderSpec)) naiveOrderCard

/-- THE SECOND FORM's CARD OF 'vouchsafelaw16.NaiveOrder'. -/
def naiveOrderUptoCard : Claim7 := { stood := { row := naiveOrderUptoRow, standIns := [], harness := (true, "cd4db55e27661f8a48d004844acd6f798a6b8adde834ae1d9c2485ea56b9ebd0"), looks := false }, kinds := [], alts := [], laidByText := true, laidKinds := [.listed, .data], laidTests := true, laidLooks := .later }
def NaiveOrderUptoCardSaid : Prop := Claim7.holds Tryd.pinned (.plain (OpenSpec.upto naiveOrderSpec)) naiveOrderUptoCard
end Rows
end Go.Proofs.YtemapihoobmonaaDoor
