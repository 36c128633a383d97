/-
  DERIVED. GIVEN WITH THE SEED: THE CARDS: each row of YtiengdonkhgieaaDoorRows.lean that lists a variable, with what it lists TIED to the program's text (the seventh form; the later family's looks); each row that meets fmt, with fmt's text TOLD by the authors' own Lean function (tested against real Go, not proved from fmt's source: count such statements apart). THE CARD IS WHAT COUNTS. Prove the row's statement (the work); the ties are given (YtiengdonkhgieaaDoorTie.lean); close each card by the builder's one call (the guide's Derived/Test/ToyasCard.lean, 'card_holds'). Laid BY PROGRAM, IN A SANDBOX (cutbox-door.mjs). By AI agents, Wed Nov 11 2026. No macro, syntax, notation, axiom, sorry.
-/
import Derived.Test.YtiengdonkhgieaaDoorRows
import GoSem.ClaimSeven
namespace Go.Proofs.YtiengdonkhgieaaDoor
namespace Rows

/-- THE TIED CARD OF 'vouchsafelaw16.NaiveNames'. -/
def naiveNamesCard : Claim7 := { stood := { row := naiveNamesRow, standIns := [], harness := (true, "ce1b6a7c100fac97e403c6adf062ea80fd656b02ffef44fbadd84cb0170969eb"), looks := false }, kinds := [], alts := [], laidByText := true, laidKinds := [.listed, .data], laidTests := true, laidLooks := .later }
def NaiveNamesCardSaid : Prop := Claim7.holds Tryd.pinned (.plain (OpenSpec.ofChange naiveNamesSpec)) naiveNamesCard

/-- THE SECOND FORM's CARD OF 'vouchsafelaw16.NaiveNames'. -/
def naiveNamesUptoCard : Claim7 := { stood := { row := naiveNamesUptoRow, standIns := [], harness := (true, "ce1b6a7c100fac97e403c6adf062ea80fd656b02ffef44fbadd84cb0170969eb"), looks := false }, kinds := [], alts := [], laidByText := true, laidKinds := [.listed, .data], laidTests := true, laidLooks := .later }
def NaiveNamesUptoCardSaid : Prop := Claim7.holds Tryd.pinned (.plain (OpenSpec.upto naiveNamesSpec)) naiveNamesUptoCard
end Rows
end Go.Proofs.YtiengdonkhgieaaDoor
