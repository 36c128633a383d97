/-
  DERIVED. GIVEN WITH THE SEED: THE CARDS: each row of YtemapihoobmonaaGreatDoorRows.lean that lists a variable, with what it lists TIED to the program's text (the seventh form; the later family's looks); each row that meets fmt, with fmt's text TOLD by the authors' own Lean function (tested against real Go, not proved from fmt's source: count such statements apart). THE CARD IS WHAT COUNTS. Prove the row's statement (the work); the ties are given (YtemapihoobmonaaGreatDoorTie.lean); close each card by the builder's one call (the guide's Derived/Test/ToyasCard.lean, 'card_holds'). Laid BY PROGRAM, IN A SANDBOX (cutbox-door.mjs). By AI agents, Wed Nov 11 2026. No macro, syntax, notation, axiom, sorry.
-/
import Derived.Test.YtemapihoobmonaaGreatDoorRows
import GoSem.ClaimSeven
namespace Go.Proofs.YtemapihoobmonaaGreatDoor
namespace Rows

/-- THE TIED CARD OF 'vouchsafelaw16.NaiveJoins'. -/
def naiveJoinsCard : Claim7 := { stood := { row := naiveJoinsRow, standIns := [], harness := (true, "0bcedb163bd3680f2d43ed751055ec6a6419c3781179eca05f463f44977e4117"), looks := false }, kinds := [], alts := [], laidByText := true, laidKinds := [.listed, .data], laidTests := true, laidLooks := .later }
def NaiveJoinsCardSaid : Prop := Claim7.holds Tryz.pinned (.plain (OpenSpec.ofChange naiveJoinsSpec)) naiveJoinsCard

/-- THE TIED CARD OF 'vouchsafelaw16.NaiveMore'. -/
def naiveMoreCard : Claim7 := { stood := { row := naiveMoreRow, standIns := [], harness := (true, "0bcedb163bd3680f2d43ed751055ec6a6419c3781179eca05f463f44977e4117"), looks := false }, kinds := [], alts := [], laidByText := true, laidKinds := [.listed, .data], laidTests := true, laidLooks := .later }
def NaiveMoreCardSaid : Prop := Claim7.holds Tryz.pinned (.plain (OpenSpec.ofChange naiveMoreSpec)) naiveMoreCard

/-- THE TIED CARD OF 'vouchsafelaw28.ProjectWho'. -/
def projectWhoCard : Claim7 := { stood := { row := projectWhoRow, standIns := [], harness := (true, "0bcedb163bd3680f2d43ed751055ec6a6419c3781179eca05f463f44977e4117"), looks := false }, kinds := [], alts := [], laidByText := true, laidKinds := [.listed, .data], laidTests := true, laidLooks := .later }
def ProjectWhoCardSaid : Prop := Claim7.holds Tryz.pinned (.plain (OpenSpec.ofChange projectWhoSpec)) projectWhoCard

/-- THE TIED CARD OF 'vouchsafelaw28.ProjectCleared'. -/
def projectClearedCard : Claim7 := { stood := { row := projectClearedRow, standIns := [], harness := (true, "0bcedb163bd3680f2d43ed751055ec6a6419c3781179eca05f463f44977e4117"), looks := false }, kinds := [], alts := [], laidByText := true, laidKinds := [.listed, .data], laidTests := true, laidLooks := .later }
def ProjectClearedCardSaid : Prop := Claim7.holds Tryz.pinned (.plain (OpenSpec.ofChange projectClearedSpec)) projectClearedCard

/-- THE TIED CARD OF 'vouchsafelaw16.NaiveLeast'. -/
def naiveLeastCard : Claim7 := { stood := { row := naiveLeastRow, standIns := [], harness := (true, "0bcedb163bd3680f2d43ed751055ec6a6419c3781179eca05f463f44977e4117"), looks := false }, kinds := [], alts := [], laidByText := true, laidKinds := [.listed, .data], laidTests := true, laidLooks := .later }
def NaiveLeastCardSaid : Prop := Claim7.holds Tryz.pinned (.plain (OpenSpec.ofChange naiveLeastSpec)) naiveLeastCard

/-- THE TIED CARD OF 'vouchsafelaw28.ProjectMixed'. -/
def projectMixedCard : Claim7 := { stood := { row := projectMixedRow, standIns := [], harness := (true, "0bcedb163bd3680f2d43ed751055ec6a6419c3781179eca05f463f44977e4117"), looks := false }, kinds := [], alts := [], laidByText := true, laidKinds := [.listed, .data], laidTests := true, laidLooks := .later }
def ProjectMixedCardSaid : Prop := Claim7.holds Tryz.pinned (.plain (OpenSpec.ofChange projectMixedSpec)) projectMixedCard

/-- THE TIED CARD OF 'vouchsafelaw28.ProjectCalls'. -/
def projectCallsCard : Claim7 := { stood := { row := projectCallsRow, standIns := [], harness := (true, "0bcedb163bd3680f2d43ed751055ec6a6419c3781179eca05f463f44977e4117"), looks := false }, kinds := [], alts := [], laidByText := true, laidKinds := [.listed, .data], laidTests := true, laidLooks := .later }
def ProjectCallsCardSaid : Prop := Claim7.holds Tryz.pinned (.plain (OpenSpec.ofChange projectCallsSpec)) projectCallsCard

/-- THE SECOND FORM's CARD OF 'vouchsafelaw16.NaiveJoins'. -/
def naiveJoinsUptoCard : Claim7 := { stood := { row := naiveJoinsUptoRow, standIns := [], harness := (true, "0bcedb163bd3680f2d43ed751055ec6a6419c3781179eca05f463f44977e4117"), looks := false }, kinds := [], alts := [], laidByText := true, laidKinds := [.listed, .data], laidTests := true, laidLooks := .later }
def NaiveJoinsUptoCardSaid : Prop := Claim7.holds Tryz.pinned (.plain (OpenSpec.upto naiveJoinsSpec)) naiveJoinsUptoCard

/-- THE SECOND FORM's CARD OF 'vouchsafelaw16.NaiveMore'. -/
def naiveMoreUptoCard : Claim7 := { stood := { row := naiveMoreUptoRow, standIns := [], harness := (true, "0bcedb163bd3680f2d43ed751055ec6a6419c3781179eca05f463f44977e4117"), looks := false }, kinds := [], alts := [], laidByText := true, laidKinds := [.listed, .data], laidTests := true, laidLooks := .later }
def NaiveMoreUptoCardSaid : Prop := Claim7.holds Tryz.pinned (.plain (OpenSpec.upto naiveMoreSpec)) naiveMoreUptoCard

/-- THE SECOND FORM's CARD OF 'vouchsafelaw28.ProjectWho'. -/
def projectWhoUptoCard : Claim7 := { stood := { row := projectWhoUptoRow, standIns := [], harness := (true, "0bcedb163bd3680f2d43ed751055ec6a6419c3781179eca05f463f44977e4117"), looks := false }, kinds := [], alts := [], laidByText := true, laidKinds := [.listed, .data], laidTests := true, laidLooks := .later }
def ProjectWhoUptoCardSaid : Prop := Claim7.holds Tryz.pinned (.plain (OpenSpec.upto projectWhoSpec)) projectWhoUptoCard

/-- THE SECOND FORM's CARD OF 'vouchsafelaw28.ProjectCleared'. -/
def projectClearedUptoCard : Claim7 := { stood := { row := projectClearedUptoRow, standIns := [], harness := (true, "0bcedb163bd3680f2d43ed751055ec6a6419c3781179eca05f463f44977e4117"), looks := false }, kinds := [], alts := [], laidByText := true, laidKinds := [.listed, .data], laidTests := true, laidLooks := .later }
def ProjectClearedUptoCardSaid : Prop := Claim7.holds Tryz.pinned (.plain (OpenSpec.upto projectClearedSpec)) projectClearedUptoCard

/-- THE SECOND FORM's CARD OF 'vouchsafelaw16.NaiveLeast'. -/
def naiveLeastUptoCard : Claim7 := { stood := { row := naiveLeastUptoRow, standIns := [], harness := (true, "0bcedb163bd3680f2d43ed751055ec6a6419c3781179eca05f463f44977e4117"), looks := false }, kinds := [], alts := [], laidByText := true, laidKinds := [.listed, .data], laidTests := true, laidLooks := .later }
def NaiveLeastUptoCardSaid : Prop := Claim7.holds Tryz.pinned (.plain (OpenSpec.upto naiveLeastSpec)) naiveLeastUptoCard

/-- THE SECOND FORM's CARD OF 'vouchsafelaw28.ProjectMixed'. -/
def projectMixedUptoCard : Claim7 := { stood := { row := projectMixedUptoRow, standIns := [], harness := (true, "0bcedb163bd3680f2d43ed751055ec6a6419c3781179eca05f463f44977e4117"), looks := false }, kinds := [], alts := [], laidByText := true, laidKinds := [.listed, .data], laidTests := true, laidLooks := .later }
def ProjectMixedUptoCardSaid : Prop := Claim7.holds Tryz.pinned (.plain (OpenSpec.upto projectMixedSpec)) projectMixedUptoCard

/-- THE SECOND FORM's CARD OF 'vouchsafelaw28.ProjectCalls'. -/
def projectCallsUptoCard : Claim7 := { stood := { row := projectCallsUptoRow, standIns := [], harness := (true, "0bcedb163bd3680f2d43ed751055ec6a6419c3781179eca05f463f44977e4117"), looks := false }, kinds := [], alts := [], laidByText := true, laidKinds := [.listed, .data], laidTests := true, laidLooks := .later }
def ProjectCallsUptoCardSaid : Prop := Claim7.holds Tryz.pinned (.plain (OpenSpec.upto projectCallsSpec)) projectCallsUptoCard
end Rows
end Go.Proofs.YtemapihoobmonaaGreatDoor
