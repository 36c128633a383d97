/- The closed facts of the row ProjectNames, each by itself. No condition. -/
import Derived.Test.YtoaomnbekchpnaaGreatDoorRows
import Derived.JoinedOf
import Derived.ProofKit
namespace Go.Proofs.YtoaomnbekchpnaaGreatDoor
open Go.ChangeShapes Go.WideShapes Go.ChangeAt Go.RowKit
theorem projectNames_and {a b : Bool} (h1 : a = true) (h2 : b = true) : (a && b) = true := by rw [h1, h2]; rfl
theorem projectNames_jf0 : (Rows.projectNamesRow.wf (OpenSpec.ofChange Rows.projectNamesSpec)) = true := by kernel_rfl
theorem projectNames_jf1 : (laidOutB Tryz.prog) = true := by kernel_rfl
theorem projectNames_jf2 : (mapsRowed Tryz.prog) = true := by kernel_rfl
theorem projectNames_jf3 : (Tryz.f3.params.all (Tryz.prog.readableRec ·)) = true := by kernel_rfl
theorem projectNames_jf4 : (namedTie Tryz.prog Rows.projectNamesRow.named Rows.projectNamesSpec.vars) = true := by kernel_rfl
theorem projectNames_jf5 : ((Rows.projectNamesRow.stops == [])) = true := by kernel_rfl
theorem projectNames_jf6 : ((Tryz.prog.stops == [])) = true := by kernel_rfl
theorem projectNames_jf7 : ((Rows.projectNamesRow.knobs == [])) = true := by kernel_rfl
theorem projectNames_jf8 : ((Tryz.prog.stopKnobs == [])) = true := by kernel_rfl
theorem projectNames_jf9 : ((Rows.projectNamesRow.inPlace == Tryz.prog.inPlace 3)) = true := by kernel_rfl
theorem projectNames_jf10 : ((Rows.projectNamesRow.unfollowed == Tryz.prog.unfollowed 3)) = true := by kernel_rfl
theorem projectNames_jf11 : ((Rows.projectNamesRow.recurses == Tryz.prog.recurses 3)) = true := by kernel_rfl
theorem projectNames_jf12 : ((Rows.projectNamesRow.named == Tryz.prog.varsNamed 3)) = true := by kernel_rfl
theorem projectNames_jf13 : ((Rows.projectNamesRow.maps == (Tryz.f3.params.toList ++ Rows.projectNamesSpec.plain.varTypes Tryz.prog).any (Tryz.prog.mapsRec ·))) = true := by kernel_rfl
theorem projectNames_jf14 : ((Rows.projectNamesRow.ifaces == (Tryz.f3.params.toList ++ Rows.projectNamesSpec.plain.varTypes Tryz.prog).any (Tryz.prog.ifacesRec ·))) = true := by kernel_rfl
theorem projectNames_jf15 : ((Rows.projectNamesRow.mapsOut == Tryz.prog.mapsAmong Tryz.f3.resultTypes.toList)) = true := by kernel_rfl
theorem projectNames_jf16 : ((Rows.projectNamesRow.loops == (Tryz.f3.params.toList ++ Rows.projectNamesSpec.plain.varTypes Tryz.prog).any (Tryz.prog.loopsFrom ·))) = true := by kernel_rfl
theorem projectNames_jf17 : ((Rows.projectNamesRow.wideKeys == (Tryz.f3.params.toList ++ Rows.projectNamesSpec.plain.varTypes Tryz.prog ++ Tryz.f3.resultTypes.toList).any (Tryz.prog.wideKeysFrom ·))) = true := by kernel_rfl
theorem projectNames_jf18 : (Rows.projectNamesSpec.vars.all (Tryz.prog.varReadable ·)) = true := by kernel_rfl
theorem projectNames_jf19 : (Tryz.f3.resultTypes.all (fun t => Tryz.prog.readableRec t && decide (t < Tryz.prog.types.size))) = true := by kernel_rfl
theorem projectNames_jf20 : ((Rows.projectNamesRow.ifacesOut == Tryz.f3.resultTypes.toList.any (Tryz.prog.ifacesRec ·))) = true := by kernel_rfl
theorem projectNames_jf21 : ((Rows.projectNamesRow.loopsOut == Tryz.f3.resultTypes.toList.any (Tryz.prog.loopsFrom ·))) = true := by kernel_rfl
theorem projectNames_jf22 : ((Rows.projectNamesRow.plainKeys == Tryz.prog.plainKeys)) = true := by kernel_rfl
theorem projectNames_jf23 : (Rows.projectNamesRow.shortTexts.isNone) = true := by kernel_rfl
theorem projectNames_jf24 : (Tryz.prog.stopsHeard) = true := by kernel_rfl
theorem projectNames_jf25 : (Tryz.prog.mayEnter) = true := by kernel_rfl
theorem projectNames_jf26 : ((Rows.projectNamesRow.lifted == Tryz.prog.liftsFinal)) = true := by kernel_rfl
theorem projectNames_jf27 : ((Tryz.prog.make == some Rows.projectNamesRow.make)) = true := by kernel_rfl
theorem projectNames_jf28 : ((Rows.projectNamesRow.kinds == (if Rows.projectNamesRow.domain.isEmpty then [] else Tryz.f3.params.toList.map fun t => match Tryz.prog.underlying t with | some (.int k) => some k | _ => none))) = true := by kernel_rfl
theorem projectNames_jf29 : ((Rows.projectNamesRow.pinned == Rows.projectNamesRow.pinnedBy)) = true := by kernel_rfl
theorem projectNames_jf30 : ((Rows.projectNamesRow.veiled == (Tryz.f3.params.toList ++ Rows.projectNamesSpec.plain.varTypes Tryz.prog ++ Tryz.f3.resultTypes.toList).any (Tryz.prog.veiledRec ·))) = true := by kernel_rfl
theorem projectNames_jf31 : (Rows.projectNamesRow.veiledFits Tryz.prog Tryz.f3.params.toList (Tryz.f3.params.toList ++ Rows.projectNamesSpec.plain.varTypes Tryz.prog ++ Tryz.f3.resultTypes.toList)) = true := by kernel_rfl
set_option maxRecDepth 100000 in
theorem projectNames_jf : joinedFacts Tryz.prog 3 Tryz.f3 Rows.projectNamesSpec Rows.projectNamesRow = true := by
  unfold joinedFacts
  exact (projectNames_and (projectNames_and (projectNames_and (projectNames_and (projectNames_and (projectNames_and (projectNames_and (projectNames_and (projectNames_and (projectNames_and (projectNames_and (projectNames_and (projectNames_and (projectNames_and (projectNames_and (projectNames_and (projectNames_and (projectNames_and (projectNames_and (projectNames_and (projectNames_and (projectNames_and (projectNames_and (projectNames_and (projectNames_and (projectNames_and (projectNames_and (projectNames_and (projectNames_and (projectNames_and (projectNames_and projectNames_jf0 projectNames_jf1) projectNames_jf2) projectNames_jf3) projectNames_jf4) projectNames_jf5) projectNames_jf6) projectNames_jf7) projectNames_jf8) projectNames_jf9) projectNames_jf10) projectNames_jf11) projectNames_jf12) projectNames_jf13) projectNames_jf14) projectNames_jf15) projectNames_jf16) projectNames_jf17) projectNames_jf18) projectNames_jf19) projectNames_jf20) projectNames_jf21) projectNames_jf22) projectNames_jf23) projectNames_jf24) projectNames_jf25) projectNames_jf26) projectNames_jf27) projectNames_jf28) projectNames_jf29) projectNames_jf30) projectNames_jf31)
end Go.Proofs.YtoaomnbekchpnaaGreatDoor
