/- The closed facts of the row SolveNames, each by itself. No condition. -/
import Derived.Test.YtoaomnbekchpnaaGreatDoorRows
import Derived.JoinedOf
import Derived.ProofKit
namespace Go.Proofs.YtoaomnbekchpnaaGreatDoor
open Go.ChangeShapes Go.WideShapes Go.ChangeAt Go.RowKit
theorem solveNames_and {a b : Bool} (h1 : a = true) (h2 : b = true) : (a && b) = true := by rw [h1, h2]; rfl
theorem solveNames_jf0 : (Rows.solveNamesRow.wf (OpenSpec.ofChange Rows.solveNamesSpec)) = true := by kernel_rfl
theorem solveNames_jf1 : (laidOutB Tryz.prog) = true := by kernel_rfl
theorem solveNames_jf2 : (mapsRowed Tryz.prog) = true := by kernel_rfl
theorem solveNames_jf3 : (Tryz.f5.params.all (Tryz.prog.readableRec ·)) = true := by kernel_rfl
theorem solveNames_jf4 : (namedTie Tryz.prog Rows.solveNamesRow.named Rows.solveNamesSpec.vars) = true := by kernel_rfl
theorem solveNames_jf5 : ((Rows.solveNamesRow.stops == [])) = true := by kernel_rfl
theorem solveNames_jf6 : ((Tryz.prog.stops == [])) = true := by kernel_rfl
theorem solveNames_jf7 : ((Rows.solveNamesRow.knobs == [])) = true := by kernel_rfl
theorem solveNames_jf8 : ((Tryz.prog.stopKnobs == [])) = true := by kernel_rfl
theorem solveNames_jf9 : ((Rows.solveNamesRow.inPlace == Tryz.prog.inPlace 5)) = true := by kernel_rfl
theorem solveNames_jf10 : ((Rows.solveNamesRow.unfollowed == Tryz.prog.unfollowed 5)) = true := by kernel_rfl
theorem solveNames_jf11 : ((Rows.solveNamesRow.recurses == Tryz.prog.recurses 5)) = true := by kernel_rfl
theorem solveNames_jf12 : ((Rows.solveNamesRow.named == Tryz.prog.varsNamed 5)) = true := by kernel_rfl
theorem solveNames_jf13 : ((Rows.solveNamesRow.maps == (Tryz.f5.params.toList ++ Rows.solveNamesSpec.plain.varTypes Tryz.prog).any (Tryz.prog.mapsRec ·))) = true := by kernel_rfl
theorem solveNames_jf14 : ((Rows.solveNamesRow.ifaces == (Tryz.f5.params.toList ++ Rows.solveNamesSpec.plain.varTypes Tryz.prog).any (Tryz.prog.ifacesRec ·))) = true := by kernel_rfl
theorem solveNames_jf15 : ((Rows.solveNamesRow.mapsOut == Tryz.prog.mapsAmong Tryz.f5.resultTypes.toList)) = true := by kernel_rfl
theorem solveNames_jf16 : ((Rows.solveNamesRow.loops == (Tryz.f5.params.toList ++ Rows.solveNamesSpec.plain.varTypes Tryz.prog).any (Tryz.prog.loopsFrom ·))) = true := by kernel_rfl
theorem solveNames_jf17 : ((Rows.solveNamesRow.wideKeys == (Tryz.f5.params.toList ++ Rows.solveNamesSpec.plain.varTypes Tryz.prog ++ Tryz.f5.resultTypes.toList).any (Tryz.prog.wideKeysFrom ·))) = true := by kernel_rfl
theorem solveNames_jf18 : (Rows.solveNamesSpec.vars.all (Tryz.prog.varReadable ·)) = true := by kernel_rfl
theorem solveNames_jf19 : (Tryz.f5.resultTypes.all (fun t => Tryz.prog.readableRec t && decide (t < Tryz.prog.types.size))) = true := by kernel_rfl
theorem solveNames_jf20 : ((Rows.solveNamesRow.ifacesOut == Tryz.f5.resultTypes.toList.any (Tryz.prog.ifacesRec ·))) = true := by kernel_rfl
theorem solveNames_jf21 : ((Rows.solveNamesRow.loopsOut == Tryz.f5.resultTypes.toList.any (Tryz.prog.loopsFrom ·))) = true := by kernel_rfl
theorem solveNames_jf22 : ((Rows.solveNamesRow.plainKeys == Tryz.prog.plainKeys)) = true := by kernel_rfl
theorem solveNames_jf23 : (Rows.solveNamesRow.shortTexts.isNone) = true := by kernel_rfl
theorem solveNames_jf24 : (Tryz.prog.stopsHeard) = true := by kernel_rfl
theorem solveNames_jf25 : (Tryz.prog.mayEnter) = true := by kernel_rfl
theorem solveNames_jf26 : ((Rows.solveNamesRow.lifted == Tryz.prog.liftsFinal)) = true := by kernel_rfl
theorem solveNames_jf27 : ((Tryz.prog.make == some Rows.solveNamesRow.make)) = true := by kernel_rfl
theorem solveNames_jf28 : ((Rows.solveNamesRow.kinds == (if Rows.solveNamesRow.domain.isEmpty then [] else Tryz.f5.params.toList.map fun t => match Tryz.prog.underlying t with | some (.int k) => some k | _ => none))) = true := by kernel_rfl
theorem solveNames_jf29 : ((Rows.solveNamesRow.pinned == Rows.solveNamesRow.pinnedBy)) = true := by kernel_rfl
theorem solveNames_jf30 : ((Rows.solveNamesRow.veiled == (Tryz.f5.params.toList ++ Rows.solveNamesSpec.plain.varTypes Tryz.prog ++ Tryz.f5.resultTypes.toList).any (Tryz.prog.veiledRec ·))) = true := by kernel_rfl
theorem solveNames_jf31 : (Rows.solveNamesRow.veiledFits Tryz.prog Tryz.f5.params.toList (Tryz.f5.params.toList ++ Rows.solveNamesSpec.plain.varTypes Tryz.prog ++ Tryz.f5.resultTypes.toList)) = true := by kernel_rfl
set_option maxRecDepth 100000 in
theorem solveNames_jf : joinedFacts Tryz.prog 5 Tryz.f5 Rows.solveNamesSpec Rows.solveNamesRow = true := by
  unfold joinedFacts
  exact (solveNames_and (solveNames_and (solveNames_and (solveNames_and (solveNames_and (solveNames_and (solveNames_and (solveNames_and (solveNames_and (solveNames_and (solveNames_and (solveNames_and (solveNames_and (solveNames_and (solveNames_and (solveNames_and (solveNames_and (solveNames_and (solveNames_and (solveNames_and (solveNames_and (solveNames_and (solveNames_and (solveNames_and (solveNames_and (solveNames_and (solveNames_and (solveNames_and (solveNames_and (solveNames_and (solveNames_and solveNames_jf0 solveNames_jf1) solveNames_jf2) solveNames_jf3) solveNames_jf4) solveNames_jf5) solveNames_jf6) solveNames_jf7) solveNames_jf8) solveNames_jf9) solveNames_jf10) solveNames_jf11) solveNames_jf12) solveNames_jf13) solveNames_jf14) solveNames_jf15) solveNames_jf16) solveNames_jf17) solveNames_jf18) solveNames_jf19) solveNames_jf20) solveNames_jf21) solveNames_jf22) solveNames_jf23) solveNames_jf24) solveNames_jf25) solveNames_jf26) solveNames_jf27) solveNames_jf28) solveNames_jf29) solveNames_jf30) solveNames_jf31)
end Go.Proofs.YtoaomnbekchpnaaGreatDoor
