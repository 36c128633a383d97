/- The closed facts of the row ViewNames, each by itself. No condition. -/
import Derived.Test.YtoaomnbekchpnaaGreatDoorRows
import Derived.JoinedOf
import Derived.ProofKit
namespace Go.Proofs.YtoaomnbekchpnaaGreatDoor
open Go.ChangeShapes Go.WideShapes Go.ChangeAt Go.RowKit
theorem viewNames_and {a b : Bool} (h1 : a = true) (h2 : b = true) : (a && b) = true := by rw [h1, h2]; rfl
theorem viewNames_jf0 : (Rows.viewNamesRow.wf (OpenSpec.ofChange Rows.viewNamesSpec)) = true := by kernel_rfl
theorem viewNames_jf1 : (laidOutB Tryz.prog) = true := by kernel_rfl
theorem viewNames_jf2 : (mapsRowed Tryz.prog) = true := by kernel_rfl
theorem viewNames_jf3 : (Tryz.f7.params.all (Tryz.prog.readableRec ·)) = true := by kernel_rfl
theorem viewNames_jf4 : (namedTie Tryz.prog Rows.viewNamesRow.named Rows.viewNamesSpec.vars) = true := by kernel_rfl
theorem viewNames_jf5 : ((Rows.viewNamesRow.stops == [])) = true := by kernel_rfl
theorem viewNames_jf6 : ((Tryz.prog.stops == [])) = true := by kernel_rfl
theorem viewNames_jf7 : ((Rows.viewNamesRow.knobs == [])) = true := by kernel_rfl
theorem viewNames_jf8 : ((Tryz.prog.stopKnobs == [])) = true := by kernel_rfl
theorem viewNames_jf9 : ((Rows.viewNamesRow.inPlace == Tryz.prog.inPlace 7)) = true := by kernel_rfl
theorem viewNames_jf10 : ((Rows.viewNamesRow.unfollowed == Tryz.prog.unfollowed 7)) = true := by kernel_rfl
theorem viewNames_jf11 : ((Rows.viewNamesRow.recurses == Tryz.prog.recurses 7)) = true := by kernel_rfl
theorem viewNames_jf12 : ((Rows.viewNamesRow.named == Tryz.prog.varsNamed 7)) = true := by kernel_rfl
theorem viewNames_jf13 : ((Rows.viewNamesRow.maps == (Tryz.f7.params.toList ++ Rows.viewNamesSpec.plain.varTypes Tryz.prog).any (Tryz.prog.mapsRec ·))) = true := by kernel_rfl
theorem viewNames_jf14 : ((Rows.viewNamesRow.ifaces == (Tryz.f7.params.toList ++ Rows.viewNamesSpec.plain.varTypes Tryz.prog).any (Tryz.prog.ifacesRec ·))) = true := by kernel_rfl
theorem viewNames_jf15 : ((Rows.viewNamesRow.mapsOut == Tryz.prog.mapsAmong Tryz.f7.resultTypes.toList)) = true := by kernel_rfl
theorem viewNames_jf16 : ((Rows.viewNamesRow.loops == (Tryz.f7.params.toList ++ Rows.viewNamesSpec.plain.varTypes Tryz.prog).any (Tryz.prog.loopsFrom ·))) = true := by kernel_rfl
theorem viewNames_jf17 : ((Rows.viewNamesRow.wideKeys == (Tryz.f7.params.toList ++ Rows.viewNamesSpec.plain.varTypes Tryz.prog ++ Tryz.f7.resultTypes.toList).any (Tryz.prog.wideKeysFrom ·))) = true := by kernel_rfl
theorem viewNames_jf18 : (Rows.viewNamesSpec.vars.all (Tryz.prog.varReadable ·)) = true := by kernel_rfl
theorem viewNames_jf19 : (Tryz.f7.resultTypes.all (fun t => Tryz.prog.readableRec t && decide (t < Tryz.prog.types.size))) = true := by kernel_rfl
theorem viewNames_jf20 : ((Rows.viewNamesRow.ifacesOut == Tryz.f7.resultTypes.toList.any (Tryz.prog.ifacesRec ·))) = true := by kernel_rfl
theorem viewNames_jf21 : ((Rows.viewNamesRow.loopsOut == Tryz.f7.resultTypes.toList.any (Tryz.prog.loopsFrom ·))) = true := by kernel_rfl
theorem viewNames_jf22 : ((Rows.viewNamesRow.plainKeys == Tryz.prog.plainKeys)) = true := by kernel_rfl
theorem viewNames_jf23 : (Rows.viewNamesRow.shortTexts.isNone) = true := by kernel_rfl
theorem viewNames_jf24 : (Tryz.prog.stopsHeard) = true := by kernel_rfl
theorem viewNames_jf25 : (Tryz.prog.mayEnter) = true := by kernel_rfl
theorem viewNames_jf26 : ((Rows.viewNamesRow.lifted == Tryz.prog.liftsFinal)) = true := by kernel_rfl
theorem viewNames_jf27 : ((Tryz.prog.make == some Rows.viewNamesRow.make)) = true := by kernel_rfl
theorem viewNames_jf28 : ((Rows.viewNamesRow.kinds == (if Rows.viewNamesRow.domain.isEmpty then [] else Tryz.f7.params.toList.map fun t => match Tryz.prog.underlying t with | some (.int k) => some k | _ => none))) = true := by kernel_rfl
theorem viewNames_jf29 : ((Rows.viewNamesRow.pinned == Rows.viewNamesRow.pinnedBy)) = true := by kernel_rfl
theorem viewNames_jf30 : ((Rows.viewNamesRow.veiled == (Tryz.f7.params.toList ++ Rows.viewNamesSpec.plain.varTypes Tryz.prog ++ Tryz.f7.resultTypes.toList).any (Tryz.prog.veiledRec ·))) = true := by kernel_rfl
theorem viewNames_jf31 : (Rows.viewNamesRow.veiledFits Tryz.prog Tryz.f7.params.toList (Tryz.f7.params.toList ++ Rows.viewNamesSpec.plain.varTypes Tryz.prog ++ Tryz.f7.resultTypes.toList)) = true := by kernel_rfl
set_option maxRecDepth 100000 in
theorem viewNames_jf : joinedFacts Tryz.prog 7 Tryz.f7 Rows.viewNamesSpec Rows.viewNamesRow = true := by
  unfold joinedFacts
  exact (viewNames_and (viewNames_and (viewNames_and (viewNames_and (viewNames_and (viewNames_and (viewNames_and (viewNames_and (viewNames_and (viewNames_and (viewNames_and (viewNames_and (viewNames_and (viewNames_and (viewNames_and (viewNames_and (viewNames_and (viewNames_and (viewNames_and (viewNames_and (viewNames_and (viewNames_and (viewNames_and (viewNames_and (viewNames_and (viewNames_and (viewNames_and (viewNames_and (viewNames_and (viewNames_and (viewNames_and viewNames_jf0 viewNames_jf1) viewNames_jf2) viewNames_jf3) viewNames_jf4) viewNames_jf5) viewNames_jf6) viewNames_jf7) viewNames_jf8) viewNames_jf9) viewNames_jf10) viewNames_jf11) viewNames_jf12) viewNames_jf13) viewNames_jf14) viewNames_jf15) viewNames_jf16) viewNames_jf17) viewNames_jf18) viewNames_jf19) viewNames_jf20) viewNames_jf21) viewNames_jf22) viewNames_jf23) viewNames_jf24) viewNames_jf25) viewNames_jf26) viewNames_jf27) viewNames_jf28) viewNames_jf29) viewNames_jf30) viewNames_jf31)
end Go.Proofs.YtoaomnbekchpnaaGreatDoor
