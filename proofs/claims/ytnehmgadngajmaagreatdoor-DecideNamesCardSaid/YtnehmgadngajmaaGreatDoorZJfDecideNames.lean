/- The closed facts of the row DecideNames, each by itself. No condition. -/
import Derived.Test.YtnehmgadngajmaaGreatDoorRows
import Derived.JoinedOf
import Derived.ProofKit
namespace Go.Proofs.YtnehmgadngajmaaGreatDoor
open Go.ChangeShapes Go.WideShapes Go.ChangeAt Go.RowKit
theorem decideNames_and {a b : Bool} (h1 : a = true) (h2 : b = true) : (a && b) = true := by rw [h1, h2]; rfl
theorem decideNames_jf0 : (Rows.decideNamesRow.wf (OpenSpec.ofChange Rows.decideNamesSpec)) = true := by kernel_rfl
theorem decideNames_jf1 : (laidOutB Tryz.prog) = true := by kernel_rfl
theorem decideNames_jf2 : (mapsRowed Tryz.prog) = true := by kernel_rfl
theorem decideNames_jf3 : (Tryz.f3.params.all (Tryz.prog.readableRec ·)) = true := by kernel_rfl
theorem decideNames_jf4 : (namedTie Tryz.prog Rows.decideNamesRow.named Rows.decideNamesSpec.vars) = true := by kernel_rfl
theorem decideNames_jf5 : ((Rows.decideNamesRow.stops == [])) = true := by kernel_rfl
theorem decideNames_jf6 : ((Tryz.prog.stops == [])) = true := by kernel_rfl
theorem decideNames_jf7 : ((Rows.decideNamesRow.knobs == [])) = true := by kernel_rfl
theorem decideNames_jf8 : ((Tryz.prog.stopKnobs == [])) = true := by kernel_rfl
theorem decideNames_jf9 : ((Rows.decideNamesRow.inPlace == Tryz.prog.inPlace 3)) = true := by kernel_rfl
theorem decideNames_jf10 : ((Rows.decideNamesRow.unfollowed == Tryz.prog.unfollowed 3)) = true := by kernel_rfl
theorem decideNames_jf11 : ((Rows.decideNamesRow.recurses == Tryz.prog.recurses 3)) = true := by kernel_rfl
theorem decideNames_jf12 : ((Rows.decideNamesRow.named == Tryz.prog.varsNamed 3)) = true := by kernel_rfl
theorem decideNames_jf13 : ((Rows.decideNamesRow.maps == (Tryz.f3.params.toList ++ Rows.decideNamesSpec.plain.varTypes Tryz.prog).any (Tryz.prog.mapsRec ·))) = true := by kernel_rfl
theorem decideNames_jf14 : ((Rows.decideNamesRow.ifaces == (Tryz.f3.params.toList ++ Rows.decideNamesSpec.plain.varTypes Tryz.prog).any (Tryz.prog.ifacesRec ·))) = true := by kernel_rfl
theorem decideNames_jf15 : ((Rows.decideNamesRow.mapsOut == Tryz.prog.mapsAmong Tryz.f3.resultTypes.toList)) = true := by kernel_rfl
theorem decideNames_jf16 : ((Rows.decideNamesRow.loops == (Tryz.f3.params.toList ++ Rows.decideNamesSpec.plain.varTypes Tryz.prog).any (Tryz.prog.loopsFrom ·))) = true := by kernel_rfl
theorem decideNames_jf17 : ((Rows.decideNamesRow.wideKeys == (Tryz.f3.params.toList ++ Rows.decideNamesSpec.plain.varTypes Tryz.prog ++ Tryz.f3.resultTypes.toList).any (Tryz.prog.wideKeysFrom ·))) = true := by kernel_rfl
theorem decideNames_jf18 : (Rows.decideNamesSpec.vars.all (Tryz.prog.varReadable ·)) = true := by kernel_rfl
theorem decideNames_jf19 : (Tryz.f3.resultTypes.all (fun t => Tryz.prog.readableRec t && decide (t < Tryz.prog.types.size))) = true := by kernel_rfl
theorem decideNames_jf20 : ((Rows.decideNamesRow.ifacesOut == Tryz.f3.resultTypes.toList.any (Tryz.prog.ifacesRec ·))) = true := by kernel_rfl
theorem decideNames_jf21 : ((Rows.decideNamesRow.loopsOut == Tryz.f3.resultTypes.toList.any (Tryz.prog.loopsFrom ·))) = true := by kernel_rfl
theorem decideNames_jf22 : ((Rows.decideNamesRow.plainKeys == Tryz.prog.plainKeys)) = true := by kernel_rfl
theorem decideNames_jf23 : (Rows.decideNamesRow.shortTexts.isNone) = true := by kernel_rfl
theorem decideNames_jf24 : (Tryz.prog.stopsHeard) = true := by kernel_rfl
theorem decideNames_jf25 : (Tryz.prog.mayEnter) = true := by kernel_rfl
theorem decideNames_jf26 : ((Rows.decideNamesRow.lifted == Tryz.prog.liftsFinal)) = true := by kernel_rfl
theorem decideNames_jf27 : ((Tryz.prog.make == some Rows.decideNamesRow.make)) = true := by kernel_rfl
theorem decideNames_jf28 : ((Rows.decideNamesRow.kinds == (if Rows.decideNamesRow.domain.isEmpty then [] else Tryz.f3.params.toList.map fun t => match Tryz.prog.underlying t with | some (.int k) => some k | _ => none))) = true := by kernel_rfl
theorem decideNames_jf29 : ((Rows.decideNamesRow.pinned == Rows.decideNamesRow.pinnedBy)) = true := by kernel_rfl
theorem decideNames_jf30 : ((Rows.decideNamesRow.veiled == (Tryz.f3.params.toList ++ Rows.decideNamesSpec.plain.varTypes Tryz.prog ++ Tryz.f3.resultTypes.toList).any (Tryz.prog.veiledRec ·))) = true := by kernel_rfl
theorem decideNames_jf31 : (Rows.decideNamesRow.veiledFits Tryz.prog Tryz.f3.params.toList (Tryz.f3.params.toList ++ Rows.decideNamesSpec.plain.varTypes Tryz.prog ++ Tryz.f3.resultTypes.toList)) = true := by kernel_rfl
set_option maxRecDepth 100000 in
theorem decideNames_jf : joinedFacts Tryz.prog 3 Tryz.f3 Rows.decideNamesSpec Rows.decideNamesRow = true := by
  unfold joinedFacts
  exact (decideNames_and (decideNames_and (decideNames_and (decideNames_and (decideNames_and (decideNames_and (decideNames_and (decideNames_and (decideNames_and (decideNames_and (decideNames_and (decideNames_and (decideNames_and (decideNames_and (decideNames_and (decideNames_and (decideNames_and (decideNames_and (decideNames_and (decideNames_and (decideNames_and (decideNames_and (decideNames_and (decideNames_and (decideNames_and (decideNames_and (decideNames_and (decideNames_and (decideNames_and (decideNames_and (decideNames_and decideNames_jf0 decideNames_jf1) decideNames_jf2) decideNames_jf3) decideNames_jf4) decideNames_jf5) decideNames_jf6) decideNames_jf7) decideNames_jf8) decideNames_jf9) decideNames_jf10) decideNames_jf11) decideNames_jf12) decideNames_jf13) decideNames_jf14) decideNames_jf15) decideNames_jf16) decideNames_jf17) decideNames_jf18) decideNames_jf19) decideNames_jf20) decideNames_jf21) decideNames_jf22) decideNames_jf23) decideNames_jf24) decideNames_jf25) decideNames_jf26) decideNames_jf27) decideNames_jf28) decideNames_jf29) decideNames_jf30) decideNames_jf31)
end Go.Proofs.YtnehmgadngajmaaGreatDoor
