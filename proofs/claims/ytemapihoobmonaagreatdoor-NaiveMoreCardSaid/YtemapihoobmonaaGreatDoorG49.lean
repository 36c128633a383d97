/- The closed facts of the row NaiveMore, each by itself. No condition. -/
import Derived.Test.YtemapihoobmonaaGreatDoorRows
import Derived.JoinedOf
import Derived.ProofKit
import Derived.Test.YtemapihoobmonaaGreatDoorG10
import Derived.Test.YtemapihoobmonaaGreatDoorG14
import Derived.Test.YtemapihoobmonaaGreatDoorG48
import Derived.Test.YtemapihoobmonaaGreatDoorCards
import Derived.Test.YtemapihoobmonaaGreatDoorTie
import Derived.SevenTiedAt
import Derived.Lay
import Derived.LaidHandle
namespace Go.Proofs.YtemapihoobmonaaGreatDoor
open Go.ChangeShapes Go.WideShapes Go.ChangeAt Go.RowKit
theorem zan {a b : Bool} (h1 : a = true) (h2 : b = true) : (a && b) = true := by rw [h1, h2]; rfl
theorem zkH : (Rows.naiveMoreRow.wf (OpenSpec.ofChange Rows.naiveMoreSpec)) = true := by kernel_rfl
theorem zjR : (laidOutB Tryz.prog) = true := by kernel_rfl
theorem zko : (mapsRowed Tryz.prog) = true := by kernel_rfl
theorem zj6 : (Tryz.f4.params.all (Tryz.prog.readableRec ·)) = true := by kernel_rfl
theorem zki : (namedTie Tryz.prog Rows.naiveMoreRow.named Rows.naiveMoreSpec.vars) = true := by kernel_rfl
theorem zkK : ((Rows.naiveMoreRow.stops == [])) = true := by kernel_rfl
theorem zjM : ((Tryz.prog.stops == [])) = true := by kernel_rfl
theorem zjE : ((Rows.naiveMoreRow.knobs == [])) = true := by kernel_rfl
theorem zjN : ((Tryz.prog.stopKnobs == [])) = true := by kernel_rfl
theorem zj0 : ((Rows.naiveMoreRow.inPlace == Tryz.prog.inPlace 4)) = true := by kernel_rfl
theorem ziz : ((Rows.naiveMoreRow.unfollowed == Tryz.prog.unfollowed 4)) = true := by kernel_rfl
theorem ziU : ((Rows.naiveMoreRow.recurses == Tryz.prog.recurses 4)) = true := by kernel_rfl
theorem ziF : ((Rows.naiveMoreRow.named == Tryz.prog.varsNamed 4)) = true := by kernel_rfl
theorem ziP : ((Rows.naiveMoreRow.maps == (Tryz.f4.params.toList ++ Rows.naiveMoreSpec.plain.varTypes Tryz.prog).any (Tryz.prog.mapsRec ·))) = true := by kernel_rfl
theorem ziV : ((Rows.naiveMoreRow.ifaces == (Tryz.f4.params.toList ++ Rows.naiveMoreSpec.plain.varTypes Tryz.prog).any (Tryz.prog.ifacesRec ·))) = true := by kernel_rfl
theorem ziI : ((Rows.naiveMoreRow.mapsOut == Tryz.prog.mapsAmong Tryz.f4.resultTypes.toList)) = true := by kernel_rfl
theorem ziY : ((Rows.naiveMoreRow.loops == (Tryz.f4.params.toList ++ Rows.naiveMoreSpec.plain.varTypes Tryz.prog).any (Tryz.prog.loopsFrom ·))) = true := by kernel_rfl
theorem ziQ : ((Rows.naiveMoreRow.wideKeys == (Tryz.f4.params.toList ++ Rows.naiveMoreSpec.plain.varTypes Tryz.prog ++ Tryz.f4.resultTypes.toList).any (Tryz.prog.wideKeysFrom ·))) = true := by kernel_rfl
theorem ziS : (Rows.naiveMoreSpec.vars.all (Tryz.prog.varReadable ·)) = true := by kernel_rfl
theorem ziX : (Tryz.f4.resultTypes.all (fun t => Tryz.prog.readableRec t && decide (t < Tryz.prog.types.size))) = true := by kernel_rfl
theorem ziu : ((Rows.naiveMoreRow.ifacesOut == Tryz.f4.resultTypes.toList.any (Tryz.prog.ifacesRec ·))) = true := by kernel_rfl
theorem ziw : ((Rows.naiveMoreRow.loopsOut == Tryz.f4.resultTypes.toList.any (Tryz.prog.loopsFrom ·))) = true := by kernel_rfl
theorem ziL : ((Rows.naiveMoreRow.plainKeys == Tryz.prog.plainKeys)) = true := by kernel_rfl
theorem ziG : (Rows.naiveMoreRow.shortTexts.isNone) = true := by kernel_rfl
theorem ziW : (Tryz.prog.stopsHeard) = true := by kernel_rfl
theorem ziT : (Tryz.prog.mayEnter) = true := by kernel_rfl
theorem ziC : ((Rows.naiveMoreRow.lifted == Tryz.prog.liftsFinal)) = true := by kernel_rfl
theorem ziO : ((Tryz.prog.make == some Rows.naiveMoreRow.make)) = true := by kernel_rfl
theorem ziM : ((Rows.naiveMoreRow.kinds == (if Rows.naiveMoreRow.domain.isEmpty then [] else Tryz.f4.params.toList.map fun t => match Tryz.prog.underlying t with | some (.int k) => some k | _ => none))) = true := by kernel_rfl
theorem ziA : ((Rows.naiveMoreRow.pinned == Rows.naiveMoreRow.pinnedBy)) = true := by kernel_rfl
theorem ziv : ((Rows.naiveMoreRow.veiled == (Tryz.f4.params.toList ++ Rows.naiveMoreSpec.plain.varTypes Tryz.prog ++ Tryz.f4.resultTypes.toList).any (Tryz.prog.veiledRec ·))) = true := by kernel_rfl
theorem zit : (Rows.naiveMoreRow.veiledFits Tryz.prog Tryz.f4.params.toList (Tryz.f4.params.toList ++ Rows.naiveMoreSpec.plain.varTypes Tryz.prog ++ Tryz.f4.resultTypes.toList)) = true := by kernel_rfl
set_option maxRecDepth 100000 in
theorem zlo : joinedFacts Tryz.prog 4 Tryz.f4 Rows.naiveMoreSpec Rows.naiveMoreRow = true := by
  unfold joinedFacts
  exact (zan (zan (zan (zan (zan (zan (zan (zan (zan (zan (zan (zan (zan (zan (zan (zan (zan (zan (zan (zan (zan (zan (zan (zan (zan (zan (zan (zan (zan (zan (zan zkH zjR) zko) zj6) zki) zkK) zjM) zjE) zjN) zj0) ziz) ziU) ziF) ziP) ziV) ziI) ziY) ziQ) ziS) ziX) ziu) ziw) ziL) ziG) ziW) ziT) ziC) ziO) ziM) ziA) ziv) zit)
end Go.Proofs.YtemapihoobmonaaGreatDoor
namespace Go.Proofs.YtemapihoobmonaaGreatDoor
open Go.ChangeShapes Go.WideShapes Go.ChangeAt Go.RowKit Go.Am
theorem zkJ : ownKnob Tryz.prog.godebug = none := by kernel_rfl
theorem zgy : laidOutB Tryz.prog = true := by kernel_rfl
theorem zjG {W : World} (hL : laidMetH Tryz.prog Rows.naiveMoreRow.laid W) : ∀ c, c < 256 → W.cell? ⟨1, c, none⟩ = some (.int .u8 (Lib.asciiSpaceTab.getD c 0)) :=
  zkq hL (by kernel_rfl) (d := Rows.laid_strings_asciiSpace) (by simp [Rows.naiveMoreRow]) (by kernel_rfl) (by kernel_rfl) (by kernel_rfl) (t := 237) (by kernel_rfl) (e := 5) (by kernel_rfl) (by kernel_rfl) (by kernel_rfl)
noncomputable def zeE (os : Os) : World := World.laidAll Tryz.prog os Rows.naiveMoreRow.laid
theorem zj2 (os : Os) (args : Array Value) : laidMetH Tryz.prog Rows.naiveMoreRow.laid ((zeE os).forCall (fun _ _ => 0) ⟨#[], args, []⟩).memory := by
  rw [MakeChecks.laidMetH_plain _ _ _ (by kernel_rfl)]
  exact laidMet_laidAll args (by kernel_rfl) (by kernel_rfl)
set_option maxRecDepth 100000 in
theorem zlD (h : Heap) (args : List Value) (_ : h.low = h.size) (hsp : Holds h 1 (.row zbh zbx true)) (hs : zdo Tryz.prog h 8 Tryz.f4.params.toList args) : Ok Tryz.prog tab ov 4 args h fun v h' => v = .bool true ∧ Ext h h' := by
  have hp : Tryz.f4.params.toList = [32, 27, 29] := by kernel_rfl
  have hs2 : zdo Tryz.prog h 8 [32, 27, 29] args := zqX hp hs
  clear hs
  obtain ⟨x0, r0, rfl, h0, hs2⟩ := zef hs2
  obtain ⟨x1, r1, rfl, h1, hs2⟩ := zef hs2
  obtain ⟨x2, r2, rfl, h2, hs2⟩ := zef hs2
  obtain rfl := znJ hs2
  obtain ⟨d0, f0⟩ := zne h0
  obtain ⟨d1, f1⟩ := zti h1
  obtain ⟨d2, f2⟩ := zpm h2
  exact zmD d0 d1 d2 x0 x1 x2 h hsp f0 f1 f2 _ (fun h' x => ⟨rfl, x⟩)
set_option maxRecDepth 100000 in
theorem zg2 (os : Os) (started : os.Started) (H : Type) (enc : TypeId × Value → H) :
    ReturnsInHanded {} Tryz.checked os 4 .any (fun w args => (Rows.naiveMoreSpec.pre enc Tryz.prog Tryz.f4 Rows.naiveMoreRow.domain false w args ∧ laidMetH Tryz.prog Rows.naiveMoreRow.laid w) ∧ sizedMet enc Tryz.prog Tryz.f4 (OpenSpec.ofChange Rows.naiveMoreSpec) false w args)
      (Rows.naiveMoreSpec.post enc Tryz.prog Tryz.f4 Rows.naiveMoreRow.apart Rows.naiveMoreRow.fresh Rows.naiveMoreRow.handsOn Rows.naiveMoreRow.again) := by
  refine returnsInHanded_of_change_and (C := Tryz.checked) (X := fun w _ => laidMetH Tryz.prog Rows.naiveMoreRow.laid w) (fun _ _ _ hh h => h.of_heap hh) zkJ started (by kernel_rfl) Tryz.func4
    (zof (enc := enc) (C := Tryz.checked) (os := os) (X := fun w _ => laidMetH Tryz.prog Rows.naiveMoreRow.laid w) (zeE os) #[.slice none 0 0, .slice none 0 0, .agg ⟨noAtomD.cells ++ [.slice none 0 0]⟩] 12 (World.laidAll_os _ _ _) (by kernel_rfl) (by kernel_rfl) (by kernel_rfl) (by kernel_rfl) (by kernel_rfl) (zj2 os _)) ?_
  intro W base args ds gs before hval hW hcnd _ hL _
  exact zke (n := 8) (boolT := 4) mixed zcM rfl zzk rfl (zjG hL) zgy rfl (by kernel_rfl) (by kernel_rfl) Tryz.underlying4 (by kernel_rfl) (by kernel_rfl)
    (fun ds hd => by
      have hp : Tryz.f4.params.size = 3 := by kernel_rfl
      rw [hp] at hd
      match ds, hd with
      | [_, _, _], _ => rfl)
    zlD hval hW
theorem zkD : Rows.NaiveMoreSaid :=
  OpenClaim.holds_of_wide 4 Tryz.f4 rfl rfl rfl rfl rfl rfl rfl ⟨rfl, rfl, rfl, rfl, rfl⟩ rfl rfl rfl rfl rfl (by kernel_rfl) Tryz.func4 zlo
    (of_decide_eq_true (by kernel_rfl)) (by unfold Func.isWrapper; first | (rw [if_pos (by decide +kernel)]; kernel_rfl) | (rw [if_neg (by decide +kernel)]; exact ⟨rfl, rfl⟩))
    (fun os started H enc _ => zg2 os started H enc)
theorem zia : Tryz.f4.params.toList.all (fun t => !Tryz.prog.wantsStandIn t) = true := by kernel_rfl
theorem naiveMore_holds : Rows.NaiveMoreCardSaid :=
  Claim7.holds_tied_plain_at .later [] [.listed, .data] true (true, "0bcedb163bd3680f2d43ed751055ec6a6419c3781179eca05f463f44977e4117") false
    zkD (fun _ h => by cases h) (by kernel_rfl) (fun _ h => by cases h) naiveMore_row_tie rfl ⟨rfl, rfl⟩ (by kernel_rfl) rfl
    (fun f fn hf hfn => by
      obtain rfl : f = 4 := Option.some.inj ((show Tryz.prog.funcNamed "vouchsafe/vouchsafelaw16.NaiveMore" = some 4 by kernel_rfl).symm.trans hf) |>.symm
      obtain rfl : fn = Tryz.f4 := (Option.some.inj (Tryz.func4.symm.trans hfn)).symm
      refine ⟨by kernel_rfl, fun j t ht => ?_⟩
      have h1 := List.all_eq_true.1 zia t (List.mem_of_getElem? (i := j) (by simpa using ht))
      have h2 : Tryz.prog.wantsStandIn t = false := by
        cases hh : Tryz.prog.wantsStandIn t with
        | false => rfl
        | true =>
          have h3 : (!Tryz.prog.wantsStandIn t) = true := h1
          rw [hh] at h3
          exact absurd h3 (by decide)
      exact h2)
    (by kernel_rfl)
#print axioms naiveMore_holds
end Go.Proofs.YtemapihoobmonaaGreatDoor
