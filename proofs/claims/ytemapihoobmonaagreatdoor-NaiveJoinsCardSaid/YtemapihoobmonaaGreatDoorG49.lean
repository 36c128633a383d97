/- The closed facts of the row NaiveJoins, each by itself. No condition. -/
import Derived.Test.YtemapihoobmonaaGreatDoorRows
import Derived.JoinedOf
import Derived.ProofKit
import Derived.Test.YtemapihoobmonaaGreatDoorG10
import Derived.Test.YtemapihoobmonaaGreatDoorG14
import Derived.Test.YtemapihoobmonaaGreatDoorG48
import Derived.Test.YtemapihoobmonaaGreatDoorCards
import Derived.Test.YtemapihoobmonaaGreatDoorTie
import Derived.SevenTiedAt
import Derived.Lay
import Derived.LaidHandle
namespace Go.Proofs.YtemapihoobmonaaGreatDoor
open Go.ChangeShapes Go.WideShapes Go.ChangeAt Go.RowKit
theorem zam {a b : Bool} (h1 : a = true) (h2 : b = true) : (a && b) = true := by rw [h1, h2]; rfl
theorem zje : (Rows.naiveJoinsRow.wf (OpenSpec.ofChange Rows.naiveJoinsSpec)) = true := by kernel_rfl
theorem zjf : (laidOutB Tryz.prog) = true := by kernel_rfl
theorem zi6 : (mapsRowed Tryz.prog) = true := by kernel_rfl
theorem zja : (Tryz.f3.params.all (Tryz.prog.readableRec ·)) = true := by kernel_rfl
theorem zi9 : (namedTie Tryz.prog Rows.naiveJoinsRow.named Rows.naiveJoinsSpec.vars) = true := by kernel_rfl
theorem zjg : ((Rows.naiveJoinsRow.stops == [])) = true := by kernel_rfl
theorem zi4 : ((Tryz.prog.stops == [])) = true := by kernel_rfl
theorem zjd : ((Rows.naiveJoinsRow.knobs == [])) = true := by kernel_rfl
theorem zjh : ((Tryz.prog.stopKnobs == [])) = true := by kernel_rfl
theorem zjo : ((Rows.naiveJoinsRow.inPlace == Tryz.prog.inPlace 3)) = true := by kernel_rfl
theorem zia : ((Rows.naiveJoinsRow.unfollowed == Tryz.prog.unfollowed 3)) = true := by kernel_rfl
theorem zh0 : ((Rows.naiveJoinsRow.recurses == Tryz.prog.recurses 3)) = true := by kernel_rfl
theorem ziC : ((Rows.naiveJoinsRow.named == Tryz.prog.varsNamed 3)) = true := by kernel_rfl
theorem ziV : ((Rows.naiveJoinsRow.maps == (Tryz.f3.params.toList ++ Rows.naiveJoinsSpec.plain.varTypes Tryz.prog).any (Tryz.prog.mapsRec ·))) = true := by kernel_rfl
theorem zhB : ((Rows.naiveJoinsRow.ifaces == (Tryz.f3.params.toList ++ Rows.naiveJoinsSpec.plain.varTypes Tryz.prog).any (Tryz.prog.ifacesRec ·))) = true := by kernel_rfl
theorem zim : ((Rows.naiveJoinsRow.mapsOut == Tryz.prog.mapsAmong Tryz.f3.resultTypes.toList)) = true := by kernel_rfl
theorem ziX : ((Rows.naiveJoinsRow.loops == (Tryz.f3.params.toList ++ Rows.naiveJoinsSpec.plain.varTypes Tryz.prog).any (Tryz.prog.loopsFrom ·))) = true := by kernel_rfl
theorem ziZ : ((Rows.naiveJoinsRow.wideKeys == (Tryz.f3.params.toList ++ Rows.naiveJoinsSpec.plain.varTypes Tryz.prog ++ Tryz.f3.resultTypes.toList).any (Tryz.prog.wideKeysFrom ·))) = true := by kernel_rfl
theorem ziQ : (Rows.naiveJoinsSpec.vars.all (Tryz.prog.varReadable ·)) = true := by kernel_rfl
theorem zh9 : (Tryz.f3.resultTypes.all (fun t => Tryz.prog.readableRec t && decide (t < Tryz.prog.types.size))) = true := by kernel_rfl
theorem zhC : ((Rows.naiveJoinsRow.ifacesOut == Tryz.f3.resultTypes.toList.any (Tryz.prog.ifacesRec ·))) = true := by kernel_rfl
theorem zie : ((Rows.naiveJoinsRow.loopsOut == Tryz.f3.resultTypes.toList.any (Tryz.prog.loopsFrom ·))) = true := by kernel_rfl
theorem ziD : ((Rows.naiveJoinsRow.plainKeys == Tryz.prog.plainKeys)) = true := by kernel_rfl
theorem ziM : (Rows.naiveJoinsRow.shortTexts.isNone) = true := by kernel_rfl
theorem zh3 : (Tryz.prog.stopsHeard) = true := by kernel_rfl
theorem zig : (Tryz.prog.mayEnter) = true := by kernel_rfl
theorem ziu : ((Rows.naiveJoinsRow.lifted == Tryz.prog.liftsFinal)) = true := by kernel_rfl
theorem zhA : ((Tryz.prog.make == some Rows.naiveJoinsRow.make)) = true := by kernel_rfl
theorem zid : ((Rows.naiveJoinsRow.kinds == (if Rows.naiveJoinsRow.domain.isEmpty then [] else Tryz.f3.params.toList.map fun t => match Tryz.prog.underlying t with | some (.int k) => some k | _ => none))) = true := by kernel_rfl
theorem zhX : ((Rows.naiveJoinsRow.pinned == Rows.naiveJoinsRow.pinnedBy)) = true := by kernel_rfl
theorem zir : ((Rows.naiveJoinsRow.veiled == (Tryz.f3.params.toList ++ Rows.naiveJoinsSpec.plain.varTypes Tryz.prog ++ Tryz.f3.resultTypes.toList).any (Tryz.prog.veiledRec ·))) = true := by kernel_rfl
theorem ziN : (Rows.naiveJoinsRow.veiledFits Tryz.prog Tryz.f3.params.toList (Tryz.f3.params.toList ++ Rows.naiveJoinsSpec.plain.varTypes Tryz.prog ++ Tryz.f3.resultTypes.toList)) = true := by kernel_rfl
set_option maxRecDepth 100000 in
theorem zkQ : joinedFacts Tryz.prog 3 Tryz.f3 Rows.naiveJoinsSpec Rows.naiveJoinsRow = true := by
  unfold joinedFacts
  exact (zam (zam (zam (zam (zam (zam (zam (zam (zam (zam (zam (zam (zam (zam (zam (zam (zam (zam (zam (zam (zam (zam (zam (zam (zam (zam (zam (zam (zam (zam (zam zje zjf) zi6) zja) zi9) zjg) zi4) zjd) zjh) zjo) zia) zh0) ziC) ziV) zhB) zim) ziX) ziZ) ziQ) zh9) zhC) zie) ziD) ziM) zh3) zig) ziu) zhA) zid) zhX) zir) ziN)
end Go.Proofs.YtemapihoobmonaaGreatDoor
namespace Go.Proofs.YtemapihoobmonaaGreatDoor
open Go.ChangeShapes Go.WideShapes Go.ChangeAt Go.RowKit Go.Am
theorem zjb : ownKnob Tryz.prog.godebug = none := by kernel_rfl
theorem zfM : laidOutB Tryz.prog = true := by kernel_rfl
theorem zjm {W : World} (hL : laidMetH Tryz.prog Rows.naiveJoinsRow.laid W) : ∀ c, c < 256 → W.cell? ⟨1, c, none⟩ = some (.int .u8 (Lib.asciiSpaceTab.getD c 0)) :=
  zkn hL (by kernel_rfl) (d := Rows.laid_strings_asciiSpace) (by simp [Rows.naiveJoinsRow]) (by kernel_rfl) (by kernel_rfl) (by kernel_rfl) (t := 237) (by kernel_rfl) (e := 5) (by kernel_rfl) (by kernel_rfl) (by kernel_rfl)
noncomputable def zek (os : Os) : World := World.laidAll Tryz.prog os Rows.naiveJoinsRow.laid
theorem zi5 (os : Os) (args : Array Value) : laidMetH Tryz.prog Rows.naiveJoinsRow.laid ((zek os).forCall (fun _ _ => 0) ⟨#[], args, []⟩).memory := by
  rw [MakeChecks.laidMetH_plain _ _ _ (by kernel_rfl)]
  exact laidMet_laidAll args (by kernel_rfl) (by kernel_rfl)
set_option maxRecDepth 100000 in
theorem zkb (h : Heap) (args : List Value) (_ : h.low = h.size) (hsp : Holds h 1 (.row zbi zbz true)) (hs : zdF Tryz.prog h 8 Tryz.f3.params.toList args) : Ok Tryz.prog tab ov 3 args h fun v h' => v = .bool true ∧ Ext h h' := by
  have hp : Tryz.f3.params.toList = [29, 27, 30] := by kernel_rfl
  have hs2 : zdF Tryz.prog h 8 [29, 27, 30] args := zrq hp hs
  clear hs
  obtain ⟨x0, r0, rfl, h0, hs2⟩ := zeD hs2
  obtain ⟨x1, r1, rfl, h1, hs2⟩ := zeD hs2
  obtain ⟨x2, r2, rfl, h2, hs2⟩ := zeD hs2
  obtain rfl := znm hs2
  obtain ⟨d0, f0⟩ := zqE h0
  obtain ⟨d1, f1⟩ := ztZ h1
  obtain ⟨d2, f2⟩ := zuG h2
  exact zky d0 d1 d2 x0 x1 x2 h hsp f0 f1 f2 _ (fun h' x => ⟨rfl, x⟩)
set_option maxRecDepth 100000 in
theorem zgy (os : Os) (started : os.Started) (H : Type) (enc : TypeId × Value → H) :
    ReturnsInHanded {} Tryz.checked os 3 .any (fun w args => (Rows.naiveJoinsSpec.pre enc Tryz.prog Tryz.f3 Rows.naiveJoinsRow.domain false w args ∧ laidMetH Tryz.prog Rows.naiveJoinsRow.laid w) ∧ sizedMet enc Tryz.prog Tryz.f3 (OpenSpec.ofChange Rows.naiveJoinsSpec) false w args)
      (Rows.naiveJoinsSpec.post enc Tryz.prog Tryz.f3 Rows.naiveJoinsRow.apart Rows.naiveJoinsRow.fresh Rows.naiveJoinsRow.handsOn Rows.naiveJoinsRow.again) := by
  refine returnsInHanded_of_change_and (C := Tryz.checked) (X := fun w _ => laidMetH Tryz.prog Rows.naiveJoinsRow.laid w) (fun _ _ _ hh h => h.of_heap hh) zjb started (by kernel_rfl) Tryz.func3
    (zoB (enc := enc) (C := Tryz.checked) (os := os) (X := fun w _ => laidMetH Tryz.prog Rows.naiveJoinsRow.laid w) (zek os) #[.agg ⟨noAtomD.cells ++ [.slice none 0 0]⟩, .slice none 0 0, .slice none 0 0] 12 (World.laidAll_os _ _ _) (by kernel_rfl) (by kernel_rfl) (by kernel_rfl) (by kernel_rfl) (by kernel_rfl) (zi5 os _)) ?_
  intro W base args ds gs before hval hW hcnd _ hL _
  exact zkL (n := 8) (boolT := 4) mixed zcY rfl zzg rfl (zjm hL) zfM rfl (by kernel_rfl) (by kernel_rfl) Tryz.underlying4 (by kernel_rfl) (by kernel_rfl)
    (fun ds hd => by
      have hp : Tryz.f3.params.size = 3 := by kernel_rfl
      rw [hp] at hd
      match ds, hd with
      | [_, _, _], _ => rfl)
    zkb hval hW
theorem zjn : Rows.NaiveJoinsSaid :=
  OpenClaim.holds_of_wide 3 Tryz.f3 rfl rfl rfl rfl rfl rfl rfl ⟨rfl, rfl, rfl, rfl, rfl⟩ rfl rfl rfl rfl rfl (by kernel_rfl) Tryz.func3 zkQ
    (of_decide_eq_true (by kernel_rfl)) (by unfold Func.isWrapper; first | (rw [if_pos (by decide +kernel)]; kernel_rfl) | (rw [if_neg (by decide +kernel)]; exact ⟨rfl, rfl⟩))
    (fun os started H enc _ => zgy os started H enc)
theorem zhf : Tryz.f3.params.toList.all (fun t => !Tryz.prog.wantsStandIn t) = true := by kernel_rfl
theorem naiveJoins_holds : Rows.NaiveJoinsCardSaid :=
  Claim7.holds_tied_plain_at .later [] [.listed, .data] true (true, "0bcedb163bd3680f2d43ed751055ec6a6419c3781179eca05f463f44977e4117") false
    zjn (fun _ h => by cases h) (by kernel_rfl) (fun _ h => by cases h) naiveJoins_row_tie rfl ⟨rfl, rfl⟩ (by kernel_rfl) rfl
    (fun f fn hf hfn => by
      obtain rfl : f = 3 := Option.some.inj ((show Tryz.prog.funcNamed "vouchsafe/vouchsafelaw16.NaiveJoins" = some 3 by kernel_rfl).symm.trans hf) |>.symm
      obtain rfl : fn = Tryz.f3 := (Option.some.inj (Tryz.func3.symm.trans hfn)).symm
      refine ⟨by kernel_rfl, fun j t ht => ?_⟩
      have h1 := List.all_eq_true.1 zhf t (List.mem_of_getElem? (i := j) (by simpa using ht))
      have h2 : Tryz.prog.wantsStandIn t = false := by
        cases hh : Tryz.prog.wantsStandIn t with
        | false => rfl
        | true =>
          have h3 : (!Tryz.prog.wantsStandIn t) = true := h1
          rw [hh] at h3
          exact absurd h3 (by decide)
      exact h2)
    (by kernel_rfl)
#print axioms naiveJoins_holds
end Go.Proofs.YtemapihoobmonaaGreatDoor
