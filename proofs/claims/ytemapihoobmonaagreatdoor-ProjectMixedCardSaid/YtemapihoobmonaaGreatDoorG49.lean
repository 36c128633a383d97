/- The closed facts of the row ProjectMixed, each by itself. No condition. -/
import Derived.Test.YtemapihoobmonaaGreatDoorRows
import Derived.JoinedOf
import Derived.ProofKit
import Derived.Test.YtemapihoobmonaaGreatDoorG10
import Derived.Test.YtemapihoobmonaaGreatDoorG27
import Derived.Test.YtemapihoobmonaaGreatDoorG48
import Derived.Test.YtemapihoobmonaaGreatDoorCards
import Derived.Test.YtemapihoobmonaaGreatDoorTie
import Derived.SevenTiedAt
import Derived.Lay
import Derived.LaidHandle
namespace Go.Proofs.YtemapihoobmonaaGreatDoor
open Go.ChangeShapes Go.WideShapes Go.ChangeAt Go.RowKit
theorem zad {a b : Bool} (h1 : a = true) (h2 : b = true) : (a && b) = true := by rw [h1, h2]; rfl
theorem zhk : (Rows.projectMixedRow.wf (OpenSpec.ofChange Rows.projectMixedSpec)) = true := by kernel_rfl
theorem zhf : (laidOutB Tryz.prog) = true := by kernel_rfl
theorem zhu : (mapsRowed Tryz.prog) = true := by kernel_rfl
theorem zht : (Tryz.f8.params.all (Tryz.prog.readableRec ·)) = true := by kernel_rfl
theorem zhC : (namedTie Tryz.prog Rows.projectMixedRow.named Rows.projectMixedSpec.vars) = true := by kernel_rfl
theorem zhq : ((Rows.projectMixedRow.stops == [])) = true := by kernel_rfl
theorem zhl : ((Tryz.prog.stops == [])) = true := by kernel_rfl
theorem zhB : ((Rows.projectMixedRow.knobs == [])) = true := by kernel_rfl
theorem zhi : ((Tryz.prog.stopKnobs == [])) = true := by kernel_rfl
theorem zhz : ((Rows.projectMixedRow.inPlace == Tryz.prog.inPlace 8)) = true := by kernel_rfl
theorem zgv : ((Rows.projectMixedRow.unfollowed == Tryz.prog.unfollowed 8)) = true := by kernel_rfl
theorem zf7 : ((Rows.projectMixedRow.recurses == Tryz.prog.recurses 8)) = true := by kernel_rfl
theorem zgA : ((Rows.projectMixedRow.named == Tryz.prog.varsNamed 8)) = true := by kernel_rfl
theorem zgb : ((Rows.projectMixedRow.maps == (Tryz.f8.params.toList ++ Rows.projectMixedSpec.plain.varTypes Tryz.prog).any (Tryz.prog.mapsRec ·))) = true := by kernel_rfl
theorem zgn : ((Rows.projectMixedRow.ifaces == (Tryz.f8.params.toList ++ Rows.projectMixedSpec.plain.varTypes Tryz.prog).any (Tryz.prog.ifacesRec ·))) = true := by kernel_rfl
theorem zgI : ((Rows.projectMixedRow.mapsOut == Tryz.prog.mapsAmong Tryz.f8.resultTypes.toList)) = true := by kernel_rfl
theorem zgr : ((Rows.projectMixedRow.loops == (Tryz.f8.params.toList ++ Rows.projectMixedSpec.plain.varTypes Tryz.prog).any (Tryz.prog.loopsFrom ·))) = true := by kernel_rfl
theorem zgQ : ((Rows.projectMixedRow.wideKeys == (Tryz.f8.params.toList ++ Rows.projectMixedSpec.plain.varTypes Tryz.prog ++ Tryz.f8.resultTypes.toList).any (Tryz.prog.wideKeysFrom ·))) = true := by kernel_rfl
theorem zgo : (Rows.projectMixedSpec.vars.all (Tryz.prog.varReadable ·)) = true := by kernel_rfl
theorem zgp : (Tryz.f8.resultTypes.all (fun t => Tryz.prog.readableRec t && decide (t < Tryz.prog.types.size))) = true := by kernel_rfl
theorem zgw : ((Rows.projectMixedRow.ifacesOut == Tryz.f8.resultTypes.toList.any (Tryz.prog.ifacesRec ·))) = true := by kernel_rfl
theorem zgt : ((Rows.projectMixedRow.loopsOut == Tryz.f8.resultTypes.toList.any (Tryz.prog.loopsFrom ·))) = true := by kernel_rfl
theorem zgG : ((Rows.projectMixedRow.plainKeys == Tryz.prog.plainKeys)) = true := by kernel_rfl
theorem zgK : (Rows.projectMixedRow.shortTexts.isNone) = true := by kernel_rfl
theorem zgi : (Tryz.prog.stopsHeard) = true := by kernel_rfl
theorem zgj : (Tryz.prog.mayEnter) = true := by kernel_rfl
theorem zgB : ((Rows.projectMixedRow.lifted == Tryz.prog.liftsFinal)) = true := by kernel_rfl
theorem zgh : ((Tryz.prog.make == some Rows.projectMixedRow.make)) = true := by kernel_rfl
theorem zgm : ((Rows.projectMixedRow.kinds == (if Rows.projectMixedRow.domain.isEmpty then [] else Tryz.f8.params.toList.map fun t => match Tryz.prog.underlying t with | some (.int k) => some k | _ => none))) = true := by kernel_rfl
theorem zgE : ((Rows.projectMixedRow.pinned == Rows.projectMixedRow.pinnedBy)) = true := by kernel_rfl
theorem zgL : ((Rows.projectMixedRow.veiled == (Tryz.f8.params.toList ++ Rows.projectMixedSpec.plain.varTypes Tryz.prog ++ Tryz.f8.resultTypes.toList).any (Tryz.prog.veiledRec ·))) = true := by kernel_rfl
theorem zgq : (Rows.projectMixedRow.veiledFits Tryz.prog Tryz.f8.params.toList (Tryz.f8.params.toList ++ Rows.projectMixedSpec.plain.varTypes Tryz.prog ++ Tryz.f8.resultTypes.toList)) = true := by kernel_rfl
set_option maxRecDepth 100000 in
theorem zis : joinedFacts Tryz.prog 8 Tryz.f8 Rows.projectMixedSpec Rows.projectMixedRow = true := by
  unfold joinedFacts
  exact (zad (zad (zad (zad (zad (zad (zad (zad (zad (zad (zad (zad (zad (zad (zad (zad (zad (zad (zad (zad (zad (zad (zad (zad (zad (zad (zad (zad (zad (zad (zad zhk zhf) zhu) zht) zhC) zhq) zhl) zhB) zhi) zhz) zgv) zf7) zgA) zgb) zgn) zgI) zgr) zgQ) zgo) zgp) zgw) zgt) zgG) zgK) zgi) zgj) zgB) zgh) zgm) zgE) zgL) zgq)
end Go.Proofs.YtemapihoobmonaaGreatDoor
namespace Go.Proofs.YtemapihoobmonaaGreatDoor
open Go.ChangeShapes Go.WideShapes Go.ChangeAt Go.RowKit Go.Am
theorem zhA : ownKnob Tryz.prog.godebug = none := by kernel_rfl
theorem ze0 : laidOutB Tryz.prog = true := by kernel_rfl
theorem zhs {W : World} (hL : laidMetH Tryz.prog Rows.projectMixedRow.laid W) : ∀ c, c < 256 → W.cell? ⟨1, c, none⟩ = some (.int .u8 (Lib.asciiSpaceTab.getD c 0)) :=
  zkc hL (by kernel_rfl) (d := Rows.laid_strings_asciiSpace) (by simp [Rows.projectMixedRow]) (by kernel_rfl) (by kernel_rfl) (by kernel_rfl) (t := 237) (by kernel_rfl) (e := 5) (by kernel_rfl) (by kernel_rfl) (by kernel_rfl)
noncomputable def zdo (os : Os) : World := World.laidAll Tryz.prog os Rows.projectMixedRow.laid
theorem zhy (os : Os) (args : Array Value) : laidMetH Tryz.prog Rows.projectMixedRow.laid ((zdo os).forCall (fun _ _ => 0) ⟨#[], args, []⟩).memory := by
  rw [MakeChecks.laidMetH_plain _ _ _ (by kernel_rfl)]
  exact laidMet_laidAll args (by kernel_rfl) (by kernel_rfl)
set_option maxRecDepth 100000 in
theorem ziR (h : Heap) (args : List Value) (_ : h.low = h.size) (hsp : Holds h 1 (.row zbh zby true)) (hs : zdA Tryz.prog h 8 Tryz.f8.params.toList args) : Ok Tryz.prog tab ov 8 args h fun v h' => v = .bool true ∧ Ext h h' := by
  have hp : Tryz.f8.params.toList = [55, 9, 69, 69, 30] := by kernel_rfl
  have hs2 : zdA Tryz.prog h 8 [55, 9, 69, 69, 30] args := zqw hp hs
  clear hs
  obtain ⟨x0, r0, rfl, h0, hs2⟩ := zcI hs2
  obtain ⟨x1, r1, rfl, h1, hs2⟩ := zcI hs2
  obtain ⟨x2, r2, rfl, h2, hs2⟩ := zcI hs2
  obtain ⟨x3, r3, rfl, h3, hs2⟩ := zcI hs2
  obtain ⟨x4, r4, rfl, h4, hs2⟩ := zcI hs2
  obtain rfl := znr hs2
  obtain ⟨d0, f0⟩ := zrm h0
  obtain ⟨d1, rfl⟩ := zqp h1
  obtain ⟨d2, f2⟩ := zl9 h2
  obtain ⟨d3, f3⟩ := zl9 h3
  obtain ⟨d4, f4⟩ := zuI h4
  exact ziY d0 d1 d2 d3 d4 x0 x2 x3 x4 h hsp f0 f2 f3 f4 _ (fun h' x => ⟨rfl, x⟩)
set_option maxRecDepth 100000 in
theorem zfn (os : Os) (started : os.Started) (H : Type) (enc : TypeId × Value → H) :
    ReturnsInHanded {} Tryz.checked os 8 .any (fun w args => (Rows.projectMixedSpec.pre enc Tryz.prog Tryz.f8 Rows.projectMixedRow.domain false w args ∧ laidMetH Tryz.prog Rows.projectMixedRow.laid w) ∧ sizedMet enc Tryz.prog Tryz.f8 (OpenSpec.ofChange Rows.projectMixedSpec) false w args)
      (Rows.projectMixedSpec.post enc Tryz.prog Tryz.f8 Rows.projectMixedRow.apart Rows.projectMixedRow.fresh Rows.projectMixedRow.handsOn Rows.projectMixedRow.again) := by
  refine returnsInHanded_of_change_and (C := Tryz.checked) (X := fun w _ => laidMetH Tryz.prog Rows.projectMixedRow.laid w) (fun _ _ _ hh h => h.of_heap hh) zhA started (by kernel_rfl) Tryz.func8
    (zoA (enc := enc) (C := Tryz.checked) (os := os) (X := fun w _ => laidMetH Tryz.prog Rows.projectMixedRow.laid w) (zdo os) #[.agg ⟨[.slice none 0 0, .slice none 0 0, .slice none 0 0, .int .i64 0, .int .i64 0, .slice none 0 0, .slice none 0 0]⟩, .string ⟨#[]⟩, .slice none 0 0, .slice none 0 0, .slice none 0 0] 12 (World.laidAll_os _ _ _) (by kernel_rfl) (by kernel_rfl) (by kernel_rfl) (by kernel_rfl) (by kernel_rfl) (zhy os _)) ?_
  intro W base args ds gs before hval hW hcnd _ hL _
  exact zkR (n := 8) (boolT := 4) mixed zco rfl zzj rfl (zhs hL) ze0 rfl (by kernel_rfl) (by kernel_rfl) Tryz.underlying4 (by kernel_rfl) (by kernel_rfl)
    (fun ds hd => by
      have hp : Tryz.f8.params.size = 5 := by kernel_rfl
      rw [hp] at hd
      match ds, hd with
      | [_, _, _, _, _], _ => rfl)
    ziR hval hW
theorem zhD : Rows.ProjectMixedSaid :=
  OpenClaim.holds_of_wide 8 Tryz.f8 rfl rfl rfl rfl rfl rfl rfl ⟨rfl, rfl, rfl, rfl, rfl⟩ rfl rfl rfl rfl rfl (by kernel_rfl) Tryz.func8 zis
    (of_decide_eq_true (by kernel_rfl)) (by unfold Func.isWrapper; first | (rw [if_pos (by decide +kernel)]; kernel_rfl) | (rw [if_neg (by decide +kernel)]; exact ⟨rfl, rfl⟩))
    (fun os started H enc _ => zfn os started H enc)
theorem zf0 : Tryz.f8.params.toList.all (fun t => !Tryz.prog.wantsStandIn t) = true := by kernel_rfl
theorem projectMixed_holds : Rows.ProjectMixedCardSaid :=
  Claim7.holds_tied_plain_at .later [] [.listed, .data] true (true, "0bcedb163bd3680f2d43ed751055ec6a6419c3781179eca05f463f44977e4117") false
    zhD (fun _ h => by cases h) (by kernel_rfl) (fun _ h => by cases h) projectMixed_row_tie rfl ⟨rfl, rfl⟩ (by kernel_rfl) rfl
    (fun f fn hf hfn => by
      obtain rfl : f = 8 := Option.some.inj ((show Tryz.prog.funcNamed "vouchsafe/vouchsafelaw28.ProjectMixed" = some 8 by kernel_rfl).symm.trans hf) |>.symm
      obtain rfl : fn = Tryz.f8 := (Option.some.inj (Tryz.func8.symm.trans hfn)).symm
      refine ⟨by kernel_rfl, fun j t ht => ?_⟩
      have h1 := List.all_eq_true.1 zf0 t (List.mem_of_getElem? (i := j) (by simpa using ht))
      have h2 : Tryz.prog.wantsStandIn t = false := by
        cases hh : Tryz.prog.wantsStandIn t with
        | false => rfl
        | true =>
          have h3 : (!Tryz.prog.wantsStandIn t) = true := h1
          rw [hh] at h3
          exact absurd h3 (by decide)
      exact h2)
    (by kernel_rfl)
#print axioms projectMixed_holds
end Go.Proofs.YtemapihoobmonaaGreatDoor
