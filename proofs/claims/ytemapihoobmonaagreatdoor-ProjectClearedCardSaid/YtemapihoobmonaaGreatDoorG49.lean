/- The closed facts of the row ProjectCleared, each by itself. No condition. -/
import Derived.Test.YtemapihoobmonaaGreatDoorRows
import Derived.JoinedOf
import Derived.ProofKit
import Derived.Test.YtemapihoobmonaaGreatDoorG10
import Derived.Test.YtemapihoobmonaaGreatDoorG26
import Derived.Test.YtemapihoobmonaaGreatDoorG48
import Derived.Test.YtemapihoobmonaaGreatDoorCards
import Derived.Test.YtemapihoobmonaaGreatDoorTie
import Derived.SevenTiedAt
import Derived.Lay
import Derived.LaidHandle
namespace Go.Proofs.YtemapihoobmonaaGreatDoor
open Go.ChangeShapes Go.WideShapes Go.ChangeAt Go.RowKit
theorem zae {a b : Bool} (h1 : a = true) (h2 : b = true) : (a && b) = true := by rw [h1, h2]; rfl
theorem zgH : (Rows.projectClearedRow.wf (OpenSpec.ofChange Rows.projectClearedSpec)) = true := by kernel_rfl
theorem zgM : (laidOutB Tryz.prog) = true := by kernel_rfl
theorem zga : (mapsRowed Tryz.prog) = true := by kernel_rfl
theorem zf4 : (Tryz.f6.params.all (Tryz.prog.readableRec ·)) = true := by kernel_rfl
theorem zgo : (namedTie Tryz.prog Rows.projectClearedRow.named Rows.projectClearedSpec.vars) = true := by kernel_rfl
theorem zf9 : ((Rows.projectClearedRow.stops == [])) = true := by kernel_rfl
theorem zgt : ((Tryz.prog.stops == [])) = true := by kernel_rfl
theorem zgC : ((Rows.projectClearedRow.knobs == [])) = true := by kernel_rfl
theorem zgc : ((Tryz.prog.stopKnobs == [])) = true := by kernel_rfl
theorem zgK : ((Rows.projectClearedRow.inPlace == Tryz.prog.inPlace 6)) = true := by kernel_rfl
theorem zfC : ((Rows.projectClearedRow.unfollowed == Tryz.prog.unfollowed 6)) = true := by kernel_rfl
theorem zfz : ((Rows.projectClearedRow.recurses == Tryz.prog.recurses 6)) = true := by kernel_rfl
theorem zfJ : ((Rows.projectClearedRow.named == Tryz.prog.varsNamed 6)) = true := by kernel_rfl
theorem zfj : ((Rows.projectClearedRow.maps == (Tryz.f6.params.toList ++ Rows.projectClearedSpec.plain.varTypes Tryz.prog).any (Tryz.prog.mapsRec ·))) = true := by kernel_rfl
theorem zfc : ((Rows.projectClearedRow.ifaces == (Tryz.f6.params.toList ++ Rows.projectClearedSpec.plain.varTypes Tryz.prog).any (Tryz.prog.ifacesRec ·))) = true := by kernel_rfl
theorem zfm : ((Rows.projectClearedRow.mapsOut == Tryz.prog.mapsAmong Tryz.f6.resultTypes.toList)) = true := by kernel_rfl
theorem zfy : ((Rows.projectClearedRow.loops == (Tryz.f6.params.toList ++ Rows.projectClearedSpec.plain.varTypes Tryz.prog).any (Tryz.prog.loopsFrom ·))) = true := by kernel_rfl
theorem zfP : ((Rows.projectClearedRow.wideKeys == (Tryz.f6.params.toList ++ Rows.projectClearedSpec.plain.varTypes Tryz.prog ++ Tryz.f6.resultTypes.toList).any (Tryz.prog.wideKeysFrom ·))) = true := by kernel_rfl
theorem zfM : (Rows.projectClearedSpec.vars.all (Tryz.prog.varReadable ·)) = true := by kernel_rfl
theorem zfb : (Tryz.f6.resultTypes.all (fun t => Tryz.prog.readableRec t && decide (t < Tryz.prog.types.size))) = true := by kernel_rfl
theorem zfG : ((Rows.projectClearedRow.ifacesOut == Tryz.f6.resultTypes.toList.any (Tryz.prog.ifacesRec ·))) = true := by kernel_rfl
theorem zfK : ((Rows.projectClearedRow.loopsOut == Tryz.f6.resultTypes.toList.any (Tryz.prog.loopsFrom ·))) = true := by kernel_rfl
theorem zfo : ((Rows.projectClearedRow.plainKeys == Tryz.prog.plainKeys)) = true := by kernel_rfl
theorem zfv : (Rows.projectClearedRow.shortTexts.isNone) = true := by kernel_rfl
theorem zfE : (Tryz.prog.stopsHeard) = true := by kernel_rfl
theorem zfs : (Tryz.prog.mayEnter) = true := by kernel_rfl
theorem zfk : ((Rows.projectClearedRow.lifted == Tryz.prog.liftsFinal)) = true := by kernel_rfl
theorem zfu : ((Tryz.prog.make == some Rows.projectClearedRow.make)) = true := by kernel_rfl
theorem zfg : ((Rows.projectClearedRow.kinds == (if Rows.projectClearedRow.domain.isEmpty then [] else Tryz.f6.params.toList.map fun t => match Tryz.prog.underlying t with | some (.int k) => some k | _ => none))) = true := by kernel_rfl
theorem zfH : ((Rows.projectClearedRow.pinned == Rows.projectClearedRow.pinnedBy)) = true := by kernel_rfl
theorem zfR : ((Rows.projectClearedRow.veiled == (Tryz.f6.params.toList ++ Rows.projectClearedSpec.plain.varTypes Tryz.prog ++ Tryz.f6.resultTypes.toList).any (Tryz.prog.veiledRec ·))) = true := by kernel_rfl
theorem zfn : (Rows.projectClearedRow.veiledFits Tryz.prog Tryz.f6.params.toList (Tryz.f6.params.toList ++ Rows.projectClearedSpec.plain.varTypes Tryz.prog ++ Tryz.f6.resultTypes.toList)) = true := by kernel_rfl
set_option maxRecDepth 100000 in
theorem zg0 : joinedFacts Tryz.prog 6 Tryz.f6 Rows.projectClearedSpec Rows.projectClearedRow = true := by
  unfold joinedFacts
  exact (zae (zae (zae (zae (zae (zae (zae (zae (zae (zae (zae (zae (zae (zae (zae (zae (zae (zae (zae (zae (zae (zae (zae (zae (zae (zae (zae (zae (zae (zae (zae zgH zgM) zga) zf4) zgo) zf9) zgt) zgC) zgc) zgK) zfC) zfz) zfJ) zfj) zfc) zfm) zfy) zfP) zfM) zfb) zfG) zfK) zfo) zfv) zfE) zfs) zfk) zfu) zfg) zfH) zfR) zfn)
end Go.Proofs.YtemapihoobmonaaGreatDoor
namespace Go.Proofs.YtemapihoobmonaaGreatDoor
open Go.ChangeShapes Go.WideShapes Go.ChangeAt Go.RowKit Go.Am
theorem zge : ownKnob Tryz.prog.godebug = none := by kernel_rfl
theorem zen : laidOutB Tryz.prog = true := by kernel_rfl
theorem zgB {W : World} (hL : laidMetH Tryz.prog Rows.projectClearedRow.laid W) : ∀ c, c < 256 → W.cell? ⟨1, c, none⟩ = some (.int .u8 (Lib.asciiSpaceTab.getD c 0)) :=
  zk3 hL (by kernel_rfl) (d := Rows.laid_strings_asciiSpace) (by simp [Rows.projectClearedRow]) (by kernel_rfl) (by kernel_rfl) (by kernel_rfl) (t := 237) (by kernel_rfl) (e := 5) (by kernel_rfl) (by kernel_rfl) (by kernel_rfl)
noncomputable def zcS (os : Os) : World := World.laidAll Tryz.prog os Rows.projectClearedRow.laid
theorem zf5 (os : Os) (args : Array Value) : laidMetH Tryz.prog Rows.projectClearedRow.laid ((zcS os).forCall (fun _ _ => 0) ⟨#[], args, []⟩).memory := by
  rw [MakeChecks.laidMetH_plain _ _ _ (by kernel_rfl)]
  exact laidMet_laidAll args (by kernel_rfl) (by kernel_rfl)
set_option maxRecDepth 100000 in
theorem zg6 (h : Heap) (args : List Value) (_ : h.low = h.size) (hsp : Holds h 1 (.row zbp zbD true)) (hs : zdG Tryz.prog h 8 Tryz.f6.params.toList args) : Ok Tryz.prog tab ov 6 args h fun v h' => v = .bool true ∧ Ext h h' := by
  have hp : Tryz.f6.params.toList = [55, 9, 9, 69] := by kernel_rfl
  have hs2 : zdG Tryz.prog h 8 [55, 9, 9, 69] args := zqu hp hs
  clear hs
  obtain ⟨x0, r0, rfl, h0, hs2⟩ := zdq hs2
  obtain ⟨x1, r1, rfl, h1, hs2⟩ := zdq hs2
  obtain ⟨x2, r2, rfl, h2, hs2⟩ := zdq hs2
  obtain ⟨x3, r3, rfl, h3, hs2⟩ := zdq hs2
  obtain rfl := zoW hs2
  obtain ⟨d0, f0⟩ := zqs h0
  obtain ⟨d1, rfl⟩ := zjO h1
  obtain ⟨d2, rfl⟩ := zjO h2
  obtain ⟨d3, f3⟩ := zrW h3
  exact zg9 d0 d1 d2 d3 x0 x3 h hsp f0 f3 _ (fun h' x => ⟨rfl, x⟩)
set_option maxRecDepth 100000 in
theorem zex (os : Os) (started : os.Started) (H : Type) (enc : TypeId × Value → H) :
    ReturnsInHanded {} Tryz.checked os 6 .any (fun w args => (Rows.projectClearedSpec.pre enc Tryz.prog Tryz.f6 Rows.projectClearedRow.domain false w args ∧ laidMetH Tryz.prog Rows.projectClearedRow.laid w) ∧ sizedMet enc Tryz.prog Tryz.f6 (OpenSpec.ofChange Rows.projectClearedSpec) false w args)
      (Rows.projectClearedSpec.post enc Tryz.prog Tryz.f6 Rows.projectClearedRow.apart Rows.projectClearedRow.fresh Rows.projectClearedRow.handsOn Rows.projectClearedRow.again) := by
  refine returnsInHanded_of_change_and (C := Tryz.checked) (X := fun w _ => laidMetH Tryz.prog Rows.projectClearedRow.laid w) (fun _ _ _ hh h => h.of_heap hh) zge started (by kernel_rfl) Tryz.func6
    (zoP (enc := enc) (C := Tryz.checked) (os := os) (X := fun w _ => laidMetH Tryz.prog Rows.projectClearedRow.laid w) (zcS os) #[.agg ⟨[.slice none 0 0, .slice none 0 0, .slice none 0 0, .int .i64 0, .int .i64 0, .slice none 0 0, .slice none 0 0]⟩, .string ⟨#[]⟩, .string ⟨#[]⟩, .slice none 0 0] 12 (World.laidAll_os _ _ _) (by kernel_rfl) (by kernel_rfl) (by kernel_rfl) (by kernel_rfl) (by kernel_rfl) (zf5 os _)) ?_
  intro W base args ds gs before hval hW hcnd _ hL _
  exact zkR (n := 8) (boolT := 4) mixed zco rfl zzu rfl (zgB hL) zen rfl (by kernel_rfl) (by kernel_rfl) Tryz.underlying4 (by kernel_rfl) (by kernel_rfl)
    (fun ds hd => by
      have hp : Tryz.f6.params.size = 4 := by kernel_rfl
      rw [hp] at hd
      match ds, hd with
      | [_, _, _, _], _ => rfl)
    zg6 hval hW
theorem zgn : Rows.ProjectClearedSaid :=
  OpenClaim.holds_of_wide 6 Tryz.f6 rfl rfl rfl rfl rfl rfl rfl ⟨rfl, rfl, rfl, rfl, rfl⟩ rfl rfl rfl rfl rfl (by kernel_rfl) Tryz.func6 zg0
    (of_decide_eq_true (by kernel_rfl)) (by unfold Func.isWrapper; first | (rw [if_pos (by decide +kernel)]; kernel_rfl) | (rw [if_neg (by decide +kernel)]; exact ⟨rfl, rfl⟩))
    (fun os started H enc _ => zex os started H enc)
theorem ze5 : Tryz.f6.params.toList.all (fun t => !Tryz.prog.wantsStandIn t) = true := by kernel_rfl
theorem projectCleared_holds : Rows.ProjectClearedCardSaid :=
  Claim7.holds_tied_plain_at .later [] [.listed, .data] true (true, "0bcedb163bd3680f2d43ed751055ec6a6419c3781179eca05f463f44977e4117") false
    zgn (fun _ h => by cases h) (by kernel_rfl) (fun _ h => by cases h) projectCleared_row_tie rfl ⟨rfl, rfl⟩ (by kernel_rfl) rfl
    (fun f fn hf hfn => by
      obtain rfl : f = 6 := Option.some.inj ((show Tryz.prog.funcNamed "vouchsafe/vouchsafelaw28.ProjectCleared" = some 6 by kernel_rfl).symm.trans hf) |>.symm
      obtain rfl : fn = Tryz.f6 := (Option.some.inj (Tryz.func6.symm.trans hfn)).symm
      refine ⟨by kernel_rfl, fun j t ht => ?_⟩
      have h1 := List.all_eq_true.1 ze5 t (List.mem_of_getElem? (i := j) (by simpa using ht))
      have h2 : Tryz.prog.wantsStandIn t = false := by
        cases hh : Tryz.prog.wantsStandIn t with
        | false => rfl
        | true =>
          have h3 : (!Tryz.prog.wantsStandIn t) = true := h1
          rw [hh] at h3
          exact absurd h3 (by decide)
      exact h2)
    (by kernel_rfl)
#print axioms projectCleared_holds
end Go.Proofs.YtemapihoobmonaaGreatDoor
