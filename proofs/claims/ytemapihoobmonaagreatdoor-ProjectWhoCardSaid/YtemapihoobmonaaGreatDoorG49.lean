/- The closed facts of the row ProjectWho, each by itself. No condition. -/
import Derived.Test.YtemapihoobmonaaGreatDoorRows
import Derived.JoinedOf
import Derived.ProofKit
import Derived.Test.YtemapihoobmonaaGreatDoorG10
import Derived.Test.YtemapihoobmonaaGreatDoorG25
import Derived.Test.YtemapihoobmonaaGreatDoorG48
import Derived.Test.YtemapihoobmonaaGreatDoorCards
import Derived.Test.YtemapihoobmonaaGreatDoorTie
import Derived.SevenTiedAt
import Derived.Lay
import Derived.LaidHandle
namespace Go.Proofs.YtemapihoobmonaaGreatDoor
open Go.ChangeShapes Go.WideShapes Go.ChangeAt Go.RowKit
theorem zah {a b : Bool} (h1 : a = true) (h2 : b = true) : (a && b) = true := by rw [h1, h2]; rfl
theorem ziZ : (Rows.projectWhoRow.wf (OpenSpec.ofChange Rows.projectWhoSpec)) = true := by kernel_rfl
theorem zi7 : (laidOutB Tryz.prog) = true := by kernel_rfl
theorem zjd : (mapsRowed Tryz.prog) = true := by kernel_rfl
theorem zi6 : (Tryz.f5.params.all (Tryz.prog.readableRec ·)) = true := by kernel_rfl
theorem zjg : (namedTie Tryz.prog Rows.projectWhoRow.named Rows.projectWhoSpec.vars) = true := by kernel_rfl
theorem zje : ((Rows.projectWhoRow.stops == [])) = true := by kernel_rfl
theorem zi4 : ((Tryz.prog.stops == [])) = true := by kernel_rfl
theorem zi2 : ((Rows.projectWhoRow.knobs == [])) = true := by kernel_rfl
theorem ziW : ((Tryz.prog.stopKnobs == [])) = true := by kernel_rfl
theorem zji : ((Rows.projectWhoRow.inPlace == Tryz.prog.inPlace 5)) = true := by kernel_rfl
theorem zhr : ((Rows.projectWhoRow.unfollowed == Tryz.prog.unfollowed 5)) = true := by kernel_rfl
theorem zhF : ((Rows.projectWhoRow.recurses == Tryz.prog.recurses 5)) = true := by kernel_rfl
theorem zil : ((Rows.projectWhoRow.named == Tryz.prog.varsNamed 5)) = true := by kernel_rfl
theorem zhR : ((Rows.projectWhoRow.maps == (Tryz.f5.params.toList ++ Rows.projectWhoSpec.plain.varTypes Tryz.prog).any (Tryz.prog.mapsRec ·))) = true := by kernel_rfl
theorem zh5 : ((Rows.projectWhoRow.ifaces == (Tryz.f5.params.toList ++ Rows.projectWhoSpec.plain.varTypes Tryz.prog).any (Tryz.prog.ifacesRec ·))) = true := by kernel_rfl
theorem zis : ((Rows.projectWhoRow.mapsOut == Tryz.prog.mapsAmong Tryz.f5.resultTypes.toList)) = true := by kernel_rfl
theorem zid : ((Rows.projectWhoRow.loops == (Tryz.f5.params.toList ++ Rows.projectWhoSpec.plain.varTypes Tryz.prog).any (Tryz.prog.loopsFrom ·))) = true := by kernel_rfl
theorem zhC : ((Rows.projectWhoRow.wideKeys == (Tryz.f5.params.toList ++ Rows.projectWhoSpec.plain.varTypes Tryz.prog ++ Tryz.f5.resultTypes.toList).any (Tryz.prog.wideKeysFrom ·))) = true := by kernel_rfl
theorem zhy : (Rows.projectWhoSpec.vars.all (Tryz.prog.varReadable ·)) = true := by kernel_rfl
theorem zh3 : (Tryz.f5.resultTypes.all (fun t => Tryz.prog.readableRec t && decide (t < Tryz.prog.types.size))) = true := by kernel_rfl
theorem zhd : ((Rows.projectWhoRow.ifacesOut == Tryz.f5.resultTypes.toList.any (Tryz.prog.ifacesRec ·))) = true := by kernel_rfl
theorem zh8 : ((Rows.projectWhoRow.loopsOut == Tryz.f5.resultTypes.toList.any (Tryz.prog.loopsFrom ·))) = true := by kernel_rfl
theorem zhw : ((Rows.projectWhoRow.plainKeys == Tryz.prog.plainKeys)) = true := by kernel_rfl
theorem zhx : (Rows.projectWhoRow.shortTexts.isNone) = true := by kernel_rfl
theorem ziy : (Tryz.prog.stopsHeard) = true := by kernel_rfl
theorem ziV : (Tryz.prog.mayEnter) = true := by kernel_rfl
theorem zhS : ((Rows.projectWhoRow.lifted == Tryz.prog.liftsFinal)) = true := by kernel_rfl
theorem zie : ((Tryz.prog.make == some Rows.projectWhoRow.make)) = true := by kernel_rfl
theorem zhg : ((Rows.projectWhoRow.kinds == (if Rows.projectWhoRow.domain.isEmpty then [] else Tryz.f5.params.toList.map fun t => match Tryz.prog.underlying t with | some (.int k) => some k | _ => none))) = true := by kernel_rfl
theorem zhQ : ((Rows.projectWhoRow.pinned == Rows.projectWhoRow.pinnedBy)) = true := by kernel_rfl
theorem ziD : ((Rows.projectWhoRow.veiled == (Tryz.f5.params.toList ++ Rows.projectWhoSpec.plain.varTypes Tryz.prog ++ Tryz.f5.resultTypes.toList).any (Tryz.prog.veiledRec ·))) = true := by kernel_rfl
theorem ziQ : (Rows.projectWhoRow.veiledFits Tryz.prog Tryz.f5.params.toList (Tryz.f5.params.toList ++ Rows.projectWhoSpec.plain.varTypes Tryz.prog ++ Tryz.f5.resultTypes.toList)) = true := by kernel_rfl
set_option maxRecDepth 100000 in
theorem zk1 : joinedFacts Tryz.prog 5 Tryz.f5 Rows.projectWhoSpec Rows.projectWhoRow = true := by
  unfold joinedFacts
  exact (zah (zah (zah (zah (zah (zah (zah (zah (zah (zah (zah (zah (zah (zah (zah (zah (zah (zah (zah (zah (zah (zah (zah (zah (zah (zah (zah (zah (zah (zah (zah ziZ zi7) zjd) zi6) zjg) zje) zi4) zi2) ziW) zji) zhr) zhF) zil) zhR) zh5) zis) zid) zhC) zhy) zh3) zhd) zh8) zhw) zhx) ziy) ziV) zhS) zie) zhg) zhQ) ziD) ziQ)
end Go.Proofs.YtemapihoobmonaaGreatDoor
namespace Go.Proofs.YtemapihoobmonaaGreatDoor
open Go.ChangeShapes Go.WideShapes Go.ChangeAt Go.RowKit Go.Am
theorem zi3 : ownKnob Tryz.prog.godebug = none := by kernel_rfl
theorem zfC : laidOutB Tryz.prog = true := by kernel_rfl
theorem zi1 {W : World} (hL : laidMetH Tryz.prog Rows.projectWhoRow.laid W) : ∀ c, c < 256 → W.cell? ⟨1, c, none⟩ = some (.int .u8 (Lib.asciiSpaceTab.getD c 0)) :=
  zks hL (by kernel_rfl) (d := Rows.laid_strings_asciiSpace) (by simp [Rows.projectWhoRow]) (by kernel_rfl) (by kernel_rfl) (by kernel_rfl) (t := 237) (by kernel_rfl) (e := 5) (by kernel_rfl) (by kernel_rfl) (by kernel_rfl)
noncomputable def zd9 (os : Os) : World := World.laidAll Tryz.prog os Rows.projectWhoRow.laid
theorem ziY (os : Os) (args : Array Value) : laidMetH Tryz.prog Rows.projectWhoRow.laid ((zd9 os).forCall (fun _ _ => 0) ⟨#[], args, []⟩).memory := by
  rw [MakeChecks.laidMetH_plain _ _ _ (by kernel_rfl)]
  exact laidMet_laidAll args (by kernel_rfl) (by kernel_rfl)
set_option maxRecDepth 100000 in
theorem zkN (h : Heap) (args : List Value) (_ : h.low = h.size) (hsp : Holds h 1 (.row zbk zbv true)) (hs : zdB Tryz.prog h 8 Tryz.f5.params.toList args) : Ok Tryz.prog tab ov 5 args h fun v h' => v = .bool true ∧ Ext h h' := by
  have hp : Tryz.f5.params.toList = [55, 9, 9, 57, 9] := by kernel_rfl
  have hs2 : zdB Tryz.prog h 8 [55, 9, 9, 57, 9] args := zp0 hp hs
  clear hs
  obtain ⟨x0, r0, rfl, h0, hs2⟩ := zcH hs2
  obtain ⟨x1, r1, rfl, h1, hs2⟩ := zcH hs2
  obtain ⟨x2, r2, rfl, h2, hs2⟩ := zcH hs2
  obtain ⟨x3, r3, rfl, h3, hs2⟩ := zcH hs2
  obtain ⟨x4, r4, rfl, h4, hs2⟩ := zcH hs2
  obtain rfl := znb hs2
  obtain ⟨d0, f0⟩ := zpB h0
  obtain ⟨d1, rfl⟩ := zf8 h1
  obtain ⟨d2, rfl⟩ := zf8 h2
  obtain ⟨d3, e3, f3⟩ := zoo h3
  obtain ⟨d4, rfl⟩ := zf8 h4
  exact zkU d0 d1 d2 d3 e3 d4 x0 x3 h hsp f0 f3 _ (fun h' x => ⟨rfl, x⟩)
set_option maxRecDepth 100000 in
theorem zgu (os : Os) (started : os.Started) (H : Type) (enc : TypeId × Value → H) :
    ReturnsInHanded {} Tryz.checked os 5 .any (fun w args => (Rows.projectWhoSpec.pre enc Tryz.prog Tryz.f5 Rows.projectWhoRow.domain false w args ∧ laidMetH Tryz.prog Rows.projectWhoRow.laid w) ∧ sizedMet enc Tryz.prog Tryz.f5 (OpenSpec.ofChange Rows.projectWhoSpec) false w args)
      (Rows.projectWhoSpec.post enc Tryz.prog Tryz.f5 Rows.projectWhoRow.apart Rows.projectWhoRow.fresh Rows.projectWhoRow.handsOn Rows.projectWhoRow.again) := by
  refine returnsInHanded_of_change_and (C := Tryz.checked) (X := fun w _ => laidMetH Tryz.prog Rows.projectWhoRow.laid w) (fun _ _ _ hh h => h.of_heap hh) zi3 started (by kernel_rfl) Tryz.func5
    (zn1 (enc := enc) (C := Tryz.checked) (os := os) (X := fun w _ => laidMetH Tryz.prog Rows.projectWhoRow.laid w) (zd9 os) #[.agg ⟨[.slice none 0 0, .slice none 0 0, .slice none 0 0, .int .i64 0, .int .i64 0, .slice none 0 0, .slice none 0 0]⟩, .string ⟨#[]⟩, .string ⟨#[]⟩, .agg ⟨.int .i64 0 :: noAtomD.cells⟩, .string ⟨#[]⟩] 12 (World.laidAll_os _ _ _) (by kernel_rfl) (by kernel_rfl) (by kernel_rfl) (by kernel_rfl) (by kernel_rfl) (ziY os _)) ?_
  intro W base args ds gs before hval hW hcnd _ hL _
  exact zkl (n := 8) (boolT := 4) mixed zcj rfl zy7 rfl (zi1 hL) zfC rfl (by kernel_rfl) (by kernel_rfl) Tryz.underlying4 (by kernel_rfl) (by kernel_rfl)
    (fun ds hd => by
      have hp : Tryz.f5.params.size = 5 := by kernel_rfl
      rw [hp] at hd
      match ds, hd with
      | [_, _, _, _, _], _ => rfl)
    zkN hval hW
theorem zi5 : Rows.ProjectWhoSaid :=
  OpenClaim.holds_of_wide 5 Tryz.f5 rfl rfl rfl rfl rfl rfl rfl ⟨rfl, rfl, rfl, rfl, rfl⟩ rfl rfl rfl rfl rfl (by kernel_rfl) Tryz.func5 zk1
    (of_decide_eq_true (by kernel_rfl)) (by unfold Func.isWrapper; first | (rw [if_pos (by decide +kernel)]; kernel_rfl) | (rw [if_neg (by decide +kernel)]; exact ⟨rfl, rfl⟩))
    (fun os started H enc _ => zgu os started H enc)
theorem zgN : Tryz.f5.params.toList.all (fun t => !Tryz.prog.wantsStandIn t) = true := by kernel_rfl
theorem projectWho_holds : Rows.ProjectWhoCardSaid :=
  Claim7.holds_tied_plain_at .later [] [.listed, .data] true (true, "0bcedb163bd3680f2d43ed751055ec6a6419c3781179eca05f463f44977e4117") false
    zi5 (fun _ h => by cases h) (by kernel_rfl) (fun _ h => by cases h) projectWho_row_tie rfl ⟨rfl, rfl⟩ (by kernel_rfl) rfl
    (fun f fn hf hfn => by
      obtain rfl : f = 5 := Option.some.inj ((show Tryz.prog.funcNamed "vouchsafe/vouchsafelaw28.ProjectWho" = some 5 by kernel_rfl).symm.trans hf) |>.symm
      obtain rfl : fn = Tryz.f5 := (Option.some.inj (Tryz.func5.symm.trans hfn)).symm
      refine ⟨by kernel_rfl, fun j t ht => ?_⟩
      have h1 := List.all_eq_true.1 zgN t (List.mem_of_getElem? (i := j) (by simpa using ht))
      have h2 : Tryz.prog.wantsStandIn t = false := by
        cases hh : Tryz.prog.wantsStandIn t with
        | false => rfl
        | true =>
          have h3 : (!Tryz.prog.wantsStandIn t) = true := h1
          rw [hh] at h3
          exact absurd h3 (by decide)
      exact h2)
    (by kernel_rfl)
#print axioms projectWho_holds
end Go.Proofs.YtemapihoobmonaaGreatDoor
