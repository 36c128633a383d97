/- The closed facts of the row SpaceNames, each by itself. No condition. -/
import Derived.Test.YtjildadoepadeaaGreatDoorRows
import Derived.JoinedOf
import Derived.Test.YtjildadoepadeaaGreatDoorG13
import Derived.Test.YtjildadoepadeaaGreatDoorCards
import Derived.Test.YtjildadoepadeaaGreatDoorTie
import Derived.SevenTiedAt
import Derived.LaidHandle
set_option linter.unusedSimpArgs false
namespace Go.Proofs.YtjildadoepadeaaGreatDoor
open Go.ChangeShapes Go.WideShapes Go.ChangeAt Go.RowKit
theorem zac {a b:Bool} (h1:a=true) (h2:b=true):(a && b)=true:=by rw [h1,h2];rfl
theorem zeh:(Rows.spaceNamesRow.wf (OpenSpec.ofChange Rows.spaceNamesSpec))=true:=by kernel_rfl
theorem zei:(laidOutB Tryz.prog)=true:=by kernel_rfl
theorem zej:(mapsRowed Tryz.prog)=true:=by kernel_rfl
theorem zek:(Tryz.f3.params.all (Tryz.prog.readableRec ·))=true:=by kernel_rfl
theorem zel:(namedTie Tryz.prog Rows.spaceNamesRow.named Rows.spaceNamesSpec.vars)=true:=by kernel_rfl
theorem zem:(Rows.spaceNamesRow.stops == [])=true:=by kernel_rfl
theorem zen:(Tryz.prog.stops == [])=true:=by kernel_rfl
theorem zeo:(Rows.spaceNamesRow.knobs == [])=true:=by kernel_rfl
theorem zep:(Tryz.prog.stopKnobs == [])=true:=by kernel_rfl
theorem zeq:(Rows.spaceNamesRow.inPlace == Tryz.prog.inPlace 3)=true:=by kernel_rfl
theorem zdO:(Rows.spaceNamesRow.unfollowed == Tryz.prog.unfollowed 3)=true:=by kernel_rfl
theorem zdP:(Rows.spaceNamesRow.recurses == Tryz.prog.recurses 3)=true:=by kernel_rfl
theorem zdQ:(Rows.spaceNamesRow.named == Tryz.prog.varsNamed 3)=true:=by kernel_rfl
theorem zdR:(Rows.spaceNamesRow.maps == (Tryz.f3.params.toList++Rows.spaceNamesSpec.plain.varTypes Tryz.prog).any (Tryz.prog.mapsRec ·))=true:=by kernel_rfl
theorem zdS:(Rows.spaceNamesRow.ifaces == (Tryz.f3.params.toList++Rows.spaceNamesSpec.plain.varTypes Tryz.prog).any (Tryz.prog.ifacesRec ·))=true:=by kernel_rfl
theorem zdT:(Rows.spaceNamesRow.mapsOut == Tryz.prog.mapsAmong Tryz.f3.resultTypes.toList)=true:=by kernel_rfl
theorem zdU:(Rows.spaceNamesRow.loops == (Tryz.f3.params.toList++Rows.spaceNamesSpec.plain.varTypes Tryz.prog).any (Tryz.prog.loopsFrom ·))=true:=by kernel_rfl
theorem zdV:(Rows.spaceNamesRow.wideKeys == (Tryz.f3.params.toList++Rows.spaceNamesSpec.plain.varTypes Tryz.prog++Tryz.f3.resultTypes.toList).any (Tryz.prog.wideKeysFrom ·))=true:=by kernel_rfl
theorem zdW:(Rows.spaceNamesSpec.vars.all (Tryz.prog.varReadable ·))=true:=by kernel_rfl
theorem zdX:(Tryz.f3.resultTypes.all (λt=>Tryz.prog.readableRec t && decide (t < Tryz.prog.types.size)))=true:=by kernel_rfl
theorem zdY:(Rows.spaceNamesRow.ifacesOut == Tryz.f3.resultTypes.toList.any (Tryz.prog.ifacesRec ·))=true:=by kernel_rfl
theorem zdZ:(Rows.spaceNamesRow.loopsOut == Tryz.f3.resultTypes.toList.any (Tryz.prog.loopsFrom ·))=true:=by kernel_rfl
theorem zd0:(Rows.spaceNamesRow.plainKeys == Tryz.prog.plainKeys)=true:=by kernel_rfl
theorem zd1:(Rows.spaceNamesRow.shortTexts.isNone)=true:=by kernel_rfl
theorem zd2:(Tryz.prog.stopsHeard)=true:=by kernel_rfl
theorem zd3:(Tryz.prog.mayEnter)=true:=by kernel_rfl
theorem zd4:(Rows.spaceNamesRow.lifted == Tryz.prog.liftsFinal)=true:=by kernel_rfl
theorem zd5:(Tryz.prog.make == some Rows.spaceNamesRow.make)=true:=by kernel_rfl
theorem zd6:(Rows.spaceNamesRow.kinds == (if Rows.spaceNamesRow.domain.isEmpty then [] else Tryz.f3.params.toList.map λt=>match Tryz.prog.underlying t with|some (.int k)=>some k|_=>none))=true:=by kernel_rfl
theorem zd7:(Rows.spaceNamesRow.pinned == Rows.spaceNamesRow.pinnedBy)=true:=by kernel_rfl
theorem zd8:(Rows.spaceNamesRow.veiled == (Tryz.f3.params.toList++Rows.spaceNamesSpec.plain.varTypes Tryz.prog++Tryz.f3.resultTypes.toList).any (Tryz.prog.veiledRec ·))=true:=by kernel_rfl
theorem zd9:(Rows.spaceNamesRow.veiledFits Tryz.prog Tryz.f3.params.toList (Tryz.f3.params.toList++Rows.spaceNamesSpec.plain.varTypes Tryz.prog++Tryz.f3.resultTypes.toList))=true:=by kernel_rfl
set_option maxRecDepth 100000 in
theorem zfh:joinedFacts Tryz.prog 3 Tryz.f3 Rows.spaceNamesSpec Rows.spaceNamesRow=true:=by
 unfold joinedFacts
 exact (zac (zac (zac (zac (zac (zac (zac (zac (zac (zac (zac (zac (zac (zac (zac (zac (zac (zac (zac (zac (zac (zac (zac (zac (zac (zac (zac (zac (zac (zac (zac zeh zei) zej) zek) zel) zem) zen) zeo) zep) zeq) zdO) zdP) zdQ) zdR) zdS) zdT) zdU) zdV) zdW) zdX) zdY) zdZ) zd0) zd1) zd2) zd3) zd4) zd5) zd6) zd7) zd8) zd9)
end Go.Proofs.YtjildadoepadeaaGreatDoor
namespace Go.Proofs.YtjildadoepadeaaGreatDoor
open Go.ChangeShapes Go.WideShapes Go.ChangeAt Go.RowKit Go.Am
theorem Tryz.spaceNames_own:ownKnob Tryz.prog.godebug=none:=by kernel_rfl
theorem zeg (w:World) (ht:∀ c,c < 256->w.cell? ⟨1,c,none⟩=some (.int .u8 (Lib.asciiSpaceTab.getD c 0))):Calls Tryz.prog 3 #[] w λe w'=>e=.returned (.bool true)/\Below w.heap.size w w' :=
 zg5 mixed zaD rfl ziF rfl zet w ht
theorem zeu {W:World} (hL:laidMetH Tryz.prog Rows.spaceNamesRow.laid W):∀ c,c < 256->W.cell? ⟨1,c,none⟩=some (.int .u8 (Lib.asciiSpaceTab.getD c 0)) :=
 zfi hL (by kernel_rfl) (d:=Rows.laid_strings_asciiSpace) (by simp [Rows.spaceNamesRow]) (by kernel_rfl) (by kernel_rfl) (by kernel_rfl) (t:=325) (by kernel_rfl) (e:=5) (by kernel_rfl) (by kernel_rfl) (by kernel_rfl)
noncomputable def zbX (os:Os):World:=World.laidAll Tryz.prog os Rows.spaceNamesRow.laid
theorem zer (os:Os) (args:Array Vly):laidMetH Tryz.prog Rows.spaceNamesRow.laid ((zbX os).forCall (λ_ _=>0) ⟨#[],args,[]⟩).memory:=by
 rw [MakeChecks.laidMetH_plain _ _ _ (by kernel_rfl)]
 exact laidMet_laidAll args (by kernel_rfl) (by kernel_rfl)
set_option maxRecDepth 100000 in
theorem zc2 (os:Os) (started:os.Started) (H:Type) (enc:TypeId × Vly->H) :
 ReturnsInHanded {} Tryz.checked os 3 .any (λw args=>(Rows.spaceNamesSpec.pre enc Tryz.prog Tryz.f3 Rows.spaceNamesRow.domain false w args/\laidMetH Tryz.prog Rows.spaceNamesRow.laid w)/\sizedMet enc Tryz.prog Tryz.f3 (OpenSpec.ofChange Rows.spaceNamesSpec) false w args)
  (Rows.spaceNamesSpec.post enc Tryz.prog Tryz.f3 Rows.spaceNamesRow.apart Rows.spaceNamesRow.fresh Rows.spaceNamesRow.handsOn Rows.spaceNamesRow.again):=by
 refine returnsInHanded_of_change_and (C:=Tryz.checked) (X:=λw _=>laidMetH Tryz.prog Rows.spaceNamesRow.laid w) (λ_ _ _ hh h=>h.of_heap hh) Tryz.spaceNames_own started (by kernel_rfl) Tryz.func3
  (zgv (enc:=enc) (C:=Tryz.checked) (os:=os) (X:=λw _=>laidMetH Tryz.prog Rows.spaceNamesRow.laid w) (zbX os) #[] 8 (World.laidAll_os _ _ _) (by kernel_rfl) (by kernel_rfl) (by kernel_rfl) (by kernel_rfl) (by kernel_rfl) (zer os _)) ?_
 intro W base args ds gs before hval0 hW hcnd _ hL _
 have hW':=hW
 obtain ⟨p,q,hA0,hV,rfl,hfz,hnd⟩:=hW
 have hA:DataW.TrodAll enc Tryz.prog W 0 (λ_=>true) true Tryz.f3.params.toList args.toList ds p:=hA0
 rw [Tryz.params3] at hA
 obtain ⟨rfl,rfl,rfl⟩:=trodAll_none hA
 obtain ⟨rfl,rfl⟩:=trodVars_none hV
 refine (zeg W (zeu hL)).mono λe W' ⟨he,hb⟩=>?_
 subst he
 exact ⟨_,rfl,zht (pa:=[]) (pv:=[]) hW' (λ_ _ _=>trodAll_mk1 (shut_bool Tryz.underlying4 true)) (λsp _=>trodAll_mk0) (λ_ _=>rfl) rfl hb
  (ok_one (by kernel_rfl) rfl (okWide_bool_mk Tryz.underlying4 true))⟩
theorem zes:Rows.SpaceNamesSaid :=
 OpenClaim.holds_of_wide 3 Tryz.f3 rfl rfl rfl rfl rfl rfl rfl ⟨rfl,rfl,rfl,rfl,rfl⟩ rfl rfl rfl rfl rfl (by kernel_rfl) Tryz.func3 zfh
  (of_decide_eq_true (by kernel_rfl)) (by unfold Func.isWrapper;first|(rw [if_pos (by decide +kernel)];kernel_rfl)|(rw [if_neg (by decide +kernel)];exact ⟨rfl,rfl⟩))
  (λos started H enc _=>zc2 os started H enc)
theorem spaceNames_holds:Rows.SpaceNamesCardSaid :=
 Claim7.holds_tied_plain_at .later [] [.listed,.data] true (true,"d34d612c35b71bece39f95c1778b47d9df3d8f16c26c40ca79f4d58834f43137") true
  zes (λ_ h=>by cases h) (by kernel_rfl) (λ_ h=>by cases h) spaceNames_row_tie rfl ⟨rfl,rfl⟩ (by kernel_rfl) rfl
  (λf fn hf hfn=>by
   obtain rfl:f=3:=Option.some.inj ((show Tryz.prog.funcNamed "vouchsafe/vouchsafelaw14.SpaceNames"=some 3 by kernel_rfl).symm.trans hf) |>.symm
   obtain rfl:fn=Tryz.f3:=(Option.some.inj (Tryz.func3.symm.trans hfn)).symm
   exact ⟨by kernel_rfl,λj t ht=>by rw [Tryz.params3] at ht;simp at ht⟩)
  (by kernel_rfl)
#print axioms spaceNames_holds
end Go.Proofs.YtjildadoepadeaaGreatDoor
