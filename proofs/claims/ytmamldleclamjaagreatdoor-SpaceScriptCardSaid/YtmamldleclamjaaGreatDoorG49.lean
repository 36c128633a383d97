/- The closed facts of the row SpaceScript, each by itself. No condition. -/
import Derived.Test.YtmamldleclamjaaGreatDoorRows
import Derived.JoinedOf
import Derived.Test.YtmamldleclamjaaGreatDoorG48
import Derived.Test.YtmamldleclamjaaGreatDoorCards
import Derived.Test.YtmamldleclamjaaGreatDoorTie
import Derived.SevenTiedAt
import Derived.LaidHandle
set_option linter.unusedSimpArgs false
namespace Go.Proofs.YtmamldleclamjaaGreatDoor
open Go.ChangeShapes Go.WideShapes Go.ChangeAt Go.RowKit
theorem kH {a b:Bool} (h1:a=true) (h2:b=true):(a && b)=true:=by rw [h1,h2];rfl
theorem zkw:(Rows.spaceScriptRow.wf (OpenSpec.ofChange Rows.spaceScriptSpec))=true:=by kernel_rfl
theorem zkx:(laidOutB Tryz.prog)=true:=by kernel_rfl
theorem zky:(mapsRowed Tryz.prog)=true:=by kernel_rfl
theorem zkz:(Tryz.f3.params.all (Tryz.prog.readableRec ·))=true:=by kernel_rfl
theorem zkA:(namedTie Tryz.prog Rows.spaceScriptRow.named Rows.spaceScriptSpec.vars)=true:=by kernel_rfl
theorem zkB:(Rows.spaceScriptRow.stops == [])=true:=by kernel_rfl
theorem zkC:(Tryz.prog.stops == [])=true:=by kernel_rfl
theorem zkD:(Rows.spaceScriptRow.knobs == [])=true:=by kernel_rfl
theorem zkE:(Tryz.prog.stopKnobs == [])=true:=by kernel_rfl
theorem zkF:(Rows.spaceScriptRow.inPlace == Tryz.prog.inPlace 3)=true:=by kernel_rfl
theorem ziq:(Rows.spaceScriptRow.unfollowed == Tryz.prog.unfollowed 3)=true:=by kernel_rfl
theorem zir:(Rows.spaceScriptRow.recurses == Tryz.prog.recurses 3)=true:=by kernel_rfl
theorem zis:(Rows.spaceScriptRow.named == Tryz.prog.varsNamed 3)=true:=by kernel_rfl
theorem zit:(Rows.spaceScriptRow.maps == (Tryz.f3.params.toList++Rows.spaceScriptSpec.plain.varTypes Tryz.prog).any (Tryz.prog.mapsRec ·))=true:=by kernel_rfl
theorem ziu:(Rows.spaceScriptRow.ifaces == (Tryz.f3.params.toList++Rows.spaceScriptSpec.plain.varTypes Tryz.prog).any (Tryz.prog.ifacesRec ·))=true:=by kernel_rfl
theorem ziv:(Rows.spaceScriptRow.mapsOut == Tryz.prog.mapsAmong Tryz.f3.resultTypes.toList)=true:=by kernel_rfl
theorem ziw:(Rows.spaceScriptRow.loops == (Tryz.f3.params.toList++Rows.spaceScriptSpec.plain.varTypes Tryz.prog).any (Tryz.prog.loopsFrom ·))=true:=by kernel_rfl
theorem zix:(Rows.spaceScriptRow.wideKeys == (Tryz.f3.params.toList++Rows.spaceScriptSpec.plain.varTypes Tryz.prog++Tryz.f3.resultTypes.toList).any (Tryz.prog.wideKeysFrom ·))=true:=by kernel_rfl
theorem ziy:(Rows.spaceScriptSpec.vars.all (Tryz.prog.varReadable ·))=true:=by kernel_rfl
theorem ziz:(Tryz.f3.resultTypes.all (λt=>Tryz.prog.readableRec t && decide (t < Tryz.prog.types.size)))=true:=by kernel_rfl
theorem ziA:(Rows.spaceScriptRow.ifacesOut == Tryz.f3.resultTypes.toList.any (Tryz.prog.ifacesRec ·))=true:=by kernel_rfl
theorem ziB:(Rows.spaceScriptRow.loopsOut == Tryz.f3.resultTypes.toList.any (Tryz.prog.loopsFrom ·))=true:=by kernel_rfl
theorem ziC:(Rows.spaceScriptRow.plainKeys == Tryz.prog.plainKeys)=true:=by kernel_rfl
theorem ziD:(Rows.spaceScriptRow.shortTexts.isNone)=true:=by kernel_rfl
theorem ziE:(Tryz.prog.stopsHeard)=true:=by kernel_rfl
theorem ziF:(Tryz.prog.mayEnter)=true:=by kernel_rfl
theorem ziG:(Rows.spaceScriptRow.lifted == Tryz.prog.liftsFinal)=true:=by kernel_rfl
theorem ziH:(Tryz.prog.make == some Rows.spaceScriptRow.make)=true:=by kernel_rfl
theorem ziI:(Rows.spaceScriptRow.kinds == (if Rows.spaceScriptRow.domain.isEmpty then [] else Tryz.f3.params.toList.map λt=>match Tryz.prog.underlying t with|some (.int k)=>some k|_=>none))=true:=by kernel_rfl
theorem ziJ:(Rows.spaceScriptRow.pinned == Rows.spaceScriptRow.pinnedBy)=true:=by kernel_rfl
theorem ziK:(Rows.spaceScriptRow.veiled == (Tryz.f3.params.toList++Rows.spaceScriptSpec.plain.varTypes Tryz.prog++Tryz.f3.resultTypes.toList).any (Tryz.prog.veiledRec ·))=true:=by kernel_rfl
theorem ziL:(Rows.spaceScriptRow.veiledFits Tryz.prog Tryz.f3.params.toList (Tryz.f3.params.toList++Rows.spaceScriptSpec.plain.varTypes Tryz.prog++Tryz.f3.resultTypes.toList))=true:=by kernel_rfl
set_option maxRecDepth 100000 in
theorem zle:joinedFacts Tryz.prog 3 Tryz.f3 Rows.spaceScriptSpec Rows.spaceScriptRow=true:=by
 unfold joinedFacts
 exact (kH (kH (kH (kH (kH (kH (kH (kH (kH (kH (kH (kH (kH (kH (kH (kH (kH (kH (kH (kH (kH (kH (kH (kH (kH (kH (kH (kH (kH (kH (kH zkw zkx) zky) zkz) zkA) zkB) zkC) zkD) zkE) zkF) ziq) zir) zis) zit) ziu) ziv) ziw) zix) ziy) ziz) ziA) ziB) ziC) ziD) ziE) ziF) ziG) ziH) ziI) ziJ) ziK) ziL)
end Go.Proofs.YtmamldleclamjaaGreatDoor
namespace Go.Proofs.YtmamldleclamjaaGreatDoor
open Go.ChangeShapes Go.WideShapes Go.ChangeAt Go.RowKit Go.Am
theorem zkH:ownKnob Tryz.prog.godebug=none:=by kernel_rfl
theorem zgn:laidOutB Tryz.prog=true:=by kernel_rfl
theorem zkJ {W:World} (hL:laidMetH Tryz.prog Rows.spaceScriptRow.laid W):∀ c,c < 256->W.cell? ⟨1,c,none⟩=some (.int .u8 (Lib.asciiSpaceTab.getD c 0)) :=
 znl hL (by kernel_rfl) (d:=Rows.laid_strings_asciiSpace) (by simp [Rows.spaceScriptRow]) (by kernel_rfl) (by kernel_rfl) (by kernel_rfl) (t:=194) (by kernel_rfl) (e:=5) (by kernel_rfl) (by kernel_rfl) (by kernel_rfl)
noncomputable def zeE (os:Os):World:=World.laidAll Tryz.prog os Rows.spaceScriptRow.laid
theorem zkG (os:Os) (args:Array ah):laidMetH Tryz.prog Rows.spaceScriptRow.laid ((zeE os).forCall (λ_ _=>0) ⟨#[],args,[]⟩).memory:=by
 rw [MakeChecks.laidMetH_plain _ _ _ (by kernel_rfl)]
 exact laidMet_laidAll args (by kernel_rfl) (by kernel_rfl)
set_option maxRecDepth 100000 in
theorem zlf (h:Heap) (args:List ah) (_:h.low=h.size) (cR:Holds h 1 (.row wN wL true)) (hs:Ab Tryz.prog h 8 Tryz.f3.params.toList args):zn Tryz.prog aG.gs 3 args h λv h'=>v=.bool true/\Ext h h':=by
 have hp:Tryz.f3.params.toList=[28,29,9]:=by kernel_rfl
 have gG:Ab Tryz.prog h 8 [28,29,9] args:=ztp hp hs
 clear hs
 obtain ⟨x0,r0,rfl,h0,gG⟩:=Z8 gG
 obtain ⟨x1,r1,rfl,h1,gG⟩:=Z8 gG
 obtain ⟨x2,r2,rfl,h2,gG⟩:=Z8 gG
 obtain rfl:=zqr gG
 obtain ⟨d0,f0⟩:=ztm h0
 obtain ⟨d1,f1⟩:=zyz h1
 obtain ⟨d2,rfl⟩:=ztn h2
 exact zlc d0 d1 d2 x0 x1 h cR f0 f1
set_option maxRecDepth 100000 in
theorem zg2 (os:Os) (started:os.Started) (H:Type) (enc:TypeId × ah->H) :
 ReturnsInHanded {} Tryz.checked os 3 .any (λw args=>(Rows.spaceScriptSpec.pre enc Tryz.prog Tryz.f3 Rows.spaceScriptRow.domain false w args/\laidMetH Tryz.prog Rows.spaceScriptRow.laid w)/\sizedMet enc Tryz.prog Tryz.f3 (OpenSpec.ofChange Rows.spaceScriptSpec) false w args)
  (Rows.spaceScriptSpec.post enc Tryz.prog Tryz.f3 Rows.spaceScriptRow.apart Rows.spaceScriptRow.fresh Rows.spaceScriptRow.handsOn Rows.spaceScriptRow.again):=by
 refine returnsInHanded_of_change_and (C:=Tryz.checked) (X:=λw _=>laidMetH Tryz.prog Rows.spaceScriptRow.laid w) (λ_ _ _ hh h=>h.of_heap hh) zkH started (by kernel_rfl) Tryz.func3
  (zrT (enc:=enc) (C:=Tryz.checked) (os:=os) (X:=λw _=>laidMetH Tryz.prog Rows.spaceScriptRow.laid w) (zeE os) #[.agg ⟨[.slice none 0 0,.slice none 0 0,.slice none 0 0,.int .i64 0,.int .i64 0,.slice none 0 0,.slice none 0 0]⟩,.slice none 0 0,.string ⟨#[]⟩] 12 (World.laidAll_os _ _ _) (by kernel_rfl) (by kernel_rfl) (by kernel_rfl) (by kernel_rfl) (by kernel_rfl) (zkG os _)) ?_
 intro W base args ds gs before dS hW amN _ hL _
 exact zmW (T:=aG) (n:=8) (boolT:=4) rfl (zkJ hL) zgn rfl (by kernel_rfl) (by kernel_rfl) Tryz.underlying4 (by kernel_rfl) (by kernel_rfl)
  (λds hd=>by
   have hp:Tryz.f3.params.size=3:=by kernel_rfl
   rw [hp] at hd
   match ds,hd with
   | [_,_,_],_=>rfl)
  zlf dS hW
theorem zkI:Rows.SpaceScriptSaid :=
 OpenClaim.holds_of_wide 3 Tryz.f3 rfl rfl rfl rfl rfl rfl rfl ⟨rfl,rfl,rfl,rfl,rfl⟩ rfl rfl rfl rfl rfl (by kernel_rfl) Tryz.func3 zle
  (of_decide_eq_true (by kernel_rfl)) (by unfold Func.isWrapper;first|(rw [aB (by decide +kernel)];kernel_rfl)|(rw [aA (by decide +kernel)];exact ⟨rfl,rfl⟩))
  (λos started H enc _=>zg2 os started H enc)
theorem zhC:Tryz.f3.params.toList.all (λt => !Tryz.prog.wantsStandIn t)=true:=by kernel_rfl
theorem spaceScript_holds:Rows.SpaceScriptCardSaid :=
 Claim7.holds_tied_plain_at .later [] [.listed,.data] true (true,"4a23b170cccd8f67f4905f3004050b38e83d559fb776561c402bd90958b956ab") true
  zkI (λ_ h=>by cases h) (by kernel_rfl) (λ_ h=>by cases h) spaceScript_row_tie rfl ⟨rfl,rfl⟩ (by kernel_rfl) rfl
  (λf fn hf u5=>by
   obtain rfl:f=3:=Option.some.inj ((show Tryz.prog.funcNamed "vouchsafe/vouchsafelaw14.SpaceScript"=some 3 by kernel_rfl).symm.trans hf) |>.symm
   obtain rfl:fn=Tryz.f3:=(Option.some.inj (Tryz.func3.symm.trans u5)).symm
   refine ⟨by kernel_rfl,λj t ht=>?_⟩
   have h1:=jh.1 zhC t (fW (i:=j) (by simpa using ht))
   have h2:Tryz.prog.wantsStandIn t=false:=by
    cases hh:Tryz.prog.wantsStandIn t with
    |false=>rfl
    |true =>
     have h3:(!Tryz.prog.wantsStandIn t)=true:=h1
     rw [hh] at h3
     exact absurd h3 (by decide)
   exact h2)
  (by kernel_rfl)
#print axioms spaceScript_holds
end Go.Proofs.YtmamldleclamjaaGreatDoor
