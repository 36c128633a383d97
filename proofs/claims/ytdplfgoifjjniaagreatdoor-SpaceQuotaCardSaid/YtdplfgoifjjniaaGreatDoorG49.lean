/- The closed facts of the row SpaceQuota, each by itself. No condition. -/
import Derived.Test.YtdplfgoifjjniaaGreatDoorRows
import Derived.JoinedOf
import Derived.Test.YtdplfgoifjjniaaGreatDoorG48
import Derived.Test.YtdplfgoifjjniaaGreatDoorCards
import Derived.Test.YtdplfgoifjjniaaGreatDoorTie
import Derived.SevenTiedAt
import Derived.LaidHandle
namespace Go.Proofs.YtdplfgoifjjniaaGreatDoor
open Go.ChangeShapes Go.WideShapes Go.ChangeAt Go.RowKit
theorem zaj {a b:Bool} (h1:a=true) (h2:b=true):(a && b)=true:=by rw [h1,h2];rfl
theorem zju:(Rows.spaceQuotaRow.wf (OpenSpec.ofChange Rows.spaceQuotaSpec))=true:=by kernel_rfl
theorem zjv:(laidOutB Tryz.prog)=true:=by kernel_rfl
theorem zjw:(mapsRowed Tryz.prog)=true:=by kernel_rfl
theorem zjx:(Tryz.f3.params.all (Tryz.prog.readableRec ·))=true:=by kernel_rfl
theorem zjy:(namedTie Tryz.prog Rows.spaceQuotaRow.named Rows.spaceQuotaSpec.vars)=true:=by kernel_rfl
theorem zjz:(Rows.spaceQuotaRow.stops == [])=true:=by kernel_rfl
theorem zjA:(Tryz.prog.stops == [])=true:=by kernel_rfl
theorem zjB:(Rows.spaceQuotaRow.knobs == [])=true:=by kernel_rfl
theorem zjC:(Tryz.prog.stopKnobs == [])=true:=by kernel_rfl
theorem zjD:(Rows.spaceQuotaRow.inPlace == Tryz.prog.inPlace 3)=true:=by kernel_rfl
theorem ziW:(Rows.spaceQuotaRow.unfollowed == Tryz.prog.unfollowed 3)=true:=by kernel_rfl
theorem ziX:(Rows.spaceQuotaRow.recurses == Tryz.prog.recurses 3)=true:=by kernel_rfl
theorem ziY:(Rows.spaceQuotaRow.named == Tryz.prog.varsNamed 3)=true:=by kernel_rfl
theorem ziZ:(Rows.spaceQuotaRow.maps == (Tryz.f3.params.toList++Rows.spaceQuotaSpec.plain.varTypes Tryz.prog).any (Tryz.prog.mapsRec ·))=true:=by kernel_rfl
theorem zi0:(Rows.spaceQuotaRow.ifaces == (Tryz.f3.params.toList++Rows.spaceQuotaSpec.plain.varTypes Tryz.prog).any (Tryz.prog.ifacesRec ·))=true:=by kernel_rfl
theorem zi1:(Rows.spaceQuotaRow.mapsOut == Tryz.prog.mapsAmong Tryz.f3.resultTypes.toList)=true:=by kernel_rfl
theorem zi2:(Rows.spaceQuotaRow.loops == (Tryz.f3.params.toList++Rows.spaceQuotaSpec.plain.varTypes Tryz.prog).any (Tryz.prog.loopsFrom ·))=true:=by kernel_rfl
theorem zi3:(Rows.spaceQuotaRow.wideKeys == (Tryz.f3.params.toList++Rows.spaceQuotaSpec.plain.varTypes Tryz.prog++Tryz.f3.resultTypes.toList).any (Tryz.prog.wideKeysFrom ·))=true:=by kernel_rfl
theorem zi4:(Rows.spaceQuotaSpec.vars.all (Tryz.prog.varReadable ·))=true:=by kernel_rfl
theorem zi5:(Tryz.f3.resultTypes.all (fun t=>Tryz.prog.readableRec t && decide (t < Tryz.prog.types.size)))=true:=by kernel_rfl
theorem zi6:(Rows.spaceQuotaRow.ifacesOut == Tryz.f3.resultTypes.toList.any (Tryz.prog.ifacesRec ·))=true:=by kernel_rfl
theorem zi7:(Rows.spaceQuotaRow.loopsOut == Tryz.f3.resultTypes.toList.any (Tryz.prog.loopsFrom ·))=true:=by kernel_rfl
theorem zi8:(Rows.spaceQuotaRow.plainKeys == Tryz.prog.plainKeys)=true:=by kernel_rfl
theorem zi9:(Rows.spaceQuotaRow.shortTexts.isNone)=true:=by kernel_rfl
theorem zja:(Tryz.prog.stopsHeard)=true:=by kernel_rfl
theorem zjb:(Tryz.prog.mayEnter)=true:=by kernel_rfl
theorem zjc:(Rows.spaceQuotaRow.lifted == Tryz.prog.liftsFinal)=true:=by kernel_rfl
theorem zjd:(Tryz.prog.make == some Rows.spaceQuotaRow.make)=true:=by kernel_rfl
theorem zje:(Rows.spaceQuotaRow.kinds == (if Rows.spaceQuotaRow.domain.isEmpty then [] else Tryz.f3.params.toList.map fun t=>match Tryz.prog.underlying t with|some (.int k)=>some k|_=>none))=true:=by kernel_rfl
theorem zjf:(Rows.spaceQuotaRow.pinned == Rows.spaceQuotaRow.pinnedBy)=true:=by kernel_rfl
theorem zjg:(Rows.spaceQuotaRow.veiled == (Tryz.f3.params.toList++Rows.spaceQuotaSpec.plain.varTypes Tryz.prog++Tryz.f3.resultTypes.toList).any (Tryz.prog.veiledRec ·))=true:=by kernel_rfl
theorem zjh:(Rows.spaceQuotaRow.veiledFits Tryz.prog Tryz.f3.params.toList (Tryz.f3.params.toList++Rows.spaceQuotaSpec.plain.varTypes Tryz.prog++Tryz.f3.resultTypes.toList))=true:=by kernel_rfl
set_option maxRecDepth 100000 in
theorem zlo:joinedFacts Tryz.prog 3 Tryz.f3 Rows.spaceQuotaSpec Rows.spaceQuotaRow=true:=by
 unfold joinedFacts
 exact (zaj (zaj (zaj (zaj (zaj (zaj (zaj (zaj (zaj (zaj (zaj (zaj (zaj (zaj (zaj (zaj (zaj (zaj (zaj (zaj (zaj (zaj (zaj (zaj (zaj (zaj (zaj (zaj (zaj (zaj (zaj zju zjv) zjw) zjx) zjy) zjz) zjA) zjB) zjC) zjD) ziW) ziX) ziY) ziZ) zi0) zi1) zi2) zi3) zi4) zi5) zi6) zi7) zi8) zi9) zja) zjb) zjc) zjd) zje) zjf) zjg) zjh)
end Go.Proofs.YtdplfgoifjjniaaGreatDoor
namespace Go.Proofs.YtdplfgoifjjniaaGreatDoor
open Go.ChangeShapes Go.WideShapes Go.ChangeAt Go.RowKit Go.Am
theorem zjF:ownKnob Tryz.prog.godebug=none:=by kernel_rfl
theorem zgI:laidOutB Tryz.prog=true:=by kernel_rfl
theorem zjH {W:World} (hL:laidMetH Tryz.prog Rows.spaceQuotaRow.laid W):∀ c,c < 256→W.cell? ⟨1,c,none⟩=some (.int .u8 (Lib.asciiSpaceTab.getD c 0)) :=
 zlq hL (by kernel_rfl) (d:=Rows.laid_strings_asciiSpace) (by simp [Rows.spaceQuotaRow]) (by kernel_rfl) (by kernel_rfl) (by kernel_rfl) (t:=183) (by kernel_rfl) (e:=5) (by kernel_rfl) (by kernel_rfl) (by kernel_rfl)
noncomputable def zeN (os:Os):World:=World.laidAll Tryz.prog os Rows.spaceQuotaRow.laid
theorem zjE (os:Os) (args:Array Value):laidMetH Tryz.prog Rows.spaceQuotaRow.laid ((zeN os).forCall (fun _ _=>0) ⟨#[],args,[]⟩).memory:=by
 rw [MakeChecks.laidMetH_plain _ _ _ (by kernel_rfl)]
 exact laidMet_laidAll args (by kernel_rfl) (by kernel_rfl)
set_option maxRecDepth 100000 in
theorem zlp (h:Heap) (args:List Value) (_:h.low=h.size) (hsp:Holds h 1 (.row zbr zbP true)) (hs:zdR Tryz.prog h 8 Tryz.f3.params.toList args):Ok Tryz.prog tab ov 3 args h fun v h'=>v=.bool true∧Ext h h':=by
 have hp:Tryz.f3.params.toList=[3,3]:=by kernel_rfl
 have hs2:zdR Tryz.prog h 8 [3,3] args:=zpO hp hs
 clear hs
 obtain ⟨x0,r0,rfl,h0,hs2⟩:=zhl hs2
 obtain ⟨x1,r1,rfl,h1,hs2⟩:=zhl hs2
 obtain rfl:=znu hs2
 obtain ⟨d0,rfl,w0⟩:=zrF h0
 obtain ⟨d1,rfl,w1⟩:=zrF h1
 exact zle d0 d1 h hsp _ (fun h' x=>⟨rfl,x⟩)
set_option maxRecDepth 100000 in
theorem zhe (os:Os) (started:os.Started) (H:Type) (enc:TypeId × Value→H) :
 ReturnsInHanded {} Tryz.checked os 3 .any (fun w args=>(Rows.spaceQuotaSpec.pre enc Tryz.prog Tryz.f3 Rows.spaceQuotaRow.domain false w args∧laidMetH Tryz.prog Rows.spaceQuotaRow.laid w)∧sizedMet enc Tryz.prog Tryz.f3 (OpenSpec.ofChange Rows.spaceQuotaSpec) false w args)
  (Rows.spaceQuotaSpec.post enc Tryz.prog Tryz.f3 Rows.spaceQuotaRow.apart Rows.spaceQuotaRow.fresh Rows.spaceQuotaRow.handsOn Rows.spaceQuotaRow.again):=by
 refine returnsInHanded_of_change_and (C:=Tryz.checked) (X:=fun w _=>laidMetH Tryz.prog Rows.spaceQuotaRow.laid w) (fun _ _ _ hh h=>h.of_heap hh) zjF started (by kernel_rfl) Tryz.func3
  (zo2 (enc:=enc) (C:=Tryz.checked) (os:=os) (X:=fun w _=>laidMetH Tryz.prog Rows.spaceQuotaRow.laid w) (zeN os) #[.int .i64 0,.int .i64 0] 12 (World.laidAll_os _ _ _) (by kernel_rfl) (by kernel_rfl) (by kernel_rfl) (by kernel_rfl) (by kernel_rfl) (zjE os _)) ?_
 intro W base args ds gs before hval hW hcnd _ hL _
 exact zk2 (n:=8) (boolT:=4) mixed zcH rfl zEh rfl (zjH hL) zgI rfl (by kernel_rfl) (by kernel_rfl) Tryz.underlying4 (by kernel_rfl) (by kernel_rfl)
  (fun ds hd=>by
   have hp:Tryz.f3.params.size=2:=by kernel_rfl
   rw [hp] at hd
   match ds,hd with
   | [_,_],_=>rfl)
  zlp hval hW
theorem zjG:Rows.SpaceQuotaSaid :=
 OpenClaim.holds_of_wide 3 Tryz.f3 rfl rfl rfl rfl rfl rfl rfl ⟨rfl,rfl,rfl,rfl,rfl⟩ rfl rfl rfl rfl rfl (by kernel_rfl) Tryz.func3 zlo
  (of_decide_eq_true (by kernel_rfl)) (by unfold Func.isWrapper;first|(rw [if_pos (by decide +kernel)];kernel_rfl)|(rw [if_neg (by decide +kernel)];exact ⟨rfl,rfl⟩))
  (fun os started H enc _=>zhe os started H enc)
theorem zhO:Tryz.f3.params.toList.all (fun t => !Tryz.prog.wantsStandIn t)=true:=by kernel_rfl
theorem spaceQuota_holds:Rows.SpaceQuotaCardSaid :=
 Claim7.holds_tied_plain_at .later [] [.listed,.data] true (true,"e3b98ed704166d1a404fe1199d722dcaa9558a9c37ce96c3f94afdba96555796") true
  zjG (fun _ h=>by cases h) (by kernel_rfl) (fun _ h=>by cases h) spaceQuota_row_tie rfl ⟨rfl,rfl⟩ (by kernel_rfl) rfl
  (fun f fn hf hfn=>by
   obtain rfl:f=3:=Option.some.inj ((show Tryz.prog.funcNamed "vouchsafe/vouchsafelaw14.SpaceQuota"=some 3 by kernel_rfl).symm.trans hf) |>.symm
   obtain rfl:fn=Tryz.f3:=(Option.some.inj (Tryz.func3.symm.trans hfn)).symm
   refine ⟨by kernel_rfl,fun j t ht=>?_⟩
   have h1:=List.all_eq_true.1 zhO t (List.mem_of_getElem? (i:=j) (by simpa using ht))
   have h2:Tryz.prog.wantsStandIn t=false:=by
    cases hh:Tryz.prog.wantsStandIn t with
    |false=>rfl
    |true =>
     have h3:(!Tryz.prog.wantsStandIn t)=true:=h1
     rw [hh] at h3
     exact absurd h3 (by decide)
   exact h2)
  (by kernel_rfl)
#print axioms spaceQuota_holds
end Go.Proofs.YtdplfgoifjjniaaGreatDoor
