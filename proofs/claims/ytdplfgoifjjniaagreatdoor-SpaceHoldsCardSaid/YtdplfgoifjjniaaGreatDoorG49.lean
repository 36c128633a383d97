/- The closed facts of the row SpaceHolds, each by itself. No condition. -/
import Derived.Test.YtdplfgoifjjniaaGreatDoorRows
import Derived.JoinedOf
import Derived.Test.YtdplfgoifjjniaaGreatDoorG48
import Derived.Test.YtdplfgoifjjniaaGreatDoorCards
import Derived.Test.YtdplfgoifjjniaaGreatDoorTie
import Derived.SevenTiedAt
import Derived.LaidHandle
namespace Go.Proofs.YtdplfgoifjjniaaGreatDoor
open Go.ChangeShapes Go.WideShapes Go.ChangeAt Go.RowKit
theorem jk {a b:Bool} (h1:a=true) (h2:b=true):(a && b)=true:=by rw [h1,h2];rfl
theorem zjW:(Rows.spaceHoldsRow.wf (OpenSpec.ofChange Rows.spaceHoldsSpec))=true:=by kernel_rfl
theorem zjX:(laidOutB Tryz.prog)=true:=by kernel_rfl
theorem zjY:(mapsRowed Tryz.prog)=true:=by kernel_rfl
theorem zjZ:(Tryz.f6.params.all (Tryz.prog.readableRec ·))=true:=by kernel_rfl
theorem zj0:(namedTie Tryz.prog Rows.spaceHoldsRow.named Rows.spaceHoldsSpec.vars)=true:=by kernel_rfl
theorem zj1:(Rows.spaceHoldsRow.stops == [])=true:=by kernel_rfl
theorem zj2:(Tryz.prog.stops == [])=true:=by kernel_rfl
theorem zj3:(Rows.spaceHoldsRow.knobs == [])=true:=by kernel_rfl
theorem zj4:(Tryz.prog.stopKnobs == [])=true:=by kernel_rfl
theorem zj5:(Rows.spaceHoldsRow.inPlace == Tryz.prog.inPlace 6)=true:=by kernel_rfl
theorem zjn:(Rows.spaceHoldsRow.unfollowed == Tryz.prog.unfollowed 6)=true:=by kernel_rfl
theorem zjo:(Rows.spaceHoldsRow.recurses == Tryz.prog.recurses 6)=true:=by kernel_rfl
theorem zjp:(Rows.spaceHoldsRow.named == Tryz.prog.varsNamed 6)=true:=by kernel_rfl
theorem zjq:(Rows.spaceHoldsRow.maps == (Tryz.f6.params.toList++Rows.spaceHoldsSpec.plain.varTypes Tryz.prog).any (Tryz.prog.mapsRec ·))=true:=by kernel_rfl
theorem zjr:(Rows.spaceHoldsRow.ifaces == (Tryz.f6.params.toList++Rows.spaceHoldsSpec.plain.varTypes Tryz.prog).any (Tryz.prog.ifacesRec ·))=true:=by kernel_rfl
theorem zjs:(Rows.spaceHoldsRow.mapsOut == Tryz.prog.mapsAmong Tryz.f6.resultTypes.toList)=true:=by kernel_rfl
theorem zjt:(Rows.spaceHoldsRow.loops == (Tryz.f6.params.toList++Rows.spaceHoldsSpec.plain.varTypes Tryz.prog).any (Tryz.prog.loopsFrom ·))=true:=by kernel_rfl
theorem zju:(Rows.spaceHoldsRow.wideKeys == (Tryz.f6.params.toList++Rows.spaceHoldsSpec.plain.varTypes Tryz.prog++Tryz.f6.resultTypes.toList).any (Tryz.prog.wideKeysFrom ·))=true:=by kernel_rfl
theorem zjv:(Rows.spaceHoldsSpec.vars.all (Tryz.prog.varReadable ·))=true:=by kernel_rfl
theorem zjw:(Tryz.f6.resultTypes.all (fun t=>Tryz.prog.readableRec t && decide (t < Tryz.prog.types.size)))=true:=by kernel_rfl
theorem zjx:(Rows.spaceHoldsRow.ifacesOut == Tryz.f6.resultTypes.toList.any (Tryz.prog.ifacesRec ·))=true:=by kernel_rfl
theorem zjy:(Rows.spaceHoldsRow.loopsOut == Tryz.f6.resultTypes.toList.any (Tryz.prog.loopsFrom ·))=true:=by kernel_rfl
theorem zjz:(Rows.spaceHoldsRow.plainKeys == Tryz.prog.plainKeys)=true:=by kernel_rfl
theorem zjA:(Rows.spaceHoldsRow.shortTexts.isNone)=true:=by kernel_rfl
theorem zjB:(Tryz.prog.stopsHeard)=true:=by kernel_rfl
theorem zjC:(Tryz.prog.mayEnter)=true:=by kernel_rfl
theorem zjD:(Rows.spaceHoldsRow.lifted == Tryz.prog.liftsFinal)=true:=by kernel_rfl
theorem zjE:(Tryz.prog.make == some Rows.spaceHoldsRow.make)=true:=by kernel_rfl
theorem zjF:(Rows.spaceHoldsRow.kinds == (if Rows.spaceHoldsRow.domain.isEmpty then [] else Tryz.f6.params.toList.map fun t=>match Tryz.prog.underlying t with|some (.int k)=>some k|_=>none))=true:=by kernel_rfl
theorem zjG:(Rows.spaceHoldsRow.pinned == Rows.spaceHoldsRow.pinnedBy)=true:=by kernel_rfl
theorem zjH:(Rows.spaceHoldsRow.veiled == (Tryz.f6.params.toList++Rows.spaceHoldsSpec.plain.varTypes Tryz.prog++Tryz.f6.resultTypes.toList).any (Tryz.prog.veiledRec ·))=true:=by kernel_rfl
theorem zjI:(Rows.spaceHoldsRow.veiledFits Tryz.prog Tryz.f6.params.toList (Tryz.f6.params.toList++Rows.spaceHoldsSpec.plain.varTypes Tryz.prog++Tryz.f6.resultTypes.toList))=true:=by kernel_rfl
set_option maxRecDepth 100000 in
theorem zlV:joinedFacts Tryz.prog 6 Tryz.f6 Rows.spaceHoldsSpec Rows.spaceHoldsRow=true:=by
 unfold joinedFacts
 exact (jk (jk (jk (jk (jk (jk (jk (jk (jk (jk (jk (jk (jk (jk (jk (jk (jk (jk (jk (jk (jk (jk (jk (jk (jk (jk (jk (jk (jk (jk (jk zjW zjX) zjY) zjZ) zj0) zj1) zj2) zj3) zj4) zj5) zjn) zjo) zjp) zjq) zjr) zjs) zjt) zju) zjv) zjw) zjx) zjy) zjz) zjA) zjB) zjC) zjD) zjE) zjF) zjG) zjH) zjI)
end Go.Proofs.YtdplfgoifjjniaaGreatDoor
namespace Go.Proofs.YtdplfgoifjjniaaGreatDoor
open Go.ChangeShapes Go.WideShapes Go.ChangeAt Go.RowKit Go.Am
theorem zj7:ownKnob Tryz.prog.godebug=none:=by kernel_rfl
theorem zgU:laidOutB Tryz.prog=true:=by kernel_rfl
theorem zj9 {W:World} (hL:laidMetH Tryz.prog Rows.spaceHoldsRow.laid W):∀ c,c < 256→W.cell? ⟨1,c,none⟩=some (.int .u8 (Lib.asciiSpaceTab.getD c 0)) :=
 zlX hL (by kernel_rfl) (d:=Rows.laid_strings_asciiSpace) (by simp [Rows.spaceHoldsRow]) (by kernel_rfl) (by kernel_rfl) (by kernel_rfl) (t:=183) (by kernel_rfl) (e:=5) (by kernel_rfl) (by kernel_rfl) (by kernel_rfl)
noncomputable def zeX (os:Os):World:=World.laidAll Tryz.prog os Rows.spaceHoldsRow.laid
theorem zj6 (os:Os) (args:Array Value):laidMetH Tryz.prog Rows.spaceHoldsRow.laid ((zeX os).forCall (fun _ _=>0) ⟨#[],args,[]⟩).memory:=by
 rw [MakeChecks.laidMetH_plain _ _ _ (by kernel_rfl)]
 exact laidMet_laidAll args (by kernel_rfl) (by kernel_rfl)
set_option maxRecDepth 100000 in
theorem zlW (h:Heap) (args:List Value) (_:h.low=h.size) (cA:Holds h 1 (.row sV sR true)) (hs:wi Tryz.prog h 8 Tryz.f6.params.toList args):Ok Tryz.prog ae ov 6 args h fun v h'=>v=.bool true∧Ext h h':=by
 have hp:Tryz.f6.params.toList=[29,48]:=by kernel_rfl
 have j7:wi Tryz.prog h 8 [29,48] args:=zqO hp hs
 clear hs
 obtain ⟨x0,r0,rfl,h0,j7⟩:=zhw j7
 obtain ⟨x1,r1,rfl,h1,j7⟩:=zhw j7
 obtain rfl:=zoh j7
 obtain ⟨d0,f0⟩:=zqM h0
 obtain ⟨d1,f1⟩:=zwh h1
 exact zlO d0 d1 x0 x1 h cA f0 f1 _ (fun h' x=>⟨rfl,x⟩)
set_option maxRecDepth 100000 in
theorem zho (os:Os) (started:os.Started) (H:Type) (enc:TypeId × Value→H) :
 ReturnsInHanded {} Tryz.checked os 6 .any (fun w args=>(Rows.spaceHoldsSpec.pre enc Tryz.prog Tryz.f6 Rows.spaceHoldsRow.domain false w args∧laidMetH Tryz.prog Rows.spaceHoldsRow.laid w)∧sizedMet enc Tryz.prog Tryz.f6 (OpenSpec.ofChange Rows.spaceHoldsSpec) false w args)
  (Rows.spaceHoldsSpec.post enc Tryz.prog Tryz.f6 Rows.spaceHoldsRow.apart Rows.spaceHoldsRow.fresh Rows.spaceHoldsRow.handsOn Rows.spaceHoldsRow.again):=by
 refine returnsInHanded_of_change_and (C:=Tryz.checked) (X:=fun w _=>laidMetH Tryz.prog Rows.spaceHoldsRow.laid w) (fun _ _ _ hh h=>h.of_heap hh) zj7 started (by kernel_rfl) Tryz.func6
  (zpR (enc:=enc) (C:=Tryz.checked) (os:=os) (X:=fun w _=>laidMetH Tryz.prog Rows.spaceHoldsRow.laid w) (zeX os) #[.agg ⟨[.slice none 0 0,.slice none 0 0,.slice none 0 0,.int .i64 0,.int .i64 0,.slice none 0 0,.slice none 0 0]⟩,.slice none 0 0] 12 (World.laidAll_os _ _ _) (by kernel_rfl) (by kernel_rfl) (by kernel_rfl) (by kernel_rfl) (by kernel_rfl) (zj6 os _)) ?_
 intro W base args ds gs before dE hW akC _ hL _
 exact zlz (n:=8) (boolT:=4) mixed vn rfl zH5 rfl (zj9 hL) zgU rfl (by kernel_rfl) (by kernel_rfl) Tryz.underlying4 (by kernel_rfl) (by kernel_rfl)
  (fun ds hd=>by
   have hp:Tryz.f6.params.size=2:=by kernel_rfl
   rw [hp] at hd
   match ds,hd with
   | [_,_],_=>rfl)
  zlW dE hW
theorem zj8:Rows.SpaceHoldsSaid :=
 OpenClaim.holds_of_wide 6 Tryz.f6 rfl rfl rfl rfl rfl rfl rfl ⟨rfl,rfl,rfl,rfl,rfl⟩ rfl rfl rfl rfl rfl (by kernel_rfl) Tryz.func6 zlV
  (of_decide_eq_true (by kernel_rfl)) (by unfold Func.isWrapper;first|(rw [if_pos (by decide +kernel)];kernel_rfl)|(rw [if_neg (by decide +kernel)];exact ⟨rfl,rfl⟩))
  (fun os started H enc _=>zho os started H enc)
theorem zh1:Tryz.f6.params.toList.all (fun t => !Tryz.prog.wantsStandIn t)=true:=by kernel_rfl
theorem spaceHolds_holds:Rows.SpaceHoldsCardSaid :=
 Claim7.holds_tied_plain_at .later [] [.listed,.data] true (true,"e3b98ed704166d1a404fe1199d722dcaa9558a9c37ce96c3f94afdba96555796") true
  zj8 (fun _ h=>by cases h) (by kernel_rfl) (fun _ h=>by cases h) spaceHolds_row_tie rfl ⟨rfl,rfl⟩ (by kernel_rfl) rfl
  (fun f fn hf rJ=>by
   obtain rfl:f=6:=Option.some.inj ((show Tryz.prog.funcNamed "vouchsafe/vouchsafelaw14.SpaceHolds"=some 6 by kernel_rfl).symm.trans hf) |>.symm
   obtain rfl:fn=Tryz.f6:=(Option.some.inj (Tryz.func6.symm.trans rJ)).symm
   refine ⟨by kernel_rfl,fun j t ht=>?_⟩
   have h1:=List.all_eq_true.1 zh1 t (List.mem_of_getElem? (i:=j) (by simpa using ht))
   have h2:Tryz.prog.wantsStandIn t=false:=by
    cases hh:Tryz.prog.wantsStandIn t with
    |false=>rfl
    |true =>
     have h3:(!Tryz.prog.wantsStandIn t)=true:=h1
     rw [hh] at h3
     exact absurd h3 (by decide)
   exact h2)
  (by kernel_rfl)
#print axioms spaceHolds_holds
end Go.Proofs.YtdplfgoifjjniaaGreatDoor
