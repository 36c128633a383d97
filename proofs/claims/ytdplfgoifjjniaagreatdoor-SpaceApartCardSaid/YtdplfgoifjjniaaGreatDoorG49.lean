/- The closed facts of the row SpaceApart, each by itself. No condition. -/
import Derived.Test.YtdplfgoifjjniaaGreatDoorRows
import Derived.JoinedOf
import Derived.ProofKit
import Derived.Test.YtdplfgoifjjniaaGreatDoorG9
import Derived.Test.YtdplfgoifjjniaaGreatDoorG24
import Derived.Test.YtdplfgoifjjniaaGreatDoorG48
import Derived.Test.YtdplfgoifjjniaaGreatDoorCards
import Derived.Test.YtdplfgoifjjniaaGreatDoorTie
import Derived.SevenTiedAt
import Derived.Lay
import Derived.LaidHandle
namespace Go.Proofs.YtdplfgoifjjniaaGreatDoor
open Go.ChangeShapes Go.WideShapes Go.ChangeAt Go.RowKit
theorem zap {a b:Bool} (h1:a=true) (h2:b=true):(a && b)=true:=by rw [h1,h2];rfl
theorem zjw:(Rows.spaceApartRow.wf (OpenSpec.ofChange Rows.spaceApartSpec))=true:=by kernel_rfl
theorem zjH:(laidOutB Tryz.prog)=true:=by kernel_rfl
theorem zjA:(mapsRowed Tryz.prog)=true:=by kernel_rfl
theorem zjO:(Tryz.f4.params.all (Tryz.prog.readableRec ·))=true:=by kernel_rfl
theorem zjy:(namedTie Tryz.prog Rows.spaceApartRow.named Rows.spaceApartSpec.vars)=true:=by kernel_rfl
theorem zjz:((Rows.spaceApartRow.stops == []))=true:=by kernel_rfl
theorem zjL:((Tryz.prog.stops == []))=true:=by kernel_rfl
theorem zjP:((Rows.spaceApartRow.knobs == []))=true:=by kernel_rfl
theorem zjG:((Tryz.prog.stopKnobs == []))=true:=by kernel_rfl
theorem zjM:((Rows.spaceApartRow.inPlace == Tryz.prog.inPlace 4))=true:=by kernel_rfl
theorem zh5:((Rows.spaceApartRow.unfollowed == Tryz.prog.unfollowed 4))=true:=by kernel_rfl
theorem zjm:((Rows.spaceApartRow.recurses == Tryz.prog.recurses 4))=true:=by kernel_rfl
theorem ziD:((Rows.spaceApartRow.named == Tryz.prog.varsNamed 4))=true:=by kernel_rfl
theorem ziP:((Rows.spaceApartRow.maps == (Tryz.f4.params.toList++Rows.spaceApartSpec.plain.varTypes Tryz.prog).any (Tryz.prog.mapsRec ·)))=true:=by kernel_rfl
theorem ziT:((Rows.spaceApartRow.ifaces == (Tryz.f4.params.toList++Rows.spaceApartSpec.plain.varTypes Tryz.prog).any (Tryz.prog.ifacesRec ·)))=true:=by kernel_rfl
theorem zjq:((Rows.spaceApartRow.mapsOut == Tryz.prog.mapsAmong Tryz.f4.resultTypes.toList))=true:=by kernel_rfl
theorem zib:((Rows.spaceApartRow.loops == (Tryz.f4.params.toList++Rows.spaceApartSpec.plain.varTypes Tryz.prog).any (Tryz.prog.loopsFrom ·)))=true:=by kernel_rfl
theorem ziE:((Rows.spaceApartRow.wideKeys == (Tryz.f4.params.toList++Rows.spaceApartSpec.plain.varTypes Tryz.prog++Tryz.f4.resultTypes.toList).any (Tryz.prog.wideKeysFrom ·)))=true:=by kernel_rfl
theorem zje:(Rows.spaceApartSpec.vars.all (Tryz.prog.varReadable ·))=true:=by kernel_rfl
theorem zie:(Tryz.f4.resultTypes.all (fun t=>Tryz.prog.readableRec t && decide (t < Tryz.prog.types.size)))=true:=by kernel_rfl
theorem zh1:((Rows.spaceApartRow.ifacesOut == Tryz.f4.resultTypes.toList.any (Tryz.prog.ifacesRec ·)))=true:=by kernel_rfl
theorem zh9:((Rows.spaceApartRow.loopsOut == Tryz.f4.resultTypes.toList.any (Tryz.prog.loopsFrom ·)))=true:=by kernel_rfl
theorem zh2:((Rows.spaceApartRow.plainKeys == Tryz.prog.plainKeys))=true:=by kernel_rfl
theorem zh4:(Rows.spaceApartRow.shortTexts.isNone)=true:=by kernel_rfl
theorem zir:(Tryz.prog.stopsHeard)=true:=by kernel_rfl
theorem zij:(Tryz.prog.mayEnter)=true:=by kernel_rfl
theorem zjp:((Rows.spaceApartRow.lifted == Tryz.prog.liftsFinal))=true:=by kernel_rfl
theorem ziq:((Tryz.prog.make == some Rows.spaceApartRow.make))=true:=by kernel_rfl
theorem zh8:((Rows.spaceApartRow.kinds == (if Rows.spaceApartRow.domain.isEmpty then [] else Tryz.f4.params.toList.map fun t=>match Tryz.prog.underlying t with|some (.int k)=>some k|_=>none)))=true:=by kernel_rfl
theorem ziX:((Rows.spaceApartRow.pinned == Rows.spaceApartRow.pinnedBy))=true:=by kernel_rfl
theorem zio:((Rows.spaceApartRow.veiled == (Tryz.f4.params.toList++Rows.spaceApartSpec.plain.varTypes Tryz.prog++Tryz.f4.resultTypes.toList).any (Tryz.prog.veiledRec ·)))=true:=by kernel_rfl
theorem ziI:(Rows.spaceApartRow.veiledFits Tryz.prog Tryz.f4.params.toList (Tryz.f4.params.toList++Rows.spaceApartSpec.plain.varTypes Tryz.prog++Tryz.f4.resultTypes.toList))=true:=by kernel_rfl
set_option maxRecDepth 100000 in
theorem zkP:joinedFacts Tryz.prog 4 Tryz.f4 Rows.spaceApartSpec Rows.spaceApartRow=true:=by
 unfold joinedFacts
 exact (zap (zap (zap (zap (zap (zap (zap (zap (zap (zap (zap (zap (zap (zap (zap (zap (zap (zap (zap (zap (zap (zap (zap (zap (zap (zap (zap (zap (zap (zap (zap zjw zjH) zjA) zjO) zjy) zjz) zjL) zjP) zjG) zjM) zh5) zjm) ziD) ziP) ziT) zjq) zib) ziE) zje) zie) zh1) zh9) zh2) zh4) zir) zij) zjp) ziq) zh8) ziX) zio) ziI)
end Go.Proofs.YtdplfgoifjjniaaGreatDoor
namespace Go.Proofs.YtdplfgoifjjniaaGreatDoor
open Go.ChangeShapes Go.WideShapes Go.ChangeAt Go.RowKit Go.Am
theorem zjx:ownKnob Tryz.prog.godebug=none:=by kernel_rfl
theorem zgC:laidOutB Tryz.prog=true:=by kernel_rfl
theorem zjI {W:World} (hL:laidMetH Tryz.prog Rows.spaceApartRow.laid W):∀ c,c < 256→W.cell? ⟨1,c,none⟩=some (.int .u8 (Lib.asciiSpaceTab.getD c 0)) :=
 zkL hL (by kernel_rfl) (d:=Rows.laid_strings_asciiSpace) (by simp [Rows.spaceApartRow]) (by kernel_rfl) (by kernel_rfl) (by kernel_rfl) (t:=183) (by kernel_rfl) (e:=5) (by kernel_rfl) (by kernel_rfl) (by kernel_rfl)
noncomputable def zeK (os:Os):World:=World.laidAll Tryz.prog os Rows.spaceApartRow.laid
theorem zjN (os:Os) (args:Array Value):laidMetH Tryz.prog Rows.spaceApartRow.laid ((zeK os).forCall (fun _ _=>0) ⟨#[],args,[]⟩).memory:=by
 rw [MakeChecks.laidMetH_plain _ _ _ (by kernel_rfl)]
 exact laidMet_laidAll args (by kernel_rfl) (by kernel_rfl)
set_option maxRecDepth 100000 in
theorem zll (h:Heap) (args:List Value) (_:h.low=h.size) (hsp:Holds h 1 (.row zbs zbL true)) (hs:zdW Tryz.prog h 8 Tryz.f4.params.toList args):Ok Tryz.prog tab ov 4 args h fun v h'=>v=.bool true∧Ext h h':=by
 have hp:Tryz.f4.params.toList=[29,48,42,9]:=by kernel_rfl
 have hs2:zdW Tryz.prog h 8 [29,48,42,9] args:=zqh hp hs
 clear hs
 obtain ⟨x0,r0,rfl,h0,hs2⟩:=zdI hs2
 obtain ⟨x1,r1,rfl,h1,hs2⟩:=zdI hs2
 obtain ⟨x2,r2,rfl,h2,hs2⟩:=zdI hs2
 obtain ⟨x3,r3,rfl,h3,hs2⟩:=zdI hs2
 obtain rfl:=zo0 hs2
 obtain ⟨d0,f0⟩:=zq7 h0
 obtain ⟨d1,f1⟩:=zv6 h1
 obtain ⟨d2,rfl⟩:=zx0 h2
 obtain ⟨d3,rfl⟩:=zrL h3
 exact zkN d0 d1 d2 d3 x0 x1 h hsp f0 f1 _ (fun h' x=>⟨rfl,x⟩)
set_option maxRecDepth 100000 in
theorem zha (os:Os) (started:os.Started) (H:Type) (enc:TypeId × Value→H) :
 ReturnsInHanded {} Tryz.checked os 4 .any (fun w args=>(Rows.spaceApartSpec.pre enc Tryz.prog Tryz.f4 Rows.spaceApartRow.domain false w args∧laidMetH Tryz.prog Rows.spaceApartRow.laid w)∧sizedMet enc Tryz.prog Tryz.f4 (OpenSpec.ofChange Rows.spaceApartSpec) false w args)
  (Rows.spaceApartSpec.post enc Tryz.prog Tryz.f4 Rows.spaceApartRow.apart Rows.spaceApartRow.fresh Rows.spaceApartRow.handsOn Rows.spaceApartRow.again):=by
 refine returnsInHanded_of_change_and (C:=Tryz.checked) (X:=fun w _=>laidMetH Tryz.prog Rows.spaceApartRow.laid w) (fun _ _ _ hh h=>h.of_heap hh) zjx started (by kernel_rfl) Tryz.func4
  (zn9 (enc:=enc) (C:=Tryz.checked) (os:=os) (X:=fun w _=>laidMetH Tryz.prog Rows.spaceApartRow.laid w) (zeK os) #[.agg ⟨[.slice none 0 0,.slice none 0 0,.slice none 0 0,.int .i64 0,.int .i64 0,.slice none 0 0,.slice none 0 0]⟩,.slice none 0 0,.agg ⟨noAtomD.cells⟩,.string ⟨#[]⟩] 12 (World.laidAll_os _ _ _) (by kernel_rfl) (by kernel_rfl) (by kernel_rfl) (by kernel_rfl) (by kernel_rfl) (zjN os _)) ?_
 intro W base args ds gs before hval hW hcnd _ hL _
 exact zkI (n:=8) (boolT:=4) mixed zcE rfl zEE rfl (zjI hL) zgC rfl (by kernel_rfl) (by kernel_rfl) Tryz.underlying4 (by kernel_rfl) (by kernel_rfl)
  (fun ds hd=>by
   have hp:Tryz.f4.params.size=4:=by kernel_rfl
   rw [hp] at hd
   match ds,hd with
   | [_,_,_,_],_=>rfl)
  zll hval hW
theorem zjJ:Rows.SpaceApartSaid :=
 OpenClaim.holds_of_wide 4 Tryz.f4 rfl rfl rfl rfl rfl rfl rfl ⟨rfl,rfl,rfl,rfl,rfl⟩ rfl rfl rfl rfl rfl (by kernel_rfl) Tryz.func4 zkP
  (of_decide_eq_true (by kernel_rfl)) (by unfold Func.isWrapper;first|(rw [if_pos (by decide +kernel)];kernel_rfl)|(rw [if_neg (by decide +kernel)];exact ⟨rfl,rfl⟩))
  (fun os started H enc _=>zha os started H enc)
theorem zhI:Tryz.f4.params.toList.all (fun t => !Tryz.prog.wantsStandIn t)=true:=by kernel_rfl
theorem spaceApart_holds:Rows.SpaceApartCardSaid :=
 Claim7.holds_tied_plain_at .later [] [.listed,.data] true (true,"e3b98ed704166d1a404fe1199d722dcaa9558a9c37ce96c3f94afdba96555796") true
  zjJ (fun _ h=>by cases h) (by kernel_rfl) (fun _ h=>by cases h) spaceApart_row_tie rfl ⟨rfl,rfl⟩ (by kernel_rfl) rfl
  (fun f fn hf hfn=>by
   obtain rfl:f=4:=Option.some.inj ((show Tryz.prog.funcNamed "vouchsafe/vouchsafelaw14.SpaceApart"=some 4 by kernel_rfl).symm.trans hf) |>.symm
   obtain rfl:fn=Tryz.f4:=(Option.some.inj (Tryz.func4.symm.trans hfn)).symm
   refine ⟨by kernel_rfl,fun j t ht=>?_⟩
   have h1:=List.all_eq_true.1 zhI t (List.mem_of_getElem? (i:=j) (by simpa using ht))
   have h2:Tryz.prog.wantsStandIn t=false:=by
    cases hh:Tryz.prog.wantsStandIn t with
    |false=>rfl
    |true =>
     have h3:(!Tryz.prog.wantsStandIn t)=true:=h1
     rw [hh] at h3
     exact absurd h3 (by decide)
   exact h2)
  (by kernel_rfl)
#print axioms spaceApart_holds
end Go.Proofs.YtdplfgoifjjniaaGreatDoor
