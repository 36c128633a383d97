/- The closed facts of the row SpaceTurns, each by itself. No condition. -/
import Derived.Test.YtdplfgoifjjniaaGreatDoorRows
import Derived.JoinedOf
import Derived.ProofKit
import Derived.Test.YtdplfgoifjjniaaGreatDoorG9
import Derived.Test.YtdplfgoifjjniaaGreatDoorG24
import Derived.Test.YtdplfgoifjjniaaGreatDoorG48
import Derived.Test.YtdplfgoifjjniaaGreatDoorCards
import Derived.Test.YtdplfgoifjjniaaGreatDoorTie
import Derived.SevenTiedAt
import Derived.Lay
import Derived.LaidHandle
namespace Go.Proofs.YtdplfgoifjjniaaGreatDoor
open Go.ChangeShapes Go.WideShapes Go.ChangeAt Go.RowKit
theorem zao {a b:Bool} (h1:a=true) (h2:b=true):(a && b)=true:=by rw [h1,h2];rfl
theorem zjD:(Rows.spaceTurnsRow.wf (OpenSpec.ofChange Rows.spaceTurnsSpec))=true:=by kernel_rfl
theorem zjp:(laidOutB Tryz.prog)=true:=by kernel_rfl
theorem zju:(mapsRowed Tryz.prog)=true:=by kernel_rfl
theorem zjx:(Tryz.f5.params.all (Tryz.prog.readableRec ·))=true:=by kernel_rfl
theorem zjo:(namedTie Tryz.prog Rows.spaceTurnsRow.named Rows.spaceTurnsSpec.vars)=true:=by kernel_rfl
theorem zjk:((Rows.spaceTurnsRow.stops == []))=true:=by kernel_rfl
theorem zjC:((Tryz.prog.stops == []))=true:=by kernel_rfl
theorem zjm:((Rows.spaceTurnsRow.knobs == []))=true:=by kernel_rfl
theorem zjz:((Tryz.prog.stopKnobs == []))=true:=by kernel_rfl
theorem zjF:((Rows.spaceTurnsRow.inPlace == Tryz.prog.inPlace 5))=true:=by kernel_rfl
theorem zia:((Rows.spaceTurnsRow.unfollowed == Tryz.prog.unfollowed 5))=true:=by kernel_rfl
theorem ziZ:((Rows.spaceTurnsRow.recurses == Tryz.prog.recurses 5))=true:=by kernel_rfl
theorem zhY:((Rows.spaceTurnsRow.named == Tryz.prog.varsNamed 5))=true:=by kernel_rfl
theorem ziI:((Rows.spaceTurnsRow.maps == (Tryz.f5.params.toList++Rows.spaceTurnsSpec.plain.varTypes Tryz.prog).any (Tryz.prog.mapsRec ·)))=true:=by kernel_rfl
theorem ziy:((Rows.spaceTurnsRow.ifaces == (Tryz.f5.params.toList++Rows.spaceTurnsSpec.plain.varTypes Tryz.prog).any (Tryz.prog.ifacesRec ·)))=true:=by kernel_rfl
theorem ziC:((Rows.spaceTurnsRow.mapsOut == Tryz.prog.mapsAmong Tryz.f5.resultTypes.toList))=true:=by kernel_rfl
theorem ziw:((Rows.spaceTurnsRow.loops == (Tryz.f5.params.toList++Rows.spaceTurnsSpec.plain.varTypes Tryz.prog).any (Tryz.prog.loopsFrom ·)))=true:=by kernel_rfl
theorem ziW:((Rows.spaceTurnsRow.wideKeys == (Tryz.f5.params.toList++Rows.spaceTurnsSpec.plain.varTypes Tryz.prog++Tryz.f5.resultTypes.toList).any (Tryz.prog.wideKeysFrom ·)))=true:=by kernel_rfl
theorem ziu:(Rows.spaceTurnsSpec.vars.all (Tryz.prog.varReadable ·))=true:=by kernel_rfl
theorem zio:(Tryz.f5.resultTypes.all (fun t=>Tryz.prog.readableRec t && decide (t < Tryz.prog.types.size)))=true:=by kernel_rfl
theorem ziL:((Rows.spaceTurnsRow.ifacesOut == Tryz.f5.resultTypes.toList.any (Tryz.prog.ifacesRec ·)))=true:=by kernel_rfl
theorem ziJ:((Rows.spaceTurnsRow.loopsOut == Tryz.f5.resultTypes.toList.any (Tryz.prog.loopsFrom ·)))=true:=by kernel_rfl
theorem ziq:((Rows.spaceTurnsRow.plainKeys == Tryz.prog.plainKeys))=true:=by kernel_rfl
theorem ziv:(Rows.spaceTurnsRow.shortTexts.isNone)=true:=by kernel_rfl
theorem zhR:(Tryz.prog.stopsHeard)=true:=by kernel_rfl
theorem zi4:(Tryz.prog.mayEnter)=true:=by kernel_rfl
theorem zje:((Rows.spaceTurnsRow.lifted == Tryz.prog.liftsFinal))=true:=by kernel_rfl
theorem zix:((Tryz.prog.make == some Rows.spaceTurnsRow.make))=true:=by kernel_rfl
theorem zik:((Rows.spaceTurnsRow.kinds == (if Rows.spaceTurnsRow.domain.isEmpty then [] else Tryz.f5.params.toList.map fun t=>match Tryz.prog.underlying t with|some (.int k)=>some k|_=>none)))=true:=by kernel_rfl
theorem ziQ:((Rows.spaceTurnsRow.pinned == Rows.spaceTurnsRow.pinnedBy))=true:=by kernel_rfl
theorem zi1:((Rows.spaceTurnsRow.veiled == (Tryz.f5.params.toList++Rows.spaceTurnsSpec.plain.varTypes Tryz.prog++Tryz.f5.resultTypes.toList).any (Tryz.prog.veiledRec ·)))=true:=by kernel_rfl
theorem zim:(Rows.spaceTurnsRow.veiledFits Tryz.prog Tryz.f5.params.toList (Tryz.f5.params.toList++Rows.spaceTurnsSpec.plain.varTypes Tryz.prog++Tryz.f5.resultTypes.toList))=true:=by kernel_rfl
set_option maxRecDepth 100000 in
theorem zlb:joinedFacts Tryz.prog 5 Tryz.f5 Rows.spaceTurnsSpec Rows.spaceTurnsRow=true:=by
 unfold joinedFacts
 exact (zao (zao (zao (zao (zao (zao (zao (zao (zao (zao (zao (zao (zao (zao (zao (zao (zao (zao (zao (zao (zao (zao (zao (zao (zao (zao (zao (zao (zao (zao (zao zjD zjp) zju) zjx) zjo) zjk) zjC) zjm) zjz) zjF) zia) ziZ) zhY) ziI) ziy) ziC) ziw) ziW) ziu) zio) ziL) ziJ) ziq) ziv) zhR) zi4) zje) zix) zik) ziQ) zi1) zim)
end Go.Proofs.YtdplfgoifjjniaaGreatDoor
namespace Go.Proofs.YtdplfgoifjjniaaGreatDoor
open Go.ChangeShapes Go.WideShapes Go.ChangeAt Go.RowKit Go.Am
theorem zjq:ownKnob Tryz.prog.godebug=none:=by kernel_rfl
theorem zgf:laidOutB Tryz.prog=true:=by kernel_rfl
theorem zjG {W:World} (hL:laidMetH Tryz.prog Rows.spaceTurnsRow.laid W):∀ c,c < 256→W.cell? ⟨1,c,none⟩=some (.int .u8 (Lib.asciiSpaceTab.getD c 0)) :=
 zkM hL (by kernel_rfl) (d:=Rows.laid_strings_asciiSpace) (by simp [Rows.spaceTurnsRow]) (by kernel_rfl) (by kernel_rfl) (by kernel_rfl) (t:=183) (by kernel_rfl) (e:=5) (by kernel_rfl) (by kernel_rfl) (by kernel_rfl)
noncomputable def zez (os:Os):World:=World.laidAll Tryz.prog os Rows.spaceTurnsRow.laid
theorem zjs (os:Os) (args:Array Value):laidMetH Tryz.prog Rows.spaceTurnsRow.laid ((zez os).forCall (fun _ _=>0) ⟨#[],args,[]⟩).memory:=by
 rw [MakeChecks.laidMetH_plain _ _ _ (by kernel_rfl)]
 exact laidMet_laidAll args (by kernel_rfl) (by kernel_rfl)
set_option maxRecDepth 100000 in
theorem zkI (h:Heap) (args:List Value) (_:h.low=h.size) (hsp:Holds h 1 (.row zbs zbM true)) (hs:zdW Tryz.prog h 8 Tryz.f5.params.toList args):Ok Tryz.prog tab ov 5 args h fun v h'=>v=.bool true∧Ext h h':=by
 have hp:Tryz.f5.params.toList=[29,48]:=by kernel_rfl
 have hs2:zdW Tryz.prog h 8 [29,48] args:=zqR hp hs
 clear hs
 obtain ⟨x0,r0,rfl,h0,hs2⟩:=zha hs2
 obtain ⟨x1,r1,rfl,h1,hs2⟩:=zha hs2
 obtain rfl:=zn2 hs2
 obtain ⟨d0,f0⟩:=zqc h0
 obtain ⟨d1,f1⟩:=zvX h1
 exact zk9 d0 d1 x0 x1 h hsp f0 f1 _ (fun h' x=>⟨rfl,x⟩)
set_option maxRecDepth 100000 in
theorem zgM (os:Os) (started:os.Started) (H:Type) (enc:TypeId × Value→H) :
 ReturnsInHanded {} Tryz.checked os 5 .any (fun w args=>(Rows.spaceTurnsSpec.pre enc Tryz.prog Tryz.f5 Rows.spaceTurnsRow.domain false w args∧laidMetH Tryz.prog Rows.spaceTurnsRow.laid w)∧sizedMet enc Tryz.prog Tryz.f5 (OpenSpec.ofChange Rows.spaceTurnsSpec) false w args)
  (Rows.spaceTurnsSpec.post enc Tryz.prog Tryz.f5 Rows.spaceTurnsRow.apart Rows.spaceTurnsRow.fresh Rows.spaceTurnsRow.handsOn Rows.spaceTurnsRow.again):=by
 refine returnsInHanded_of_change_and (C:=Tryz.checked) (X:=fun w _=>laidMetH Tryz.prog Rows.spaceTurnsRow.laid w) (fun _ _ _ hh h=>h.of_heap hh) zjq started (by kernel_rfl) Tryz.func5
  (zoL (enc:=enc) (C:=Tryz.checked) (os:=os) (X:=fun w _=>laidMetH Tryz.prog Rows.spaceTurnsRow.laid w) (zez os) #[.agg ⟨[.slice none 0 0,.slice none 0 0,.slice none 0 0,.int .i64 0,.int .i64 0,.slice none 0 0,.slice none 0 0]⟩,.slice none 0 0] 12 (World.laidAll_os _ _ _) (by kernel_rfl) (by kernel_rfl) (by kernel_rfl) (by kernel_rfl) (by kernel_rfl) (zjs os _)) ?_
 intro W base args ds gs before hval hW hcnd _ hL _
 exact zkU (n:=8) (boolT:=4) mixed zcA rfl zGj rfl (zjG hL) zgf rfl (by kernel_rfl) (by kernel_rfl) Tryz.underlying4 (by kernel_rfl) (by kernel_rfl)
  (fun ds hd=>by
   have hp:Tryz.f5.params.size=2:=by kernel_rfl
   rw [hp] at hd
   match ds,hd with
   | [_,_],_=>rfl)
  zkI hval hW
theorem zjr:Rows.SpaceTurnsSaid :=
 OpenClaim.holds_of_wide 5 Tryz.f5 rfl rfl rfl rfl rfl rfl rfl ⟨rfl,rfl,rfl,rfl,rfl⟩ rfl rfl rfl rfl rfl (by kernel_rfl) Tryz.func5 zlb
  (of_decide_eq_true (by kernel_rfl)) (by unfold Func.isWrapper;first|(rw [if_pos (by decide +kernel)];kernel_rfl)|(rw [if_neg (by decide +kernel)];exact ⟨rfl,rfl⟩))
  (fun os started H enc _=>zgM os started H enc)
theorem zhw:Tryz.f5.params.toList.all (fun t => !Tryz.prog.wantsStandIn t)=true:=by kernel_rfl
theorem spaceTurns_holds:Rows.SpaceTurnsCardSaid :=
 Claim7.holds_tied_plain_at .later [] [.listed,.data] true (true,"e3b98ed704166d1a404fe1199d722dcaa9558a9c37ce96c3f94afdba96555796") true
  zjr (fun _ h=>by cases h) (by kernel_rfl) (fun _ h=>by cases h) spaceTurns_row_tie rfl ⟨rfl,rfl⟩ (by kernel_rfl) rfl
  (fun f fn hf hfn=>by
   obtain rfl:f=5:=Option.some.inj ((show Tryz.prog.funcNamed "vouchsafe/vouchsafelaw14.SpaceTurns"=some 5 by kernel_rfl).symm.trans hf) |>.symm
   obtain rfl:fn=Tryz.f5:=(Option.some.inj (Tryz.func5.symm.trans hfn)).symm
   refine ⟨by kernel_rfl,fun j t ht=>?_⟩
   have h1:=List.all_eq_true.1 zhw t (List.mem_of_getElem? (i:=j) (by simpa using ht))
   have h2:Tryz.prog.wantsStandIn t=false:=by
    cases hh:Tryz.prog.wantsStandIn t with
    |false=>rfl
    |true =>
     have h3:(!Tryz.prog.wantsStandIn t)=true:=h1
     rw [hh] at h3
     exact absurd h3 (by decide)
   exact h2)
  (by kernel_rfl)
#print axioms spaceTurns_holds
end Go.Proofs.YtdplfgoifjjniaaGreatDoor
