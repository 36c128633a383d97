/- The closed facts of the row ViewApart, each by itself. No condition. -/
import Derived.Test.YtkgojconmeeegaaGreatDoorRows
import Derived.JoinedOf
import Derived.Test.YtkgojconmeeegaaGreatDoorG48
import Derived.Test.YtkgojconmeeegaaGreatDoorCards
import Derived.Test.YtkgojconmeeegaaGreatDoorTie
import Derived.SevenTiedAt
import Derived.LaidHandle
namespace Go.Proofs.YtkgojconmeeegaaGreatDoor
open Go.ChangeShapes Go.WideShapes Go.ChangeAt Go.RowKit
theorem ka {a b:Bool} (h1:a=true) (h2:b=true):(a && b)=true:=by rw [h1,h2];rfl
theorem zmL:(Rows.viewApartRow.wf (OpenSpec.ofChange Rows.viewApartSpec))=true:=by kernel_rfl
theorem zmM:(laidOutB Tryz.prog)=true:=by kernel_rfl
theorem zmN:(mapsRowed Tryz.prog)=true:=by kernel_rfl
theorem zmO:(Tryz.f3.params.all (Tryz.prog.readableRec ·))=true:=by kernel_rfl
theorem zmP:(namedTie Tryz.prog Rows.viewApartRow.named Rows.viewApartSpec.vars)=true:=by kernel_rfl
theorem zmQ:(Rows.viewApartRow.stops == [])=true:=by kernel_rfl
theorem zmR:(Tryz.prog.stops == [])=true:=by kernel_rfl
theorem zmS:(Rows.viewApartRow.knobs == [])=true:=by kernel_rfl
theorem zmT:(Tryz.prog.stopKnobs == [])=true:=by kernel_rfl
theorem zmU:(Rows.viewApartRow.inPlace == Tryz.prog.inPlace 3)=true:=by kernel_rfl
theorem zkw:(Rows.viewApartRow.unfollowed == Tryz.prog.unfollowed 3)=true:=by kernel_rfl
theorem zkx:(Rows.viewApartRow.recurses == Tryz.prog.recurses 3)=true:=by kernel_rfl
theorem zky:(Rows.viewApartRow.named == Tryz.prog.varsNamed 3)=true:=by kernel_rfl
theorem zkz:(Rows.viewApartRow.maps == (Tryz.f3.params.toList++Rows.viewApartSpec.plain.varTypes Tryz.prog).any (Tryz.prog.mapsRec ·))=true:=by kernel_rfl
theorem zkA:(Rows.viewApartRow.ifaces == (Tryz.f3.params.toList++Rows.viewApartSpec.plain.varTypes Tryz.prog).any (Tryz.prog.ifacesRec ·))=true:=by kernel_rfl
theorem zkB:(Rows.viewApartRow.mapsOut == Tryz.prog.mapsAmong Tryz.f3.resultTypes.toList)=true:=by kernel_rfl
theorem zkC:(Rows.viewApartRow.loops == (Tryz.f3.params.toList++Rows.viewApartSpec.plain.varTypes Tryz.prog).any (Tryz.prog.loopsFrom ·))=true:=by kernel_rfl
theorem zkD:(Rows.viewApartRow.wideKeys == (Tryz.f3.params.toList++Rows.viewApartSpec.plain.varTypes Tryz.prog++Tryz.f3.resultTypes.toList).any (Tryz.prog.wideKeysFrom ·))=true:=by kernel_rfl
theorem zkE:(Rows.viewApartSpec.vars.all (Tryz.prog.varReadable ·))=true:=by kernel_rfl
theorem zkF:(Tryz.f3.resultTypes.all (fun t=>Tryz.prog.readableRec t && decide (t < Tryz.prog.types.size)))=true:=by kernel_rfl
theorem zkG:(Rows.viewApartRow.ifacesOut == Tryz.f3.resultTypes.toList.any (Tryz.prog.ifacesRec ·))=true:=by kernel_rfl
theorem zkH:(Rows.viewApartRow.loopsOut == Tryz.f3.resultTypes.toList.any (Tryz.prog.loopsFrom ·))=true:=by kernel_rfl
theorem zkI:(Rows.viewApartRow.plainKeys == Tryz.prog.plainKeys)=true:=by kernel_rfl
theorem zkJ:(Rows.viewApartRow.shortTexts.isNone)=true:=by kernel_rfl
theorem zkK:(Tryz.prog.stopsHeard)=true:=by kernel_rfl
theorem zkL:(Tryz.prog.mayEnter)=true:=by kernel_rfl
theorem zkM:(Rows.viewApartRow.lifted == Tryz.prog.liftsFinal)=true:=by kernel_rfl
theorem zkN:(Tryz.prog.make == some Rows.viewApartRow.make)=true:=by kernel_rfl
theorem zkO:(Rows.viewApartRow.kinds == (if Rows.viewApartRow.domain.isEmpty then [] else Tryz.f3.params.toList.map fun t=>match Tryz.prog.underlying t with|some (.int k)=>some k|_=>none))=true:=by kernel_rfl
theorem zkP:(Rows.viewApartRow.pinned == Rows.viewApartRow.pinnedBy)=true:=by kernel_rfl
theorem zkQ:(Rows.viewApartRow.veiled == (Tryz.f3.params.toList++Rows.viewApartSpec.plain.varTypes Tryz.prog++Tryz.f3.resultTypes.toList).any (Tryz.prog.veiledRec ·))=true:=by kernel_rfl
theorem zkR:(Rows.viewApartRow.veiledFits Tryz.prog Tryz.f3.params.toList (Tryz.f3.params.toList++Rows.viewApartSpec.plain.varTypes Tryz.prog++Tryz.f3.resultTypes.toList))=true:=by kernel_rfl
set_option maxRecDepth 100000 in
theorem zph:joinedFacts Tryz.prog 3 Tryz.f3 Rows.viewApartSpec Rows.viewApartRow=true:=by
 unfold joinedFacts
 exact (ka (ka (ka (ka (ka (ka (ka (ka (ka (ka (ka (ka (ka (ka (ka (ka (ka (ka (ka (ka (ka (ka (ka (ka (ka (ka (ka (ka (ka (ka (ka zmL zmM) zmN) zmO) zmP) zmQ) zmR) zmS) zmT) zmU) zkw) zkx) zky) zkz) zkA) zkB) zkC) zkD) zkE) zkF) zkG) zkH) zkI) zkJ) zkK) zkL) zkM) zkN) zkO) zkP) zkQ) zkR)
end Go.Proofs.YtkgojconmeeegaaGreatDoor
namespace Go.Proofs.YtkgojconmeeegaaGreatDoor
open Go.ChangeShapes Go.WideShapes Go.ChangeAt Go.RowKit Go.Am
theorem zmW:ownKnob Tryz.prog.godebug=none:=by kernel_rfl
theorem zh0:laidOutB Tryz.prog=true:=by kernel_rfl
theorem zmY {W:World} (hL:laidMetH Tryz.prog Rows.viewApartRow.laid W):∀ c,c < 256→W.cell? ⟨1,c,none⟩=some (.int .u8 (Lib.asciiSpaceTab.getD c 0)) :=
 zmI hL (by kernel_rfl) (d:=Rows.laid_strings_asciiSpace) (by simp [Rows.viewApartRow]) (by kernel_rfl) (by kernel_rfl) (by kernel_rfl) (t:=257) (by kernel_rfl) (e:=5) (by kernel_rfl) (by kernel_rfl) (by kernel_rfl)
noncomputable def OZ (os:Os):World:=World.laidAll Tryz.prog os Rows.viewApartRow.laid
theorem zmV (os:Os) (args:Array Value):laidMetH Tryz.prog Rows.viewApartRow.laid ((OZ os).forCall (fun _ _=>0) ⟨#[],args,[]⟩).memory:=by
 rw [MakeChecks.laidMetH_plain _ _ _ (by kernel_rfl)]
 exact laidMet_laidAll args (by kernel_rfl) (by kernel_rfl)
set_option maxRecDepth 100000 in
theorem zpi (h:Heap) (args:List Value) (_:h.low=h.size) (cF:Holds h 1 (.row vA vz true)) (hs:y8 Tryz.prog h 8 Tryz.f3.params.toList args):Ok Tryz.prog ae ov 3 args h fun v h'=>v=.bool true∧Ext h h':=by
 have hp:Tryz.f3.params.toList=[28,29,36,9]:=by kernel_rfl
 have jc:y8 Tryz.prog h 8 [28,29,36,9] args:=zsh hp hs
 clear hs
 obtain ⟨x0,r0,rfl,h0,jc⟩:=WO jc
 obtain ⟨x1,r1,rfl,h1,jc⟩:=WO jc
 obtain ⟨x2,r2,rfl,h2,jc⟩:=WO jc
 obtain ⟨x3,r3,rfl,h3,jc⟩:=WO jc
 obtain rfl:=zpt jc
 obtain ⟨d0,f0⟩:=zse h0
 obtain ⟨d1,f1⟩:=zyD h1
 obtain ⟨d2,rfl⟩:=zE3 h2
 obtain ⟨d3,rfl⟩:=zsf h3
 exact zoy d0 d1 d2 d3 x0 x1 h cF f0 f1 _ (fun h' x=>⟨rfl,x⟩)
set_option maxRecDepth 100000 in
theorem ziF (os:Os) (started:os.Started) (H:Type) (enc:TypeId × Value→H) :
 ReturnsInHanded {} Tryz.checked os 3 .any (fun w args=>(Rows.viewApartSpec.pre enc Tryz.prog Tryz.f3 Rows.viewApartRow.domain false w args∧laidMetH Tryz.prog Rows.viewApartRow.laid w)∧sizedMet enc Tryz.prog Tryz.f3 (OpenSpec.ofChange Rows.viewApartSpec) false w args)
  (Rows.viewApartSpec.post enc Tryz.prog Tryz.f3 Rows.viewApartRow.apart Rows.viewApartRow.fresh Rows.viewApartRow.handsOn Rows.viewApartRow.again):=by
 refine returnsInHanded_of_change_and (C:=Tryz.checked) (X:=fun w _=>laidMetH Tryz.prog Rows.viewApartRow.laid w) (fun _ _ _ hh h=>h.of_heap hh) zmW started (by kernel_rfl) Tryz.func3
  (zrd (enc:=enc) (C:=Tryz.checked) (os:=os) (X:=fun w _=>laidMetH Tryz.prog Rows.viewApartRow.laid w) (OZ os) #[.agg ⟨[.slice none 0 0,.slice none 0 0,.slice none 0 0,.int .i64 0,.int .i64 0,.slice none 0 0,.slice none 0 0]⟩,.slice none 0 0,.agg ⟨.int .i64 0::.string ⟨#[]⟩::aj.cells⟩,.string ⟨#[]⟩] 12 (World.laidAll_os _ _ _) (by kernel_rfl) (by kernel_rfl) (by kernel_rfl) (by kernel_rfl) (by kernel_rfl) (zmV os _)) ?_
 intro W base args ds gs before eC hW arv _ hL _
 exact zmm (n:=8) (boolT:=4) mixed uK rfl zNB rfl (zmY hL) zh0 rfl (by kernel_rfl) (by kernel_rfl) Tryz.underlying4 (by kernel_rfl) (by kernel_rfl)
  (fun ds hd=>by
   have hp:Tryz.f3.params.size=4:=by kernel_rfl
   rw [hp] at hd
   match ds,hd with
   | [_,_,_,_],_=>rfl)
  zpi eC hW
theorem zmX:Rows.ViewApartSaid :=
 OpenClaim.holds_of_wide 3 Tryz.f3 rfl rfl rfl rfl rfl rfl rfl ⟨rfl,rfl,rfl,rfl,rfl⟩ rfl rfl rfl rfl rfl (by kernel_rfl) Tryz.func3 zph
  (of_decide_eq_true (by kernel_rfl)) (by unfold Func.isWrapper;first|(rw [if_pos (by decide +kernel)];kernel_rfl)|(rw [if_neg (by decide +kernel)];exact ⟨rfl,rfl⟩))
  (fun os started H enc _=>ziF os started H enc)
theorem zkk:Tryz.f3.params.toList.all (fun t => !Tryz.prog.wantsStandIn t)=true:=by kernel_rfl
theorem viewApart_holds:Rows.ViewApartCardSaid :=
 Claim7.holds_tied_plain_at .later [] [.listed,.data] true (true,"69e295e677b05030abe06d499f3228d3c4ece7ff2c0666caa8fbd6a919de8044") true
  zmX (fun _ h=>by cases h) (by kernel_rfl) (fun _ h=>by cases h) viewApart_row_tie rfl ⟨rfl,rfl⟩ (by kernel_rfl) rfl
  (fun f fn hf tP=>by
   obtain rfl:f=3:=Option.some.inj ((show Tryz.prog.funcNamed "vouchsafe/vouchsafelaw15.ViewApart"=some 3 by kernel_rfl).symm.trans hf) |>.symm
   obtain rfl:fn=Tryz.f3:=(Option.some.inj (Tryz.func3.symm.trans tP)).symm
   refine ⟨by kernel_rfl,fun j t ht=>?_⟩
   have h1:=List.all_eq_true.1 zkk t (List.mem_of_getElem? (i:=j) (by simpa using ht))
   have h2:Tryz.prog.wantsStandIn t=false:=by
    cases hh:Tryz.prog.wantsStandIn t with
    |false=>rfl
    |true =>
     have h3:(!Tryz.prog.wantsStandIn t)=true:=h1
     rw [hh] at h3
     exact absurd h3 (by decide)
   exact h2)
  (by kernel_rfl)
#print axioms viewApart_holds
end Go.Proofs.YtkgojconmeeegaaGreatDoor
