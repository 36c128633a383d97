/- The closed facts of the row ViewClones, each by itself. No condition. -/
import Derived.Test.YtiapegieocgmfaaGreatDoorRows
import Derived.JoinedOf
import Derived.Test.YtiapegieocgmfaaGreatDoorG48
import Derived.Test.YtiapegieocgmfaaGreatDoorCards
import Derived.Test.YtiapegieocgmfaaGreatDoorTie
import Derived.SevenTiedAt
import Derived.LaidHandle
set_option linter.unusedSimpArgs false
namespace Go.Proofs.YtiapegieocgmfaaGreatDoor
open Go.ChangeShapes Go.WideShapes Go.ChangeAt Go.RowKit
theorem kO {a b:Bool} (h1:a=true) (h2:b=true):(a && b)=true:=by rw [h1,h2];rfl
theorem zkQ:(Rows.viewClonesRow.wf (OpenSpec.ofChange Rows.viewClonesSpec))=true:=by kernel_rfl
theorem zkR:(laidOutB Tryz.prog)=true:=by kernel_rfl
theorem zkS:(mapsRowed Tryz.prog)=true:=by kernel_rfl
theorem zkT:(Tryz.f3.params.all (Tryz.prog.readableRec ·))=true:=by kernel_rfl
theorem zkU:(namedTie Tryz.prog Rows.viewClonesRow.named Rows.viewClonesSpec.vars)=true:=by kernel_rfl
theorem zkV:(Rows.viewClonesRow.stops == [])=true:=by kernel_rfl
theorem zkW:(Tryz.prog.stops == [])=true:=by kernel_rfl
theorem zkX:(Rows.viewClonesRow.knobs == [])=true:=by kernel_rfl
theorem zkY:(Tryz.prog.stopKnobs == [])=true:=by kernel_rfl
theorem zkZ:(Rows.viewClonesRow.inPlace == Tryz.prog.inPlace 3)=true:=by kernel_rfl
theorem zj6:(Rows.viewClonesRow.unfollowed == Tryz.prog.unfollowed 3)=true:=by kernel_rfl
theorem zj7:(Rows.viewClonesRow.recurses == Tryz.prog.recurses 3)=true:=by kernel_rfl
theorem zj8:(Rows.viewClonesRow.named == Tryz.prog.varsNamed 3)=true:=by kernel_rfl
theorem zj9:(Rows.viewClonesRow.maps == (Tryz.f3.params.toList++Rows.viewClonesSpec.plain.varTypes Tryz.prog).any (Tryz.prog.mapsRec ·))=true:=by kernel_rfl
theorem zka:(Rows.viewClonesRow.ifaces == (Tryz.f3.params.toList++Rows.viewClonesSpec.plain.varTypes Tryz.prog).any (Tryz.prog.ifacesRec ·))=true:=by kernel_rfl
theorem zkb:(Rows.viewClonesRow.mapsOut == Tryz.prog.mapsAmong Tryz.f3.resultTypes.toList)=true:=by kernel_rfl
theorem zkc:(Rows.viewClonesRow.loops == (Tryz.f3.params.toList++Rows.viewClonesSpec.plain.varTypes Tryz.prog).any (Tryz.prog.loopsFrom ·))=true:=by kernel_rfl
theorem zkd:(Rows.viewClonesRow.wideKeys == (Tryz.f3.params.toList++Rows.viewClonesSpec.plain.varTypes Tryz.prog++Tryz.f3.resultTypes.toList).any (Tryz.prog.wideKeysFrom ·))=true:=by kernel_rfl
theorem zke:(Rows.viewClonesSpec.vars.all (Tryz.prog.varReadable ·))=true:=by kernel_rfl
theorem zkf:(Tryz.f3.resultTypes.all (λt=>Tryz.prog.readableRec t && decide (t < Tryz.prog.types.size)))=true:=by kernel_rfl
theorem zkg:(Rows.viewClonesRow.ifacesOut == Tryz.f3.resultTypes.toList.any (Tryz.prog.ifacesRec ·))=true:=by kernel_rfl
theorem zkh:(Rows.viewClonesRow.loopsOut == Tryz.f3.resultTypes.toList.any (Tryz.prog.loopsFrom ·))=true:=by kernel_rfl
theorem zki:(Rows.viewClonesRow.plainKeys == Tryz.prog.plainKeys)=true:=by kernel_rfl
theorem zkj:(Rows.viewClonesRow.shortTexts.isNone)=true:=by kernel_rfl
theorem zkk:(Tryz.prog.stopsHeard)=true:=by kernel_rfl
theorem zkl:(Tryz.prog.mayEnter)=true:=by kernel_rfl
theorem zkm:(Rows.viewClonesRow.lifted == Tryz.prog.liftsFinal)=true:=by kernel_rfl
theorem zkn:(Tryz.prog.make == some Rows.viewClonesRow.make)=true:=by kernel_rfl
theorem zko:(Rows.viewClonesRow.kinds == (if Rows.viewClonesRow.domain.isEmpty then [] else Tryz.f3.params.toList.map λt=>match Tryz.prog.underlying t with|some (.int k)=>some k|_=>none))=true:=by kernel_rfl
theorem zkp:(Rows.viewClonesRow.pinned == Rows.viewClonesRow.pinnedBy)=true:=by kernel_rfl
theorem zkq:(Rows.viewClonesRow.veiled == (Tryz.f3.params.toList++Rows.viewClonesSpec.plain.varTypes Tryz.prog++Tryz.f3.resultTypes.toList).any (Tryz.prog.veiledRec ·))=true:=by kernel_rfl
theorem zkr:(Rows.viewClonesRow.veiledFits Tryz.prog Tryz.f3.params.toList (Tryz.f3.params.toList++Rows.viewClonesSpec.plain.varTypes Tryz.prog++Tryz.f3.resultTypes.toList))=true:=by kernel_rfl
set_option maxRecDepth 100000 in
theorem znj:joinedFacts Tryz.prog 3 Tryz.f3 Rows.viewClonesSpec Rows.viewClonesRow=true:=by
 unfold joinedFacts
 exact (kO (kO (kO (kO (kO (kO (kO (kO (kO (kO (kO (kO (kO (kO (kO (kO (kO (kO (kO (kO (kO (kO (kO (kO (kO (kO (kO (kO (kO (kO (kO zkQ zkR) zkS) zkT) zkU) zkV) zkW) zkX) zkY) zkZ) zj6) zj7) zj8) zj9) zka) zkb) zkc) zkd) zke) zkf) zkg) zkh) zki) zkj) zkk) zkl) zkm) zkn) zko) zkp) zkq) zkr)
end Go.Proofs.YtiapegieocgmfaaGreatDoor
namespace Go.Proofs.YtiapegieocgmfaaGreatDoor
open Go.ChangeShapes Go.WideShapes Go.ChangeAt Go.RowKit Go.Am
theorem zk1:ownKnob Tryz.prog.godebug=none:=by kernel_rfl
theorem zha:laidOutB Tryz.prog=true:=by kernel_rfl
theorem zk3 {W:World} (hL:laidMetH Tryz.prog Rows.viewClonesRow.laid W):∀ c,c < 256->W.cell? ⟨1,c,none⟩=some (.int .u8 (Lib.asciiSpaceTab.getD c 0)) :=
 zne hL (by kernel_rfl) (d:=Rows.laid_strings_asciiSpace) (by simp [Rows.viewClonesRow]) (by kernel_rfl) (by kernel_rfl) (by kernel_rfl) (t:=233) (by kernel_rfl) (e:=5) (by kernel_rfl) (by kernel_rfl) (by kernel_rfl)
noncomputable def zeU (os:Os):World:=World.laidAll Tryz.prog os Rows.viewClonesRow.laid
theorem zk0 (os:Os) (args:Array ab):laidMetH Tryz.prog Rows.viewClonesRow.laid ((zeU os).forCall (λ_ _=>0) ⟨#[],args,[]⟩).memory:=by
 rw [MakeChecks.laidMetH_plain _ _ _ (by kernel_rfl)]
 exact laidMet_laidAll args (by kernel_rfl) (by kernel_rfl)
set_option maxRecDepth 100000 in
theorem znk (h:Heap) (args:List ab) (_:h.low=h.size) (cG:Holds h 1 (.row wX wV true)) (hs:Ay Tryz.prog h 8 Tryz.f3.params.toList args):zP Tryz.prog aD.gs 3 args h λv h'=>v=.bool true/\Ext h h':=by
 have hp:Tryz.f3.params.toList=[28,29,29,9]:=by kernel_rfl
 have gV:Ay Tryz.prog h 8 [28,29,29,9] args:=ztl hp hs
 clear hs
 obtain ⟨x0,r0,rfl,h0,gV⟩:=SJ gV
 obtain ⟨x1,r1,rfl,h1,gV⟩:=SJ gV
 obtain ⟨x2,r2,rfl,h2,gV⟩:=SJ gV
 obtain ⟨x3,r3,rfl,h3,gV⟩:=SJ gV
 obtain rfl:=zqn gV
 obtain ⟨d0,f0⟩:=zti h0
 obtain ⟨d1,f1⟩:=zr2 h1
 obtain ⟨d2,f2⟩:=zr2 h2
 obtain ⟨d3,rfl⟩:=ztj h3
 exact zm5 d0 d1 d2 d3 x0 x1 x2 h cG f0 f1 f2
set_option maxRecDepth 100000 in
theorem zhF (os:Os) (started:os.Started) (H:Type) (enc:TypeId × ab->H) :
 ReturnsInHanded {} Tryz.checked os 3 .any (λw args=>(Rows.viewClonesSpec.pre enc Tryz.prog Tryz.f3 Rows.viewClonesRow.domain false w args/\laidMetH Tryz.prog Rows.viewClonesRow.laid w)/\sizedMet enc Tryz.prog Tryz.f3 (OpenSpec.ofChange Rows.viewClonesSpec) false w args)
  (Rows.viewClonesSpec.post enc Tryz.prog Tryz.f3 Rows.viewClonesRow.apart Rows.viewClonesRow.fresh Rows.viewClonesRow.handsOn Rows.viewClonesRow.again):=by
 refine returnsInHanded_of_change_and (C:=Tryz.checked) (X:=λw _=>laidMetH Tryz.prog Rows.viewClonesRow.laid w) (λ_ _ _ hh h=>h.of_heap hh) zk1 started (by kernel_rfl) Tryz.func3
  (zrR (enc:=enc) (C:=Tryz.checked) (os:=os) (X:=λw _=>laidMetH Tryz.prog Rows.viewClonesRow.laid w) (zeU os) #[.agg ⟨[.slice none 0 0,.slice none 0 0,.slice none 0 0,.int .i64 0,.int .i64 0,.slice none 0 0,.slice none 0 0]⟩,.slice none 0 0,.slice none 0 0,.string ⟨#[]⟩] 12 (World.laidAll_os _ _ _) (by kernel_rfl) (by kernel_rfl) (by kernel_rfl) (by kernel_rfl) (by kernel_rfl) (zk0 os _)) ?_
 intro W base args ds gs before ez hW amo _ hL _
 exact zmO (T:=aD) (n:=8) (boolT:=4) rfl (zk3 hL) zha rfl (by kernel_rfl) (by kernel_rfl) Tryz.underlying4 (by kernel_rfl) (by kernel_rfl)
  (λds hd=>by
   have hp:Tryz.f3.params.size=4:=by kernel_rfl
   rw [hp] at hd
   match ds,hd with
   | [_,_,_,_],_=>rfl)
  znk ez hW
theorem zk2:Rows.ViewClonesSaid :=
 OpenClaim.holds_of_wide 3 Tryz.f3 rfl rfl rfl rfl rfl rfl rfl ⟨rfl,rfl,rfl,rfl,rfl⟩ rfl rfl rfl rfl rfl (by kernel_rfl) Tryz.func3 znj
  (of_decide_eq_true (by kernel_rfl)) (by unfold Func.isWrapper;first|(rw [aE (by decide +kernel)];kernel_rfl)|(rw [az (by decide +kernel)];exact ⟨rfl,rfl⟩))
  (λos started H enc _=>zhF os started H enc)
theorem zil:Tryz.f3.params.toList.all (λt => !Tryz.prog.wantsStandIn t)=true:=by kernel_rfl
theorem viewClones_holds:Rows.ViewClonesCardSaid :=
 Claim7.holds_tied_plain_at .later [] [.listed,.data] true (true,"86ddab0d3952f5d9cdf46073964e85e9921306fd335df94d91590056f64f9129") true
  zk2 (λ_ h=>by cases h) (by kernel_rfl) (λ_ h=>by cases h) viewClones_row_tie rfl ⟨rfl,rfl⟩ (by kernel_rfl) rfl
  (λf fn hf vl=>by
   obtain rfl:f=3:=Option.some.inj ((show Tryz.prog.funcNamed "vouchsafe/vouchsafelaw15.ViewClones"=some 3 by kernel_rfl).symm.trans hf) |>.symm
   obtain rfl:fn=Tryz.f3:=(Option.some.inj (Tryz.func3.symm.trans vl)).symm
   refine ⟨by kernel_rfl,λj t ht=>?_⟩
   have h1:=iT.1 zil t (ic (i:=j) (by simpa using ht))
   have h2:Tryz.prog.wantsStandIn t=false:=by
    cases hh:Tryz.prog.wantsStandIn t with
    |false=>rfl
    |true =>
     have h3:(!Tryz.prog.wantsStandIn t)=true:=h1
     rw [hh] at h3
     exact absurd h3 (by decide)
   exact h2)
  (by kernel_rfl)
#print axioms viewClones_holds
end Go.Proofs.YtiapegieocgmfaaGreatDoor
