/- The closed facts of the row SolveFacts, each by itself. No condition. -/
import Derived.Test.YtnkmeidmdaidhaaGreatDoorRows
import Derived.JoinedOf
import Derived.Test.YtnkmeidmdaidhaaGreatDoorG48
import Derived.Test.YtnkmeidmdaidhaaGreatDoorCards
import Derived.Test.YtnkmeidmdaidhaaGreatDoorTie
import Derived.SevenTiedAt
import Derived.LaidHandle
set_option linter.unusedSimpArgs false
namespace Go.Proofs.YtnkmeidmdaidhaaGreatDoor
open Go.ChangeShapes Go.WideShapes Go.ChangeAt Go.RowKit
theorem jU {a b:Bool} (h1:a=true) (h2:b=true):(a && b)=true:=by rw [h1,h2];rfl
theorem zkS:(Rows.solveFactsRow.wf (OpenSpec.ofChange Rows.solveFactsSpec))=true:=by kernel_rfl
theorem zkT:(laidOutB Tryz.prog)=true:=by kernel_rfl
theorem zkU:(mapsRowed Tryz.prog)=true:=by kernel_rfl
theorem zkV:(Tryz.f3.params.all (Tryz.prog.readableRec ·))=true:=by kernel_rfl
theorem zkW:(namedTie Tryz.prog Rows.solveFactsRow.named Rows.solveFactsSpec.vars)=true:=by kernel_rfl
theorem zkX:(Rows.solveFactsRow.stops == [])=true:=by kernel_rfl
theorem zkY:(Tryz.prog.stops == [])=true:=by kernel_rfl
theorem zkZ:(Rows.solveFactsRow.knobs == [])=true:=by kernel_rfl
theorem zk0:(Tryz.prog.stopKnobs == [])=true:=by kernel_rfl
theorem zk1:(Rows.solveFactsRow.inPlace == Tryz.prog.inPlace 3)=true:=by kernel_rfl
theorem zkc:(Rows.solveFactsRow.unfollowed == Tryz.prog.unfollowed 3)=true:=by kernel_rfl
theorem zkd:(Rows.solveFactsRow.recurses == Tryz.prog.recurses 3)=true:=by kernel_rfl
theorem zke:(Rows.solveFactsRow.named == Tryz.prog.varsNamed 3)=true:=by kernel_rfl
theorem zkf:(Rows.solveFactsRow.maps == (Tryz.f3.params.toList++Rows.solveFactsSpec.plain.varTypes Tryz.prog).any (Tryz.prog.mapsRec ·))=true:=by kernel_rfl
theorem zkg:(Rows.solveFactsRow.ifaces == (Tryz.f3.params.toList++Rows.solveFactsSpec.plain.varTypes Tryz.prog).any (Tryz.prog.ifacesRec ·))=true:=by kernel_rfl
theorem zkh:(Rows.solveFactsRow.mapsOut == Tryz.prog.mapsAmong Tryz.f3.resultTypes.toList)=true:=by kernel_rfl
theorem zki:(Rows.solveFactsRow.loops == (Tryz.f3.params.toList++Rows.solveFactsSpec.plain.varTypes Tryz.prog).any (Tryz.prog.loopsFrom ·))=true:=by kernel_rfl
theorem zkj:(Rows.solveFactsRow.wideKeys == (Tryz.f3.params.toList++Rows.solveFactsSpec.plain.varTypes Tryz.prog++Tryz.f3.resultTypes.toList).any (Tryz.prog.wideKeysFrom ·))=true:=by kernel_rfl
theorem zkk:(Rows.solveFactsSpec.vars.all (Tryz.prog.varReadable ·))=true:=by kernel_rfl
theorem zkl:(Tryz.f3.resultTypes.all (λt=>Tryz.prog.readableRec t && decide (t < Tryz.prog.types.size)))=true:=by kernel_rfl
theorem zkm:(Rows.solveFactsRow.ifacesOut == Tryz.f3.resultTypes.toList.any (Tryz.prog.ifacesRec ·))=true:=by kernel_rfl
theorem zkn:(Rows.solveFactsRow.loopsOut == Tryz.f3.resultTypes.toList.any (Tryz.prog.loopsFrom ·))=true:=by kernel_rfl
theorem zko:(Rows.solveFactsRow.plainKeys == Tryz.prog.plainKeys)=true:=by kernel_rfl
theorem zkp:(Rows.solveFactsRow.shortTexts.isNone)=true:=by kernel_rfl
theorem zkq:(Tryz.prog.stopsHeard)=true:=by kernel_rfl
theorem zkr:(Tryz.prog.mayEnter)=true:=by kernel_rfl
theorem zks:(Rows.solveFactsRow.lifted == Tryz.prog.liftsFinal)=true:=by kernel_rfl
theorem zkt:(Tryz.prog.make == some Rows.solveFactsRow.make)=true:=by kernel_rfl
theorem zku:(Rows.solveFactsRow.kinds == (if Rows.solveFactsRow.domain.isEmpty then [] else Tryz.f3.params.toList.map λt=>match Tryz.prog.underlying t with|some (.int k)=>some k|_=>none))=true:=by kernel_rfl
theorem zkv:(Rows.solveFactsRow.pinned == Rows.solveFactsRow.pinnedBy)=true:=by kernel_rfl
theorem zkw:(Rows.solveFactsRow.veiled == (Tryz.f3.params.toList++Rows.solveFactsSpec.plain.varTypes Tryz.prog++Tryz.f3.resultTypes.toList).any (Tryz.prog.veiledRec ·))=true:=by kernel_rfl
theorem zkx:(Rows.solveFactsRow.veiledFits Tryz.prog Tryz.f3.params.toList (Tryz.f3.params.toList++Rows.solveFactsSpec.plain.varTypes Tryz.prog++Tryz.f3.resultTypes.toList))=true:=by kernel_rfl
set_option maxRecDepth 100000 in
theorem znc:joinedFacts Tryz.prog 3 Tryz.f3 Rows.solveFactsSpec Rows.solveFactsRow=true:=by
 unfold joinedFacts
 exact (jU (jU (jU (jU (jU (jU (jU (jU (jU (jU (jU (jU (jU (jU (jU (jU (jU (jU (jU (jU (jU (jU (jU (jU (jU (jU (jU (jU (jU (jU (jU zkS zkT) zkU) zkV) zkW) zkX) zkY) zkZ) zk0) zk1) zkc) zkd) zke) zkf) zkg) zkh) zki) zkj) zkk) zkl) zkm) zkn) zko) zkp) zkq) zkr) zks) zkt) zku) zkv) zkw) zkx)
end Go.Proofs.YtnkmeidmdaidhaaGreatDoor
namespace Go.Proofs.YtnkmeidmdaidhaaGreatDoor
open Go.ChangeShapes Go.WideShapes Go.ChangeAt Go.RowKit Go.Am
theorem zk3:ownKnob Tryz.prog.godebug=none:=by kernel_rfl
theorem zhf:laidOutB Tryz.prog=true:=by kernel_rfl
theorem zk5 {W:World} (hL:laidMetH Tryz.prog Rows.solveFactsRow.laid W):∀ c,c < 256->W.cell? ⟨1,c,none⟩=some (.int .u8 (Lib.asciiSpaceTab.getD c 0)) :=
 zne hL (by kernel_rfl) (d:=Rows.laid_strings_asciiSpace) (by simp [Rows.solveFactsRow]) (by kernel_rfl) (by kernel_rfl) (by kernel_rfl) (t:=175) (by kernel_rfl) (e:=5) (by kernel_rfl) (by kernel_rfl) (by kernel_rfl)
noncomputable def ze5 (os:Os):World:=World.laidAll Tryz.prog os Rows.solveFactsRow.laid
theorem zk2 (os:Os) (args:Array ai):laidMetH Tryz.prog Rows.solveFactsRow.laid ((ze5 os).forCall (λ_ _=>0) ⟨#[],args,[]⟩).memory:=by
 rw [MakeChecks.laidMetH_plain _ _ _ (by kernel_rfl)]
 exact laidMet_laidAll args (by kernel_rfl) (by kernel_rfl)
set_option maxRecDepth 100000 in
theorem znd (h:Heap) (args:List ai) (_:h.low=h.size) (dD:Holds h 1 (.row u6 uY true)) (hs:yR Tryz.prog h 8 Tryz.f3.params.toList args):Ok Tryz.prog aH ov 3 args h λv h'=>v=.bool true/\Ext h h':=by
 have hp:Tryz.f3.params.toList=[22,23,28,29]:=by kernel_rfl
 have eQ:yR Tryz.prog h 8 [22,23,28,29] args:=ztG hp hs
 clear hs
 obtain ⟨x0,r0,rfl,h0,eQ⟩:=PG eQ
 obtain ⟨x1,r1,rfl,h1,eQ⟩:=PG eQ
 obtain ⟨x2,r2,rfl,h2,eQ⟩:=PG eQ
 obtain ⟨x3,r3,rfl,h3,eQ⟩:=PG eQ
 obtain rfl:=zqp eQ
 obtain ⟨d0,f0⟩:=zqn h0
 obtain ⟨d1,f1⟩:=zvN h1
 obtain ⟨d2,rfl⟩:=zyw h2
 obtain ⟨d3,f3⟩:=zqo h3
 exact zm2 d0 d1 d2 d3 x0 x1 x3 h dD f0 f1 f3 _ (λh' x=>⟨rfl,x⟩)
set_option maxRecDepth 100000 in
theorem zhW (os:Os) (started:os.Started) (H:Type) (enc:TypeId × ai->H) :
 ReturnsInHanded {} Tryz.checked os 3 .any (λw args=>(Rows.solveFactsSpec.pre enc Tryz.prog Tryz.f3 Rows.solveFactsRow.domain false w args/\laidMetH Tryz.prog Rows.solveFactsRow.laid w)/\sizedMet enc Tryz.prog Tryz.f3 (OpenSpec.ofChange Rows.solveFactsSpec) false w args)
  (Rows.solveFactsSpec.post enc Tryz.prog Tryz.f3 Rows.solveFactsRow.apart Rows.solveFactsRow.fresh Rows.solveFactsRow.handsOn Rows.solveFactsRow.again):=by
 refine returnsInHanded_of_change_and (C:=Tryz.checked) (X:=λw _=>laidMetH Tryz.prog Rows.solveFactsRow.laid w) (λ_ _ _ hh h=>h.of_heap hh) zk3 started (by kernel_rfl) Tryz.func3
  (zrV (enc:=enc) (C:=Tryz.checked) (os:=os) (X:=λw _=>laidMetH Tryz.prog Rows.solveFactsRow.laid w) (ze5 os) #[.slice none 0 0,.slice none 0 0,.agg ⟨ah.cells⟩,.slice none 0 0] 12 (World.laidAll_os _ _ _) (by kernel_rfl) (by kernel_rfl) (by kernel_rfl) (by kernel_rfl) (by kernel_rfl) (zk2 os _)) ?_
 intro W base args ds gs before fo hW akb _ hL _
 exact zmI (n:=8) (boolT:=4) mixed Bm rfl zEf rfl (zk5 hL) zhf rfl (by kernel_rfl) (by kernel_rfl) Tryz.underlying4 (by kernel_rfl) (by kernel_rfl)
  (λds hd=>by
   have hp:Tryz.f3.params.size=4:=by kernel_rfl
   rw [hp] at hd
   match ds,hd with
   | [_,_,_,_],_=>rfl)
  znd fo hW
theorem zk4:Rows.SolveFactsSaid :=
 OpenClaim.holds_of_wide 3 Tryz.f3 rfl rfl rfl rfl rfl rfl rfl ⟨rfl,rfl,rfl,rfl,rfl⟩ rfl rfl rfl rfl rfl (by kernel_rfl) Tryz.func3 znc
  (of_decide_eq_true (by kernel_rfl)) (by unfold Func.isWrapper;first|(rw [aD (by decide +kernel)];kernel_rfl)|(rw [az (by decide +kernel)];exact ⟨rfl,rfl⟩))
  (λos started H enc _=>zhW os started H enc)
theorem ziE:Tryz.f3.params.toList.all (λt => !Tryz.prog.wantsStandIn t)=true:=by kernel_rfl
theorem solveFacts_holds:Rows.SolveFactsCardSaid :=
 Claim7.holds_tied_plain_at .later [] [.data,.data,.data,.listed,.data] true (true,"0d1e74668ec9f2094d98032b37a8cde79563d2bfdd718045ae666153a4be0c1d") false
  zk4 (λ_ h=>by cases h) (by kernel_rfl) (λ_ h=>by cases h) solveFacts_row_tie rfl ⟨rfl,rfl⟩ (by kernel_rfl) rfl
  (λf fn hf lf=>by
   obtain rfl:f=3:=Option.some.inj ((show Tryz.prog.funcNamed "vouchsafe/vouchsafelaw19.SolveFacts"=some 3 by kernel_rfl).symm.trans hf) |>.symm
   obtain rfl:fn=Tryz.f3:=(Option.some.inj (Tryz.func3.symm.trans lf)).symm
   refine ⟨by kernel_rfl,λj t ht=>?_⟩
   have h1:=iM.1 ziE t (en (i:=j) (by simpa using ht))
   have h2:Tryz.prog.wantsStandIn t=false:=by
    cases hh:Tryz.prog.wantsStandIn t with
    |false=>rfl
    |true =>
     have h3:(!Tryz.prog.wantsStandIn t)=true:=h1
     rw [hh] at h3
     exact absurd h3 (by decide)
   exact h2)
  (by kernel_rfl)
#print axioms solveFacts_holds
end Go.Proofs.YtnkmeidmdaidhaaGreatDoor
