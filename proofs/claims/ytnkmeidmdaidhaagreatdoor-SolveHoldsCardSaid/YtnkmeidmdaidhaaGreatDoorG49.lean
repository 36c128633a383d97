/- The closed facts of the row SolveHolds, each by itself. No condition. -/
import Derived.Test.YtnkmeidmdaidhaaGreatDoorRows
import Derived.JoinedOf
import Derived.Test.YtnkmeidmdaidhaaGreatDoorG48
import Derived.Test.YtnkmeidmdaidhaaGreatDoorCards
import Derived.Test.YtnkmeidmdaidhaaGreatDoorTie
import Derived.SevenTiedAt
import Derived.LaidHandle
set_option linter.unusedSimpArgs false
namespace Go.Proofs.YtnkmeidmdaidhaaGreatDoor
open Go.ChangeShapes Go.WideShapes Go.ChangeAt Go.RowKit
theorem jA {a b:Bool} (h1:a=true) (h2:b=true):(a && b)=true:=by rw [h1,h2];rfl
theorem zkK:(Rows.solveHoldsRow.wf (OpenSpec.ofChange Rows.solveHoldsSpec))=true:=by kernel_rfl
theorem zkL:(laidOutB Tryz.prog)=true:=by kernel_rfl
theorem zkM:(mapsRowed Tryz.prog)=true:=by kernel_rfl
theorem zkN:(Tryz.f4.params.all (Tryz.prog.readableRec ·))=true:=by kernel_rfl
theorem zkO:(namedTie Tryz.prog Rows.solveHoldsRow.named Rows.solveHoldsSpec.vars)=true:=by kernel_rfl
theorem zkP:(Rows.solveHoldsRow.stops == [])=true:=by kernel_rfl
theorem zkQ:(Tryz.prog.stops == [])=true:=by kernel_rfl
theorem zkR:(Rows.solveHoldsRow.knobs == [])=true:=by kernel_rfl
theorem zkS:(Tryz.prog.stopKnobs == [])=true:=by kernel_rfl
theorem zkT:(Rows.solveHoldsRow.inPlace == Tryz.prog.inPlace 4)=true:=by kernel_rfl
theorem zj0:(Rows.solveHoldsRow.unfollowed == Tryz.prog.unfollowed 4)=true:=by kernel_rfl
theorem zj1:(Rows.solveHoldsRow.recurses == Tryz.prog.recurses 4)=true:=by kernel_rfl
theorem zj2:(Rows.solveHoldsRow.named == Tryz.prog.varsNamed 4)=true:=by kernel_rfl
theorem zj3:(Rows.solveHoldsRow.maps == (Tryz.f4.params.toList++Rows.solveHoldsSpec.plain.varTypes Tryz.prog).any (Tryz.prog.mapsRec ·))=true:=by kernel_rfl
theorem zj4:(Rows.solveHoldsRow.ifaces == (Tryz.f4.params.toList++Rows.solveHoldsSpec.plain.varTypes Tryz.prog).any (Tryz.prog.ifacesRec ·))=true:=by kernel_rfl
theorem zj5:(Rows.solveHoldsRow.mapsOut == Tryz.prog.mapsAmong Tryz.f4.resultTypes.toList)=true:=by kernel_rfl
theorem zj6:(Rows.solveHoldsRow.loops == (Tryz.f4.params.toList++Rows.solveHoldsSpec.plain.varTypes Tryz.prog).any (Tryz.prog.loopsFrom ·))=true:=by kernel_rfl
theorem zj7:(Rows.solveHoldsRow.wideKeys == (Tryz.f4.params.toList++Rows.solveHoldsSpec.plain.varTypes Tryz.prog++Tryz.f4.resultTypes.toList).any (Tryz.prog.wideKeysFrom ·))=true:=by kernel_rfl
theorem zj8:(Rows.solveHoldsSpec.vars.all (Tryz.prog.varReadable ·))=true:=by kernel_rfl
theorem zj9:(Tryz.f4.resultTypes.all (λt=>Tryz.prog.readableRec t && decide (t < Tryz.prog.types.size)))=true:=by kernel_rfl
theorem zka:(Rows.solveHoldsRow.ifacesOut == Tryz.f4.resultTypes.toList.any (Tryz.prog.ifacesRec ·))=true:=by kernel_rfl
theorem zkb:(Rows.solveHoldsRow.loopsOut == Tryz.f4.resultTypes.toList.any (Tryz.prog.loopsFrom ·))=true:=by kernel_rfl
theorem zkc:(Rows.solveHoldsRow.plainKeys == Tryz.prog.plainKeys)=true:=by kernel_rfl
theorem zkd:(Rows.solveHoldsRow.shortTexts.isNone)=true:=by kernel_rfl
theorem zke:(Tryz.prog.stopsHeard)=true:=by kernel_rfl
theorem zkf:(Tryz.prog.mayEnter)=true:=by kernel_rfl
theorem zkg:(Rows.solveHoldsRow.lifted == Tryz.prog.liftsFinal)=true:=by kernel_rfl
theorem zkh:(Tryz.prog.make == some Rows.solveHoldsRow.make)=true:=by kernel_rfl
theorem zki:(Rows.solveHoldsRow.kinds == (if Rows.solveHoldsRow.domain.isEmpty then [] else Tryz.f4.params.toList.map λt=>match Tryz.prog.underlying t with|some (.int k)=>some k|_=>none))=true:=by kernel_rfl
theorem zkj:(Rows.solveHoldsRow.pinned == Rows.solveHoldsRow.pinnedBy)=true:=by kernel_rfl
theorem zkk:(Rows.solveHoldsRow.veiled == (Tryz.f4.params.toList++Rows.solveHoldsSpec.plain.varTypes Tryz.prog++Tryz.f4.resultTypes.toList).any (Tryz.prog.veiledRec ·))=true:=by kernel_rfl
theorem zkl:(Rows.solveHoldsRow.veiledFits Tryz.prog Tryz.f4.params.toList (Tryz.f4.params.toList++Rows.solveHoldsSpec.plain.varTypes Tryz.prog++Tryz.f4.resultTypes.toList))=true:=by kernel_rfl
set_option maxRecDepth 100000 in
theorem zmY:joinedFacts Tryz.prog 4 Tryz.f4 Rows.solveHoldsSpec Rows.solveHoldsRow=true:=by
 unfold joinedFacts
 exact (jA (jA (jA (jA (jA (jA (jA (jA (jA (jA (jA (jA (jA (jA (jA (jA (jA (jA (jA (jA (jA (jA (jA (jA (jA (jA (jA (jA (jA (jA (jA zkK zkL) zkM) zkN) zkO) zkP) zkQ) zkR) zkS) zkT) zj0) zj1) zj2) zj3) zj4) zj5) zj6) zj7) zj8) zj9) zka) zkb) zkc) zkd) zke) zkf) zkg) zkh) zki) zkj) zkk) zkl)
end Go.Proofs.YtnkmeidmdaidhaaGreatDoor
namespace Go.Proofs.YtnkmeidmdaidhaaGreatDoor
open Go.ChangeShapes Go.WideShapes Go.ChangeAt Go.RowKit Go.Am
theorem zkV:ownKnob Tryz.prog.godebug=none:=by kernel_rfl
theorem zg5:laidOutB Tryz.prog=true:=by kernel_rfl
theorem zkX {W:World} (hL:laidMetH Tryz.prog Rows.solveHoldsRow.laid W):∀ c,c < 256->W.cell? ⟨1,c,none⟩=some (.int .u8 (Lib.asciiSpaceTab.getD c 0)) :=
 zm0 hL (by kernel_rfl) (d:=Rows.laid_strings_asciiSpace) (by simp [Rows.solveHoldsRow]) (by kernel_rfl) (by kernel_rfl) (by kernel_rfl) (t:=175) (by kernel_rfl) (e:=5) (by kernel_rfl) (by kernel_rfl) (by kernel_rfl)
noncomputable def zeR (os:Os):World:=World.laidAll Tryz.prog os Rows.solveHoldsRow.laid
theorem zkU (os:Os) (args:Array ai):laidMetH Tryz.prog Rows.solveHoldsRow.laid ((zeR os).forCall (λ_ _=>0) ⟨#[],args,[]⟩).memory:=by
 rw [MakeChecks.laidMetH_plain _ _ _ (by kernel_rfl)]
 exact laidMet_laidAll args (by kernel_rfl) (by kernel_rfl)
set_option maxRecDepth 100000 in
theorem zmZ (h:Heap) (args:List ai) (_:h.low=h.size) (dq:ak h 1 (.row uo uk true)) (hs:xV Tryz.prog h 8 Tryz.f4.params.toList args):Ok Tryz.prog aJ ov 4 args h λv h'=>v=.bool true/\Ext h h':=by
 have hp:Tryz.f4.params.toList=[22,23,28,3]:=by kernel_rfl
 have eE:xV Tryz.prog h 8 [22,23,28,3] args:=zsZ hp hs
 clear hs
 obtain ⟨x0,r0,rfl,h0,eE⟩:=NP eE
 obtain ⟨x1,r1,rfl,h1,eE⟩:=NP eE
 obtain ⟨x2,r2,rfl,h2,eE⟩:=NP eE
 obtain ⟨x3,r3,rfl,h3,eE⟩:=NP eE
 obtain rfl:=zpY eE
 obtain ⟨d0,f0⟩:=zpX h0
 obtain ⟨d1,f1⟩:=zuY h1
 obtain ⟨d2,rfl⟩:=zxw h2
 obtain ⟨d3,rfl,w3⟩:=zzF h3
 exact zmM d0 d1 d2 d3 x0 x1 h dq f0 f1 _ (λh' x=>⟨rfl,x⟩)
set_option maxRecDepth 100000 in
theorem zhJ (os:Os) (started:os.Started) (H:Type) (enc:TypeId × ai->H) :
 ReturnsInHanded {} Tryz.checked os 4 .any (λw args=>(Rows.solveHoldsSpec.pre enc Tryz.prog Tryz.f4 Rows.solveHoldsRow.domain false w args/\laidMetH Tryz.prog Rows.solveHoldsRow.laid w)/\sizedMet enc Tryz.prog Tryz.f4 (OpenSpec.ofChange Rows.solveHoldsSpec) false w args)
  (Rows.solveHoldsSpec.post enc Tryz.prog Tryz.f4 Rows.solveHoldsRow.apart Rows.solveHoldsRow.fresh Rows.solveHoldsRow.handsOn Rows.solveHoldsRow.again):=by
 refine returnsInHanded_of_change_and (C:=Tryz.checked) (X:=λw _=>laidMetH Tryz.prog Rows.solveHoldsRow.laid w) (λ_ _ _ hh h=>h.of_heap hh) zkV started (by kernel_rfl) Tryz.func4
  (zrl (enc:=enc) (C:=Tryz.checked) (os:=os) (X:=λw _=>laidMetH Tryz.prog Rows.solveHoldsRow.laid w) (zeR os) #[.slice none 0 0,.slice none 0 0,.agg ⟨ah.cells⟩,.int .i64 0] 12 (World.laidAll_os _ _ _) (by kernel_rfl) (by kernel_rfl) (by kernel_rfl) (by kernel_rfl) (by kernel_rfl) (zkU os _)) ?_
 intro W base args ds gs before eX hW ahs _ hL _
 exact zmt (n:=8) (boolT:=4) mixed zT rfl zCB rfl (zkX hL) zg5 rfl (by kernel_rfl) (by kernel_rfl) Tryz.underlying4 (by kernel_rfl) (by kernel_rfl)
  (λds hd=>by
   have hp:Tryz.f4.params.size=4:=by kernel_rfl
   rw [hp] at hd
   match ds,hd with
   | [_,_,_,_],_=>rfl)
  zmZ eX hW
theorem zkW:Rows.SolveHoldsSaid :=
 OpenClaim.holds_of_wide 4 Tryz.f4 rfl rfl rfl rfl rfl rfl rfl ⟨rfl,rfl,rfl,rfl,rfl⟩ rfl rfl rfl rfl rfl (by kernel_rfl) Tryz.func4 zmY
  (of_decide_eq_true (by kernel_rfl)) (by unfold Func.isWrapper;first|(rw [aB (by decide +kernel)];kernel_rfl)|(rw [aA (by decide +kernel)];exact ⟨rfl,rfl⟩))
  (λos started H enc _=>zhJ os started H enc)
theorem ziu:Tryz.f4.params.toList.all (λt => !Tryz.prog.wantsStandIn t)=true:=by kernel_rfl
theorem solveHolds_holds:Rows.SolveHoldsCardSaid :=
 Claim7.holds_tied_plain_at .later [] [.data,.data,.data,.listed,.data] true (true,"0d1e74668ec9f2094d98032b37a8cde79563d2bfdd718045ae666153a4be0c1d") false
  zkW (λ_ h=>by cases h) (by kernel_rfl) (λ_ h=>by cases h) solveHolds_row_tie rfl ⟨rfl,rfl⟩ (by kernel_rfl) rfl
  (λf fn hf kT=>by
   obtain rfl:f=4:=Option.some.inj ((show Tryz.prog.funcNamed "vouchsafe/vouchsafelaw19.SolveHolds"=some 4 by kernel_rfl).symm.trans hf) |>.symm
   obtain rfl:fn=Tryz.f4:=(Option.some.inj (Tryz.func4.symm.trans kT)).symm
   refine ⟨by kernel_rfl,λj t ht=>?_⟩
   have h1:=jE.1 ziu t (ek (i:=j) (by simpa using ht))
   have h2:Tryz.prog.wantsStandIn t=false:=by
    cases hh:Tryz.prog.wantsStandIn t with
    |false=>rfl
    |true =>
     have h3:(!Tryz.prog.wantsStandIn t)=true:=h1
     rw [hh] at h3
     exact absurd h3 (by decide)
   exact h2)
  (by kernel_rfl)
#print axioms solveHolds_holds
end Go.Proofs.YtnkmeidmdaidhaaGreatDoor
