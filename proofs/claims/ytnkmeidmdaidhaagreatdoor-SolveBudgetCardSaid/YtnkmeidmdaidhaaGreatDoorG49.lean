/- The closed facts of the row SolveBudget, each by itself. No condition. -/
import Derived.Test.YtnkmeidmdaidhaaGreatDoorRows
import Derived.JoinedOf
import Derived.Test.YtnkmeidmdaidhaaGreatDoorG48
import Derived.Test.YtnkmeidmdaidhaaGreatDoorCards
import Derived.Test.YtnkmeidmdaidhaaGreatDoorTie
import Derived.SevenTiedAt
import Derived.LaidHandle
set_option linter.unusedSimpArgs false
namespace Go.Proofs.YtnkmeidmdaidhaaGreatDoor
open Go.ChangeShapes Go.WideShapes Go.ChangeAt Go.RowKit
theorem iA {a b:Bool} (h1:a=true) (h2:b=true):(a && b)=true:=by rw [h1,h2];rfl
theorem zjJ:(Rows.solveBudgetRow.wf (OpenSpec.ofChange Rows.solveBudgetSpec))=true:=by kernel_rfl
theorem zjK:(laidOutB Tryz.prog)=true:=by kernel_rfl
theorem zjL:(mapsRowed Tryz.prog)=true:=by kernel_rfl
theorem zjM:(Tryz.f5.params.all (Tryz.prog.readableRec ·))=true:=by kernel_rfl
theorem zjN:(namedTie Tryz.prog Rows.solveBudgetRow.named Rows.solveBudgetSpec.vars)=true:=by kernel_rfl
theorem zjO:(Rows.solveBudgetRow.stops == [])=true:=by kernel_rfl
theorem zjP:(Tryz.prog.stops == [])=true:=by kernel_rfl
theorem zjQ:(Rows.solveBudgetRow.knobs == [])=true:=by kernel_rfl
theorem zjR:(Tryz.prog.stopKnobs == [])=true:=by kernel_rfl
theorem zjS:(Rows.solveBudgetRow.inPlace == Tryz.prog.inPlace 5)=true:=by kernel_rfl
theorem zhW:(Rows.solveBudgetRow.unfollowed == Tryz.prog.unfollowed 5)=true:=by kernel_rfl
theorem zhX:(Rows.solveBudgetRow.recurses == Tryz.prog.recurses 5)=true:=by kernel_rfl
theorem zhY:(Rows.solveBudgetRow.named == Tryz.prog.varsNamed 5)=true:=by kernel_rfl
theorem zhZ:(Rows.solveBudgetRow.maps == (Tryz.f5.params.toList++Rows.solveBudgetSpec.plain.varTypes Tryz.prog).any (Tryz.prog.mapsRec ·))=true:=by kernel_rfl
theorem zh0:(Rows.solveBudgetRow.ifaces == (Tryz.f5.params.toList++Rows.solveBudgetSpec.plain.varTypes Tryz.prog).any (Tryz.prog.ifacesRec ·))=true:=by kernel_rfl
theorem zh1:(Rows.solveBudgetRow.mapsOut == Tryz.prog.mapsAmong Tryz.f5.resultTypes.toList)=true:=by kernel_rfl
theorem zh2:(Rows.solveBudgetRow.loops == (Tryz.f5.params.toList++Rows.solveBudgetSpec.plain.varTypes Tryz.prog).any (Tryz.prog.loopsFrom ·))=true:=by kernel_rfl
theorem zh3:(Rows.solveBudgetRow.wideKeys == (Tryz.f5.params.toList++Rows.solveBudgetSpec.plain.varTypes Tryz.prog++Tryz.f5.resultTypes.toList).any (Tryz.prog.wideKeysFrom ·))=true:=by kernel_rfl
theorem zh4:(Rows.solveBudgetSpec.vars.all (Tryz.prog.varReadable ·))=true:=by kernel_rfl
theorem zh5:(Tryz.f5.resultTypes.all (λt=>Tryz.prog.readableRec t && decide (t < Tryz.prog.types.size)))=true:=by kernel_rfl
theorem zh6:(Rows.solveBudgetRow.ifacesOut == Tryz.f5.resultTypes.toList.any (Tryz.prog.ifacesRec ·))=true:=by kernel_rfl
theorem zh7:(Rows.solveBudgetRow.loopsOut == Tryz.f5.resultTypes.toList.any (Tryz.prog.loopsFrom ·))=true:=by kernel_rfl
theorem zh8:(Rows.solveBudgetRow.plainKeys == Tryz.prog.plainKeys)=true:=by kernel_rfl
theorem zh9:(Rows.solveBudgetRow.shortTexts.isNone)=true:=by kernel_rfl
theorem zia:(Tryz.prog.stopsHeard)=true:=by kernel_rfl
theorem zib:(Tryz.prog.mayEnter)=true:=by kernel_rfl
theorem zic:(Rows.solveBudgetRow.lifted == Tryz.prog.liftsFinal)=true:=by kernel_rfl
theorem zid:(Tryz.prog.make == some Rows.solveBudgetRow.make)=true:=by kernel_rfl
theorem zie:(Rows.solveBudgetRow.kinds == (if Rows.solveBudgetRow.domain.isEmpty then [] else Tryz.f5.params.toList.map λt=>match Tryz.prog.underlying t with|some (.int k)=>some k|_=>none))=true:=by kernel_rfl
theorem zif:(Rows.solveBudgetRow.pinned == Rows.solveBudgetRow.pinnedBy)=true:=by kernel_rfl
theorem zig:(Rows.solveBudgetRow.veiled == (Tryz.f5.params.toList++Rows.solveBudgetSpec.plain.varTypes Tryz.prog++Tryz.f5.resultTypes.toList).any (Tryz.prog.veiledRec ·))=true:=by kernel_rfl
theorem zih:(Rows.solveBudgetRow.veiledFits Tryz.prog Tryz.f5.params.toList (Tryz.f5.params.toList++Rows.solveBudgetSpec.plain.varTypes Tryz.prog++Tryz.f5.resultTypes.toList))=true:=by kernel_rfl
set_option maxRecDepth 100000 in
theorem zkj:joinedFacts Tryz.prog 5 Tryz.f5 Rows.solveBudgetSpec Rows.solveBudgetRow=true:=by
 unfold joinedFacts
 exact (iA (iA (iA (iA (iA (iA (iA (iA (iA (iA (iA (iA (iA (iA (iA (iA (iA (iA (iA (iA (iA (iA (iA (iA (iA (iA (iA (iA (iA (iA (iA zjJ zjK) zjL) zjM) zjN) zjO) zjP) zjQ) zjR) zjS) zhW) zhX) zhY) zhZ) zh0) zh1) zh2) zh3) zh4) zh5) zh6) zh7) zh8) zh9) zia) zib) zic) zid) zie) zif) zig) zih)
end Go.Proofs.YtnkmeidmdaidhaaGreatDoor
namespace Go.Proofs.YtnkmeidmdaidhaaGreatDoor
open Go.ChangeShapes Go.WideShapes Go.ChangeAt Go.RowKit Go.Am
theorem zjU:ownKnob Tryz.prog.godebug=none:=by kernel_rfl
theorem zfU:laidOutB Tryz.prog=true:=by kernel_rfl
theorem zjW {W:World} (hL:laidMetH Tryz.prog Rows.solveBudgetRow.laid W):∀ c,c < 256->W.cell? ⟨1,c,none⟩=some (.int .u8 (Lib.asciiSpaceTab.getD c 0)) :=
 zl8 hL (by kernel_rfl) (d:=Rows.laid_strings_asciiSpace) (by simp [Rows.solveBudgetRow]) (by kernel_rfl) (by kernel_rfl) (by kernel_rfl) (t:=175) (by kernel_rfl) (e:=5) (by kernel_rfl) (by kernel_rfl) (by kernel_rfl)
noncomputable def Zj (os:Os):World:=World.laidAll Tryz.prog os Rows.solveBudgetRow.laid
theorem zjT (os:Os) (args:Array ai):laidMetH Tryz.prog Rows.solveBudgetRow.laid ((Zj os).forCall (λ_ _=>0) ⟨#[],args,[]⟩).memory:=by
 rw [MakeChecks.laidMetH_plain _ _ _ (by kernel_rfl)]
 exact laidMet_laidAll args (by kernel_rfl) (by kernel_rfl)
set_option maxRecDepth 100000 in
theorem zkk (h:Heap) (args:List ai) (_:h.low=h.size) (cY:ak h 1 (.row rX rV true)) (hs:vR Tryz.prog h 8 Tryz.f5.params.toList args):Ok Tryz.prog aH ov 5 args h λv h'=>v=.bool true/\Ext h h':=by
 have hp:Tryz.f5.params.toList=[22,23,28,3]:=by kernel_rfl
 have eX:vR Tryz.prog h 8 [22,23,28,3] args:=zr1 hp hs
 clear hs
 obtain ⟨x0,r0,rfl,h0,eX⟩:=LW eX
 obtain ⟨x1,r1,rfl,h1,eX⟩:=LW eX
 obtain ⟨x2,r2,rfl,h2,eX⟩:=LW eX
 obtain ⟨x3,r3,rfl,h3,eX⟩:=LW eX
 obtain rfl:=zoY eX
 obtain ⟨d0,f0⟩:=zoX h0
 obtain ⟨d1,f1⟩:=zt1 h1
 obtain ⟨d2,rfl⟩:=zwn h2
 obtain ⟨d3,rfl,w3⟩:=zyz h3
 exact zki d0 d1 d2 d3 x0 x1 h cY f0 f1 _ (λh' x=>⟨rfl,x⟩)
set_option maxRecDepth 100000 in
theorem zgs (os:Os) (started:os.Started) (H:Type) (enc:TypeId × ai->H) :
 ReturnsInHanded {} Tryz.checked os 5 .any (λw args=>(Rows.solveBudgetSpec.pre enc Tryz.prog Tryz.f5 Rows.solveBudgetRow.domain false w args/\laidMetH Tryz.prog Rows.solveBudgetRow.laid w)/\sizedMet enc Tryz.prog Tryz.f5 (OpenSpec.ofChange Rows.solveBudgetSpec) false w args)
  (Rows.solveBudgetSpec.post enc Tryz.prog Tryz.f5 Rows.solveBudgetRow.apart Rows.solveBudgetRow.fresh Rows.solveBudgetRow.handsOn Rows.solveBudgetRow.again):=by
 refine returnsInHanded_of_change_and (C:=Tryz.checked) (X:=λw _=>laidMetH Tryz.prog Rows.solveBudgetRow.laid w) (λ_ _ _ hh h=>h.of_heap hh) zjU started (by kernel_rfl) Tryz.func5
  (zqt (enc:=enc) (C:=Tryz.checked) (os:=os) (X:=λw _=>laidMetH Tryz.prog Rows.solveBudgetRow.laid w) (Zj os) #[.slice none 0 0,.slice none 0 0,.agg ⟨ah.cells⟩,.int .i64 0] 12 (World.laidAll_os _ _ _) (by kernel_rfl) (by kernel_rfl) (by kernel_rfl) (by kernel_rfl) (by kernel_rfl) (zjT os _)) ?_
 intro W base args ds gs before eg hW aeZ _ hL _
 exact zlJ (n:=8) (boolT:=4) mixed yb rfl zBv rfl (zjW hL) zfU rfl (by kernel_rfl) (by kernel_rfl) Tryz.underlying4 (by kernel_rfl) (by kernel_rfl)
  (λds hd=>by
   have hp:Tryz.f5.params.size=4:=by kernel_rfl
   rw [hp] at hd
   match ds,hd with
   | [_,_,_,_],_=>rfl)
  zkk eg hW
theorem zjV:Rows.SolveBudgetSaid :=
 OpenClaim.holds_of_wide 5 Tryz.f5 rfl rfl rfl rfl rfl rfl rfl ⟨rfl,rfl,rfl,rfl,rfl⟩ rfl rfl rfl rfl rfl (by kernel_rfl) Tryz.func5 zkj
  (of_decide_eq_true (by kernel_rfl)) (by unfold Func.isWrapper;first|(rw [aG (by decide +kernel)];kernel_rfl)|(rw [aA (by decide +kernel)];exact ⟨rfl,rfl⟩))
  (λos started H enc _=>zgs os started H enc)
theorem zg7:Tryz.f5.params.toList.all (λt => !Tryz.prog.wantsStandIn t)=true:=by kernel_rfl
theorem solveBudget_holds:Rows.SolveBudgetCardSaid :=
 Claim7.holds_tied_plain_at .later [] [.data,.data,.data,.listed,.data] true (true,"0d1e74668ec9f2094d98032b37a8cde79563d2bfdd718045ae666153a4be0c1d") false
  zjV (λ_ h=>by cases h) (by kernel_rfl) (λ_ h=>by cases h) solveBudget_row_tie rfl ⟨rfl,rfl⟩ (by kernel_rfl) rfl
  (λf fn hf kx=>by
   obtain rfl:f=5:=Option.some.inj ((show Tryz.prog.funcNamed "vouchsafe/vouchsafelaw19.SolveBudget"=some 5 by kernel_rfl).symm.trans hf) |>.symm
   obtain rfl:fn=Tryz.f5:=(Option.some.inj (Tryz.func5.symm.trans kx)).symm
   refine ⟨by kernel_rfl,λj t ht=>?_⟩
   have h1:=gz.1 zg7 t (fV (i:=j) (by simpa using ht))
   have h2:Tryz.prog.wantsStandIn t=false:=by
    cases hh:Tryz.prog.wantsStandIn t with
    |false=>rfl
    |true =>
     have h3:(!Tryz.prog.wantsStandIn t)=true:=h1
     rw [hh] at h3
     exact absurd h3 (by decide)
   exact h2)
  (by kernel_rfl)
#print axioms solveBudget_holds
end Go.Proofs.YtnkmeidmdaidhaaGreatDoor
