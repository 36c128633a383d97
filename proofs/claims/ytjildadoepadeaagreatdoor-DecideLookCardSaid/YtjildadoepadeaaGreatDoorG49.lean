/- The closed facts of the row DecideLook, each by itself. No condition. -/
import Derived.Test.YtjildadoepadeaaGreatDoorRows
import Derived.JoinedOf
import Derived.Test.YtjildadoepadeaaGreatDoorG48
import Derived.Test.YtjildadoepadeaaGreatDoorCards
import Derived.Test.YtjildadoepadeaaGreatDoorTie
import Derived.SevenTiedAt
import Derived.LaidHandle
set_option linter.unusedSimpArgs false
namespace Go.Proofs.YtjildadoepadeaaGreatDoor
open Go.ChangeShapes Go.WideShapes Go.ChangeAt Go.RowKit
theorem gB {a b:Bool} (h1:a=true) (h2:b=true):(a && b)=true:=by rw [h1,h2];rfl
theorem Yj:(Rows.decideLookRow.wf (OpenSpec.ofChange Rows.decideLookSpec))=true:=by kernel_rfl
theorem Yk:(laidOutB Tryz.prog)=true:=by kernel_rfl
theorem Yl:(mapsRowed Tryz.prog)=true:=by kernel_rfl
theorem Ym:(Tryz.f4.params.all (Tryz.prog.readableRec ·))=true:=by kernel_rfl
theorem Yn:(namedTie Tryz.prog Rows.decideLookRow.named Rows.decideLookSpec.vars)=true:=by kernel_rfl
theorem Yo:(Rows.decideLookRow.stops == [])=true:=by kernel_rfl
theorem X4:(Tryz.prog.stops == [])=true:=by kernel_rfl
theorem X5:(Rows.decideLookRow.knobs == [])=true:=by kernel_rfl
theorem X6:(Tryz.prog.stopKnobs == [])=true:=by kernel_rfl
theorem X7:(Rows.decideLookRow.inPlace == Tryz.prog.inPlace 4)=true:=by kernel_rfl
theorem XI:(Rows.decideLookRow.unfollowed == Tryz.prog.unfollowed 4)=true:=by kernel_rfl
theorem XJ:(Rows.decideLookRow.recurses == Tryz.prog.recurses 4)=true:=by kernel_rfl
theorem XK:(Rows.decideLookRow.named == Tryz.prog.varsNamed 4)=true:=by kernel_rfl
theorem XL:(Rows.decideLookRow.maps == (Tryz.f4.params.toList++Rows.decideLookSpec.plain.varTypes Tryz.prog).any (Tryz.prog.mapsRec ·))=true:=by kernel_rfl
theorem XM:(Rows.decideLookRow.ifaces == (Tryz.f4.params.toList++Rows.decideLookSpec.plain.varTypes Tryz.prog).any (Tryz.prog.ifacesRec ·))=true:=by kernel_rfl
theorem XN:(Rows.decideLookRow.mapsOut == Tryz.prog.mapsAmong Tryz.f4.resultTypes.toList)=true:=by kernel_rfl
theorem XO:(Rows.decideLookRow.loops == (Tryz.f4.params.toList++Rows.decideLookSpec.plain.varTypes Tryz.prog).any (Tryz.prog.loopsFrom ·))=true:=by kernel_rfl
theorem XP:(Rows.decideLookRow.wideKeys == (Tryz.f4.params.toList++Rows.decideLookSpec.plain.varTypes Tryz.prog++Tryz.f4.resultTypes.toList).any (Tryz.prog.wideKeysFrom ·))=true:=by kernel_rfl
theorem XQ:(Rows.decideLookSpec.vars.all (Tryz.prog.varReadable ·))=true:=by kernel_rfl
theorem XR:(Tryz.f4.resultTypes.all (λt=>Tryz.prog.readableRec t && decide (t < Tryz.prog.types.size)))=true:=by kernel_rfl
theorem XS:(Rows.decideLookRow.ifacesOut == Tryz.f4.resultTypes.toList.any (Tryz.prog.ifacesRec ·))=true:=by kernel_rfl
theorem XT:(Rows.decideLookRow.loopsOut == Tryz.f4.resultTypes.toList.any (Tryz.prog.loopsFrom ·))=true:=by kernel_rfl
theorem XU:(Rows.decideLookRow.plainKeys == Tryz.prog.plainKeys)=true:=by kernel_rfl
theorem XV:(Rows.decideLookRow.shortTexts.isNone)=true:=by kernel_rfl
theorem XW:(Tryz.prog.stopsHeard)=true:=by kernel_rfl
theorem XX:(Tryz.prog.mayEnter)=true:=by kernel_rfl
theorem XY:(Rows.decideLookRow.lifted == Tryz.prog.liftsFinal)=true:=by kernel_rfl
theorem XZ:(Tryz.prog.make == some Rows.decideLookRow.make)=true:=by kernel_rfl
theorem X0:(Rows.decideLookRow.kinds == (if Rows.decideLookRow.domain.isEmpty then [] else Tryz.f4.params.toList.map λt=>match Tryz.prog.underlying t with|some (.int k)=>some k|_=>none))=true:=by kernel_rfl
theorem X1:(Rows.decideLookRow.pinned == Rows.decideLookRow.pinnedBy)=true:=by kernel_rfl
theorem X2:(Rows.decideLookRow.veiled == (Tryz.f4.params.toList++Rows.decideLookSpec.plain.varTypes Tryz.prog++Tryz.f4.resultTypes.toList).any (Tryz.prog.veiledRec ·))=true:=by kernel_rfl
theorem X3:(Rows.decideLookRow.veiledFits Tryz.prog Tryz.f4.params.toList (Tryz.f4.params.toList++Rows.decideLookSpec.plain.varTypes Tryz.prog++Tryz.f4.resultTypes.toList))=true:=by kernel_rfl
set_option maxRecDepth 100000 in
theorem Yp:joinedFacts Tryz.prog 4 Tryz.f4 Rows.decideLookSpec Rows.decideLookRow=true:=by
 unfold joinedFacts
 exact (gB (gB (gB (gB (gB (gB (gB (gB (gB (gB (gB (gB (gB (gB (gB (gB (gB (gB (gB (gB (gB (gB (gB (gB (gB (gB (gB (gB (gB (gB (gB Yj Yk) Yl) Ym) Yn) Yo) X4) X5) X6) X7) XI) XJ) XK) XL) XM) XN) XO) XP) XQ) XR) XS) XT) XU) XV) XW) XX) XY) XZ) X0) X1) X2) X3)
end Go.Proofs.YtjildadoepadeaaGreatDoor
namespace Go.Proofs.YtjildadoepadeaaGreatDoor
open Go.ChangeShapes Go.WideShapes Go.ChangeAt Go.RowKit Go.Am
theorem X9:ownKnob Tryz.prog.godebug=none:=by kernel_rfl
theorem Xw:laidOutB Tryz.prog=true:=by kernel_rfl
theorem Yb {W:World} (hL:laidMetH Tryz.prog Rows.decideLookRow.laid W):∀ c,c < 256->W.cell? ⟨1,c,none⟩=some (.int .u8 (Lib.asciiSpaceTab.getD c 0)) :=
 YD hL (by kernel_rfl) (d:=Rows.laid_strings_asciiSpace) (by simp [Rows.decideLookRow]) (by kernel_rfl) (by kernel_rfl) (by kernel_rfl) (t:=325) (by kernel_rfl) (e:=5) (by kernel_rfl) (by kernel_rfl) (by kernel_rfl)
noncomputable def Rz (os:Os):World:=World.laidAll Tryz.prog os Rows.decideLookRow.laid
theorem X8 (os:Os) (args:Array ai):laidMetH Tryz.prog Rows.decideLookRow.laid ((Rz os).forCall (λ_ _=>0) ⟨#[],args,[]⟩).memory:=by
 rw [MakeChecks.laidMetH_plain _ _ _ (by kernel_rfl)]
 exact laidMet_laidAll args (by kernel_rfl) (by kernel_rfl)
set_option maxRecDepth 100000 in
theorem Yq (h:Heap) (args:List ai) (_:h.low=h.size) (bJ:Holds h 1 (.row qc qd true)) (hs:sZ Tryz.prog h 8 Tryz.f4.params.toList args):Ok Tryz.prog az ov 4 args h λv h'=>v=.bool true/\Ext h h':=by
 have hp:Tryz.f4.params.toList=[29,53,9,9]:=by kernel_rfl
 have iT:sZ Tryz.prog h 8 [29,53,9,9] args:=zpA hp hs
 clear hs
 obtain ⟨x0,r0,rfl,h0,iT⟩:=HG iT
 obtain ⟨x1,r1,rfl,h1,iT⟩:=HG iT
 obtain ⟨x2,r2,rfl,h2,iT⟩:=HG iT
 obtain ⟨x3,r3,rfl,h3,iT⟩:=HG iT
 obtain rfl:=Za iT
 obtain ⟨d0,f0⟩:=zpy h0
 obtain ⟨d1,e1,f1⟩:=Y9 h1
 obtain ⟨d2,rfl⟩:=SB h2
 obtain ⟨d3,rfl⟩:=SB h3
 exact YL d0 d1 e1 d2 d3 x0 x1 h bJ f0 f1 _ (λh' x=>⟨rfl,x⟩)
set_option maxRecDepth 100000 in
theorem Xt (os:Os) (started:os.Started) (H:Type) (enc:TypeId × ai->H) :
 ReturnsInHanded {} Tryz.checked os 4 .any (λw args=>(Rows.decideLookSpec.pre enc Tryz.prog Tryz.f4 Rows.decideLookRow.domain false w args/\laidMetH Tryz.prog Rows.decideLookRow.laid w)/\sizedMet enc Tryz.prog Tryz.f4 (OpenSpec.ofChange Rows.decideLookSpec) false w args)
  (Rows.decideLookSpec.post enc Tryz.prog Tryz.f4 Rows.decideLookRow.apart Rows.decideLookRow.fresh Rows.decideLookRow.handsOn Rows.decideLookRow.again):=by
 refine returnsInHanded_of_change_and (C:=Tryz.checked) (X:=λw _=>laidMetH Tryz.prog Rows.decideLookRow.laid w) (λ_ _ _ hh h=>h.of_heap hh) X9 started (by kernel_rfl) Tryz.func4
  (zos (enc:=enc) (C:=Tryz.checked) (os:=os) (X:=λw _=>laidMetH Tryz.prog Rows.decideLookRow.laid w) (Rz os) #[.agg ⟨[.slice none 0 0,.slice none 0 0,.slice none 0 0,.int .i64 0,.int .i64 0,.slice none 0 0,.slice none 0 0]⟩,.agg ⟨.int .i64 0::aw.cells⟩,.string ⟨#[]⟩,.string ⟨#[]⟩] 12 (World.laidAll_os _ _ _) (by kernel_rfl) (by kernel_rfl) (by kernel_rfl) (by kernel_rfl) (by kernel_rfl) (X8 os _)) ?_
 intro W base args ds gs before eF hW VC _ hL _
 exact YG (n:=8) (boolT:=4) mixed pD rfl zyV rfl (Yb hL) Xw rfl (by kernel_rfl) (by kernel_rfl) Tryz.underlying4 (by kernel_rfl) (by kernel_rfl)
  (λds hd=>by
   have hp:Tryz.f4.params.size=4:=by kernel_rfl
   rw [hp] at hd
   match ds,hd with
   | [_,_,_,_],_=>rfl)
  Yq eF hW
theorem Ya:Rows.DecideLookSaid :=
 OpenClaim.holds_of_wide 4 Tryz.f4 rfl rfl rfl rfl rfl rfl rfl ⟨rfl,rfl,rfl,rfl,rfl⟩ rfl rfl rfl rfl rfl (by kernel_rfl) Tryz.func4 Yp
  (of_decide_eq_true (by kernel_rfl)) (by unfold Func.isWrapper;first|(rw [aC (by decide +kernel)];kernel_rfl)|(rw [ay (by decide +kernel)];exact ⟨rfl,rfl⟩))
  (λos started H enc _=>Xt os started H enc)
theorem XB:Tryz.f4.params.toList.all (λt => !Tryz.prog.wantsStandIn t)=true:=by kernel_rfl
theorem decideLook_holds:Rows.DecideLookCardSaid :=
 Claim7.holds_tied_plain_at .later [] [.data,.data,.data,.listed,.data] true (true,"d34d612c35b71bece39f95c1778b47d9df3d8f16c26c40ca79f4d58834f43137") true
  Ya (λ_ h=>by cases h) (by kernel_rfl) (λ_ h=>by cases h) decideLook_row_tie rfl ⟨rfl,rfl⟩ (by kernel_rfl) rfl
  (λf fn hf oU=>by
   obtain rfl:f=4:=Option.some.inj ((show Tryz.prog.funcNamed "vouchsafe/vouchsafelaw25.DecideLook"=some 4 by kernel_rfl).symm.trans hf) |>.symm
   obtain rfl:fn=Tryz.f4:=(Option.some.inj (Tryz.func4.symm.trans oU)).symm
   refine ⟨by kernel_rfl,λj t ht=>?_⟩
   have h1:=fD.1 XB t (ig (i:=j) (by simpa using ht))
   have h2:Tryz.prog.wantsStandIn t=false:=by
    cases hh:Tryz.prog.wantsStandIn t with
    |false=>rfl
    |true =>
     have h3:(!Tryz.prog.wantsStandIn t)=true:=h1
     rw [hh] at h3
     exact absurd h3 (by decide)
   exact h2)
  (by kernel_rfl)
#print axioms decideLook_holds
end Go.Proofs.YtjildadoepadeaaGreatDoor
