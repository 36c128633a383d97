/- The closed facts of the row ViewFacts, each by itself. No condition. -/
import Derived.Test.YtkgojconmeeegaaGreatDoorRows
import Derived.JoinedOf
import Derived.Test.YtkgojconmeeegaaGreatDoorG48
import Derived.Test.YtkgojconmeeegaaGreatDoorCards
import Derived.Test.YtkgojconmeeegaaGreatDoorTie
import Derived.SevenTiedAt
import Derived.LaidHandle
set_option linter.unusedSimpArgs false
namespace Go.Proofs.YtkgojconmeeegaaGreatDoor
open Go.ChangeShapes Go.WideShapes Go.ChangeAt Go.RowKit
theorem kD {a b:Bool} (h1:a=true) (h2:b=true):(a && b)=true:=by rw [h1,h2];rfl
theorem zno:(Rows.viewFactsRow.wf (OpenSpec.ofChange Rows.viewFactsSpec))=true:=by kernel_rfl
theorem znp:(laidOutB Tryz.prog)=true:=by kernel_rfl
theorem znq:(mapsRowed Tryz.prog)=true:=by kernel_rfl
theorem znr:(Tryz.f4.params.all (Tryz.prog.readableRec ·))=true:=by kernel_rfl
theorem zns:(namedTie Tryz.prog Rows.viewFactsRow.named Rows.viewFactsSpec.vars)=true:=by kernel_rfl
theorem znt:(Rows.viewFactsRow.stops == [])=true:=by kernel_rfl
theorem znu:(Tryz.prog.stops == [])=true:=by kernel_rfl
theorem znv:(Rows.viewFactsRow.knobs == [])=true:=by kernel_rfl
theorem znw:(Tryz.prog.stopKnobs == [])=true:=by kernel_rfl
theorem znx:(Rows.viewFactsRow.inPlace == Tryz.prog.inPlace 4)=true:=by kernel_rfl
theorem zkM:(Rows.viewFactsRow.unfollowed == Tryz.prog.unfollowed 4)=true:=by kernel_rfl
theorem zkN:(Rows.viewFactsRow.recurses == Tryz.prog.recurses 4)=true:=by kernel_rfl
theorem zkO:(Rows.viewFactsRow.named == Tryz.prog.varsNamed 4)=true:=by kernel_rfl
theorem zkP:(Rows.viewFactsRow.maps == (Tryz.f4.params.toList++Rows.viewFactsSpec.plain.varTypes Tryz.prog).any (Tryz.prog.mapsRec ·))=true:=by kernel_rfl
theorem zkQ:(Rows.viewFactsRow.ifaces == (Tryz.f4.params.toList++Rows.viewFactsSpec.plain.varTypes Tryz.prog).any (Tryz.prog.ifacesRec ·))=true:=by kernel_rfl
theorem zkR:(Rows.viewFactsRow.mapsOut == Tryz.prog.mapsAmong Tryz.f4.resultTypes.toList)=true:=by kernel_rfl
theorem zkS:(Rows.viewFactsRow.loops == (Tryz.f4.params.toList++Rows.viewFactsSpec.plain.varTypes Tryz.prog).any (Tryz.prog.loopsFrom ·))=true:=by kernel_rfl
theorem zkT:(Rows.viewFactsRow.wideKeys == (Tryz.f4.params.toList++Rows.viewFactsSpec.plain.varTypes Tryz.prog++Tryz.f4.resultTypes.toList).any (Tryz.prog.wideKeysFrom ·))=true:=by kernel_rfl
theorem zkU:(Rows.viewFactsSpec.vars.all (Tryz.prog.varReadable ·))=true:=by kernel_rfl
theorem zkV:(Tryz.f4.resultTypes.all (λt=>Tryz.prog.readableRec t && decide (t < Tryz.prog.types.size)))=true:=by kernel_rfl
theorem zkW:(Rows.viewFactsRow.ifacesOut == Tryz.f4.resultTypes.toList.any (Tryz.prog.ifacesRec ·))=true:=by kernel_rfl
theorem zkX:(Rows.viewFactsRow.loopsOut == Tryz.f4.resultTypes.toList.any (Tryz.prog.loopsFrom ·))=true:=by kernel_rfl
theorem zkY:(Rows.viewFactsRow.plainKeys == Tryz.prog.plainKeys)=true:=by kernel_rfl
theorem zkZ:(Rows.viewFactsRow.shortTexts.isNone)=true:=by kernel_rfl
theorem zk0:(Tryz.prog.stopsHeard)=true:=by kernel_rfl
theorem zk1:(Tryz.prog.mayEnter)=true:=by kernel_rfl
theorem zk2:(Rows.viewFactsRow.lifted == Tryz.prog.liftsFinal)=true:=by kernel_rfl
theorem zk3:(Tryz.prog.make == some Rows.viewFactsRow.make)=true:=by kernel_rfl
theorem zk4:(Rows.viewFactsRow.kinds == (if Rows.viewFactsRow.domain.isEmpty then [] else Tryz.f4.params.toList.map λt=>match Tryz.prog.underlying t with|some (.int k)=>some k|_=>none))=true:=by kernel_rfl
theorem zk5:(Rows.viewFactsRow.pinned == Rows.viewFactsRow.pinnedBy)=true:=by kernel_rfl
theorem zk6:(Rows.viewFactsRow.veiled == (Tryz.f4.params.toList++Rows.viewFactsSpec.plain.varTypes Tryz.prog++Tryz.f4.resultTypes.toList).any (Tryz.prog.veiledRec ·))=true:=by kernel_rfl
theorem zk7:(Rows.viewFactsRow.veiledFits Tryz.prog Tryz.f4.params.toList (Tryz.f4.params.toList++Rows.viewFactsSpec.plain.varTypes Tryz.prog++Tryz.f4.resultTypes.toList))=true:=by kernel_rfl
set_option maxRecDepth 100000 in
theorem zqt:joinedFacts Tryz.prog 4 Tryz.f4 Rows.viewFactsSpec Rows.viewFactsRow=true:=by
 unfold joinedFacts
 exact (kD (kD (kD (kD (kD (kD (kD (kD (kD (kD (kD (kD (kD (kD (kD (kD (kD (kD (kD (kD (kD (kD (kD (kD (kD (kD (kD (kD (kD (kD (kD zno znp) znq) znr) zns) znt) znu) znv) znw) znx) zkM) zkN) zkO) zkP) zkQ) zkR) zkS) zkT) zkU) zkV) zkW) zkX) zkY) zkZ) zk0) zk1) zk2) zk3) zk4) zk5) zk6) zk7)
end Go.Proofs.YtkgojconmeeegaaGreatDoor
namespace Go.Proofs.YtkgojconmeeegaaGreatDoor
open Go.ChangeShapes Go.WideShapes Go.ChangeAt Go.RowKit Go.Am
theorem znz:ownKnob Tryz.prog.godebug=none:=by kernel_rfl
theorem zh3:laidOutB Tryz.prog=true:=by kernel_rfl
theorem znB {W:World} (hL:laidMetH Tryz.prog Rows.viewFactsRow.laid W):∀ c,c < 256->W.cell? ⟨1,c,none⟩=some (.int .u8 (Lib.asciiSpaceTab.getD c 0)) :=
 znh hL (by kernel_rfl) (d:=Rows.laid_strings_asciiSpace) (by simp [Rows.viewFactsRow]) (by kernel_rfl) (by kernel_rfl) (by kernel_rfl) (t:=257) (by kernel_rfl) (e:=5) (by kernel_rfl) (by kernel_rfl) (by kernel_rfl)
noncomputable def zf0 (os:Os):World:=World.laidAll Tryz.prog os Rows.viewFactsRow.laid
theorem zny (os:Os) (args:Array ae):laidMetH Tryz.prog Rows.viewFactsRow.laid ((zf0 os).forCall (λ_ _=>0) ⟨#[],args,[]⟩).memory:=by
 rw [MakeChecks.laidMetH_plain _ _ _ (by kernel_rfl)]
 exact laidMet_laidAll args (by kernel_rfl) (by kernel_rfl)
set_option maxRecDepth 100000 in
theorem zqu (h:Heap) (args:List ae) (_:h.low=h.size) (cP:Holds h 1 (.row wQ wP true)) (hs:Ay Tryz.prog h 8 Tryz.f4.params.toList args):Ok Tryz.prog aA ov 4 args h λv h'=>v=.bool true/\Ext h h':=by
 have hp:Tryz.f4.params.toList=[28,29,9,34]:=by kernel_rfl
 have gr:Ay Tryz.prog h 8 [28,29,9,34] args:=zt8 hp hs
 clear hs
 obtain ⟨x0,r0,rfl,h0,gr⟩:=Ub gr
 obtain ⟨x1,r1,rfl,h1,gr⟩:=Ub gr
 obtain ⟨x2,r2,rfl,h2,gr⟩:=Ub gr
 obtain ⟨x3,r3,rfl,h3,gr⟩:=Ub gr
 obtain rfl:=zq3 gr
 obtain ⟨d0,f0⟩:=zt5 h0
 obtain ⟨d1,f1⟩:=zzr h1
 obtain ⟨d2,rfl⟩:=zt6 h2
 obtain ⟨d3,rfl⟩:=zzs h3
 exact zna d0 d1 d2 d3 x0 x1 h cP f0 f1 _ (λh' x=>⟨rfl,x⟩)
set_option maxRecDepth 100000 in
theorem ziL (os:Os) (started:os.Started) (H:Type) (enc:TypeId × ae->H) :
 ReturnsInHanded {} Tryz.checked os 4 .any (λw args=>(Rows.viewFactsSpec.pre enc Tryz.prog Tryz.f4 Rows.viewFactsRow.domain false w args/\laidMetH Tryz.prog Rows.viewFactsRow.laid w)/\sizedMet enc Tryz.prog Tryz.f4 (OpenSpec.ofChange Rows.viewFactsSpec) false w args)
  (Rows.viewFactsSpec.post enc Tryz.prog Tryz.f4 Rows.viewFactsRow.apart Rows.viewFactsRow.fresh Rows.viewFactsRow.handsOn Rows.viewFactsRow.again):=by
 refine returnsInHanded_of_change_and (C:=Tryz.checked) (X:=λw _=>laidMetH Tryz.prog Rows.viewFactsRow.laid w) (λ_ _ _ hh h=>h.of_heap hh) znz started (by kernel_rfl) Tryz.func4
  (zsJ (enc:=enc) (C:=Tryz.checked) (os:=os) (X:=λw _=>laidMetH Tryz.prog Rows.viewFactsRow.laid w) (zf0 os) #[.agg ⟨[.slice none 0 0,.slice none 0 0,.slice none 0 0,.int .i64 0,.int .i64 0,.slice none 0 0,.slice none 0 0]⟩,.slice none 0 0,.string ⟨#[]⟩,.agg ⟨ab.cells⟩] 12 (World.laidAll_os _ _ _) (by kernel_rfl) (by kernel_rfl) (by kernel_rfl) (by kernel_rfl) (by kernel_rfl) (zny os _)) ?_
 intro W base args ds gs before eE hW anO _ hL _
 exact zmU (n:=8) (boolT:=4) mixed v8 rfl zHa rfl (znB hL) zh3 rfl (by kernel_rfl) (by kernel_rfl) Tryz.underlying4 (by kernel_rfl) (by kernel_rfl)
  (λds hd=>by
   have hp:Tryz.f4.params.size=4:=by kernel_rfl
   rw [hp] at hd
   match ds,hd with
   | [_,_,_,_],_=>rfl)
  zqu eE hW
theorem znA:Rows.ViewFactsSaid :=
 OpenClaim.holds_of_wide 4 Tryz.f4 rfl rfl rfl rfl rfl rfl rfl ⟨rfl,rfl,rfl,rfl,rfl⟩ rfl rfl rfl rfl rfl (by kernel_rfl) Tryz.func4 zqt
  (of_decide_eq_true (by kernel_rfl)) (by unfold Func.isWrapper;first|(rw [aE (by decide +kernel)];kernel_rfl)|(rw [az (by decide +kernel)];exact ⟨rfl,rfl⟩))
  (λos started H enc _=>ziL os started H enc)
theorem zkk:Tryz.f4.params.toList.all (λt => !Tryz.prog.wantsStandIn t)=true:=by kernel_rfl
theorem viewFacts_holds:Rows.ViewFactsCardSaid :=
 Claim7.holds_tied_plain_at .later [] [.listed,.data] true (true,"69e295e677b05030abe06d499f3228d3c4ece7ff2c0666caa8fbd6a919de8044") true
  znA (λ_ h=>by cases h) (by kernel_rfl) (λ_ h=>by cases h) viewFacts_row_tie rfl ⟨rfl,rfl⟩ (by kernel_rfl) rfl
  (λf fn hf vz=>by
   obtain rfl:f=4:=Option.some.inj ((show Tryz.prog.funcNamed "vouchsafe/vouchsafelaw15.ViewFacts"=some 4 by kernel_rfl).symm.trans hf) |>.symm
   obtain rfl:fn=Tryz.f4:=(Option.some.inj (Tryz.func4.symm.trans vz)).symm
   refine ⟨by kernel_rfl,λj t ht=>?_⟩
   have h1:=gK.1 zkk t (ig (i:=j) (by simpa using ht))
   have h2:Tryz.prog.wantsStandIn t=false:=by
    cases hh:Tryz.prog.wantsStandIn t with
    |false=>rfl
    |true =>
     have h3:(!Tryz.prog.wantsStandIn t)=true:=h1
     rw [hh] at h3
     exact absurd h3 (by decide)
   exact h2)
  (by kernel_rfl)
#print axioms viewFacts_holds
end Go.Proofs.YtkgojconmeeegaaGreatDoor
