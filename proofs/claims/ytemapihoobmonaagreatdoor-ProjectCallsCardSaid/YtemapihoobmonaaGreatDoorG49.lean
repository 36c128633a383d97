/- The closed facts of the row ProjectCalls, each by itself. No condition. -/
import Derived.Test.YtemapihoobmonaaGreatDoorRows
import Derived.JoinedOf
import Derived.ProofKit
import Derived.Test.YtemapihoobmonaaGreatDoorG9
import Derived.Test.YtemapihoobmonaaGreatDoorG24
import Derived.Test.YtemapihoobmonaaGreatDoorG48
import Derived.Test.YtemapihoobmonaaGreatDoorCards
import Derived.Test.YtemapihoobmonaaGreatDoorTie
import Derived.SevenTiedAt
import Derived.Lay
import Derived.LaidHandle
namespace Go.Proofs.YtemapihoobmonaaGreatDoor
open Go.ChangeShapes Go.WideShapes Go.ChangeAt Go.RowKit
theorem zaj {a b:Bool} (h1:a=true) (h2:b=true):(a && b)=true:=by rw [h1,h2]; rfl
theorem zh4:(Rows.projectCallsRow.wf (OpenSpec.ofChange Rows.projectCallsSpec))=true:=by kernel_rfl
theorem zie:(laidOutB Tryz.prog)=true:=by kernel_rfl
theorem zij:(mapsRowed Tryz.prog)=true:=by kernel_rfl
theorem zh6:(Tryz.f9.params.all (Tryz.prog.readableRec ·))=true:=by kernel_rfl
theorem zif:(namedTie Tryz.prog Rows.projectCallsRow.named Rows.projectCallsSpec.vars)=true:=by kernel_rfl
theorem zib:((Rows.projectCallsRow.stops == []))=true:=by kernel_rfl
theorem zh7:((Tryz.prog.stops == []))=true:=by kernel_rfl
theorem zii:((Rows.projectCallsRow.knobs == []))=true:=by kernel_rfl
theorem zid:((Tryz.prog.stopKnobs == []))=true:=by kernel_rfl
theorem zic:((Rows.projectCallsRow.inPlace == Tryz.prog.inPlace 9))=true:=by kernel_rfl
theorem zho:((Rows.projectCallsRow.unfollowed == Tryz.prog.unfollowed 9))=true:=by kernel_rfl
theorem zhF:((Rows.projectCallsRow.recurses == Tryz.prog.recurses 9))=true:=by kernel_rfl
theorem zhi:((Rows.projectCallsRow.named == Tryz.prog.varsNamed 9))=true:=by kernel_rfl
theorem zhf:((Rows.projectCallsRow.maps == (Tryz.f9.params.toList++Rows.projectCallsSpec.plain.varTypes Tryz.prog).any (Tryz.prog.mapsRec ·)))=true:=by kernel_rfl
theorem zhw:((Rows.projectCallsRow.ifaces == (Tryz.f9.params.toList++Rows.projectCallsSpec.plain.varTypes Tryz.prog).any (Tryz.prog.ifacesRec ·)))=true:=by kernel_rfl
theorem zgQ:((Rows.projectCallsRow.mapsOut == Tryz.prog.mapsAmong Tryz.f9.resultTypes.toList))=true:=by kernel_rfl
theorem zha:((Rows.projectCallsRow.loops == (Tryz.f9.params.toList++Rows.projectCallsSpec.plain.varTypes Tryz.prog).any (Tryz.prog.loopsFrom ·)))=true:=by kernel_rfl
theorem zgT:((Rows.projectCallsRow.wideKeys == (Tryz.f9.params.toList++Rows.projectCallsSpec.plain.varTypes Tryz.prog++Tryz.f9.resultTypes.toList).any (Tryz.prog.wideKeysFrom ·)))=true:=by kernel_rfl
theorem zg0:(Rows.projectCallsSpec.vars.all (Tryz.prog.varReadable ·))=true:=by kernel_rfl
theorem zhq:(Tryz.f9.resultTypes.all (fun t=>Tryz.prog.readableRec t && decide (t < Tryz.prog.types.size)))=true:=by kernel_rfl
theorem zhs:((Rows.projectCallsRow.ifacesOut == Tryz.f9.resultTypes.toList.any (Tryz.prog.ifacesRec ·)))=true:=by kernel_rfl
theorem zg5:((Rows.projectCallsRow.loopsOut == Tryz.f9.resultTypes.toList.any (Tryz.prog.loopsFrom ·)))=true:=by kernel_rfl
theorem zhp:((Rows.projectCallsRow.plainKeys == Tryz.prog.plainKeys))=true:=by kernel_rfl
theorem zgS:(Rows.projectCallsRow.shortTexts.isNone)=true:=by kernel_rfl
theorem zg9:(Tryz.prog.stopsHeard)=true:=by kernel_rfl
theorem zg1:(Tryz.prog.mayEnter)=true:=by kernel_rfl
theorem zgZ:((Rows.projectCallsRow.lifted == Tryz.prog.liftsFinal))=true:=by kernel_rfl
theorem zg7:((Tryz.prog.make == some Rows.projectCallsRow.make))=true:=by kernel_rfl
theorem zhz:((Rows.projectCallsRow.kinds == (if Rows.projectCallsRow.domain.isEmpty then [] else Tryz.f9.params.toList.map fun t=>match Tryz.prog.underlying t with | some (.int k)=>some k | _=>none)))=true:=by kernel_rfl
theorem zhC:((Rows.projectCallsRow.pinned == Rows.projectCallsRow.pinnedBy))=true:=by kernel_rfl
theorem zhd:((Rows.projectCallsRow.veiled == (Tryz.f9.params.toList++Rows.projectCallsSpec.plain.varTypes Tryz.prog++Tryz.f9.resultTypes.toList).any (Tryz.prog.veiledRec ·)))=true:=by kernel_rfl
theorem zg2:(Rows.projectCallsRow.veiledFits Tryz.prog Tryz.f9.params.toList (Tryz.f9.params.toList++Rows.projectCallsSpec.plain.varTypes Tryz.prog++Tryz.f9.resultTypes.toList))=true:=by kernel_rfl
set_option maxRecDepth 100000 in
theorem ziY:joinedFacts Tryz.prog 9 Tryz.f9 Rows.projectCallsSpec Rows.projectCallsRow=true:=by
  unfold joinedFacts
  exact (zaj (zaj (zaj (zaj (zaj (zaj (zaj (zaj (zaj (zaj (zaj (zaj (zaj (zaj (zaj (zaj (zaj (zaj (zaj (zaj (zaj (zaj (zaj (zaj (zaj (zaj (zaj (zaj (zaj (zaj (zaj zh4 zie) zij) zh6) zif) zib) zh7) zii) zid) zic) zho) zhF) zhi) zhf) zhw) zgQ) zha) zgT) zg0) zhq) zhs) zg5) zhp) zgS) zg9) zg1) zgZ) zg7) zhz) zhC) zhd) zg2)
end Go.Proofs.YtemapihoobmonaaGreatDoor
namespace Go.Proofs.YtemapihoobmonaaGreatDoor
open Go.ChangeShapes Go.WideShapes Go.ChangeAt Go.RowKit Go.Am
theorem zik:ownKnob Tryz.prog.godebug=none:=by kernel_rfl
theorem zfz:laidOutB Tryz.prog=true:=by kernel_rfl
theorem zir {W:World} (hL:laidMetH Tryz.prog Rows.projectCallsRow.laid W):∀ c,c < 256→W.cell? ⟨1,c,none⟩=some (.int .u8 (Lib.asciiSpaceTab.getD c 0)) :=
  zmq hL (by kernel_rfl) (d:=Rows.laid_strings_asciiSpace) (by simp [Rows.projectCallsRow]) (by kernel_rfl) (by kernel_rfl) (by kernel_rfl) (t:=237) (by kernel_rfl) (e:=5) (by kernel_rfl) (by kernel_rfl) (by kernel_rfl)
noncomputable def zdH (os:Os):World:=World.laidAll Tryz.prog os Rows.projectCallsRow.laid
theorem zh8 (os:Os) (args:Array Value):laidMetH Tryz.prog Rows.projectCallsRow.laid ((zdH os).forCall (fun _ _=>0) ⟨#[],args,[]⟩).memory:=by
  rw [MakeChecks.laidMetH_plain _ _ _ (by kernel_rfl)]
  exact laidMet_laidAll args (by kernel_rfl) (by kernel_rfl)
set_option maxRecDepth 100000 in
theorem zjv (h:Heap) (args:List Value) (_:h.low=h.size) (hsp:Holds h 1 (.row zbx zbQ true)) (hs:zdY Tryz.prog h 8 Tryz.f9.params.toList args):Ok Tryz.prog tab ov 9 args h fun v h'=>v=.bool true∧Ext h h':=by
  have hp:Tryz.f9.params.toList=[55,9,69,69,30,49]:=by kernel_rfl
  have hs2:zdY Tryz.prog h 8 [55,9,69,69,30,49] args:=zsd hp hs
  clear hs
  obtain ⟨x0,r0,rfl,h0,hs2⟩:=zcw hs2
  obtain ⟨x1,r1,rfl,h1,hs2⟩:=zcw hs2
  obtain ⟨x2,r2,rfl,h2,hs2⟩:=zcw hs2
  obtain ⟨x3,r3,rfl,h3,hs2⟩:=zcw hs2
  obtain ⟨x4,r4,rfl,h4,hs2⟩:=zcw hs2
  obtain ⟨x5,r5,rfl,h5,hs2⟩:=zcw hs2
  obtain rfl:=zpc hs2
  obtain ⟨d0,f0⟩:=zsA h0
  obtain ⟨d1,rfl⟩:=zr6 h1
  obtain ⟨d2,f2⟩:=zn0 h2
  obtain ⟨d3,f3⟩:=zn0 h3
  obtain ⟨d4,f4⟩:=zyt h4
  obtain ⟨d5,f5⟩:=zqg h5
  exact zjI d0 d1 d2 d3 d4 d5 x0 x2 x3 x4 x5 h hsp f0 f2 f3 f4 f5 _ (fun h' x=>⟨rfl,x⟩)
set_option maxRecDepth 100000 in
theorem zfY (os:Os) (started:os.Started) (H:Type) (enc:TypeId × Value→H) :
    ReturnsInHanded {} Tryz.checked os 9 .any (fun w args=>(Rows.projectCallsSpec.pre enc Tryz.prog Tryz.f9 Rows.projectCallsRow.domain false w args∧laidMetH Tryz.prog Rows.projectCallsRow.laid w)∧sizedMet enc Tryz.prog Tryz.f9 (OpenSpec.ofChange Rows.projectCallsSpec) false w args)
      (Rows.projectCallsSpec.post enc Tryz.prog Tryz.f9 Rows.projectCallsRow.apart Rows.projectCallsRow.fresh Rows.projectCallsRow.handsOn Rows.projectCallsRow.again):=by
  refine returnsInHanded_of_change_and (C:=Tryz.checked) (X:=fun w _=>laidMetH Tryz.prog Rows.projectCallsRow.laid w) (fun _ _ _ hh h=>h.of_heap hh) zik started (by kernel_rfl) Tryz.func9
    (zql (enc:=enc) (C:=Tryz.checked) (os:=os) (X:=fun w _=>laidMetH Tryz.prog Rows.projectCallsRow.laid w) (zdH os) #[.agg ⟨[.slice none 0 0,.slice none 0 0,.slice none 0 0,.int .i64 0,.int .i64 0,.slice none 0 0,.slice none 0 0]⟩,.string ⟨#[]⟩,.slice none 0 0,.slice none 0 0,.slice none 0 0,.slice none 0 0] 12 (World.laidAll_os _ _ _) (by kernel_rfl) (by kernel_rfl) (by kernel_rfl) (by kernel_rfl) (by kernel_rfl) (zh8 os _)) ?_
  intro W base args ds gs before hval hW hcnd _ hL _
  exact zmv (n:=8) (boolT:=4) mixed zcD rfl zBR rfl (zir hL) zfz rfl (by kernel_rfl) (by kernel_rfl) Tryz.underlying4 (by kernel_rfl) (by kernel_rfl)
    (fun ds hd=>by
      have hp:Tryz.f9.params.size=6:=by kernel_rfl
      rw [hp] at hd
      match ds,hd with
      | [_,_,_,_,_,_],_=>rfl)
    zjv hval hW
theorem zh5:Rows.ProjectCallsSaid :=
  OpenClaim.holds_of_wide 9 Tryz.f9 rfl rfl rfl rfl rfl rfl rfl ⟨rfl,rfl,rfl,rfl,rfl⟩ rfl rfl rfl rfl rfl (by kernel_rfl) Tryz.func9 ziY
    (of_decide_eq_true (by kernel_rfl)) (by unfold Func.isWrapper; first | (rw [if_pos (by decide +kernel)]; kernel_rfl) | (rw [if_neg (by decide +kernel)]; exact ⟨rfl,rfl⟩))
    (fun os started H enc _=>zfY os started H enc)
theorem zgL:Tryz.f9.params.toList.all (fun t => !Tryz.prog.wantsStandIn t)=true:=by kernel_rfl
theorem projectCalls_holds:Rows.ProjectCallsCardSaid :=
  Claim7.holds_tied_plain_at .later [] [.listed,.data] true (true,"0bcedb163bd3680f2d43ed751055ec6a6419c3781179eca05f463f44977e4117") false
    zh5 (fun _ h=>by cases h) (by kernel_rfl) (fun _ h=>by cases h) projectCalls_row_tie rfl ⟨rfl,rfl⟩ (by kernel_rfl) rfl
    (fun f fn hf hfn=>by
      obtain rfl:f=9:=Option.some.inj ((show Tryz.prog.funcNamed "vouchsafe/vouchsafelaw28.ProjectCalls"=some 9 by kernel_rfl).symm.trans hf) |>.symm
      obtain rfl:fn=Tryz.f9:=(Option.some.inj (Tryz.func9.symm.trans hfn)).symm
      refine ⟨by kernel_rfl,fun j t ht=>?_⟩
      have h1:=List.all_eq_true.1 zgL t (List.mem_of_getElem? (i:=j) (by simpa using ht))
      have h2:Tryz.prog.wantsStandIn t=false:=by
        cases hh:Tryz.prog.wantsStandIn t with
        | false=>rfl
        | true =>
          have h3:(!Tryz.prog.wantsStandIn t)=true:=h1
          rw [hh] at h3
          exact absurd h3 (by decide)
      exact h2)
    (by kernel_rfl)
#print axioms projectCalls_holds
end Go.Proofs.YtemapihoobmonaaGreatDoor
