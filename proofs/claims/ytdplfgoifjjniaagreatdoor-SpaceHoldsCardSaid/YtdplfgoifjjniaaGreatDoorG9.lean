/- The table strings.asciiSpace and strings.Fields, for the plain machine. No condition. -/
import Derived.Test.YtdplfgoifjjniaaGreatDoorGOv
import Derived.Lib.Fields
import Derived.Lib.LaidTab
import Derived.MakeChecks
import Derived.Lay
import Derived.Test.YtdplfgoifjjniaaGreatDoorG7
namespace Go.Am
open Go.RowKit
section
variable {P:Program} {gs:List Nat} {ρ:ct} {h:Heap} {w:World}

def sb (g:Nat):Heap:=⟨g+1,(Tr.set (g+1) .nil g (.row sV sR true)),g+1⟩
def sj (g:Nat):ct:=fun A=>if A=g then some ⟨g,0,0⟩ else none
theorem Yz (g A:Nat):(sb g).get A=if A=g then some (.row sV sR true) else none:=by
 unfold Heap.get sb
 simp only [Tr.aC _ _ _ _ _ (Nat.lt_succ_self g),Tr.get_nil]
 by_cases h1:A=g
 ·subst h1;simp
 ·simp [h1]
theorem zse {g:Nat} (ht:∀ c,c < 256→w.cell? ⟨g,c,none⟩=some (.int .u8 (Lib.asciiSpaceTab.getD c 0))) (i:Nat) (v:Value) (hv:sV[i]? = some v):w.cell? ⟨g,i,none⟩=some v∧plain v=true:=by
 unfold sV at hv
 rw [List.getElem?_map,Option.map_eq_some_iff] at hv
 obtain ⟨z,hz,rfl⟩:=hv
 have hi:i < 256:=by have:=(List.getElem?_eq_some_iff.1 hz).1;rw [Lib.asciiSpaceTab_length] at this;exact this
 refine ⟨?_,rfl⟩
 rw [ht i hi]
 simp [List.getD,hz]
theorem znQ {g:Nat} (ht:∀ c,c < 256→w.cell? ⟨g,c,none⟩=some (.int .u8 (Lib.asciiSpaceTab.getD c 0))):bK (sj g) (sb g) w:=by
 have aS:g < w.heap.size:=by
  have:=ht 0 (by omega)
  unfold World.cell? at this
  split at this
  ·rename_i c _ _ hh;exact (Array.getElem?_eq_some_iff.1 hh).1
  ·cases this
 refine ⟨fun A L hA=>?_,fun A A' L L' hA dR aO _=>?_⟩
 ·unfold sj at hA
  split at hA
  ·rename_i e
   cases hA
   rw [Yz,if_pos e]
   refine ⟨⟨aS,fun _=>rfl⟩,fun i v hv=>?_⟩
   obtain ⟨h1,h2⟩:=zse ht i v hv
   exact ⟨v,by simpa using h1,.cX _ h2⟩
  ·cases hA
 ·unfold sj at hA dR
  split at hA
  ·split at dR
   ·omega
   ·cases dR
  ·cases hA

theorem zm4 {l:List (String × DataW Unit)} {n:String} {d:DataW Unit}:∀ {ps:List MemPlace},DataW.LaidVars P w l ps→(n,d)∈l →
 ∃ g t cs fuel p,P.globalNamed n=some g∧(P.globals[g]?).map (·.type)=some t∧w.var? P n=some cs∧DataW.trod (fun _=>()) P w 0 (fun _=>true) false fuel t cs.toList=some (d,p):=by
 induction l with
 |nil=>intro ps _ hm;cases hm
 |cons x l ih =>
  intro ps hl hm
  obtain ⟨m,e⟩:=x
  obtain ⟨g,t,cs,fuel,p,q,h1,h2,h3,h4,h5,_⟩:=hl
  rcases List.mem_cons.1 hm with h6|h6
  ·cases h6;exact ⟨g,t,cs,fuel,p,h1,h2,h3,h4⟩
  ·exact ih h5 h6
theorem zlX {l:List (String × DataW Unit)} {d:DataW Unit} {g:Nat} {t e:TypeId} (hL:laidMetH P l w) (hp:(l.all fun x=>x.2.handleName?.isNone)=true) (hm:("strings.asciiSpace",d)∈l) (hd:d=Lib.tabData .u8 Lib.asciiSpaceTab)
 (hg:P.globalNamed "strings.asciiSpace"=some g) (DJ:(P.globals[g]?).map (·.type)=some t) (ht:P.underlying t=some (.array 256 e)) (he:P.underlying e=some (.int .u8)) (Aw:P.cellsOf e=1) (hct:P.cellsOf t=256) :
 ∀ c,c < 256→w.cell? ⟨g,c,none⟩=some (.int .u8 (Lib.asciiSpaceTab.getD c 0)):=by
 rw [MakeChecks.laidMetH_plain _ _ _ hp] at hL
 obtain ⟨ps,hl,_⟩:=hL
 obtain ⟨g',t',cs,fuel,p,hg',ht',WX,hx⟩:=zm4 hl hm
 subst hd
 obtain rfl:=Option.some.inj (hg.symm.trans hg')
 obtain rfl:=Option.some.inj (DJ.symm.trans ht')
 have hT:Lib.TabIs P w "strings.asciiSpace" .u8 Lib.asciiSpaceTab:=by
  unfold Lib.TabIs
  rw [WX,← Lib.cells_of_tab ht he Aw hct hx]
 exact fun c hc=>hT.cell hg c (by rw [Lib.asciiSpaceTab_length];exact hc)

def ra (s:List UInt8):List Value:=(Lib.fields s).map fun l=>Value.string ⟨l.toArray⟩
def EF (g:Nat) (st:TypeId) (args:List Value) (h:Heap):Option (Value × Heap):=match args with
 | [.string s]=>(match h.get g with
  |some (.row _ e true) =>
   if Nat.beq e sR && s.data.toList.all (fun b=>Nat.blt b.toNat 128) && Nat.blt s.size 4294967281 && Nat.blt (ra s.data.toList).length 4294967281 then
    some (.slice (some ⟨h.size,0,none⟩) (ra s.data.toList).length (ra s.data.toList).length,h.push (.row (ra s.data.toList) st false))
   else none
  |_=>none)
 |_=>none
theorem zkF {f:FuncId} {g:Nat} {st:TypeId} (xg:g∈gs) (dO:∀ aF w,(callFunc f aF).run P w=.ok (.enter f aF) w)
 (hf:∀ (s:ByteArray) (w:World),s.size < 4294967281→(∀ (j:Nat) b,s.data.toList[j]? = some b→b.toNat < 128)→(∀ c:Nat,c < 256→w.cell? ⟨g,c,none⟩=some (.int .u8 (if Lib.isSp (UInt8.ofNat c) then 1 else 0))) →
  Calls P f #[.string s] w fun e w' =>
   e=.returned (.slice (some ⟨w.heap.size,0,none⟩) (Lib.fields s.data.toList).length (Lib.fields s.data.toList).length)∧w'=w.alloc (.cells ((Lib.fields s.data.toList).map fun l=>Value.string ⟨l.toArray⟩).toArray st)):B0 P gs f (EF g st):=by
 intro args h v h' ak
 unfold EF at ak
 split at ak
 ·rename_i s
  split at ak
  ·rename_i cs e hg
   split at ak
   ·rename_i hc
    simp only [Bool.and_eq_true,List.all_eq_true] at hc
    obtain ⟨⟨⟨hm,Vz⟩,dB⟩,xf⟩:=hc
    cases ak
    refine ⟨.push _ _,fun ρ w aF hG hs bQ hv=>.inr ⟨dO aF w,?_⟩⟩
    obtain ⟨y,m,he,h1,h2⟩:=hv.of_cons
    cases h1
    have uy:=h2.of_nil
    subst uy
    have CT:aF=#[.string s]:=by apply Array.ext';simpa using he
    subst CT
    obtain ⟨t,hρ⟩:=hG g xg
    have hb:=hs.jX g _ hρ
    rw [hg] at hb
    have kC:=hb.1.2 (Nat.eq_of_beq_eq_true hm)
    have eX:∀ c:Nat,c < 256→w.cell? ⟨g,c,none⟩=some (.int .u8 (if Lib.isSp (UInt8.ofNat c) then 1 else 0)):=by
     intro c hc
     have hx:cs[c]? = some (.int .u8 (Lib.asciiSpaceTab.getD c 0)):=by
      rw [kC]
      unfold sV
      rw [List.getElem?_map]
      have:c < Lib.asciiSpaceTab.length:=by rw [Lib.asciiSpaceTab_length];exact hc
      simp [List.getD,this]
     obtain ⟨u,hu,lN⟩:=hb.2 c _ hx
     have:=lN.bG rfl
     subst this
     rw [Lib.asciiSpaceTab_at c hc] at hu
     simpa using hu
    have fk:ρ h.size=none:=bQ h.size (Nat.le_refl _) (Nat.lt_succ_self _)
    have WM:s.size < 4294967281:=by simpa [Nat.blt_eq] using dB
    have Jc:∀ (j:Nat) b,s.data.toList[j]? = some b→b.toNat < 128:=fun j b hb=>by
     have:=Vz b (List.mem_of_getElem? hb)
     simpa [Nat.blt_eq] using this
    refine (hf s w WM Jc eX).mono ?_
    rintro e w' ⟨rfl,rfl⟩
    have nB:(ra s.data.toList).all kO=true:=by
     unfold ra
     rw [List.all_map,List.all_eq_true]
     intro x _
     rfl
    have hlen:(ra s.data.toList).length=(Lib.fields s.data.toList).length:=by simp [ra]
    obtain ⟨ρ',uQ,cN,dp⟩:=Gb (W:=w.alloc (.cells ((Lib.fields s.data.toList).map fun l=>Value.string ⟨l.toArray⟩).toArray st)) (cs:=ra s.data.toList) (m:=ra s.data.toList) (e:=st) hs fk rfl rfl rfl rfl
     (by refine pH (by simp [ra]) rfl (fun j _=>by rw [Nat.zero_add];rfl)) (cu.plain ρ nB)
    refine ⟨ρ',_,rfl,cN,dp,?_⟩
    have VW:(ra s.data.toList).length < 4294967281:=by simpa [Nat.blt_eq] using xf
    rw [hlen] at VW ⊢
    exact VR.slice (o:=0) uQ (by unfold G;omega) (Nat.le_refl _) (fun _=>rfl)
   ·cases ak
  ·cases ak
 ·cases ak
def Zd (n:Nat):FK:=fun v h=>match v with
 | .bool b=>(match b with|true=>Nat.ble n h.low|false=>false)
 |_=>false
theorem zsf {T:bD} {ov:Ov} {g:Nat} (j4:P.follows .mixedOrders=true) (hT:T.Fits P) (xg:T.gs=[g]) (nY:Ab P T.gs ov) {fuel n:Nat} {f:FuncId} (hf:ov f=none) (dG:E3 P T ov fuel n (.func f) [] (sb g) (Zd (g+1))=true) (w:World)
 (ht:∀ c,c < 256→w.cell? ⟨g,c,none⟩=some (.int .u8 (Lib.asciiSpaceTab.getD c 0))) :
 Calls P f #[] w fun e w'=>e=.returned (.bool true)∧Below w.heap.size w w':=by
 obtain ⟨m,v,h',hc,hk⟩:=ziH fuel n (.func f) [] (sb g) _ dG
 unfold Zd at hk
 split at hk
 ·rename_i b
  split at hk
  ·refine zwm j4 hT nY hf hc w (sj g) (by rw [xg];intro q hq;simp at hq;subst hq;exact ⟨0,by simp [sj]⟩) (znQ ht) ?_ ?_
   ·intro A hA
    unfold sj
    rw [if_neg]
    have:g+1≤A:=hA
    omega
   ·intro A L hA
    unfold sj at hA
    split at hA
    ·have:=Nat.le_of_ble_eq_true hk;omega
    ·cases hA
  ·cases hk
 ·cases hk
end
theorem zpR {H:Type} {enc:TypeId × Value→H} {C:Checked} {os:Os} {f:FuncId} {fn:Func} {s:ChangeSpec} {conds:List PathCond} {apart:Bool} {X:World→Array Value→Prop} (w0:World) (args:Array Value) (fuel:Nat) (rR:w0.os=os)
 (hv:(w0.forCall (fun _ _=>0) ⟨#[],args,[]⟩).variablesZipB C.prog=true)
 (hr:((w0.forCall (fun _ _=>0) ⟨#[],args,[]⟩).heap.toList.drop C.prog.globals.size).take ((begin C.prog (fun _ _=>0) default).world.heap.size - C.prog.globals.size) =
  (begin C.prog (fun _ _=>0) default).world.heap.toList.drop C.prog.globals.size)
 (di:Input.okWideB C.prog (w0.forCall (fun _ _=>0) ⟨#[],args,[]⟩) f ⟨#[],args,[]⟩=true)
 (ly:s.preB enc C.prog fn conds apart (w0.forCall (fun _ _=>0) ⟨#[],args,[]⟩).memory args fuel=true)
 (dB:s.sizedB enc C.prog fn apart (w0.forCall (fun _ _=>0) ⟨#[],args,[]⟩).memory args fuel=true)
 (hx:X (w0.forCall (fun _ _=>0) ⟨#[],args,[]⟩).memory args) :
 ∃ (w:World) (tape:Tape) (i:Input),w.os=os∧(w.forCall tape i).Shaped C.prog∧i.vars=[]∧Input.okWide C.prog (w.forCall tape i) .any w.heap.size f i ∧
   ((s.pre enc C.prog fn conds apart (w.forCall tape i).memory i.args∧X (w.forCall tape i).memory i.args)∧sizedMet enc C.prog fn (OpenSpec.ofChange s) apart (w.forCall tape i).memory i.args)∧({}:Assume).holds C.prog (lone (Frame.enter C.prog f i.args .normal) [] (w.forCall tape i)) :=
 ⟨w0,fun _ _=>0,⟨#[],args,[]⟩,rR,World.shaped_of_ZipB hv hr,(Input.okWide_of_okWideB (base:=0) di).1,(Input.okWide_of_okWideB di).2,⟨⟨ChangeSpec.pre_of_preB ly,hx⟩,sizedMet_of_sizedB dB⟩,by
  simp only [Assume.holds]
  exact ⟨by simp,by simp,fun h=>by simp at h,by simp,by simp⟩⟩
end Go.Am
namespace Go.Am
open Go.RowKit Go.ChangeShapes Go.WideShapes Go.ChangeAt
section
variable {P:Program} {T:bD} {ov:Ov} {W:World} {H:Type} {enc:TypeId × Value→H}
theorem zlz (j4:P.follows .mixedOrders=true) (hT:T.Fits P) {g:Nat} (xg:T.gs=[g]) (nY:Ab P T.gs ov) {k:FuncId} {fn:Func} {s:ChangeSpec} {n boolT:Nat} {apart fresh handsOn again:Bool} {base:Nat} {args:Array Value} {ds gs:List (DataW H)} {before:List MemPlace}
 (hk:ov k=none) (ht:∀ c,c < 256→W.cell? ⟨g,c,none⟩=some (.int .u8 (Lib.asciiSpaceTab.getD c 0))) (hl:laidOutB P=true) (oS:s.vars=[]) (jC:fn.resultTypes.toList=[boolT]) (NL:fn.resultTypes.size=1) (Av:P.underlying boolT=some .bool)
 (VF:fn.params.toList.all (vw P n)=true) (mI:fn.params.toList.all (fun t=>P.readableRec t && decide (t < P.types.size))=true)
 (rJ:∀ ds:List (DataW H),ds.length=fn.params.size→s.fn H ds={ results:=[.lit (.bool true)],args:=ds })
 (di:∀ (h:Heap) (args:List Value),h.low=h.size→Holds h g (.row sV sR true)→wi P h n fn.params.toList args→Ok P T ov k args h fun v h'=>v=.bool true∧Ext h h')
 (dE:∀ (j:Nat) t v,fn.params[j]? = some t→args[j]? = some v→Value.okWide P W .any base t v)
 (hW:DataW.Whole enc P fn.params.toList s.vars apart W args.toList ds gs before) :
 Calls P k args W fun e W'=>∃ v,e=.returned v∧s.post enc P fn apart fresh handsOn again W args v W':=by
 have hS:0 < W.heap.size:=by
  have:=ht 0 (by omega)
  unfold World.cell? at this
  split at this
  ·rename_i c _ _ hh
   have:=(Array.getElem?_eq_some_iff.1 hh).1
   omega
  ·cases this
 obtain ⟨M,tP⟩:=zpQ W
 have hM:0 < M:=Nat.lt_of_le_of_lt (Nat.zero_le _) (tP 0 hS)
 have hW':=hW
 obtain ⟨p,q,hA,hV,rfl,V0,iw⟩:=hW
 rw [oS] at hV
 obtain ⟨rfl,rfl⟩:=trodVars_none hV
 have hlen:∀ (ts:List TypeId) (vs:List Value) (ds:List (DataW H)) (ps:List MemPlace),DataW.TrodAll enc P W 0 (fun _=>true) true ts vs ds ps→ds.length=ts.length:=by
  intro ts
  induction ts with
  |nil=>intro vs ds ps h;cases vs <;> cases ds <;> first|rfl|cases h
  |cons t ts ih =>
   intro vs ds ps h
   cases vs with
   |nil=>cases h
   |cons v vs =>
    cases ds with
    |nil=>cases h
    |cons d ds=>obtain ⟨_,_,_,h2,_⟩:=h;simp [ih vs ds _ h2]
 have qa:=hlen _ _ _ _ hA
 have dB:(sb g).size=g+1:=rfl
 have cN:∀ A,(sb g).size≤A→sj g A=none:=fun A hA=>by
  rw [dB] at hA
  unfold sj
  rw [if_neg (by omega)]
 obtain ⟨vV,WH⟩:=zny (h:=sb g) (ρ:=sj g) (n:=n) (base:=base) hS tP fn.params.toList args.toList ds p VF (fun j t v h1 h2=>dE j t v (by simpa using h1) (by simpa using h2)) hA
 have dp:=zxe (W:=W) (h:=sb g) (ρ:=sj g) (M:=M) (znQ ht) cN (fun A L hA=>by
  unfold sj at hA
  split at hA
  ·rename_i e
   rw [e]
   exact ⟨sV,sR,by rw [Yz,if_pos rfl]⟩
  ·cases hA) hM
 have rP:(r9 W (sb g) M).low=(r9 W (sb g) M).size:=by rw [LQ];rfl
 have cA:Holds (r9 W (sb g) M) g (.row sV sR true):=⟨by rw [LQ,dB];omega,by rw [YJ (by rw [dB];omega),Yz,if_pos rfl]⟩
 refine (zqU j4 hT nY hk ?_ dp (fun A dR=>?_) rP vV (di _ _ rP cA WH)).mono fun e W' ⟨he,hb⟩=>?_
 ·rw [xg]
  intro x hx
  obtain rfl:x=g:=by simpa using hx
  refine ⟨0,?_⟩
  unfold pe
  rw [if_neg (by rw [dB];omega)]
  unfold sj
  rw [if_pos rfl]
 ·rw [LQ] at dR
  unfold pe
  rw [if_neg (by omega)]
  exact cN A (by omega)
 ·subst he
  have C5:=rJ (ds++[]) (by rw [List.append_nil,qa];simp)
  refine ⟨_,rfl,zwr (pa:=p) (pv:=[]) hW' (fun b sp hd=>?_) (fun sp cA=>?_) (fun sp _=>?_) (by simp) hb (fun j t r h1 h2=>?_)⟩
  ·rw [jC,NL,C5]
   exact trodAll_mk1 (shut_bool Av true)
  ·rw [C5]
   rw [List.append_nil]
   exact zgW hl hb sp _ _ _ _ mI (fun x hx=>hW'.lt x (by simp [hx])) (fun x hx=>cA x (by simp [hx])) hA
  ·rw [oS,C5]
   rfl
  ·rw [NL] at h2
   have hj:fn.resultTypes[j]? = some t:=h1
   have h3:fn.resultTypes.toList[j]? = some t:=by simpa using hj
   rw [jC] at h3
   cases j with
   |zero =>
    simp at h3 h2
    subst h3
    have:r=.bool true:=by simpa [Value.resultList] using h2.symm
    subst this
    exact okWide_bool_mk Av true
   |succ j=>simp at h3
/-! ### A chapter's example, where the table is read -/
def GY (g:Nat) (args:List Value) (h:Heap):Option (Value × Heap):=match args with
 | []=>(match h.get g with
  |some (.row _ e true)=>if Nat.beq e sR then some (.bool true,h) else none
  |_=>none)
 |_=>none
theorem zut {gs:List Nat} {f:FuncId} {g:Nat} (xg:g∈gs) (dO:∀ aF w,(callFunc f aF).run P w=.ok (.enter f aF) w) (hc:∀ w,(∀ c,c < 256→w.cell? ⟨g,c,none⟩=some (.int .u8 (Lib.asciiSpaceTab.getD c 0)))→Calls P f #[] w fun e w'=>e=.returned (.bool true)∧Below w.heap.size w w'):B0 P gs f (GY g):=by
 intro args h v h' ak
 unfold GY at ak
 split at ak
 ·split at ak
  ·rename_i cs e hg
   split at ak
   ·rename_i hm
    cases ak
    refine ⟨.refl _,fun ρ w aF hG hs bQ hv=>.inr ⟨dO aF w,?_⟩⟩
    have oE:aF=#[]:=by rw [← Array.toList_inj];exact hv.of_nil
    subst oE
    obtain ⟨t,hρ⟩:=hG g xg
    have hb:=hs.jX g _ hρ
    rw [hg] at hb
    have kC:=hb.1.2 (Nat.eq_of_beq_eq_true hm)
    refine (hc w (fun c hc=>?_)).mono ?_
    ·have hx:cs[c]? = some (.int .u8 (Lib.asciiSpaceTab.getD c 0)):=by
      rw [kC]
      unfold sV
      rw [List.getElem?_map]
      have:c < Lib.asciiSpaceTab.length:=by rw [Lib.asciiSpaceTab_length];exact hc
      simp [List.getD,this]
     obtain ⟨u,hu,lN⟩:=hb.2 c _ hx
     have:=lN.bG rfl
     subst this
     simpa using hu
    ·rintro e w' ⟨rfl,nW⟩
     exact ⟨ρ,.bool true,rfl,.oZ ρ _ nW,hs.below nW,.cX ρ rfl⟩
   ·cases ak
  ·cases ak
 ·cases ak
def aY (g:Nat) (h:Heap):Prop:=Holds h g (.row sV sR true)
theorem zAR {g:Nat} {h:Heap} (hs:aY g h):GY g [] h=some (.bool true,h):=by
 unfold GY
 rw [hs.get]
 rfl
end
end Go.Am
