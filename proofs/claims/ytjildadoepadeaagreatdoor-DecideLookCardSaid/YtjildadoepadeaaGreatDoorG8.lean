/- The table strings.asciiSpace and strings.Fields, for the plain machine. No condition. -/
import Derived.Test.YtjildadoepadeaaGreatDoorGOv
import Derived.Lib.Fields
import Derived.Lib.LaidTab
import Derived.MakeChecks
import Derived.Lay
import Derived.Test.YtjildadoepadeaaGreatDoorG6
set_option linter.unusedSimpArgs false
namespace Go.Am
open Go.RowKit
variable {g:Nat} {f:FuncId}
section
variable {P:Program} {gs:List Nat} {ρ:bU} {h:Heap} {w:World}

def oB (g:Nat):Heap:=⟨g+1,(Tr.set (g+1) .nil g (.row qc qd true)),g+1⟩
def pC (g:Nat):bU:=λA=>if A=g then some ⟨g,0,0⟩ else none
theorem MN (g A:Nat):(oB g).get A=if A=g then some (.row qc qd true) else none:=by
 unfold Heap.get oB
 simp only [Tr.aL _ _ _ _ _ (su g),Tr.get_nil]
 by_cases h1:A=g
 .subst h1;simp
 .simp [h1]
theorem zqP (ht:∀ c,c < 256->w.cell? ⟨g,c,none⟩=some (.int .u8 (Lib.asciiSpaceTab.getD c 0))) (i:Nat) (v:ai) (hv:qc[i]? = some v):w.cell? ⟨g,i,none⟩=some v/\plain v=true:=by
 unfold qc at hv
 rw [lE,bS] at hv
 obtain ⟨z,hz,rfl⟩:=hv
 have hi:i < 256:=by have:=(fB.1 hz).1;rw [Lib.asciiSpaceTab_length] at this;exact this
 refine ⟨?_,rfl⟩
 rw [ht i hi]
 simp [List.getD,hz]
theorem TK (ht:∀ c,c < 256->w.cell? ⟨g,c,none⟩=some (.int .u8 (Lib.asciiSpaceTab.getD c 0))):bj (pC g) (oB g) w:=by
 have aS:g < w.heap.size:=by
  have:=ht 0 (by omega)
  unfold World.cell? at this
  split at this
  .rename_i c _ _ hh;exact (jL.1 hh).1
  .cases this
 refine ⟨λA L hA=>?_,λA A' L L' hA da aV _=>?_⟩
 .unfold pC at hA
  split at hA
  .rename_i e
   cases hA
   rw [MN,aC e]
   refine ⟨⟨aS,λ_=>rfl⟩,λi v hv=>?_⟩
   obtain ⟨h1,h2⟩:=zqP ht i v hv
   exact ⟨v,by simpa using h1,.ct _ h2⟩
  .cases hA
 .unfold pC at hA da
  split at hA
  .split at da
   .omega
   .cases da
  .cases hA

theorem YY {l:List (String × DataW Unit)} {n:String} {d:DataW Unit}:∀ {ps:List MemPlace},DataW.LaidVars P w l ps->(n,d)∈l ->
 ∃ g t cs fuel p,P.globalNamed n=some g/\(P.globals[g]?).map (·.type)=some t/\w.var? P n=some cs/\DataW.trod (λ_=>()) P w 0 (λ_=>true) false fuel t cs.toList=some (d,p):=by
 induction l with
 |nil=>intro ps _ hm;cases hm
 |cons x l ih =>
  intro ps hl hm
  obtain ⟨m,e⟩:=x
  obtain ⟨g,t,cs,fuel,p,q,h1,h2,h3,h4,h5,_⟩:=hl
  rcases i0.1 hm with h6|h6
  .cases h6;exact ⟨g,t,cs,fuel,p,h1,h2,h3,h4⟩
  .exact ih h5 h6
theorem YD {l:List (String × DataW Unit)} {d:DataW Unit} {t e:TypeId} (hL:laidMetH P l w) (hp:(l.all λx=>x.2.handleName?.isNone)=true) (hm:("strings.asciiSpace",d)∈l) (hd:d=Lib.tabData .u8 Lib.asciiSpaceTab)
 (hg:P.globalNamed "strings.asciiSpace"=some g) (yp:(P.globals[g]?).map (·.type)=some t) (ht:P.underlying t=some (.array 256 e)) (he:P.underlying e=some (.int .u8)) (KY:P.cellsOf e=1) (xH:P.cellsOf t=256) :
 ∀ c,c < 256->w.cell? ⟨g,c,none⟩=some (.int .u8 (Lib.asciiSpaceTab.getD c 0)):=by
 rw [MakeChecks.laidMetH_plain _ _ _ hp] at hL
 obtain ⟨ps,hl,_⟩:=hL
 obtain ⟨g',t',cs,fuel,p,VO,Wy,L8,hx⟩:=YY hl hm
 subst hd
 obtain rfl:=Option.some.inj (hg.symm.trans VO)
 obtain rfl:=Option.some.inj (yp.symm.trans Wy)
 have hT:Lib.TabIs P w "strings.asciiSpace" .u8 Lib.asciiSpaceTab:=by
  unfold Lib.TabIs
  rw [L8,<- Lib.cells_of_tab ht he KY xH hx]
 exact λc hc=>hT.cell hg c (by rw [Lib.asciiSpaceTab_length];exact hc)

def oC (s:List UInt8):List ai:=(Lib.fields s).map λl=>Value.string ⟨l.toArray⟩
def y7 (g:Nat) (st:TypeId) (args:List ai) (h:Heap):Option (ai × Heap):=match args with
 | [.string s]=>(match h.get g with
  |some (.row _ e true) =>
   if Nat.beq e qd && s.data.toList.all (λb=>Nat.blt b.toNat 128) && Nat.blt s.size 4294967281 && Nat.blt (oC s.data.toList).length 4294967281 then
    some (.slice (some ⟨h.size,0,none⟩) (oC s.data.toList).length (oC s.data.toList).length,h.push (.row (oC s.data.toList) st false))
   else none
  |_=>none)
 |_=>none
theorem SV {st:TypeId} (tL:g∈gs) (cZ:∀ aB w,(callFunc f aB).run P w=.ok (.enter f aB) w)
 (hf:∀ (s:aA) (w:World),s.size < 4294967281->(∀ (j:Nat) b,s.data.toList[j]? = some b->b.toNat < 128)->(∀ c:Nat,c < 256->w.cell? ⟨g,c,none⟩=some (.int .u8 (if Lib.isSp (UInt8.ofNat c) then 1 else 0))) ->
  Calls P f #[.string s] w λe w' =>
   e=.returned (.slice (some ⟨w.heap.size,0,none⟩) (Lib.fields s.data.toList).length (Lib.fields s.data.toList).length)/\w'=w.alloc (.cells ((Lib.fields s.data.toList).map λl=>Value.string ⟨l.toArray⟩).toArray st)):wK P gs f (y7 g st):=by
 intro args h v h' ab
 unfold y7 at ab
 split at ab
 .rename_i s
  split at ab
  .rename_i cs e hg
   split at ab
   .rename_i hc
    simp only [cY,fD] at hc
    obtain ⟨⟨⟨hm,KV⟩,cA⟩,sG⟩:=hc
    cases ab
    refine ⟨.push _ _,λρ w aB hG hs bn hv=>.inr ⟨cZ aB w,?_⟩⟩
    obtain ⟨y,m,he,h1,h2⟩:=hv.of_cons
    cases h1
    have Ly:=h2.of_nil
    subst Ly
    have xB:aB=#[.string s]:=by apply Array.ext';simpa using he
    subst xB
    obtain ⟨t,hρ⟩:=hG g tL
    have hb:=hs.im g _ hρ
    rw [hg] at hb
    have nt:=hb.1.2 (Nat.eq_of_beq_eq_true hm)
    have fH:∀ c:Nat,c < 256->w.cell? ⟨g,c,none⟩=some (.int .u8 (if Lib.isSp (UInt8.ofNat c) then 1 else 0)):=by
     intro c hc
     have hx:cs[c]? = some (.int .u8 (Lib.asciiSpaceTab.getD c 0)):=by
      rw [nt]
      unfold qc
      rw [lE]
      have:c < Lib.asciiSpaceTab.length:=by rw [Lib.asciiSpaceTab_length];exact hc
      simp [List.getD,this]
     obtain ⟨u,hu,jQ⟩:=hb.2 c _ hx
     have:=jQ.bc rfl
     subst this
     rw [Lib.asciiSpaceTab_at c hc] at hu
     simpa using hu
    have dV:ρ h.size=none:=bn h.size (bg _) (su _)
    have L4:s.size < 4294967281:=by simpa [Nat.blt_eq] using cA
    have Db:∀ (j:Nat) b,s.data.toList[j]? = some b->b.toNat < 128:=λj b hb=>by
     have:=KV b (ig hb)
     simpa [Nat.blt_eq] using this
    refine (hf s w L4 Db fH).mono ?_
    rintro e w' ⟨rfl,rfl⟩
    have DQ:(oC s.data.toList).all iY=true:=by
     unfold oC
     rw [List.all_map,fD]
     intro x _
     rfl
    have hlen:(oC s.data.toList).length=(Lib.fields s.data.toList).length:=by simp [oC]
    obtain ⟨ρ',rJ,cy,cI⟩:=Aq (W:=w.alloc (.cells ((Lib.fields s.data.toList).map λl=>Value.string ⟨l.toArray⟩).toArray st)) (cs:=oC s.data.toList) (m:=oC s.data.toList) (e:=st) hs dV rfl rfl rfl rfl
     (by refine oD (by simp [oC]) rfl (λj _=>by rw [jX];rfl)) (bQ.plain ρ DQ)
    refine ⟨ρ',_,rfl,cy,cI,?_⟩
    have La:(oC s.data.toList).length < 4294967281:=by simpa [Nat.blt_eq] using sG
    rw [hlen] at La ⊢
    exact VR.slice (o:=0) rJ (by unfold G;omega) (bg _) (λ_=>rfl)
   .cases ab
  .cases ab
 .cases ab
def Te (n:Nat):FK:=λv h=>match v with
 | .bool b=>(match b with|true=>Nat.ble n h.low|false=>false)
 |_=>false
def HW (n:Nat) (r:Option (ai × Heap)):Bool:=match r with
 |some x=>Te n x.1 x.2
 |none=>false
theorem SM {T:bm} {ov:Ov} (ix:P.follows .mixedOrders=true) (hT:T.Fits P) (tL:T.gs=[g]) (lK:uV P T.gs ov) {n:Nat} (hf:ov f=none) (cW:HW (g+1) (call P T ov n (.func f) [] (oB g))=true) (w:World)
 (ht:∀ c,c < 256->w.cell? ⟨g,c,none⟩=some (.int .u8 (Lib.asciiSpaceTab.getD c 0))) :
 Calls P f #[] w λe w'=>e=.returned (.bool true)/\Below w.heap.size w w':=by
 match hc:call P T ov n (.func f) [] (oB g),cW with
 |some (v,h'),hk =>
  simp only [HW] at hk
  unfold Te at hk
  split at hk
  .rename_i b
   split at hk
   .refine ztx ix hT lK hf hc w (pC g) (by rw [tL];intro q hq;simp at hq;subst hq;exact ⟨0,by simp [pC]⟩) (TK ht) ?_ ?_
    .intro A hA
     unfold pC
     rw [ay]
     have:g+1<=A:=hA
     omega
    .intro A L hA
     unfold pC at hA
     split at hA
     .have:=Nat.le_of_ble_eq_true hk;omega
     .cases hA
   .cases hk
  .cases hk
end
theorem zos {H:Type} {enc:TypeId × ai->H} {C:Checked} {os:Os} {fn:Func} {s:ChangeSpec} {conds:List PathCond} {apart:Bool} {X:World->Array ai->Prop} (w0:World) (args:Array ai) (fuel:Nat) (nD:w0.os=os)
 (hv:(w0.forCall (λ_ _=>0) ⟨#[],args,[]⟩).variablesZipB C.prog=true)
 (hr:((w0.forCall (λ_ _=>0) ⟨#[],args,[]⟩).heap.toList.drop C.prog.globals.size).take ((begin C.prog (λ_ _=>0) default).world.heap.size - C.prog.globals.size) =
  (begin C.prog (λ_ _=>0) default).world.heap.toList.drop C.prog.globals.size)
 (cE:Input.okWideB C.prog (w0.forCall (λ_ _=>0) ⟨#[],args,[]⟩) f ⟨#[],args,[]⟩=true)
 (jw:s.preB enc C.prog fn conds apart (w0.forCall (λ_ _=>0) ⟨#[],args,[]⟩).memory args fuel=true)
 (cA:s.sizedB enc C.prog fn apart (w0.forCall (λ_ _=>0) ⟨#[],args,[]⟩).memory args fuel=true)
 (hx:X (w0.forCall (λ_ _=>0) ⟨#[],args,[]⟩).memory args) :
 ∃ (w:World) (tape:Tape) (i:Input),w.os=os/\(w.forCall tape i).Shaped C.prog/\i.vars=[]/\Input.okWide C.prog (w.forCall tape i) .any w.heap.size f i /\
   ((s.pre enc C.prog fn conds apart (w.forCall tape i).memory i.args/\X (w.forCall tape i).memory i.args)/\sizedMet enc C.prog fn (OpenSpec.ofChange s) apart (w.forCall tape i).memory i.args)/\({}:Assume).holds C.prog (lone (Frame.enter C.prog f i.args .normal) [] (w.forCall tape i)) :=
 ⟨w0,λ_ _=>0,⟨#[],args,[]⟩,nD,World.shaped_of_ZipB hv hr,(Input.okWide_of_okWideB (base:=0) cE).1,(Input.okWide_of_okWideB cE).2,⟨⟨ChangeSpec.pre_of_preB jw,hx⟩,sizedMet_of_sizedB cA⟩,by
  simp only [Assume.holds]
  exact ⟨by simp,by simp,λh=>by simp at h,by simp,by simp⟩⟩
end Go.Am
namespace Go.Am
open Go.RowKit Go.ChangeShapes Go.WideShapes Go.ChangeAt
variable {g:Nat}
section
variable {P:Program} {T:bm} {ov:Ov} {W:World} {H:Type} {enc:TypeId × ai->H}
theorem YG (ix:P.follows .mixedOrders=true) (hT:T.Fits P) (tL:T.gs=[g]) (lK:uV P T.gs ov) {k:FuncId} {fn:Func} {s:ChangeSpec} {n boolT:Nat} {apart fresh handsOn again:Bool} {base:Nat} {args:Array ai} {ds gs:List (DataW H)} {before:List MemPlace}
 (hk:ov k=none) (ht:∀ c,c < 256->W.cell? ⟨g,c,none⟩=some (.int .u8 (Lib.asciiSpaceTab.getD c 0))) (hl:laidOutB P=true) (mv:s.vars=[]) (gS:fn.resultTypes.toList=[boolT]) (Hg:fn.resultTypes.size=1) (vf:P.underlying boolT=some .bool)
 (KZ:fn.params.toList.all (r9 P n)=true) (kK:fn.params.toList.all (λt=>P.readableRec t && decide (t < P.types.size))=true)
 (oU:∀ ds:List (DataW H),ds.length=fn.params.size->s.fn H ds={ results:=[.lit (.bool true)],args:=ds })
 (cE:∀ (h:Heap) (args:List ai),h.low=h.size->Holds h g (.row qc qd true)->sZ P h n fn.params.toList args->Ok P T ov k args h λv h'=>v=.bool true/\Ext h h')
 (eF:∀ (j:Nat) t v,fn.params[j]? = some t->args[j]? = some v->Value.okWide P W .any base t v)
 (hW:DataW.Whole enc P fn.params.toList s.vars apart W args.toList ds gs before) :
 Calls P k args W λe W'=>∃ v,e=.returned v/\s.post enc P fn apart fresh handsOn again W args v W':=by
 have hS:0 < W.heap.size:=by
  have:=ht 0 (by omega)
  unfold World.cell? at this
  split at this
  .rename_i c _ _ hh
   have:=(jL.1 hh).1
   omega
  .cases this
 obtain ⟨M,qG⟩:=zor W
 have hM:0 < M:=A7 (pN _) (qG 0 hS)
 have P1:=hW
 obtain ⟨p,q,hA,hV,rfl,Lf,Hf⟩:=hW
 rw [mv] at hV
 obtain ⟨rfl,rfl⟩:=trodVars_none hV
 have hlen:∀ (ts:List TypeId) (vs:List ai) (ds:List (DataW H)) (ps:List MemPlace),DataW.TrodAll enc P W 0 (λ_=>true) true ts vs ds ps->ds.length=ts.length:=by
  intro ts
  induction ts with
  |nil=>intro vs ds ps h;cases vs <;> cases ds <;> first|rfl|cases h
  |cons t ts ih =>
   intro vs ds ps h
   cases vs with
   |nil=>cases h
   |cons v vs =>
    cases ds with
    |nil=>cases h
    |cons d ds=>obtain ⟨_,_,_,h2,_⟩:=h;simp [ih vs ds _ h2]
 have nu:=hlen _ _ _ _ hA
 have cA:(oB g).size=g+1:=rfl
 have cy:∀ A,(oB g).size<=A->pC g A=none:=λA hA=>by
  rw [cA] at hA
  unfold pC
  rw [ay (by omega)]
 obtain ⟨ub,LW⟩:=TC (h:=oB g) (ρ:=pC g) (n:=n) (base:=base) hS qG fn.params.toList args.toList ds p KZ (λj t v h1 h2=>eF j t v (by simpa using h1) (by simpa using h2)) hA
 have cI:=zuo (W:=W) (h:=oB g) (ρ:=pC g) (M:=M) (TK ht) cy (λA L hA=>by
  unfold pC at hA
  split at hA
  .rename_i e
   rw [e]
   exact ⟨qc,qd,by rw [MN,aC rfl]⟩
  .cases hA) hM
 have js:(pB W (oB g) M).low=(pB W (oB g) M).size:=by rw [FU];rfl
 have bJ:Holds (pB W (oB g) M) g (.row qc qd true):=⟨by rw [FU,cA];omega,by rw [MZ (by rw [cA];omega),MN,aC rfl]⟩
 refine (zpI ix hT lK hk ?_ cI (λA da=>?_) js ub (cE _ _ js bJ LW)).mono λe W' ⟨he,hb⟩=>?_
 .rw [tL]
  intro x hx
  obtain rfl:x=g:=by simpa using hx
  refine ⟨0,?_⟩
  unfold mF
  rw [ay (by rw [cA];omega)]
  unfold pC
  rw [aC rfl]
 .rw [FU] at da
  unfold mF
  rw [ay (by omega)]
  exact cy A (by omega)
 .subst he
  have xO:=oU (ds++[]) (by rw [cU,nu];simp)
  refine ⟨_,rfl,ztD (pa:=p) (pv:=[]) P1 (λb sp hd=>?_) (λsp bJ=>?_) (λsp _=>?_) (by simp) hb (λj t r h1 h2=>?_)⟩
  .rw [gS,Hg,xO]
   exact trodAll_mk1 (shut_bool vf true)
  .rw [xO]
   rw [cU]
   exact RN hl hb sp _ _ _ _ kK (λx hx=>P1.lt x (by simp [hx])) (λx hx=>bJ x (by simp [hx])) hA
  .rw [mv,xO]
   rfl
  .rw [Hg] at h2
   have hj:fn.resultTypes[j]? = some t:=h1
   have h3:fn.resultTypes.toList[j]? = some t:=by simpa using hj
   rw [gS] at h3
   cases j with
   |zero =>
    simp at h3 h2
    subst h3
    have:r=.bool true:=by simpa [Value.resultList] using h2.symm
    subst this
    exact okWide_bool_mk vf true
   |succ j=>simp at h3
def zy (g:Nat) (args:List ai) (h:Heap):Option (ai × Heap):=match args with
 | []=>(match h.get g with
  |some (.row _ e true)=>if Nat.beq e qd then some (.bool true,h) else none
  |_=>none)
 |_=>none
theorem TD {gs:List Nat} {f:FuncId} (tL:g∈gs) (cZ:∀ aB w,(callFunc f aB).run P w=.ok (.enter f aB) w) (hc:∀ w,(∀ c,c < 256->w.cell? ⟨g,c,none⟩=some (.int .u8 (Lib.asciiSpaceTab.getD c 0)))->Calls P f #[] w λe w'=>e=.returned (.bool true)/\Below w.heap.size w w'):wK P gs f (zy g):=by
 intro args h v h' ab
 unfold zy at ab
 split at ab
 .split at ab
  .rename_i cs e hg
   split at ab
   .rename_i hm
    cases ab
    refine ⟨.refl _,λρ w aB hG hs bn hv=>.inr ⟨cZ aB w,?_⟩⟩
    have kF:aB=#[]:=by rw [<- Bf];exact hv.of_nil
    subst kF
    obtain ⟨t,hρ⟩:=hG g tL
    have hb:=hs.im g _ hρ
    rw [hg] at hb
    have nt:=hb.1.2 (Nat.eq_of_beq_eq_true hm)
    refine (hc w (λc hc=>?_)).mono ?_
    .have hx:cs[c]? = some (.int .u8 (Lib.asciiSpaceTab.getD c 0)):=by
      rw [nt]
      unfold qc
      rw [lE]
      have:c < Lib.asciiSpaceTab.length:=by rw [Lib.asciiSpaceTab_length];exact hc
      simp [List.getD,this]
     obtain ⟨u,hu,jQ⟩:=hb.2 c _ hx
     have:=jQ.bc rfl
     subst this
     simpa using hu
    .rintro e w' ⟨rfl,qN⟩
     exact ⟨ρ,.bool true,rfl,.mx ρ _ qN,hs.below qN,.ct ρ rfl⟩
   .cases ab
  .cases ab
 .cases ab
def aI (g:Nat) (h:Heap):Prop:=Holds h g (.row qc qd true)
theorem zuH {h:Heap} (hs:aI g h):zy g [] h=some (.bool true,h):=by
 unfold zy
 rw [hs.get]
 rfl
end
end Go.Am
