/- The code of some functions, node by node, for simp. Written by a program (mkcode.py). No condition. -/
import Derived.Test.YtnkmeidmdaidhaaGreatDoorG25
set_option linter.unusedSimpArgs false
set_option linter.unusedVariables false
set_option maxRecDepth 100000
set_option maxHeartbeats 0
noncomputable section
namespace Go.Proofs.YtnkmeidmdaidhaaGreatDoor
open Go.Am Tryz
def ZT:=bI f43
def x43:=PLift.up (by have c:=bM ZT f43;simp only [aO,f43,seval] at c;exact nd c <| nd @cq <| @Sw)
theorem Ju:type_of% x43.down:=x43.down
def N77:=bI f77
def x77:=PLift.up (by have c:=bM N77 f77;simp only [aO,f77,seval] at c;exact nd c <| nd @zCs <| nd @kH <| nd @vd <| nd @ve <| nd @ig <| nd @xm <| nd @iX <| nd @cq <| nd @kp <| nd @ij <| nd @xp <| @S9)
theorem sE:type_of% x77.down:=x77.down
def ZS:=bI f42
def x42:=PLift.up (by have c:=bM ZS f42;simp only [aO,f42,seval] at c;exact nd c <| nd @vd <| nd @ve <| nd @iX <| nd @cq <| nd @qA <| @Sv)
theorem DH:type_of% x42.down:=x42.down
def N75:=bI f75
def x75:=PLift.up (by have c:=bM N75 f75;simp only [aO,f75,seval] at c;exact nd c <| nd @cq <| @S7)
theorem Ox:type_of% x75.down:=x75.down
def ZF:=bI f24
def x24:=PLift.up (by have c:=bM ZF f24;simp only [aO,f24,seval] at c;exact nd c <| nd @kH <| nd @vG <| nd @pj <| nd @ig <| nd @cq <| nd @qA <| nd @rR <| nd @ij <| @Se)
theorem uP:type_of% x24.down:=x24.down
def N65:=bI f65
def x65:=PLift.up (by have c:=bM N65 f65;simp only [aO,f65,seval] at c;exact nd c <| nd @kH <| nd @yV <| nd @uE <| nd @mJ <| nd @jQ <| nd @cq <| nd @ng <| @SS)
theorem DI:type_of% x65.down:=x65.down
theorem eqS (a b:aU):dC aH 20 9 (.string a) (.string b)=some (decide (a=b)):=by
 have h:dC aH 20 9 (.string a) (.string b)=some (a.data.toList == b.data.toList):=by kernel_rfl
 rw [h,NK]
theorem skS (a:aU):CY (.string a) (.string a)=true:=by
 show BC (.string a) (.string a)=true
 unfold BC
 simp
theorem zDb (h:Heap) (l:List aZ) (w i o:Nat) (v:ai) (hi:i < l.length):i7 aH 123 (.pointer (some ⟨h.size+i,o,none⟩)) v (h.lay l w)=if v.cells.size=0 then vk l[i]? i o v.cells.toList h l w else none:=Bz zEn h l w i o v hi
theorem zAX:lL aH 123 []=some (.agg ⟨[]⟩):=by kernel_rfl
theorem zz5:aH.zero 123=some (.agg ⟨[]⟩):=by kernel_rfl
theorem zsf (a:ae) (u:ai):cut (a.cells++[u]) 0 11=some a.cells:=rfl
theorem zot (a:ae) (u:ai):cut (a.cells++[u]) 0 12=some (a.cells++[u]):=rfl
theorem zok (a:ae) (u:ai):(a.cells++[u])[11]? = some u:=rfl
theorem zBD (a:ae) (u:ai):(a.cells++[u]).length=12:=rfl
theorem zBU {a:ae} {w:ai} (h:Am.one w=true):(a.cells++[w]).all Am.one=true:=by
 rw [Dn]
 simp only [gS,iI,h,Gv]
 rfl
theorem zzf (a:ae) (h:Heap) (dD:bl 1 h) (K:aJ) (jL:bF a->∀ h',Ext h h'->K (.bool true) h') (iJ:¬ bF a->∀ h',Ext h h'->K (.bool false) h'):Ok prog aH ov 43 [a.val] h K:=by
 rw [aw h]
 have z:=Ext.refl h
 refine Ok.aA 9 (bH ZT) ?_
 repeat' (simp only [aa,seval,Ju,gV,↓fe,dU,dq])
 refine Na a _ (dD.lay _ _) _ (λhv h' x=>?_) (λhv c h' hc x=>?_)
 .have q0:=Holds.top (i:=0) x rfl
  (replace z:=z.ao x;rw [aw h'])
  repeat' (simp only [aa,seval,Ju,q0.lay,↓fe,dU,dq])
  refine zo9 a _ _ (λh' x=>?_)
  (replace z:=z.ao x;replace q0:=q0.over x;rw [aw h'])
  cases hg:a.ground
  .repeat' ( simp only [aa,seval,Ju])
   exact iJ (λx=>by rw [x.ground] at hg;cases hg) _ z.av
  .repeat' ( simp only [aa,seval,Ju])
   exact jL ⟨hv,hg⟩ _ z.av
 ·(replace z:=z.ao x;rw [aw h'])
  repeat' (first|simp only [aa,seval,Ju]|((with_reducible apply qL) <;> intro _))
  .exact absurd (by assumption) hc
  .exact iJ (λx=>hv x.valid) _ z.av
open Classical in
def ly (a:ae):Bool := !decide (bg a)
theorem zsH (a:ae) (h:Heap) (dD:bl 1 h) (K:aJ) (hk:∀ h',Ext h h'->K (.bool (ly a)) h'):Ok prog aH ov 75 [a.val] h K:=by
 rw [aw h]
 have z:=Ext.refl h
 refine Ok.aA 5 (bH N75) ?_
 repeat' (simp only [aa,seval,Ox,gV,↓fe,dU,dq])
 refine Na a _ (dD.lay _ _) _ (λhv h' x=>?_) (λhv c h' hc x=>?_)
 .have e:ly a=false:=by unfold ly;simp [hv]
  rw [e] at hk
  (replace z:=z.ao x;rw [aw h'])
  repeat' (simp only [aa,seval,Ox])
  first|exact hk _ z.av|skip
 .have e:ly a=true:=by unfold ly;simp [hv]
  rw [e] at hk
  (replace z:=z.ao x;rw [aw h'])
  simp only [aa,seval,Ox]
  refine Q0 (λ_=>?_) (λhh=>absurd hh hc)
  repeat' (simp only [aa,seval,Ox])
  exact hk _ z.av
theorem zuI (c:ak) (v:ai) (h:Heap) (hl:Sl aC.atom h v c.body) (hn:c.body.length<=1000) (K:aJ) (jL:(∀ x,la c.head x->∃ b∈c.body,la b x)->∀ h',Ext h h'->K (.bool true) h') (iJ:¬ (∀ x,la c.head x->∃ b∈c.body,la b x)->∀ h',Ext h h'->K (.bool false) h'):Ok prog aH ov 77 [.agg ⟨c.head.cells++[v]⟩] h K:=by
 rw [aw h]
 have z:=Ext.refl h
 have cX:∀ (h:Heap) (K:aJ),aK (some v) h K=K v h:=λ_ _=>rfl
 have dQ:=λ(hh:Heap)=>hl.bQ bZ hh
 refine Ok.aA 48 (bH N77) ?_
 repeat' (simp only [aa,seval,sE,MZ,zok,cX,dQ])
 refine uB (λh' x hq=>?_)
 have q0:=hq 0 _ rfl
 have qm:=hq 1 _ rfl
 clear hq
 (replace z:=z.ao x;rw [aw h'])
 obtain ⟨A0,fI⟩:∃ A,A=h.size+0:=⟨_,rfl⟩
 obtain ⟨Mm,hMm⟩:∃ A,A=h.size+1:=⟨_,rfl⟩
 rw [<- fI] at q0
 rw [<- hMm] at qm
 rw [<- fI,<- hMm]
 have m0:dt Value.string h' Mm ([]:List aU):=dt.new qm
 clear qm
 obtain ⟨I1,aX⟩:∃ I:Nat->Env->Heap->Prop,I=(λn e h'=>∃ (i:Nat) (met:List aU) (h1:Heap),h'=h1.lay [] h1.low/\Ext h h1/\(n=c.body.length - i/\i<=c.body.length/\(∀ x,x∈met↔∃ y∈c.body.take i,la y x)/\Holds h1 A0 (.row (c.head.cells++[v]) 35 false)/\dt Value.string h1 Mm met)/\∃ J:Nat->ai,e=(J 0::.pointer (some ⟨A0,0,none⟩)::J 2::.map (some Mm)::jr J 4 10 (v::.int .i64 c.body.length::.int .i64 i::jr J 17 32 ([])))):=⟨_,rfl⟩
 refine dN I1 _ (by rw [aX];exact ⟨0,[],_,rfl,z,⟨rfl,by omega,by simp,q0,m0⟩,bo⟩) ?_
 intro n e h' aP
 rw [aX] at aP
 obtain ⟨i,met,bU,rfl,z,hinv,J,rfl⟩:=aP
 clear q0 m0
 obtain ⟨rfl,hi,Al,q0,m0⟩:=hinv
 have jB:=eE i (by omega)
 simp only [aa,seval,sE]
 refine bS (λaT=>?_) (λaT=>?_)
 .obtain ⟨y,hy,sQ⟩:=gC (l:=c.body) (i:=i) (by omega)
  repeat' (first|simp only [aa,seval,sE,iy,im,gd,lI,gV,zs9,zsy,zsR,↓fe,dU,dq]|with_reducible refine r9 (hl.mono z.inc) bZ ck (by omega) hy (λp hp=>?_)|with_reducible refine qV hp iQ ck ?_)
  refine zsN y _ _ (λw l h' x s UR hm=>?_)
  (replace z:=z.ao x;replace q0:=q0.over x;replace m0:=m0.over x;rw [aw h'])
  have xf:∀ (h:Heap) (K:aJ),aK (some w) h K=K w h:=λ_ _=>rfl
  have sK:=λ(hh:Heap)=>s.bQ hY hh
  clear hp
  repeat' (simp only [aa,seval,sE,sK])
  obtain ⟨Hb,rfl⟩:∃ Hb,Hb=h':=⟨_,rfl⟩
  have hMl:=m0.lt
  obtain ⟨I2,eu⟩:∃ I:Nat->Env->Heap->Prop,I=(λn e h'=>∃ (j:Nat) (nF:List aU) (h1:Heap),h'=h1.lay [] h1.low/\Ext h h1/\(n=l.length - j/\j<=l.length/\(∀ x,x∈nF↔(∃ y∈c.body.take i,la y x)\/x∈l.take j)/\Holds h1 A0 (.row (c.head.cells++[v]) 35 false)/\dt Value.string h1 Mm nF/\Sl aC.str h1 w l)/\∃ J:Nat->ai,e=(J 0::.pointer (some ⟨A0,0,none⟩)::J 2::.map (some Mm)::jr J 4 10 (v::.int .i64 c.body.length::.int .i64 i::jr J 17 4 (w::.int .i64 l.length::.int .i64 j::jr J 24 25 ([]))))):=⟨_,rfl⟩
  refine dN I2 _ (by rw [eu];exact ⟨0,met,_,rfl,z,⟨rfl,by omega,by simpa using Al,q0,m0,s⟩,bo⟩) ?_
  intro n e h' aP
  rw [eu] at aP
  obtain ⟨j,nF,dc,rfl,z,hinv,J,rfl⟩:=aP
  clear q0 m0 s
  obtain ⟨rfl,hj,wL,q0,m0,s⟩:=hinv
  have yC:=eE j (by omega)
  have lg:=z.size
  simp only [aa,seval,sE]
  refine bS (λey=>?_) (λey=>?_)
  rotate_left
  .rw [gb (l:=l) (i:=j) (by omega)] at wL
   have qp:∀ x,x∈nF↔∃ y∈c.body.take (i+1),la y x:=by
    intro x
    rw [wL,hm,lr,sQ]
    simp only [Option.toList_some,gg,ep]
    constructor
    .rintro (⟨b,hb,e⟩|e)
     .exact ⟨b,.inl hb,e⟩
     .exact ⟨y,.inr rfl,e⟩
    .rintro ⟨b,hb|hb,e⟩
     .exact .inl ⟨b,hb,e⟩
     .exact .inr (hb ▸ e)
   repeat' (simp only [aa,seval,sE])
   rw [jB]
   (rw [aX];with_reducible refine cF (m:=_) ?_ ⟨i+1,nF,_,rfl,z,⟨rfl,by omega,qp,q0,m0⟩,bo⟩;omega)
  obtain ⟨x0,Cv,rP⟩:=gC (l:=l) (i:=j) (by omega)
  repeat' (first|simp only [aa,seval,sE,MK,zAX]|with_reducible refine F7 s hY xD (by omega) Cv (λp hp=>?_)|with_reducible refine qJ hp uO ?_)
  have hMM:=m0.lt
  have hM0:A0≠Mm:=by omega
  refine zzX (a:=x0) m0 (λ_=>rfl) skS zCI eqS (λh' m1 cg=>?_)
  have q1:=q0.br cg hM0
  have s1:=Sl.LC s (λ_ _ _ _ h=>h) m0 cg
  replace z:=z.av.step cg (by omega)
  rw [aw h']
  have qp:∀ x,x∈x0::nF↔(∃ y∈c.body.take i,la y x)\/x∈l.take (j+1):=by
   intro x
   rw [df,wL,lr,rP,gg]
   simp only [Option.toList_some,ep]
   constructor
   .rintro (e|e|e)
    .exact .inr (.inr e)
    .exact .inl e
    .exact .inr (.inl e)
   .rintro (e|e|e)
    .exact .inr (.inl e)
    .exact .inr (.inr e)
    .exact .inl e
  clear q0 m0 s
  repeat' (simp only [aa,seval,sE])
  rw [yC]
  (rw [eu];with_reducible refine cF (m:=_) ?_ ⟨j+1,x0::nF,_,rfl,z,⟨rfl,by omega,qp,q1,m1,s1⟩,bo⟩;omega)
 rw [gb (by omega)] at Al
 repeat' (simp only [aa,seval,sE,q0.lay,↓zsf,dU,dq])
 refine zsN c.head _ _ (λw l h' x s UR hm=>?_)
 (replace z:=z.ao x;replace q0:=q0.over x;replace m0:=m0.over x;rw [aw h'])
 have xf:∀ (h:Heap) (K:aJ),aK (some w) h K=K w h:=λ_ _=>rfl
 have sK:=λ(hh:Heap)=>s.bQ hY hh
 repeat' (simp only [aa,seval,sE,sK])
 obtain ⟨I3,lT⟩:∃ I:Nat->Env->Heap->Prop,I=(λn e h'=>∃ (j:Nat) (h1:Heap),h'=h1.lay [] h1.low/\Ext h h1/\(n=l.length - j/\j<=l.length/\(∀ x∈l.take j,x∈met)/\dt Value.string h1 Mm met/\Sl aC.str h1 w l)/\∃ J:Nat->ai,e=(jr J 0 3 (.map (some Mm)::jr J 4 30 (w::.int .i64 l.length::.int .i64 j::jr J 37 12 ([]))))):=⟨_,rfl⟩
 refine dN I3 _ (by rw [lT];exact ⟨0,_,rfl,z,⟨rfl,by omega,by simp,m0,s⟩,bo⟩) ?_
 intro n e h' aP
 rw [lT] at aP
 obtain ⟨j,dc,rfl,z,hinv,J,rfl⟩:=aP
 clear m0 s
 obtain ⟨rfl,hj,aB,m0,s⟩:=hinv
 have yC:=eE j (by omega)
 simp only [aa,seval,sE]
 refine bS (λey=>?_) (λey=>?_)
 rotate_left
 .rw [gb (by omega)] at aB
  repeat' (simp only [aa,seval,sE])
  exact jL (λx hx=>(Al x).1 (aB x ((hm x).2 hx))) _ z.av
 obtain ⟨x0,Cv,rP⟩:=gC (l:=l) (i:=j) (by omega)
 repeat' (first|simp only [aa,seval,sE,Ni]|with_reducible refine F7 s hY xD (by omega) Cv (λp hp=>?_)|with_reducible refine qJ hp uO ?_)
 refine zus (a:=x0) m0 (λ_=>rfl) zCI eqS zz5 (λaP=>?_) (λaP=>?_)
 all_goals
  repeat' (first|simp only [aa,seval,sE,iy,iI,im,gd,zDb]|((with_reducible apply cf);(· rfl)))
 .rw [yC]
  refine Ho z.av (λH z hO hI=>?_)
  (rw [lT];with_reducible refine cF (m:=_) ?_ ⟨j+1,_,rfl,z,⟨rfl,by omega,rY (i:=j) (P:=λx:aU=>x∈met) rP aB aP,m0.hold hO,s.mono hI⟩,bo⟩;omega)
 .exact iJ (λhh=>aP ((Al x0).2 (hh x0 ((hm x0).1 (en rP))))) _ z.av
theorem zBN (c:ak) (v:ai) (h:Heap) (dD:bl 1 h) (hl:Sl aC.atom h v c.body) (hn:c.body.length<=1000) (K:aJ) (jL:jI c->∀ h',Ext h h'->K (.bool true) h') (iJ:¬ jI c->∀ h',Ext h h'->K (.bool false) h'):Ok prog aH ov 42 [.agg ⟨c.head.cells++[v]⟩] h K:=by
 rw [aw h]
 have z:=Ext.refl h
 have cX:∀ (h:Heap) (K:aJ),aK (some v) h K=K v h:=λ_ _=>rfl
 refine Ok.aA 19 (bH ZS) ?_
 repeat' (simp only [aa,seval,DH,↓zsf,dU,dq])
 refine zsH c.head _ (dD.lay _ _) _ (λh' x=>?_)
 have q0:=Holds.top (i:=0) x rfl
 (replace z:=z.ao x;rw [aw h'])
 obtain ⟨A0,fI⟩:∃ A0,A0=h.size+0:=⟨_,rfl⟩
 rw [<- fI] at q0
 rw [<- fI]
 cases hb:ly c.head
 rotate_left
 .repeat' (first|simp only [aa,seval,DH]|((with_reducible apply cf);(· rfl)))
  exact iJ (λx=>by unfold ly at hb;simp [x.head] at hb) _ z.av
 have hhd:bg c.head:=by unfold ly at hb;simpa using hb
 repeat' (first|simp only [aa,seval,DH,q0.lay,zok,cX]|((with_reducible apply cf);(· rfl)))
 refine ziC c.body v _ ly _ ((hl.mono z.inc).lay _ _) hn (λa hc K' xe hK=>by rw [yJ];exact zsH a hc (((dD.ext z).lay _ _).ext xe) K' hK) _ (λh' x=>?_)
 (replace z:=z.ao x;replace q0:=q0.over x;rw [aw h'])
 cases wg:c.body.any ly
 rotate_left
 .repeat' (first|simp only [aa,seval,DH]|((with_reducible apply cf);(· rfl)))
  refine iJ (λx=>?_) _ z.av
  obtain ⟨t,ht,iB⟩:=Gi.1 wg
  unfold ly at iB
  simp [x.body t ht] at iB
 have gz:∀ b∈c.body,bg b:=λb hm=>by
  have:=NN.1 wg b hm
  unfold ly at this
  simpa using this
 repeat' (first|simp only [aa,seval,DH,q0.lay,↓zot]|((with_reducible apply cf);(· rfl)))
 refine zuI c v _ ((hl.mono z.inc).lay _ _) hn _ (λhr h' x=>?_) (λhr h' x=>?_)
 ·(replace z:=z.ao x;( replace q0:=q0.over x );rw [aw h'])
  repeat' (simp only [aa,seval,DH])
  exact jL ⟨hhd,gz,hr⟩ _ z.av
 ·(replace z:=z.ao x;( replace q0:=q0.over x );rw [aw h'])
  repeat' (simp only [aa,seval,DH])
  exact iJ (λx=>hr x.mM) _ z.av
theorem zBL (cl:List ak) (facts:aN) (v u:ai) (h:Heap) (dD:bl 1 h) (hl:Sl aC.clause h v cl) (hf:Sl aC.atom h u facts) (hn:cl.length<=1000) (jN:∀ c∈cl,c.body.length<=1000) (lf:facts.length<=1000) (K:aJ) (jL:du cl facts->∀ h',Ext h h'->K (.bool true) h') (iJ:¬ du cl facts->∀ h',Ext h h'->K (.bool false) h'):Ok prog aH ov 24 [v,u] h K:=by
 rw [aw h]
 have z:=Ext.refl h
 have dQ:=λ(hh:Heap)=>hl.bQ fB hh
 have Ag:=λ(hh:Heap)=>hf.bQ bZ hh
 refine Ok.aA 27 (bH ZF) ?_
 simp only [aa,seval,uP,dQ]
 obtain ⟨I1,aX⟩:∃ I:Nat->Env->Heap->Prop,I=(λn e h'=>∃ (i:Nat) (h1:Heap),h'=h1.lay [] h1.low/\Ext h h1/\(n=cl.length - i/\i<=cl.length/\(∀ c∈cl.take i,jI c))/\∃ J:Nat->ai,e=(v::u::jr J 2 7 (v::.int .i64 cl.length::.int .i64 i::jr J 12 17 ([])))):=⟨_,rfl⟩
 refine dN I1 _ (by rw [aX];exact ⟨0,_,rfl,z,⟨rfl,by omega,by simp⟩,bo⟩) ?_
 intro n e h' aP
 rw [aX] at aP
 obtain ⟨i,bU,rfl,z,hinv,J,rfl⟩:=aP
 obtain ⟨rfl,hi,aB⟩:=hinv
 have hw:=eE i (by omega)
 simp only [aa,seval,uP]
 refine bS (λaT=>?_) (λaT=>?_)
 .obtain ⟨r,hr,cw⟩:=gC (l:=cl) (i:=i) (by omega)
  repeat' (first|simp only [aa,seval,uP]|with_reducible refine Db (hl.mono z.inc) fB iE (by omega) hr (λp bd gz hp=>?_)|with_reducible refine G5 hp rz iE ?_)
  have J1:=zBU (a:=r.head) gz.one
  repeat' (simp only [aa,seval,uP,iy,im,gd,rV,zBD,J1,↓zot])
  refine zBN r _ _ ((dD.ext z).lay _ _) (Sl.lay (by assumption) _ _) (jN r (en cw)) _ (λho h' x=>?_) (λho h' x=>?_)
  ·(replace z:=z.ao x;rw [aw h'])
   repeat' (first|simp only [aa,seval,uP]|((with_reducible apply cf);(· rfl)))
   rw [hw]
   (rw [aX];with_reducible refine cF (m:=_) ?_ ⟨i+1,_,rfl,z,⟨rfl,by omega,rY (i:=i) (P:=jI) cw aB ho⟩,bo⟩;omega)
  ·(replace z:=z.ao x;rw [aw h'])
   repeat' (first|simp only [aa,seval,uP]|((with_reducible apply cf);(· rfl)))
   exact iJ (λx=>ho (x.clauses r (en cw))) _ z.av
 rw [gb (by omega)] at aB
 repeat' (simp only [aa,seval,uP,Ag])
 obtain ⟨I2,eu⟩:∃ I:Nat->Env->Heap->Prop,I=(λn e h'=>∃ (k:Nat) (h1:Heap),h'=h1.lay [] h1.low/\Ext h h1/\(n=facts.length - k/\k<=facts.length/\(∀ a∈facts.take k,bF a))/\∃ J:Nat->ai,e=(v::u::jr J 2 17 (u::.int .i64 facts.length::.int .i64 k::jr J 22 7 ([])))):=⟨_,rfl⟩
 refine dN I2 _ (by rw [eu];exact ⟨0,_,rfl,z,⟨rfl,by omega,by simp⟩,bo⟩) ?_
 intro n e h' aP
 rw [eu] at aP
 obtain ⟨k,bU,rfl,z,hinv,J,rfl⟩:=aP
 obtain ⟨rfl,O2,kS⟩:=hinv
 have pL:=eE k (by omega)
 simp only [aa,seval,uP]
 refine bS (λey=>?_) (λey=>?_)
 rotate_left
 .rw [gb (by omega)] at kS
  repeat' (simp only [aa,seval,uP])
  exact jL ⟨aB,kS⟩ _ z.av
 obtain ⟨y,hy,sQ⟩:=gC (l:=facts) (i:=k) (by omega)
 repeat' (first|simp only [aa,seval,uP,iy,im,gd,lI,gV,zs9,zsy,zsR,↓fe,dU,dq]|with_reducible refine r9 (hf.mono z.inc) bZ ck (by omega) hy (λp hp=>?_)|with_reducible refine qV hp iQ ck ?_)
 refine zzf y _ ((dD.ext z).lay _ _) _ (λlX h' x=>?_) (λlX h' x=>?_)
 ·(replace z:=z.ao x;rw [aw h'])
  repeat' (first|simp only [aa,seval,uP]|((with_reducible apply cf);(· rfl)))
  rw [pL]
  (rw [eu];with_reducible refine cF (m:=_) ?_ ⟨k+1,_,rfl,z,⟨rfl,by omega,rY (i:=k) (P:=bF) sQ kS lX⟩,bo⟩;omega)
 ·(replace z:=z.ao x;rw [aw h'])
  repeat' (first|simp only [aa,seval,uP]|((with_reducible apply cf);(· rfl)))
  exact iJ (λx=>lX (x.facts y (en sQ))) _ z.av
end Go.Proofs.YtnkmeidmdaidhaaGreatDoor
