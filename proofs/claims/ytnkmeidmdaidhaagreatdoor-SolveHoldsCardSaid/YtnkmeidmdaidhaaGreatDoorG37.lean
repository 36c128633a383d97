/- Walks: a state begins, an answer comes. Written out by fill2.py. No condition. -/
import Derived.Test.YtnkmeidmdaidhaaGreatDoorG35
import Derived.Test.YtnkmeidmdaidhaaGreatDoorGSolve7
set_option linter.unusedSimpArgs false
set_option linter.unusedVariables false
set_option maxRecDepth 100000
set_option maxHeartbeats 0
namespace Go.Proofs.YtnkmeidmdaidhaaGreatDoor
open Go.Am Tryz
variable {bZ vf:ai} {E:List Nat} {b h:Heap}
theorem zCG:tJ aJ 60 60=true:=by kernel_rfl
theorem im {y:cG} {d:aY} (v:Am.Inv il b E y bZ vf d h):ak h (y.pl .w) (.row [bZ,vf,.int .i64 d.aD,.int .i64 (d.steps:Int),.pointer (some ⟨y.pl .t,0,none⟩),y.vl .sa,y.vl .qa,y.vl .ra,.map (some (y.pl .km))] 63 false):=v.dB .w
theorem W6 {y:cG} {d:aY} (v:Am.Inv il b E y bZ vf d h) (K:aO)
 (hk:∀ h',Ext h h'->K (.bool (decide (d.aD < (d.steps:Int)))) h'):Ok prog aJ ov 31 [.pointer (some ⟨y.pl .w,0,none⟩)] h K:=by
 rw [az h]
 have z:=Ext.refl h
 have qw:=im v
 refine Ok.aF 11 (bY XO) ?_
 repeat' (simp only [aa,seval,CD])
 with_reducible first|refine eF (by simp only [CD]) z.aw ?_
 simp only [aa,seval,CD,qw.lay]
 refine sx (λhh=>?_) (λhh=>?_)
 .have SQ:decide (d.aD < (d.steps:Int))=true:=hh
  rw [SQ] at hk
  simp only [aa,seval,CD]
  ((with_reducible refine ⟨z.cS.lay _ _,?_⟩);(intro _ h' zz x _);(simp only [bS,bD] at x);replace qw:=qw.over x;(replace z:=zz);(clear zz);rw [az h'])
  simp only [aa,seval,CD]
  exact hk _ z.aw
 .have SQ:decide (d.aD < (d.steps:Int))=false:=hh
  rw [SQ] at hk
  simp only [aa,seval,CD]
  ((with_reducible refine ⟨z.cS.lay _ _,?_⟩);(intro _ h' zz x _);(simp only [bS,bD] at x);replace qw:=qw.over x;(replace z:=zz);(clear zz);rw [az h'])
  simp only [aa,seval,CD]
  exact hk _ z.aw
theorem zr1 {hq hc:Heap} {y:cG} {d:aY} (zq:b.size<=hq.size) (z:Ext b hc) (v:Am.Inv il b E y bZ vf d hq) (g:aR [] hq hc) {s:dv} {As:Nat} {lv:ai} (pB:hq.size<=As) (qs:ak hc As (.row (sk lv s) 101 false)) (hl:Sl aG.bind (bp E hq) lv s.l)
 (xz:d.steps<=1000000000) (ze:d.queue.length<=10000000000000) (Tn:d.ab.length<=100000000) (K:aO)
 (hk:∀ h' E' y' u,As < h'.size->Ext b h'->Am.Inv il b E' y' bZ vf (jB d s) h'->ec d.ab.length E E' y y' hq h'->K u h'):Ok prog aJ ov 61 [.pointer (some ⟨y.pl .w,0,none⟩),.pointer (some ⟨As,0,none⟩)] hc K:=by
 rw [az hc]
 have qw:=(im v).H9 g
 have Nu:∀ (u:ai) (h:Heap) (K:aO),aM (some u) h K=K u h:=λ_ _ _=>rfl
 have Bd:Sl aG.ptr hq (y.vl .sa) ((List.range d.ab.length).map λi=>y.pl (.s i)):=du.sl (v.dB .sa) (by decide)
 have eD:=λ(hh:Heap)=>Bd.bW sO hh
 rw [gq,Fb] at eD
 have ub:=v.lt (r:=.w) trivial
 have ud:=v.new _ (v.own .w trivial)
 have Ub:IntKind.i64.wrap ((d.steps:Int)+1)=((d.steps+1:Nat):Int):=by rw [fQ (by omega) (by omega)];omega
 have hz:=z.size
 have hg:=g.size
 refine Ok.aF 33 (bY X6) ?_
 simp only [aa,seval,xo,qw.lay]
 rw [Ub]
 refine jL (n:=1) (o:=3) (vs:=[.int .i64 ((d.steps+1:Nat):Int)]) qw zD rfl rfl (by show 3+1<=9;omega) rfl (λh2 q2 c2=>?_)
 have f1:aR [y.pl .w] hq h2:=(g.mono (by simp)).eN c2 (.inl (by simp))
 have gO:=qs.lt
 replace qs:=qs.bB c2 (by omega)
 replace z:=z.aw.step c2 ud
 have q2:ak h2 (y.pl .w) (.row [bZ,vf,.int .i64 d.aD,.int .i64 ((d.steps+1:Nat):Int),.pointer (some ⟨y.pl .t,0,none⟩),y.vl .sa,y.vl .qa,y.vl .ra,.map (some (y.pl .km))] 63 false):=q2
 clear qw g
 rw [az h2]
 repeat' (simp only [aa,seval,xo])
 with_reducible first|refine eF (by simp only [xo]) z.aw ?_
 simp only [aa,seval,xo,q2.lay,Nu,eD]
 have mi:=z.size
 have f1s:=f1.size
 have oq:du aG.nat b hq 3 (y.pl .qa) (y.vl .qa) d.queue:=v.dB .qa
 have os:du aG.ptr b hq 99 (y.pl .sa) (y.vl .sa) ((List.range d.ab.length).map λi=>y.pl (.s i)):=v.dB .sa
 have k0:d.queue≠[]->y.pl .qa < hq.size:=λaL=>v.lt (r:=.qa) aL
 have k1:d.queue≠[]->y.pl .qa≠y.pl .w:=λaL hh=>nomatch (v.inj .qa .w aL trivial hh)
 have j0:d.ab≠[]->y.pl .sa < hq.size:=λaL=>v.lt (r:=.sa) aL
 have j1:d.ab≠[]->y.pl .sa≠y.pl .w:=λaL hh=>nomatch (v.inj .sa .w aL trivial hh)
 have j2:d.ab≠[]->d.queue≠[]->y.pl .sa≠y.pl .qa:=λaL tj hh=>nomatch (v.inj .sa .qa aL tj hh)
 have vK:((List.range d.ab.length).map λi=>y.pl (.s i)).length=d.ab.length:=by rw [gq,Fb]
 have hle:((List.range d.ab.length).map λi=>y.pl (.s i))=[]↔d.ab=[]:=⟨λe=>by rw [e] at vK;exact LA vK.symm,λe=>by rw [e];rfl⟩
 have oq2:=oq.bf (λ_ _ _ _ h=>h) f1 (λaL hh=>k1 aL (eM.1 hh))
 obtain ⟨B1,ZX,yE⟩:=oq2.get
 have u6:(B1=y.pl .qa/\d.queue≠[])\/h2.size<=B1:=yE.imp id (λe=>by omega)
 have aif:=q2.lt
 have ain:=qs.lt
 have RU:=ZX.fresh
 have Ih:y.pl .w≠B1:=u6.elim (λe hh=>k1 e.2 (by omega)) (λe=>by omega)
 have Ig:As≠B1:=u6.elim (λe=>by have:=k0 e.2;omega) (λe=>by omega)
 refine nL (by have:=z.size;omega) (by omega) ?_
 simp only [cv,seval,xo,lF,MC]
 refine xb (i:=0) (cs:=[.int .i64 (d.ab.length:Int)]) (x:=d.ab.length) jR BL rfl (by decide) (by rfl) z.size ZX rfl (by omega) (by omega) (λw3 h3 A1 jz gg kO=>?_)
 obtain ⟨a3,m3,uT,rfl⟩:=jz.slice
 refine i3 (A:=B1) (by kernel_rfl) (by have:=z.size;rw [br];omega) (by omega) (by simpa only [bS,br,bD,eB,dK,gS] using gg) ?_
 have q3:=q2.bB gg Ih
 have Z8:=qs.bB gg Ig
 have z3:=z.cp gg RU (by omega)
 have ue:=z3.size
 have f3:aR [y.pl .w,B1] hq h3:=(f1.mono (by simp)).eN gg (.inl (by simp))
 have Ie:y.pl .w≠A1:=kO.elim (λe=>by rw [e];exact Ih) (λe=>by omega)
 have RG:As≠A1:=kO.elim (λe=>by rw [e];exact Ig) (λe=>by omega)
 have nq:(A1=y.pl .qa/\d.queue≠[])\/hq.size<=A1:=kO.elim (λe=>by rw [e];exact u6.imp id (λe=>by omega)) (λe=>.inr (by omega))
 have agS:=jz.Uu (by simp)
 clear z f1 q2 qs
 have z:=z3
 rw [az h3]
 simp only [aa,seval,xo]
 refine jL (n:=1) (o:=6) (vs:=[.slice a3 m3 uT]) q3 (by kernel_rfl) rfl rfl (by show 6+1<=9;omega) rfl (λh4 q4 mR=>?_)
 refine i3 (A:=y.pl .w) (by kernel_rfl) (by have:=z.size;rw [br];omega) (by omega) mR ?_
 have NH:=Z8.bB mR (by omega)
 have o4:=Ow.eN (λ_ _ _ _ h=>h) (by simp) (jz.mono (bP.lay h3 [] _)) mR Ie
 have f4:aR [y.pl .w,B1] hq h4:=f3.eN mR (.inl (by simp))
 have z4:=z3.cp mR ud (by omega)
 have xG:=z4.size
 have q4:ak h4 (y.pl .w) (.row [bZ,vf,.int .i64 d.aD,.int .i64 ((d.steps+1:Nat):Int),.pointer (some ⟨y.pl .t,0,none⟩),y.vl .sa,.slice a3 m3 uT,y.vl .ra,.map (some (y.pl .km))] 63 false):=q4
 have h34:h3.size<=h4.size:=mR.size
 clear z z3 f3 q3 Z8 jz
 have z:=z4
 rw [az h4]
 simp only [cv,seval,xo]
 ((with_reducible refine ⟨z.cS.lay _ _,?_⟩);(intro _ h' zz x _);(simp only [bS,bD] at x);replace f4:=f4.over x;replace q4:=q4.over x;replace NH:=NH.over x;replace o4:=o4.over x;(replace z:=zz);(clear zz);rw [az h'])
 repeat' (simp only [aa,seval,xo,q4.lay,Nu,lF,zCG])
 have agT:=o4.Uu (by simp)
 have rh:=z.size
 have f4s:=f4.size
 have aim:=NH.lt
 have aiq:=q4.lt
 have os2:=os.bf (λ_ _ _ _ h=>h) f4 (λaL hh=>by
  have aL:=λe=>aL (hle.2 e)
  simp only [db,hY,or_false] at hh
  rcases hh with hh|hh
  .exact j1 aL hh
  .exact u6.elim (λe=>j2 aL e.2 (hh.trans e.1)) (λe=>by have:=j0 aL;omega))
 obtain ⟨B2,ZY,sQ⟩:=os2.get
 have u7:(B2=y.pl .sa/\d.ab≠[])\/h'.size<=B2:=sQ.imp (λe=>⟨e.1,λh=>e.2 (hle.2 h)⟩) (λe=>by omega)
 have RV:=ZY.fresh
 have Ik:y.pl .w≠B2:=u7.elim (λe hh=>j1 e.2 (by omega)) (λe=>by omega)
 have Ij:As≠B2:=u7.elim (λe=>by have:=j0 e.2;omega) (λe=>by omega)
 have Ii:A1≠B2:=u7.elim (λe hh=>nq.elim (λe2=>j2 e.2 e2.2 (by omega)) (λe2=>by have:=j0 e.2;omega)) (λe=>by omega)
 refine xb (i:=0) (cs:=[.pointer (some ⟨As,0,none⟩)]) (x:=As) sO zlF rfl (by decide) (by rfl) z.size ZY rfl (by rw [vK];omega) (by rw [vK];omega) (λw6 h6 A2 ZZ uV MU=>?_)
 obtain ⟨a6,m6,c6,rfl⟩:=ZZ.slice
 have q6:=q4.bB uV Ik
 have qs6:=NH.bB uV Ij
 have o6:=Ow.eN (λ_ _ _ _ h=>h) (by simp) (o4.mono (bP.lay h' _ _)) uV (Ne.symm Ii)
 have z6:=z.aw.step uV RV
 have wC:=z6.size
 have f6:aR [y.pl .w,B1,B2] hq h6:=(f4.mono (λX hX=>by simp only [db,hY,or_false] at hX ⊢;exact hX.elim .inl (λe=>.inr (.inl e)))).eN uV (.inl (by simp))
 have RL:y.pl .w≠A2:=MU.elim (λe=>by rw [e];exact Ik) (λe=>by omega)
 have RI:As≠A2:=MU.elim (λe=>by rw [e];exact Ij) (λe=>by omega)
 have RH:A1≠A2:=MU.elim (λe=>by rw [e];exact Ii) (λe=>by omega)
 have MS:(A2=y.pl .sa/\d.ab≠[])\/hq.size<=A2:=MU.elim (λe=>by rw [e];exact u7.imp id (λe=>by omega)) (λe=>.inr (by omega))
 rw [az h6]
 repeat' (simp only [aa,seval,xo])
 refine jL (n:=1) (o:=5) (vs:=[.slice a6 m6 c6]) q6 US rfl rfl (by show 5+1<=9;omega) rfl (λh7 q7 oW=>?_)
 have o7:=Ow.eN (λ_ _ _ _ h=>h) (by simp) (ZZ.mono (bP.lay h6 [] _)) oW RL
 have o71:=Ow.eN (λ_ _ _ _ h=>h) (by simp) (o6.mono (bP.lay h6 [] _)) oW Ie
 have Ke:=qs6.bB oW (by omega)
 have f7:aR [y.pl .w,B1,B2] hq h7:=f6.eN oW (.inl (by simp))
 obtain ⟨E',y',i1,i2⟩:=v.Cu zq f7 (λX hX=>by
  simp only [db,hY,or_false] at hX
  rcases hX with rfl|rfl|rfl
  .exact .inl rfl
  .exact .inr (u6.elim (λe=>.inl e) (λe=>.inr (.inr (by omega))))
  .exact .inr (.inr (u7.imp id (λe=>by omega)))) nq MS pB RI RG RH o71 o7 Ke hl q7
 replace z:=z6.aw.step oW ud
 rw [az h7]
 simp only [aa,seval,xo]
 exact hk _ E' y' _ (dt Ke.lt (by rw [br];exact G5 _ _)) z.aw (i1.bf (aR.lay _ _ _ _)) (i2.bf (aR.lay _ _ _ _))
theorem Xa (a:ae) (u w:ai):cut (a.cells++[u,w]) 0 11=some a.cells:=rfl
theorem zoc (a:ae) (u w:ai):cut (a.cells++[u,w]) 0 13=some (a.cells++[u,w]):=rfl
theorem zAD {a:ae} {n:Int} {w:ai} (h:Am.one w=true):(a.cells++[.int .i64 n,w]).all Am.one=true:=by
 have h1:a.cells.all Am.one=true:=rfl
 rw [Fg,h1,Bool.true_and]
 simp only [iy,jt,h,G7]
 rfl
theorem zy0:aJ.zero 123=some (.agg ⟨[]⟩):=by kernel_rfl
theorem zCH:tJ aJ 38 38=true:=by kernel_rfl
theorem zsC (k:IntKind) (n:Int) (h:Heap) (K:aO):aM (some (.int k n)) h K=K (.int k n) h:=rfl
theorem zsD (p:Option Addr) (h:Heap) (K:aO):aM (some (.pointer p)) h K=K (.pointer p) h:=rfl
theorem Lk {T:bN} {t u:TypeId} {hh:Heap} {n w:Nat} {cs vs:List ai} {v:ai} (hs:dF T t=some n) (hv:v.cells.toList=vs) (hl:vs.length=n) (hc:cs.length=n) (cF:vs.all Am.one=true) :
 iQ T t (.pointer (some ⟨hh.size+0,0,none⟩)) v (hh.lay [.row cs u false] w)=some (hh.lay [.row vs u false] (min w (hh.size+0))):=by
 have hg:(hh.lay [.row cs u false] w).get (hh.size+0)=some (.row cs u false):=by rw [kE];rfl
 have dV:v.cells.size=n:=by rw [<- hl,<- hv];simp
 unfold iQ
 simp only [hs,dH]
 rw [aB dV,hv]
 unfold nQ
 rw [hg]
 simp only
 rw [aB (by simp only [dW,ix];exact ⟨by omega,cF⟩),GI _ _ _ _ _ (by simp)]
 rw [zlC,Fj,yk,B8 (by omega),bD]
 rfl
theorem LM {vb:Nat->ai}:∀ {k:Nat} {l:List ba},(nJ vb k l).length=l.length
 |_,[]=>rfl
 |_,_::_=>by rw [nJ,eB,LM,eB]
theorem zzT:nP aJ 123 []=some (.agg ⟨[]⟩):=by kernel_rfl
theorem zxS (a:ae) (u w z0 z1 z2 z3 z4 z5 z6 z7 z8 z9 Em U5 z12:ai):pZ (λi=>some (i*13,13)) [z0,z1,z2,z3,z4,z5,z6,z7,z8,z9,Em,U5,z12] [(0,Value.agg (a.cells++[u,w]).toArray)]=some (a.cells++[u,w]):=rfl
theorem zrw {T:bN} {t e:TypeId} {k bytes:Nat} {z:List ai} {a:Option Addr} {n c:Nat} {x:ai} {news:List ai} (hd:T.desc t=some (.slice e)) (hi:T.info e=some (k,bytes,z)) (hs:fO x k h=some (0,news)):j4 T t (.slice a n c) x h=some (.slice a n c,h):=by
 unfold j4
 simp only [hd,hi,hs,dH]
 simp
theorem zoM {hc:Heap} {y:cG} {d:aY} (dq:bh 1 b) (z:Ext b hc) (v:Am.Inv il b E y bZ vf d hc) {i:Nat} {c:aX} (jc:d.calls[i]? = some c) {r:ba} {bv:ai} (hl:Sl aG.atom (bp E hc) bv r.body)
 (xz:d.steps<=1000000000) (ze:d.queue.length<=10000000000000) (Tn:d.calls.length<=10000000) (Dw:c.answers.length<=10000000) (Zr:d.count<=1000000000) (Zs:c.waiters.length<=10000000) (Zt:d.aC.length<=10000000) (K:aO)
 (hk:∀ h' E' y' u,Ext b h'->Am.Inv il b E' y' bZ vf (gj d i r) h'->ec d.ab.length E E' y y' hc h'->K u h'):Ok prog aJ ov 59 [.pointer (some ⟨y.pl .w,0,none⟩),.int .i64 (i:Int),.agg ⟨r.atom.cells++[.int .i64 r.clause,bv]⟩] hc K:=by
 rw [az hc]
 have g:=aR.refl [] hc
 have qw:=im v
 have Zw:Am.one bv=true:=hl.one
 have aE:=zAD (a:=r.atom) (n:=r.clause) Zw
 refine Ok.aF 70 (bY X4) ?_
 repeat' (simp only [aa,seval,fJ])
 refine uw (λh' x hq=>?_)
 have q0:=hq 0 _ rfl
 clear hq
 (replace z:=z.au x;replace g:=g.over x;replace qw:=qw.over x;rw [az h'])
 obtain ⟨A0,iX⟩:∃ A0,A0=hc.size+0:=⟨_,rfl⟩
 rw [<- iX] at q0
 rw [<- iX]
 have hz:=z.size
 with_reducible first|refine eF (by simp only [fJ]) z.aw ?_
 simp only [aa,seval,fJ,qw.lay,q0.lay,↓Xa,eG,dS]
 refine zBC dq z.aw ((v.bf g).bf (aR.lay _ _ _ _)) jc r.atom (by omega) (by omega) (by omega) _ (λh2 E1 y1 e1 z2 v2 s2=>?_)
 have hAE:A0 ∉ E:=λhh=>by have:=v.eA _ hh;omega
 have eE:=s2.size
 rw [br] at eE
 simp only [dK,gS] at eE
 refine F6 (by kernel_rfl) z2.low (by rw [br];simp only [dK];omega) ?_
 obtain ⟨F0,RR⟩:=s2.box (q0.on _ _) hAE
 have nI:=im v2
 rw [<- s2.w,<- s2.t]
 have F1:=((ec.refl d.ab.length E y hc).bf (g.trans (aR.lay _ _ _ []) (by simp))).trans s2 (aQ _)
 clear z q0 qw g
 have z:=z2
 have g:=aR.refl [] h2
 rw [az h2]
 cases hf:(bl d i r.atom).2
 .have hd:gj d i r=(bl d i r.atom).1:=by unfold gj;rw [hf];rfl
  rw [hd] at hk
  simp only [aa,seval,fJ]
  ((with_reducible refine ⟨z.cS.lay _ _,?_⟩);(intro _ h' zz x _);(simp only [bS,bD] at x);replace g:=g.over x;replace F0:=F0.over x;replace nI:=nI.over x;(replace z:=zz);(clear zz);rw [az h'])
  repeat' (first|simp only [aa,seval,fJ]|((with_reducible apply cK);(· rfl)))
  exact hk _ E1 y1 _ z.aw (v2.bf (g.trans (aR.lay _ _ _ []) (by simp))) (F1.bf (g.trans (aR.lay _ _ _ []) (by simp)))
 have hd:gj d i r=rD (lI { (bl d i r.atom).1 with steps:=d.steps+1 } r) i:=by unfold gj;rw [hf];rfl
 obtain ⟨cV,Ty,pK,DI,I6,M4,jd⟩:=Gj d i r.atom
 obtain ⟨c1,C6,AZ,_⟩:=znI jc r.atom
 obtain ⟨d1,iY⟩:∃ d1,d1=(bl d i r.atom).1:=⟨_,rfl⟩
 rw [<- iY] at cV Ty pK DI I6 M4 jd C6 nI v2 hd
 rw [cV] at nI
 simp only [aa,seval,fJ]
 ((with_reducible refine ⟨z.cS.lay _ _,?_⟩);(intro _ h' zz x _);(simp only [bS,bD] at x);replace g:=g.over x;replace F0:=F0.over x;replace nI:=nI.over x;(replace z:=zz);(clear zz);rw [az h'])
 simp only [aa,seval,fJ]
 repeat' (((with_reducible apply cK);(· rfl)) <;> simp only [aa,seval,fJ,nI.lay])
 have Ub:IntKind.i64.wrap ((d.steps:Int)+1)=((d.steps+1:Nat):Int):=by rw [fQ (by omega) (by omega)];omega
 rw [Ub]
 have NN:=v2.bf g
 have ub:=NN.new _ (NN.own .w trivial)
 refine jL (n:=1) (o:=3) (vs:=[.int .i64 ((d.steps+1:Nat):Int)]) nI zD rfl rfl (by show 3+1<=9;omega) rfl (λh3 q3 c3=>?_)
 have mi:=z.size
 obtain ⟨E2,v3,s3⟩:=NN.steps mi (d.steps+1) ((aR.refl _ _).eN c3 (.inl (by simp))) q3
 have z3:=z.aw.step c3 ub
 obtain ⟨Bv,RS⟩:=s3.box F0 RR
 have UH:=(F1.bf g).trans s3 (by rw [pK];exact aQ _)
 have wN:=im v3
 have mk:eR h3 (y1.pl .km) d1.known:=v3.dB .km
 clear z F0 nI g F1 NN
 have z:=z3
 have g:=aR.refl [] h3
 rw [az h3]
 repeat' (simp only [aa,seval,fJ])
 with_reducible first|refine eF (by simp only [fJ]) z.aw ?_
 simp only [aa,seval,fJ,wN.lay,Bv.lay,↓Xa,eG,dS,GG,LB]
 refine zqy mk H2 Gt zy0 ?_
 by_cases hm:r.atom∈d1.known
 .rw [sH hm]
  simp only [aa,seval,fJ]
  refine nL (by have:=z.size;omega) (by omega) ?_
  simp only [aa,seval,fJ]
  rw [Lk (n:=0) (v:=.agg ⟨[]⟩) (vs:=[]) (by kernel_rfl) rfl rfl rfl rfl]
  simp only [syms,seval]
  refine Eo (by kernel_rfl) (by simp) (by have:=z.size;omega) ?_
  simp only [aa,seval,fJ]
  ((with_reducible refine ⟨z.cS.lay _ _,?_⟩);(intro _ h' zz x _);(simp only [bS,bD] at x);replace g:=g.over x;replace Bv:=Bv.over x;replace wN:=wN.over x;replace mk:=mk.over x;(replace z:=zz);(clear zz);rw [az h'])
  repeat' (first|simp only [aa,seval,fJ]|((with_reducible apply cK);(· rfl)))
  obtain ⟨dT,kj⟩:∃ dT,dT={ d1 with steps:=d.steps+1 }:=⟨_,rfl⟩
  have IG:gj d i r=rD dT i:=by rw [hd,kj,iY];unfold lI;rw [aB (by rw [<- iY];exact hm)]
  have qU:dT.calls[i]? = some c1:=by rw [kj];exact C6
  have C9:dT.calls.length=d.calls.length:=by rw [kj];exact jd
  have vY:dT.queue=d.queue:=by rw [kj];exact Ty
  have wo:dT.ab=d.ab:=by rw [kj];exact pK
  rw [<- kj] at v3
  have v5:=v3.bf g
  have lE:=im v5
  have wA:=v5.new _ (v5.own .w trivial)
  have T1:=v5.lt (r:=.w) trivial
  have rh:=z.size
  have Dy:dT.calls.length<=100000000:=by rw [C9];omega
  have dg:∀ (u:ai) (h:Heap) (K:aO),aM (some u) h K=K u h:=λ_ _ _=>rfl
  obtain ⟨h5,Dl⟩:∃ h5,h5=h':=⟨_,rfl⟩
  have g5:aR [] h5 h':=by rw [Dl];exact aR.refl [] h'
  have gT:=g
  rw [<- Dl] at v5 T1 rh gT
  clear Dl
  with_reducible first|refine eF (by simp only [fJ]) z.aw ?_
  simp only [aa,seval,fJ,lE.lay,dg]
  refine zlq ((v5.bf g5).bf (aR.lay _ _ _ _)) qU Dy (by rw [AZ];omega) _ (λh' w A x ow=>?_)
  have g6:=g5
  (((with_reducible refine fP ?_ ?_ ?_);(· exact (by (simp only [gh]);have:=z.size;omega));(· exact x));replace z:=z.au x;replace g5:=g5.over x;replace lE:=lE.over x;rw [az h'])
  replace ow:=Ow.low (h0:=h5) (by rw [br];have:=g6.size;omega) ow
  simp only [cv,seval,fJ,lF,MC]
  have Ux:du aG.nat b h5 3 (y1.pl .qa) (y1.vl .qa) dT.queue:=v5.dB .qa
  have Uy:=Ux.bf (λ_ _ _ _ h=>h) g5 (λ_ hh=>nomatch hh)
  obtain ⟨B,ob,hB⟩:=Uy.get
  have wC:=z.size
  have g5s:=g5.size
  have lA:(B=y1.pl .qa/\dT.queue≠[])\/h'.size<=B:=hB.imp id (λe=>by omega)
  have k0:dT.queue≠[]->y1.pl .qa < h5.size:=λaL=>v5.lt (r:=.qa) aL
  have k1:dT.queue≠[]->y1.pl .qa≠y1.pl .w:=λaL hh=>nomatch (v5.inj .qa .w aL trivial hh)
  have oX:=ob.fresh
  have AN:y1.pl .w≠B:=lA.elim (λe hh=>k1 e.2 (by omega)) (λe=>by omega)
  have Zz:=lE.lt
  obtain ⟨news,hs,mX⟩:=zZ (A:=B) (r:=aG.nat) (by decide) ((ow.sl (by decide)).lay [] (h'.size+0)) (λcs y hr=>hr)
  by_cases zk:c1.waiters=[]
  .have C5:rD dT i=dT:=by unfold rD;rw [qU,kK,Aq,zk,bD]
   rw [IG,C5] at hk
   rw [zk] at hs
   obtain ⟨qa,qn,qc,Jq⟩:=ob.slice
   rw [Jq]
   rw [zrw jR BL hs]
   simp only [syms,seval]
   refine nL (by have:=z.size;omega) (by omega) ?_
   simp only [aa,seval,fJ]
   refine jL (n:=1) (o:=6) (vs:=[.slice qa qn qc]) lE (by kernel_rfl) rfl rfl (by show 6+1<=9;omega) rfl (λh7 q7 oW=>?_)
   refine i3 (A:=y1.pl .w) (by kernel_rfl) (by have:=z.size;rw [br];omega) (by omega) (by simpa only [bS,br,bD,dK,gS] using oW) ?_
   have f7:aR [y1.pl .w] h5 h7:=(g5.mono (by simp)).eN oW (.inl (by simp))
   obtain ⟨E7,v7,s7⟩:=v5.steps rh dT.steps f7 (by unfold Ca;rw [Jq];exact q7)
   replace z:=z.cp oW wA (by omega)
   have g:=aR.refl [] h7
   clear g5 g6 lE ow
   rw [az h7]
   simp only [cv,seval,fJ]
   ((with_reducible refine ⟨z.cS.lay _ _,?_⟩);(intro _ h' zz x _);(simp only [bS,bD] at x);replace g:=g.over x;(replace z:=zz);(clear zz);rw [az h'])
   simp only [seval,fJ]
   exact hk _ E7 y1 _ z.aw (v7.bf (g.trans (aR.lay _ _ _ []) (by simp))) (((UH.bf gT).trans s7 (by rw [wo];exact aQ _)).bf (g.trans (aR.lay _ _ _ []) (by simp)))
  have C5:rD dT i={ dT with queue:=dT.queue++c1.waiters }:=by unfold rD;rw [qU];rfl
  rw [IG,C5] at hk
  obtain ⟨w',h7,A7,p1,p2,p3,p4,p5⟩:=xc (t:=61) jR BL rfl (by decide) (by rw [br];omega) (ob.mono (bP.lay _ _ _)) hs mX (by rw [vY,AZ];omega) (by rw [vY,AZ];omega)
  rw [p1]
  simp only [syms,seval]
  refine i3 (A:=B) (by kernel_rfl) (by have:=z.size;rw [br];omega) (by omega) (by simpa only [bS,br,bD,dK,gS] using p3) ?_
  rw [br] at p4
  simp only [dK,gS] at p4
  have Kf:=lE.bB p3 AN
  have f7:aR [B] h5 h7:=(g5.mono (by simp)).eN p3 (.inl (by simp))
  have z7:=z.cp p3 oX (by omega)
  have ZP:=z7.size
  have uZ:y1.pl .w≠A7:=p4.elim (λe=>by rw [e];exact AN) (λe=>by omega)
  have FD:(A7=y1.pl .qa/\dT.queue≠[])\/h5.size<=A7:=p4.elim (λe=>by rw [e];exact lA.imp id (λe=>by omega)) (λe=>.inr (by omega))
  have vQ:dT.queue++c1.waiters≠[]:=λe=>zk (List.append_eq_nil_iff.1 e).2
  obtain ⟨ua,un,uc,rfl⟩:=p2.slice
  clear z lE ow g6
  have z:=z7
  rw [az h7]
  simp only [aa,seval,fJ]
  refine jL (n:=1) (o:=6) (vs:=[.slice ua un uc]) Kf (by kernel_rfl) rfl rfl (by show 6+1<=9;omega) rfl (λh8 q8 j7=>?_)
  refine i3 (A:=y1.pl .w) (by kernel_rfl) (by have:=z.size;rw [br];omega) (by omega) j7 ?_
  have o8:=Ow.eN (λ_ _ _ _ h=>h) vQ (p2.mono (bP.lay h7 [] _)) j7 uZ
  have f8:aR [B,y1.pl .w] h5 h8:=(f7.mono (by simp)).eN j7 (.inl (by simp))
  obtain ⟨E8,y8,v8,s8⟩:=v5.queue rh vQ f8 (λX hX=>by
   simp only [db,hY,or_false] at hX
   rcases hX with rfl|rfl
   .exact .inr (lA.imp id (λe=>by omega))
   .exact .inl rfl) FD o8 q8
  replace z:=z7.cp j7 wA (by omega)
  have g:=aR.refl [] h8
  clear g5
  rw [az h8]
  simp only [cv,seval,fJ]
  ((with_reducible refine ⟨z.cS.lay _ _,?_⟩);(intro _ h' zz x _);(simp only [bS,bD] at x);replace g:=g.over x;(replace z:=zz);(clear zz);rw [az h'])
  simp only [seval,fJ]
  exact hk _ E8 y8 _ z.aw (v8.bf (g.trans (aR.lay _ _ _ []) (by simp))) (((UH.bf gT).trans s8 (by rw [wo];exact aQ _)).bf (g.trans (aR.lay _ _ _ []) (by simp)))
 rw [tO hm]
 simp only [aa,seval,fJ]
 refine nL (by have:=z.size;omega) (by omega) ?_
 simp only [aa,seval,fJ]
 rw [Lk (n:=0) (v:=.agg ⟨[]⟩) (vs:=[]) (by kernel_rfl) rfl rfl rfl rfl]
 simp only [syms,seval]
 refine Eo (by kernel_rfl) (by simp) (by have:=z.size;omega) ?_
 simp only [aa,seval,fJ]
 ((with_reducible refine ⟨z.cS.lay _ _,?_⟩);(intro _ h' zz x _);(simp only [bS,bD] at x);replace g:=g.over x;replace Bv:=Bv.over x;replace wN:=wN.over x;replace mk:=mk.over x;(replace z:=zz);(clear zz);rw [az h'])
 repeat' (first|simp only [aa,seval,fJ]|((with_reducible apply cK);(· rfl)))
 have v4:=v3.bf g
 have Ka:=Bv
 have s4:=UH.bf g
 have xG:=z.size
 have Nj:=v4.new _ (v4.own .km trivial)
 have jI:=v4.lt (r:=.km) trivial
 obtain ⟨h4,SR⟩:∃ h4,h4=h':=⟨_,rfl⟩
 have g4:aR [] h4 h':=by rw [SR];exact aR.refl [] h'
 rw [<- SR] at v4 xG s4 jI Ka
 clear SR g
 with_reducible first|refine eF (by simp only [fJ]) z.aw ?_
 simp only [aa,seval,fJ,wN.lay,Bv.lay,↓Xa,eG,dS,GG,zzT,Lc]
 have g4s:=g4.size
 obtain ⟨h5,hu,m5,c5⟩:=zrf (h:=h'.lay [] (h'.size+0)) (a:=r.atom) (mk.over (Ext.refl _)) H2 Gt hm
 rw [hu]
 refine i3 (A:=y1.pl .km) (by kernel_rfl) (by have:=z.size;rw [br];omega) (by omega) c5 ?_
 obtain ⟨E5,v5,s5⟩:=v4.known xG ((g4.mono (by simp)).eN c5 (.inl (by simp))) m5
 have JS:=z.size
 have z5:=z.cp c5 Nj (by omega)
 obtain ⟨UE,agX⟩:=s5.box Ka RS
 have lE:=im v5
 have dg:∀ (u:ai) (h:Heap) (K:aO),aM (some u) h K=K u h:=λ_ _ _=>rfl
 clear z Bv wN g4 mk
 have z:=z5
 have g:=aR.refl [] h5
 rw [az h5]
 simp only [cv,seval,fJ]
 ((with_reducible refine ⟨z.cS.lay _ _,?_⟩);(intro _ h' zz x _);(simp only [bS,bD] at x);replace g:=g.over x;replace UE:=UE.over x;replace lE:=lE.over x;(replace z:=zz);(clear zz);rw [az h'])
 repeat' (simp only [syms,seval])
 have v6:=v5.bf g
 have s6:=(s4.trans s5 (by rw [show ({ d1 with steps:=d.steps+1 }:aY).ab=d.ab from pK];exact aQ _)).bf g
 have wC:=z.size
 have T4:=v6.new _ (v6.own .w trivial)
 have T8:=v6.lt (r:=.w) trivial
 obtain ⟨h6,SS⟩:∃ h6,h6=h':=⟨_,rfl⟩
 have g6:aR [] h6 h':=by rw [SS];exact aR.refl [] h'
 rw [<- SS] at v6 wC s6 T8
 clear SS g
 with_reducible first|refine eF (by simp only [fJ]) z.aw ?_
 simp only [aa,seval,fJ,lE.lay,UE.lay,↓zoc,dg,zxS]
 have oR:du aG.rv b h6 71 (y1.pl .ra) (y1.vl .ra) (nJ y1.vb 0 d1.aC):=v6.dB .ra
 have J6:=oR.bf (λ_ _ _ _ h=>h) g6 (λ_ hh=>nomatch hh)
 obtain ⟨B,ob,hB⟩:=J6.get
 have ZP:=z.size
 have g6s:=g6.size
 have Ns:(nJ y1.vb 0 d1.aC).length=d.aC.length:=by rw [LM,DI]
 have lA:(B=y1.pl .ra/\d1.aC≠[])\/h'.size<=B:=hB.imp (λe=>⟨e.1,λh=>e.2 (oN.2 h)⟩) (λe=>by omega)
 have k0:d1.aC≠[]->y1.pl .ra < h6.size:=λaL=>v6.lt (r:=.ra) aL
 have k1:d1.aC≠[]->y1.pl .ra≠y1.pl .w:=λaL hh=>nomatch (v6.inj .ra .w aL trivial hh)
 have oX:=ob.fresh
 have AN:y1.pl .w≠B:=lA.elim (λe hh=>k1 e.2 (by omega)) (λe=>by omega)
 have Zz:=lE.lt
 refine nL (by have:=z.size;omega) (by omega) ?_
 simp only [cv,seval,fJ,lF,zCH]
 refine xb (i:=0) (cs:=r.atom.cells++[.int .i64 r.clause,bv]) (x:=(r.atom,r.clause,bv)) yB VW rfl (by decide) (by rfl) z.size ob ⟨rfl,Zw⟩ (by rw [Ns];omega) (by rw [Ns];omega) (λw7 h7 A7 Z0 oW FD=>?_)
 obtain ⟨ua,un,uc,rfl⟩:=Z0.slice
 refine i3 (A:=B) (by kernel_rfl) (by have:=z.size;rw [br];omega) (by omega) (by simpa only [bS,br,bD,eB,dK,gS] using oW) ?_
 have Kf:=lE.bB oW AN
 have f7:aR [B] h6 h7:=(g6.mono (by simp)).eN oW (.inl (by simp))
 have z7:=z.cp oW oX (by omega)
 have ZQ:=z7.size
 have uZ:y1.pl .w≠A7:=FD.elim (λe=>by rw [e];exact AN) (λe=>by omega)
 have RO:(A7=y1.pl .ra/\d1.aC≠[])\/h6.size<=A7:=FD.elim (λe=>by rw [e];exact lA.imp id (λe=>by omega)) (λe=>.inr (by omega))
 clear z lE
 have z:=z7
 rw [az h7]
 simp only [aa,seval,fJ]
 refine jL (n:=1) (o:=7) (vs:=[.slice ua un uc]) Kf (by kernel_rfl) rfl rfl (by show 7+1<=9;omega) rfl (λh8 q8 j7=>?_)
 refine i3 (A:=y1.pl .w) (by kernel_rfl) (by have:=z.size;rw [br];omega) (by omega) j7 ?_
 have o8:=Ow.eN (λ_ _ _ _ h=>h) (by simp) (Z0.mono (bP.lay h7 [] _)) j7 uZ
 have f8:aR [B,y1.pl .w] h6 h8:=(f7.mono (by simp)).eN j7 (.inl (by simp))
 obtain ⟨E8,y8,v8,s8⟩:=v6.reason wC (r:=r) (bv:=bv) f8 (λX hX=>by
  simp only [db,hY,or_false] at hX
  rcases hX with rfl|rfl
  .exact .inr (lA.imp id (λe=>by omega))
  .exact .inl rfl) RO o8 (hl.mono s6.inc) q8
 replace z:=z7.cp j7 T4 (by omega)
 have s8':=s6.trans s8 (by rw [show ({ d1 with steps:=d.steps+1,known:=r.atom::d1.known }:aY).ab=d.ab from pK];exact aQ _)
 have g:=aR.refl [] h8
 clear g6
 rw [az h8]
 rw [<- s8.w,<- s8.t]
 simp only [cv,seval,fJ]
 ((with_reducible refine ⟨z.cS.lay _ _,?_⟩);(intro _ h' zz x _);(simp only [bS,bD] at x);replace g:=g.over x;(replace z:=zz);(clear zz);rw [az h'])
 repeat' (simp only [syms,seval])
 obtain ⟨dT,kj⟩:∃ dT,dT={ d1 with steps:=d.steps+1,known:=r.atom::d1.known,aC:=d1.aC++[r] }:=⟨_,rfl⟩
 have IG:gj d i r=rD dT i:=by rw [hd,kj,iY];unfold lI;rw [aA (by rw [<- iY];exact hm)]
 have qU:dT.calls[i]? = some c1:=by rw [kj];exact C6
 have C9:dT.calls.length=d.calls.length:=by rw [kj];exact jd
 have vY:dT.queue=d.queue:=by rw [kj];exact Ty
 have wo:dT.ab=d.ab:=by rw [kj];exact pK
 rw [<- kj] at v8
 have v5:=v8.bf g
 have lE:=im v5
 have wA:=v5.new _ (v5.own .w trivial)
 have T1:=v5.lt (r:=.w) trivial
 have rh:=z.size
 have Dy:dT.calls.length<=100000000:=by rw [C9];omega
 have dg:∀ (u:ai) (h:Heap) (K:aO),aM (some u) h K=K u h:=λ_ _ _=>rfl
 obtain ⟨h5,Dl⟩:∃ h5,h5=h':=⟨_,rfl⟩
 have g5:aR [] h5 h':=by rw [Dl];exact aR.refl [] h'
 have gT:=g
 rw [<- Dl] at v5 T1 rh gT
 clear Dl
 with_reducible first|refine eF (by simp only [fJ]) z.aw ?_
 simp only [aa,seval,fJ,lE.lay,dg]
 refine zlq ((v5.bf g5).bf (aR.lay _ _ _ _)) qU Dy (by rw [AZ];omega) _ (λh' w A x ow=>?_)
 have g6:=g5
 (((with_reducible refine fP ?_ ?_ ?_);(· exact (by (simp only [gh]);have:=z.size;omega));(· exact x));replace z:=z.au x;replace g5:=g5.over x;replace lE:=lE.over x;rw [az h'])
 replace ow:=Ow.low (h0:=h5) (by rw [br];have:=g6.size;omega) ow
 simp only [cv,seval,fJ,lF,MC]
 have Ux:du aG.nat b h5 3 (y8.pl .qa) (y8.vl .qa) dT.queue:=v5.dB .qa
 have Uy:=Ux.bf (λ_ _ _ _ h=>h) g5 (λ_ hh=>nomatch hh)
 obtain ⟨B,ob,hB⟩:=Uy.get
 have wC:=z.size
 have g5s:=g5.size
 have lA:(B=y8.pl .qa/\dT.queue≠[])\/h'.size<=B:=hB.imp id (λe=>by omega)
 have k0:dT.queue≠[]->y8.pl .qa < h5.size:=λaL=>v5.lt (r:=.qa) aL
 have k1:dT.queue≠[]->y8.pl .qa≠y8.pl .w:=λaL hh=>nomatch (v5.inj .qa .w aL trivial hh)
 have oX:=ob.fresh
 have AN:y8.pl .w≠B:=lA.elim (λe hh=>k1 e.2 (by omega)) (λe=>by omega)
 have Zz:=lE.lt
 obtain ⟨news,hs,mX⟩:=zZ (A:=B) (r:=aG.nat) (by decide) ((ow.sl (by decide)).lay [] (h'.size+0)) (λcs y hr=>hr)
 by_cases zk:c1.waiters=[]
 .have C5:rD dT i=dT:=by unfold rD;rw [qU,kK,Aq,zk,bD]
  rw [IG,C5] at hk
  rw [zk] at hs
  obtain ⟨qa,qn,qc,Jq⟩:=ob.slice
  rw [Jq]
  rw [zrw jR BL hs]
  simp only [syms,seval]
  refine nL (by have:=z.size;omega) (by omega) ?_
  simp only [aa,seval,fJ]
  refine jL (n:=1) (o:=6) (vs:=[.slice qa qn qc]) lE (by kernel_rfl) rfl rfl (by show 6+1<=9;omega) rfl (λh7 q7 oW=>?_)
  refine i3 (A:=y8.pl .w) (by kernel_rfl) (by have:=z.size;rw [br];omega) (by omega) (by simpa only [bS,br,bD,dK,gS] using oW) ?_
  have f7:aR [y8.pl .w] h5 h7:=(g5.mono (by simp)).eN oW (.inl (by simp))
  obtain ⟨E7,v7,s7⟩:=v5.steps rh dT.steps f7 (by unfold Ca;rw [Jq];exact q7)
  replace z:=z.cp oW wA (by omega)
  have g:=aR.refl [] h7
  clear g5 g6 lE ow
  rw [az h7]
  simp only [cv,seval,fJ]
  ((with_reducible refine ⟨z.cS.lay _ _,?_⟩);(intro _ h' zz x _);(simp only [bS,bD] at x);replace g:=g.over x;(replace z:=zz);(clear zz);rw [az h'])
  simp only [seval,fJ]
  exact hk _ E7 y8 _ z.aw (v7.bf (g.trans (aR.lay _ _ _ []) (by simp))) (((s8'.bf gT).trans s7 (by rw [wo];exact aQ _)).bf (g.trans (aR.lay _ _ _ []) (by simp)))
 have C5:rD dT i={ dT with queue:=dT.queue++c1.waiters }:=by unfold rD;rw [qU];rfl
 rw [IG,C5] at hk
 obtain ⟨w',h7,A7,p1,p2,p3,p4,p5⟩:=xc (t:=61) jR BL rfl (by decide) (by rw [br];omega) (ob.mono (bP.lay _ _ _)) hs mX (by rw [vY,AZ];omega) (by rw [vY,AZ];omega)
 rw [p1]
 simp only [syms,seval]
 refine i3 (A:=B) (by kernel_rfl) (by have:=z.size;rw [br];omega) (by omega) (by simpa only [bS,br,bD,dK,gS] using p3) ?_
 rw [br] at p4
 simp only [dK,gS] at p4
 have Kf:=lE.bB p3 AN
 have f7:aR [B] h5 h7:=(g5.mono (by simp)).eN p3 (.inl (by simp))
 have z7:=z.cp p3 oX (by omega)
 have ZP:=z7.size
 have uZ:y8.pl .w≠A7:=p4.elim (λe=>by rw [e];exact AN) (λe=>by omega)
 have FD:(A7=y8.pl .qa/\dT.queue≠[])\/h5.size<=A7:=p4.elim (λe=>by rw [e];exact lA.imp id (λe=>by omega)) (λe=>.inr (by omega))
 have vQ:dT.queue++c1.waiters≠[]:=λe=>zk (List.append_eq_nil_iff.1 e).2
 obtain ⟨ua,un,uc,rfl⟩:=p2.slice
 clear z lE ow g6
 have z:=z7
 rw [az h7]
 simp only [aa,seval,fJ]
 refine jL (n:=1) (o:=6) (vs:=[.slice ua un uc]) Kf (by kernel_rfl) rfl rfl (by show 6+1<=9;omega) rfl (λh8 q8 j7=>?_)
 refine i3 (A:=y8.pl .w) (by kernel_rfl) (by have:=z.size;rw [br];omega) (by omega) j7 ?_
 have o8:=Ow.eN (λ_ _ _ _ h=>h) vQ (p2.mono (bP.lay h7 [] _)) j7 uZ
 have f8:aR [B,y8.pl .w] h5 h8:=(f7.mono (by simp)).eN j7 (.inl (by simp))
 obtain ⟨E8,y8,v8,s8⟩:=v5.queue rh vQ f8 (λX hX=>by
  simp only [db,hY,or_false] at hX
  rcases hX with rfl|rfl
  .exact .inr (lA.imp id (λe=>by omega))
  .exact .inl rfl) FD o8 q8
 replace z:=z7.cp j7 wA (by omega)
 have g:=aR.refl [] h8
 clear g5
 rw [az h8]
 simp only [cv,seval,fJ]
 ((with_reducible refine ⟨z.cS.lay _ _,?_⟩);(intro _ h' zz x _);(simp only [bS,bD] at x);replace g:=g.over x;(replace z:=zz);(clear zz);rw [az h'])
 simp only [seval,fJ]
 exact hk _ E8 y8 _ z.aw (v8.bf (g.trans (aR.lay _ _ _ []) (by simp))) (((s8'.bf gT).trans s8 (by rw [wo];exact aQ _)).bf (g.trans (aR.lay _ _ _ []) (by simp)))
end Go.Proofs.YtnkmeidmdaidhaaGreatDoor
