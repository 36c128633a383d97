/- Walks: a state begins, an answer comes. Written out by fill2.py. No condition. -/
import Derived.Test.YtnkmeidmdaidhaaGreatDoorG35
import Derived.Test.YtnkmeidmdaidhaaGreatDoorGSolve7
set_option linter.unusedSimpArgs false
set_option linter.unusedVariables false
set_option maxRecDepth 100000
set_option maxHeartbeats 0
namespace Go.Proofs.YtnkmeidmdaidhaaGreatDoor
open Go.Am Tryz
variable {bN vf:ai} {E:List Nat} {b h:Heap}
theorem zBA:rH aH 60 60=true:=by kernel_rfl
theorem gk {y:cp} {d:bg} (v:Am.Inv gj b E y bN vf d h):ak h (y.pl .w) (.row [bN,vf,.int .i64 d.aE,.int .i64 (d.steps:Int),.pointer (some ⟨y.pl .t,0,none⟩),y.vl .sa,y.vl .qa,y.vl .ra,.map (some (y.pl .km))] 63 false):=v.cZ .w
theorem UD {y:cp} {d:bg} (v:Am.Inv gj b E y bN vf d h) (K:aL)
 (hk:∀ h',Ext h h'->K (.bool (decide (d.aE < (d.steps:Int)))) h'):Ok prog aH ov 31 [.pointer (some ⟨y.pl .w,0,none⟩)] h K:=by
 rw [aq h]
 have z:=Ext.refl h
 have qw:=gk v
 refine Ok.aC 11 (bH Vu) ?_
 repeat' (simp only [aa,seval,AB])
 with_reducible first|refine dO (by simp only [AB]) z.aw ?_
 simp only [aa,seval,AB,qw.lay]
 refine qC (λhh=>?_) (λhh=>?_)
 .have QC:decide (d.aE < (d.steps:Int))=true:=hh
  rw [QC] at hk
  simp only [aa,seval,AB]
  ((with_reducible refine ⟨z.cI.lay _ _,?_⟩);(intro _ h' zz x _);(simp only [bK,bu] at x);replace qw:=qw.over x;(replace z:=zz);(clear zz);rw [aq h'])
  simp only [aa,seval,AB]
  exact hk _ z.aw
 .have QC:decide (d.aE < (d.steps:Int))=false:=hh
  rw [QC] at hk
  simp only [aa,seval,AB]
  ((with_reducible refine ⟨z.cI.lay _ _,?_⟩);(intro _ h' zz x _);(simp only [bK,bu] at x);replace qw:=qw.over x;(replace z:=zz);(clear zz);rw [aq h'])
  simp only [aa,seval,AB]
  exact hk _ z.aw
theorem zra {hq hc:Heap} {y:cp} {d:bg} (zq:b.size<=hq.size) (z:Ext b hc) (v:Am.Inv gj b E y bN vf d hq) (g:aP [] hq hc) {s:eu} {As:Nat} {lv:ai} (oV:hq.size<=As) (qs:ak hc As (.row (uL lv s) 101 false)) (hl:Sl aF.bind (bm E hq) lv s.l)
 (Hg:d.steps<=1000000000) (BE:d.queue.length<=10000000000000) (Q4:d.ab.length<=100000000) (K:aL)
 (hk:∀ h' E' y' u,As < h'.size->Ext b h'->Am.Inv gj b E' y' bN vf (kT d s) h'->dK d.ab.length E E' y y' hq h'->K u h'):Ok prog aH ov 61 [.pointer (some ⟨y.pl .w,0,none⟩),.pointer (some ⟨As,0,none⟩)] hc K:=by
 rw [aq hc]
 have qw:=(gk v).Gj g
 have Ln:∀ (u:ai) (h:Heap) (K:aL),aK (some u) h K=K u h:=λ_ _ _=>rfl
 have yY:Sl aF.ptr hq (y.vl .sa) ((List.range d.ab.length).map λi=>y.pl (.s i)):=cS.sl (v.cZ .sa) (by decide)
 have dG:=λ(hh:Heap)=>yY.bP qN hh
 rw [fN,Dk] at dG
 have pn:=v.lt (r:=.w) trivial
 have rU:=v.new _ (v.own .w trivial)
 have RV:IntKind.i64.wrap ((d.steps:Int)+1)=((d.steps+1:Nat):Int):=by rw [ez (by omega) (by omega)];omega
 have hz:=z.size
 have hg:=g.size
 refine Ok.aC 33 (bH VP) ?_
 simp only [aa,seval,ve,qw.lay]
 rw [RV]
 refine iH (n:=1) (o:=3) (vs:=[.int .i64 ((d.steps+1:Nat):Int)]) qw xL rfl rfl (by show 3+1<=9;omega) rfl (λh2 q2 c2=>?_)
 have f1:aP [y.pl .w] hq h2:=(g.mono (by simp)).ec c2 (.inl (by simp))
 have gx:=qs.lt
 replace qs:=qs.bC c2 (by omega)
 replace z:=z.aw.step c2 rU
 have q2:ak h2 (y.pl .w) (.row [bN,vf,.int .i64 d.aE,.int .i64 ((d.steps+1:Nat):Int),.pointer (some ⟨y.pl .t,0,none⟩),y.vl .sa,y.vl .qa,y.vl .ra,.map (some (y.pl .km))] 63 false):=q2
 clear qw g
 rw [aq h2]
 repeat' (simp only [aa,seval,ve])
 with_reducible first|refine dO (by simp only [ve]) z.aw ?_
 simp only [aa,seval,ve,q2.lay,Ln,dG]
 have kD:=z.size
 have f1s:=f1.size
 have oq:cS aF.nat b hq 3 (y.pl .qa) (y.vl .qa) d.queue:=v.cZ .qa
 have os:cS aF.ptr b hq 99 (y.pl .sa) (y.vl .sa) ((List.range d.ab.length).map λi=>y.pl (.s i)):=v.cZ .sa
 have k0:d.queue≠[]->y.pl .qa < hq.size:=λaO=>v.lt (r:=.qa) aO
 have k1:d.queue≠[]->y.pl .qa≠y.pl .w:=λaO hh=>nomatch (v.inj .qa .w aO trivial hh)
 have j0:d.ab≠[]->y.pl .sa < hq.size:=λaO=>v.lt (r:=.sa) aO
 have j1:d.ab≠[]->y.pl .sa≠y.pl .w:=λaO hh=>nomatch (v.inj .sa .w aO trivial hh)
 have j2:d.ab≠[]->d.queue≠[]->y.pl .sa≠y.pl .qa:=λaO qY hh=>nomatch (v.inj .sa .qa aO qY hh)
 have tz:((List.range d.ab.length).map λi=>y.pl (.s i)).length=d.ab.length:=by rw [fN,Dk]
 have hle:((List.range d.ab.length).map λi=>y.pl (.s i))=[]↔d.ab=[]:=⟨λe=>by rw [e] at tz;exact JK tz.symm,λe=>by rw [e];rfl⟩
 have oq2:=oq.aX (λ_ _ _ _ h=>h) f1 (λaO hh=>k1 aO (ek.1 hh))
 obtain ⟨B1,XF,wH⟩:=oq2.get
 have sV:(B1=y.pl .qa/\d.queue≠[])\/h2.size<=B1:=wH.imp id (λe=>by omega)
 have afO:=q2.lt
 have afX:=qs.lt
 have PR:=XF.fresh
 have Gp:y.pl .w≠B1:=sV.elim (λe hh=>k1 e.2 (by omega)) (λe=>by omega)
 have Gn:As≠B1:=sV.elim (λe=>by have:=k0 e.2;omega) (λe=>by omega)
 refine kO (by have:=z.size;omega) (by omega) ?_
 simp only [bM,seval,ve,j4,Ky]
 refine uR (i:=0) (cs:=[.int .i64 (d.ab.length:Int)]) (x:=d.ab.length) iP zE rfl (by decide) (by rfl) z.size XF rfl (by omega) (by omega) (λw3 h3 A1 iy ff jH=>?_)
 obtain ⟨a3,m3,sN,rfl⟩:=iy.slice
 refine gR (A:=B1) (by kernel_rfl) (by have:=z.size;rw [bo];omega) (by omega) (by simpa only [bK,bo,bu,dB,cW,gw] using ff) ?_
 have q3:=q2.bC ff Gp
 have XQ:=qs.bC ff Gn
 have z3:=z.bY ff PR (by omega)
 have Cc:=z3.size
 have f3:aP [y.pl .w,B1] hq h3:=(f1.mono (by simp)).ec ff (.inl (by simp))
 have Gm:y.pl .w≠A1:=jH.elim (λe=>by rw [e];exact Gp) (λe=>by omega)
 have PB:As≠A1:=jH.elim (λe=>by rw [e];exact Gn) (λe=>by omega)
 have lS:(A1=y.pl .qa/\d.queue≠[])\/hq.size<=A1:=jH.elim (λe=>by rw [e];exact sV.imp id (λe=>by omega)) (λe=>.inr (by omega))
 have aep:=iy.Sf (by simp)
 clear z f1 q2 qs
 have z:=z3
 rw [aq h3]
 simp only [aa,seval,ve]
 refine iH (n:=1) (o:=6) (vs:=[.slice a3 m3 sN]) q3 (by kernel_rfl) rfl rfl (by show 6+1<=9;omega) rfl (λh4 q4 lr=>?_)
 refine gR (A:=y.pl .w) (by kernel_rfl) (by have:=z.size;rw [bo];omega) (by omega) lr ?_
 have Lz:=XQ.bC lr (by omega)
 have o4:=Ow.ec (λ_ _ _ _ h=>h) (by simp) (iy.mono (bQ.lay h3 [] _)) lr Gm
 have f4:aP [y.pl .w,B1] hq h4:=f3.ec lr (.inl (by simp))
 have z4:=z3.bY lr rU (by omega)
 have vC:=z4.size
 have q4:ak h4 (y.pl .w) (.row [bN,vf,.int .i64 d.aE,.int .i64 ((d.steps+1:Nat):Int),.pointer (some ⟨y.pl .t,0,none⟩),y.vl .sa,.slice a3 m3 sN,y.vl .ra,.map (some (y.pl .km))] 63 false):=q4
 have h34:h3.size<=h4.size:=lr.size
 clear z z3 f3 q3 XQ iy
 have z:=z4
 rw [aq h4]
 simp only [bM,seval,ve]
 ((with_reducible refine ⟨z.cI.lay _ _,?_⟩);(intro _ h' zz x _);(simp only [bK,bu] at x);replace f4:=f4.over x;replace q4:=q4.over x;replace Lz:=Lz.over x;replace o4:=o4.over x;(replace z:=zz);(clear zz);rw [aq h'])
 repeat' (simp only [aa,seval,ve,q4.lay,Ln,j4,zBA])
 have aeq:=o4.Sf (by simp)
 have pq:=z.size
 have f4s:=f4.size
 have afW:=Lz.lt
 have af0:=q4.lt
 have os2:=os.aX (λ_ _ _ _ h=>h) f4 (λaO hh=>by
  have aO:=λe=>aO (hle.2 e)
  simp only [dg,gS,or_false] at hh
  rcases hh with hh|hh
  .exact j1 aO hh
  .exact sV.elim (λe=>j2 aO e.2 (hh.trans e.1)) (λe=>by have:=j0 aO;omega))
 obtain ⟨B2,XG,qO⟩:=os2.get
 have sW:(B2=y.pl .sa/\d.ab≠[])\/h'.size<=B2:=qO.imp (λe=>⟨e.1,λh=>e.2 (hle.2 h)⟩) (λe=>by omega)
 have PS:=XG.fresh
 have Gs:y.pl .w≠B2:=sW.elim (λe hh=>j1 e.2 (by omega)) (λe=>by omega)
 have Gr:As≠B2:=sW.elim (λe=>by have:=j0 e.2;omega) (λe=>by omega)
 have Gq:A1≠B2:=sW.elim (λe hh=>lS.elim (λe2=>j2 e.2 e2.2 (by omega)) (λe2=>by have:=j0 e.2;omega)) (λe=>by omega)
 refine uR (i:=0) (cs:=[.pointer (some ⟨As,0,none⟩)]) (x:=As) qN zkZ rfl (by decide) (by rfl) z.size XG rfl (by rw [tz];omega) (by rw [tz];omega) (λw6 h6 A2 XH sQ KW=>?_)
 obtain ⟨a6,m6,c6,rfl⟩:=XH.slice
 have q6:=q4.bC sQ Gs
 have qs6:=Lz.bC sQ Gr
 have o6:=Ow.ec (λ_ _ _ _ h=>h) (by simp) (o4.mono (bQ.lay h' _ _)) sQ (Ne.symm Gq)
 have z6:=z.aw.step sQ PS
 have uh:=z6.size
 have f6:aP [y.pl .w,B1,B2] hq h6:=(f4.mono (λX hX=>by simp only [dg,gS,or_false] at hX ⊢;exact hX.elim .inl (λe=>.inr (.inl e)))).ec sQ (.inl (by simp))
 have PE:y.pl .w≠A2:=KW.elim (λe=>by rw [e];exact Gs) (λe=>by omega)
 have PD:As≠A2:=KW.elim (λe=>by rw [e];exact Gr) (λe=>by omega)
 have PC:A1≠A2:=KW.elim (λe=>by rw [e];exact Gq) (λe=>by omega)
 have Wx:(A2=y.pl .sa/\d.ab≠[])\/hq.size<=A2:=KW.elim (λe=>by rw [e];exact sW.imp id (λe=>by omega)) (λe=>.inr (by omega))
 rw [aq h6]
 repeat' (simp only [aa,seval,ve])
 refine iH (n:=1) (o:=5) (vs:=[.slice a6 m6 c6]) q6 SD rfl rfl (by show 5+1<=9;omega) rfl (λh7 q7 nc=>?_)
 have o7:=Ow.ec (λ_ _ _ _ h=>h) (by simp) (XH.mono (bQ.lay h6 [] _)) nc PE
 have o71:=Ow.ec (λ_ _ _ _ h=>h) (by simp) (o6.mono (bQ.lay h6 [] _)) nc Gm
 have Ih:=qs6.bC nc (by omega)
 have f7:aP [y.pl .w,B1,B2] hq h7:=f6.ec nc (.inl (by simp))
 obtain ⟨E',y',i1,i2⟩:=v.Ap zq f7 (λX hX=>by
  simp only [dg,gS,or_false] at hX
  rcases hX with rfl|rfl|rfl
  .exact .inl rfl
  .exact .inr (sV.elim (λe=>.inl e) (λe=>.inr (.inr (by omega))))
  .exact .inr (.inr (sW.imp id (λe=>by omega)))) lS Wx oV PD PB PC o71 o7 Ih hl q7
 replace z:=z6.aw.step nc rU
 rw [aq h7]
 simp only [aa,seval,ve]
 exact hk _ E' y' _ (dU Ih.lt (by rw [bo];exact Fc _ _)) z.aw (i1.aX (aP.lay _ _ _ _)) (i2.aX (aP.lay _ _ _ _))
theorem UH (a:ae) (u w:ai):cut (a.cells++[u,w]) 0 11=some a.cells:=rfl
theorem zne (a:ae) (u w:ai):cut (a.cells++[u,w]) 0 13=some (a.cells++[u,w]):=rfl
theorem UF {a:ae} {n:Int} {w:ai} (h:Am.one w=true):(a.cells++[.int .i64 n,w]).all Am.one=true:=by
 have h1:a.cells.all Am.one=true:=rfl
 rw [Dq,h1,Bool.true_and]
 simp only [gA,il,h,Dz]
 rfl
theorem zxO:aH.zero 123=some (.agg ⟨[]⟩):=by kernel_rfl
theorem zBB:rH aH 38 38=true:=by kernel_rfl
theorem zxI (k:IntKind) (n:Int) (h:Heap) (K:aL):aK (some (.int k n)) h K=K (.int k n) h:=rfl
theorem zxJ (p:Option Addr) (h:Heap) (K:aL):aK (some (.pointer p)) h K=K (.pointer p) h:=rfl
theorem Jk {T:bx} {t u:TypeId} {hh:Heap} {n w:Nat} {cs vs:List ai} {v:ai} (hs:de T t=some n) (hv:v.cells.toList=vs) (hl:vs.length=n) (hc:cs.length=n) (bW:vs.all Am.one=true) :
 gN T t (.pointer (some ⟨hh.size+0,0,none⟩)) v (hh.lay [.row cs u false] w)=some (hh.lay [.row vs u false] (min w (hh.size+0))):=by
 have hg:(hh.lay [.row cs u false] w).get (hh.size+0)=some (.row cs u false):=by rw [kM];rfl
 have dC:v.cells.size=n:=by rw [<- hl,<- hv];simp
 unfold gN
 simp only [hs,dz]
 rw [aG dC,hv]
 unfold np
 rw [hg]
 simp only
 rw [aG (by simp only [dj,iC];exact ⟨by omega,bW⟩),EL _ _ _ _ _ (by simp)]
 rw [zkW,Ds,yy,C8 (by omega),bu]
 rfl
theorem JW {vb:Nat->ai}:∀ {k:Nat} {l:List aV},(mn vb k l).length=l.length
 |_,[]=>rfl
 |_,_::_=>by rw [mn,dB,JW,dB]
theorem zyN:mu aH 123 []=some (.agg ⟨[]⟩):=by kernel_rfl
theorem zwF (a:ae) (u w z0 z1 z2 z3 z4 z5 z6 z7 z8 z9 Cy SP z12:ai):n8 (λi=>some (i*13,13)) [z0,z1,z2,z3,z4,z5,z6,z7,z8,z9,Cy,SP,z12] [(0,Value.agg (a.cells++[u,w]).toArray)]=some (a.cells++[u,w]):=rfl
theorem zqF {T:bx} {t e:TypeId} {k bytes:Nat} {z:List ai} {a:Option Addr} {n c:Nat} {x:ai} {news:List ai} (hd:T.desc t=some (.slice e)) (hi:T.info e=some (k,bytes,z)) (hs:gg x k h=some (0,news)):lh T t (.slice a n c) x h=some (.slice a n c,h):=by
 unfold lh
 simp only [hd,hi,hs,dz]
 simp
theorem znO {hc:Heap} {y:cp} {d:bg} (cY:bj 1 b) (z:Ext b hc) (v:Am.Inv gj b E y bN vf d hc) {i:Nat} {c:ba} (gX:d.calls[i]? = some c) {r:aV} {bv:ai} (hl:Sl aF.atom (bm E hc) bv r.body)
 (Hg:d.steps<=1000000000) (BE:d.queue.length<=10000000000000) (Q4:d.calls.length<=10000000) (BF:c.answers.length<=10000000) (Xg:d.count<=1000000000) (Xh:c.waiters.length<=10000000) (Xi:d.aB.length<=10000000) (K:aL)
 (hk:∀ h' E' y' u,Ext b h'->Am.Inv gj b E' y' bN vf (gm d i r) h'->dK d.ab.length E E' y y' hc h'->K u h'):Ok prog aH ov 59 [.pointer (some ⟨y.pl .w,0,none⟩),.int .i64 (i:Int),.agg ⟨r.atom.cells++[.int .i64 r.clause,bv]⟩] hc K:=by
 rw [aq hc]
 have g:=aP.refl [] hc
 have qw:=gk v
 have Xk:Am.one bv=true:=hl.one
 have aD:=UF (a:=r.atom) (n:=r.clause) Xk
 refine Ok.aC 70 (bH VN) ?_
 repeat' (simp only [aa,seval,eJ])
 refine r6 (λh' x hq=>?_)
 have q0:=hq 0 _ rfl
 clear hq
 (replace z:=z.ao x;replace g:=g.over x;replace qw:=qw.over x;rw [aq h'])
 obtain ⟨A0,gO⟩:∃ A0,A0=hc.size+0:=⟨_,rfl⟩
 rw [<- gO] at q0
 rw [<- gO]
 have hz:=z.size
 with_reducible first|refine dO (by simp only [eJ]) z.aw ?_
 simp only [aa,seval,eJ,qw.lay,q0.lay,↓UH,dJ,dt]
 refine zAw cY z.aw ((v.aX g).aX (aP.lay _ _ _ _)) gX r.atom (by omega) (by omega) (by omega) _ (λh2 E1 y1 e1 z2 v2 s2=>?_)
 have hAE:A0 ∉ E:=λhh=>by have:=v.eh _ hh;omega
 have eX:=s2.size
 rw [bo] at eX
 simp only [cW,gw] at eX
 refine Eg (by kernel_rfl) z2.low (by rw [bo];simp only [cW];omega) ?_
 obtain ⟨D6,PL⟩:=s2.box (q0.on _ _) hAE
 have mj:=gk v2
 rw [<- s2.w,<- s2.t]
 have D7:=((dK.refl d.ab.length E y hc).aX (g.trans (aP.lay _ _ _ []) (by simp))).trans s2 (aS _)
 clear z q0 qw g
 have z:=z2
 have g:=aP.refl [] h2
 rw [aq h2]
 cases hf:(bq d i r.atom).2
 .have hd:gm d i r=(bq d i r.atom).1:=by unfold gm;rw [hf];rfl
  rw [hd] at hk
  simp only [aa,seval,eJ]
  ((with_reducible refine ⟨z.cI.lay _ _,?_⟩);(intro _ h' zz x _);(simp only [bK,bu] at x);replace g:=g.over x;replace D6:=D6.over x;replace mj:=mj.over x;(replace z:=zz);(clear zz);rw [aq h'])
  repeat' (first|simp only [aa,seval,eJ]|((with_reducible apply cn);(· rfl)))
  exact hk _ E1 y1 _ z.aw (v2.aX (g.trans (aP.lay _ _ _ []) (by simp))) (D7.aX (g.trans (aP.lay _ _ _ []) (by simp)))
 have hd:gm d i r=pE (j7 { (bq d i r.atom).1 with steps:=d.steps+1 } r) i:=by unfold gm;rw [hf];rfl
 obtain ⟨dh,Rf,nJ,BT,G5,hbu,kn⟩:=JF d i r.atom
 obtain ⟨c1,Be,yV,_⟩:=zmM gX r.atom
 obtain ⟨d1,iR⟩:∃ d1,d1=(bq d i r.atom).1:=⟨_,rfl⟩
 rw [<- iR] at dh Rf nJ BT G5 hbu kn Be mj v2 hd
 rw [dh] at mj
 simp only [aa,seval,eJ]
 ((with_reducible refine ⟨z.cI.lay _ _,?_⟩);(intro _ h' zz x _);(simp only [bK,bu] at x);replace g:=g.over x;replace D6:=D6.over x;replace mj:=mj.over x;(replace z:=zz);(clear zz);rw [aq h'])
 simp only [aa,seval,eJ]
 repeat' (((with_reducible apply cn);(· rfl)) <;> simp only [aa,seval,eJ,mj.lay])
 have RV:IntKind.i64.wrap ((d.steps:Int)+1)=((d.steps+1:Nat):Int):=by rw [ez (by omega) (by omega)];omega
 rw [RV]
 have LG:=v2.aX g
 have pn:=LG.new _ (LG.own .w trivial)
 refine iH (n:=1) (o:=3) (vs:=[.int .i64 ((d.steps+1:Nat):Int)]) mj xL rfl rfl (by show 3+1<=9;omega) rfl (λh3 q3 c3=>?_)
 have kD:=z.size
 obtain ⟨E2,v3,s3⟩:=LG.steps kD (d.steps+1) ((aP.refl _ _).ec c3 (.inl (by simp))) q3
 have z3:=z.aw.step c3 pn
 obtain ⟨zm,PN⟩:=s3.box D6 PL
 have Su:=(D7.aX g).trans s3 (by rw [nJ];exact aS _)
 have uy:=gk v3
 have mk:fj h3 (y1.pl .km) d1.known:=v3.cZ .km
 clear z D6 mj g D7 LG
 have z:=z3
 have g:=aP.refl [] h3
 rw [aq h3]
 repeat' (simp only [aa,seval,eJ])
 with_reducible first|refine dO (by simp only [eJ]) z.aw ?_
 simp only [aa,seval,eJ,uy.lay,zm.lay,↓UH,dJ,dt,EB,JL]
 refine zpE mk Gd Em zxO ?_
 by_cases hm:r.atom∈d1.known
 .rw [wm hm]
  simp only [aa,seval,eJ]
  refine kO (by have:=z.size;omega) (by omega) ?_
  simp only [aa,seval,eJ]
  rw [Jk (n:=0) (v:=.agg ⟨[]⟩) (vs:=[]) (by kernel_rfl) rfl rfl rfl rfl]
  simp only [syms,seval]
  refine vJ (by kernel_rfl) (by simp) (by have:=z.size;omega) ?_
  simp only [aa,seval,eJ]
  ((with_reducible refine ⟨z.cI.lay _ _,?_⟩);(intro _ h' zz x _);(simp only [bK,bu] at x);replace g:=g.over x;replace zm:=zm.over x;replace uy:=uy.over x;replace mk:=mk.over x;(replace z:=zz);(clear zz);rw [aq h'])
  repeat' (first|simp only [aa,seval,eJ]|((with_reducible apply cn);(· rfl)))
  obtain ⟨dT,ji⟩:∃ dT,dT={ d1 with steps:=d.steps+1 }:=⟨_,rfl⟩
  have GN:gm d i r=pE dT i:=by rw [hd,ji,iR];unfold j7;rw [aG (by rw [<- iR];exact hm)]
  have oY:dT.calls[i]? = some c1:=by rw [ji];exact Be
  have Bg:dT.calls.length=d.calls.length:=by rw [ji];exact kn
  have tN:dT.queue=d.queue:=by rw [ji];exact Rf
  have tV:dT.ab=d.ab:=by rw [ji];exact nJ
  rw [<- ji] at v3
  have v5:=v3.aX g
  have j3:=gk v5
  have ud:=v5.new _ (v5.own .w trivial)
  have RL:=v5.lt (r:=.w) trivial
  have pq:=z.size
  have BH:dT.calls.length<=100000000:=by rw [Bg];omega
  have cu:∀ (u:ai) (h:Heap) (K:aL),aK (some u) h K=K u h:=λ_ _ _=>rfl
  obtain ⟨h5,Bv⟩:∃ h5,h5=h':=⟨_,rfl⟩
  have g5:aP [] h5 h':=by rw [Bv];exact aP.refl [] h'
  have gT:=g
  rw [<- Bv] at v5 RL pq gT
  clear Bv
  with_reducible first|refine dO (by simp only [eJ]) z.aw ?_
  simp only [aa,seval,eJ,j3.lay,cu]
  refine zkM ((v5.aX g5).aX (aP.lay _ _ _ _)) oY BH (by rw [yV];omega) _ (λh' w A x ow=>?_)
  have g6:=g5
  (((with_reducible refine fC ?_ ?_ ?_);(· exact (by (simp only [fT]);have:=z.size;omega));(· exact x));replace z:=z.ao x;replace g5:=g5.over x;replace j3:=j3.over x;rw [aq h'])
  replace ow:=Ow.low (h0:=h5) (by rw [bo];have:=g6.size;omega) ow
  simp only [bM,seval,eJ,j4,Ky]
  have Si:cS aF.nat b h5 3 (y1.pl .qa) (y1.vl .qa) dT.queue:=v5.cZ .qa
  have Sj:=Si.aX (λ_ _ _ _ h=>h) g5 (λ_ hh=>nomatch hh)
  obtain ⟨B,ob,hB⟩:=Sj.get
  have uh:=z.size
  have g5s:=g5.size
  have jY:(B=y1.pl .qa/\dT.queue≠[])\/h'.size<=B:=hB.imp id (λe=>by omega)
  have k0:dT.queue≠[]->y1.pl .qa < h5.size:=λaO=>v5.lt (r:=.qa) aO
  have k1:dT.queue≠[]->y1.pl .qa≠y1.pl .w:=λaO hh=>nomatch (v5.inj .qa .w aO trivial hh)
  have nf:=ob.fresh
  have yP:y1.pl .w≠B:=jY.elim (λe hh=>k1 e.2 (by omega)) (λe=>by omega)
  have Xm:=j3.lt
  obtain ⟨news,hs,lA⟩:=ym (A:=B) (r:=aF.nat) (by decide) ((ow.sl (by decide)).lay [] (h'.size+0)) (λcs y hr=>hr)
  by_cases xw:c1.waiters=[]
  .have Bd:pE dT i=dT:=by unfold pE;rw [oY,jT,yw,xw,bu]
   rw [GN,Bd] at hk
   rw [xw] at hs
   obtain ⟨qa,qn,qc,Ho⟩:=ob.slice
   rw [Ho]
   rw [zqF iP zE hs]
   simp only [syms,seval]
   refine kO (by have:=z.size;omega) (by omega) ?_
   simp only [aa,seval,eJ]
   refine iH (n:=1) (o:=6) (vs:=[.slice qa qn qc]) j3 (by kernel_rfl) rfl rfl (by show 6+1<=9;omega) rfl (λh7 q7 nc=>?_)
   refine gR (A:=y1.pl .w) (by kernel_rfl) (by have:=z.size;rw [bo];omega) (by omega) (by simpa only [bK,bo,bu,cW,gw] using nc) ?_
   have f7:aP [y1.pl .w] h5 h7:=(g5.mono (by simp)).ec nc (.inl (by simp))
   obtain ⟨E7,v7,s7⟩:=v5.steps pq dT.steps f7 (by unfold Db;rw [Ho];exact q7)
   replace z:=z.bY nc ud (by omega)
   have g:=aP.refl [] h7
   clear g5 g6 j3 ow
   rw [aq h7]
   simp only [bM,seval,eJ]
   ((with_reducible refine ⟨z.cI.lay _ _,?_⟩);(intro _ h' zz x _);(simp only [bK,bu] at x);replace g:=g.over x;(replace z:=zz);(clear zz);rw [aq h'])
   simp only [seval,eJ]
   exact hk _ E7 y1 _ z.aw (v7.aX (g.trans (aP.lay _ _ _ []) (by simp))) (((Su.aX gT).trans s7 (by rw [tV];exact aS _)).aX (g.trans (aP.lay _ _ _ []) (by simp)))
  have Bd:pE dT i={ dT with queue:=dT.queue++c1.waiters }:=by unfold pE;rw [oY];rfl
  rw [GN,Bd] at hk
  obtain ⟨w',h7,A7,p1,p2,p3,p4,p5⟩:=uS (t:=61) iP zE rfl (by decide) (by rw [bo];omega) (ob.mono (bQ.lay _ _ _)) hs lA (by rw [tN,yV];omega) (by rw [tN,yV];omega)
  rw [p1]
  simp only [syms,seval]
  refine gR (A:=B) (by kernel_rfl) (by have:=z.size;rw [bo];omega) (by omega) (by simpa only [bK,bo,bu,cW,gw] using p3) ?_
  rw [bo] at p4
  simp only [cW,gw] at p4
  have Ii:=j3.bC p3 yP
  have f7:aP [B] h5 h7:=(g5.mono (by simp)).ec p3 (.inl (by simp))
  have z7:=z.bY p3 nf (by omega)
  have Xx:=z7.size
  have sU:y1.pl .w≠A7:=p4.elim (λe=>by rw [e];exact yP) (λe=>by omega)
  have DM:(A7=y1.pl .qa/\dT.queue≠[])\/h5.size<=A7:=p4.elim (λe=>by rw [e];exact jY.imp id (λe=>by omega)) (λe=>.inr (by omega))
  have tF:dT.queue++c1.waiters≠[]:=λe=>xw (List.append_eq_nil_iff.1 e).2
  obtain ⟨ua,un,uc,rfl⟩:=p2.slice
  clear z j3 ow g6
  have z:=z7
  rw [aq h7]
  simp only [aa,seval,eJ]
  refine iH (n:=1) (o:=6) (vs:=[.slice ua un uc]) Ii (by kernel_rfl) rfl rfl (by show 6+1<=9;omega) rfl (λh8 q8 i6=>?_)
  refine gR (A:=y1.pl .w) (by kernel_rfl) (by have:=z.size;rw [bo];omega) (by omega) i6 ?_
  have o8:=Ow.ec (λ_ _ _ _ h=>h) tF (p2.mono (bQ.lay h7 [] _)) i6 sU
  have f8:aP [B,y1.pl .w] h5 h8:=(f7.mono (by simp)).ec i6 (.inl (by simp))
  obtain ⟨E8,y8,v8,s8⟩:=v5.queue pq tF f8 (λX hX=>by
   simp only [dg,gS,or_false] at hX
   rcases hX with rfl|rfl
   .exact .inr (jY.imp id (λe=>by omega))
   .exact .inl rfl) DM o8 q8
  replace z:=z7.bY i6 ud (by omega)
  have g:=aP.refl [] h8
  clear g5
  rw [aq h8]
  simp only [bM,seval,eJ]
  ((with_reducible refine ⟨z.cI.lay _ _,?_⟩);(intro _ h' zz x _);(simp only [bK,bu] at x);replace g:=g.over x;(replace z:=zz);(clear zz);rw [aq h'])
  simp only [seval,eJ]
  exact hk _ E8 y8 _ z.aw (v8.aX (g.trans (aP.lay _ _ _ []) (by simp))) (((Su.aX gT).trans s8 (by rw [tV];exact aS _)).aX (g.trans (aP.lay _ _ _ []) (by simp)))
 rw [su hm]
 simp only [aa,seval,eJ]
 refine kO (by have:=z.size;omega) (by omega) ?_
 simp only [aa,seval,eJ]
 rw [Jk (n:=0) (v:=.agg ⟨[]⟩) (vs:=[]) (by kernel_rfl) rfl rfl rfl rfl]
 simp only [syms,seval]
 refine vJ (by kernel_rfl) (by simp) (by have:=z.size;omega) ?_
 simp only [aa,seval,eJ]
 ((with_reducible refine ⟨z.cI.lay _ _,?_⟩);(intro _ h' zz x _);(simp only [bK,bu] at x);replace g:=g.over x;replace zm:=zm.over x;replace uy:=uy.over x;replace mk:=mk.over x;(replace z:=zz);(clear zz);rw [aq h'])
 repeat' (first|simp only [aa,seval,eJ]|((with_reducible apply cn);(· rfl)))
 have v4:=v3.aX g
 have Ic:=zm
 have s4:=Su.aX g
 have vC:=z.size
 have Le:=v4.new _ (v4.own .km trivial)
 have xb:=v4.lt (r:=.km) trivial
 obtain ⟨h4,QD⟩:∃ h4,h4=h':=⟨_,rfl⟩
 have g4:aP [] h4 h':=by rw [QD];exact aP.refl [] h'
 rw [<- QD] at v4 vC s4 xb Ic
 clear QD g
 with_reducible first|refine dO (by simp only [eJ]) z.aw ?_
 simp only [aa,seval,eJ,uy.lay,zm.lay,↓UH,dJ,dt,EB,zyN,Jv]
 have g4s:=g4.size
 obtain ⟨h5,hu,m5,c5⟩:=zqo (h:=h'.lay [] (h'.size+0)) (a:=r.atom) (mk.over (Ext.refl _)) Gd Em hm
 rw [hu]
 refine gR (A:=y1.pl .km) (by kernel_rfl) (by have:=z.size;rw [bo];omega) (by omega) c5 ?_
 obtain ⟨E5,v5,s5⟩:=v4.known vC ((g4.mono (by simp)).ec c5 (.inl (by simp))) m5
 have HP:=z.size
 have z5:=z.bY c5 Le (by omega)
 obtain ⟨Sr,aeu⟩:=s5.box Ic PN
 have j3:=gk v5
 have cu:∀ (u:ai) (h:Heap) (K:aL),aK (some u) h K=K u h:=λ_ _ _=>rfl
 clear z zm uy g4 mk
 have z:=z5
 have g:=aP.refl [] h5
 rw [aq h5]
 simp only [bM,seval,eJ]
 ((with_reducible refine ⟨z.cI.lay _ _,?_⟩);(intro _ h' zz x _);(simp only [bK,bu] at x);replace g:=g.over x;replace Sr:=Sr.over x;replace j3:=j3.over x;(replace z:=zz);(clear zz);rw [aq h'])
 repeat' (simp only [syms,seval])
 have v6:=v5.aX g
 have s6:=(s4.trans s5 (by rw [show ({ d1 with steps:=d.steps+1 }:bg).ab=d.ab from nJ];exact aS _)).aX g
 have uh:=z.size
 have RO:=v6.new _ (v6.own .w trivial)
 have RS:=v6.lt (r:=.w) trivial
 obtain ⟨h6,QE⟩:∃ h6,h6=h':=⟨_,rfl⟩
 have g6:aP [] h6 h':=by rw [QE];exact aP.refl [] h'
 rw [<- QE] at v6 uh s6 RS
 clear QE g
 with_reducible first|refine dO (by simp only [eJ]) z.aw ?_
 simp only [aa,seval,eJ,j3.lay,Sr.lay,↓zne,cu,zwF]
 have oR:cS aF.rv b h6 71 (y1.pl .ra) (y1.vl .ra) (mn y1.vb 0 d1.aB):=v6.cZ .ra
 have H7:=oR.aX (λ_ _ _ _ h=>h) g6 (λ_ hh=>nomatch hh)
 obtain ⟨B,ob,hB⟩:=H7.get
 have Xx:=z.size
 have g6s:=g6.size
 have Lk:(mn y1.vb 0 d1.aB).length=d.aB.length:=by rw [JW,BT]
 have jY:(B=y1.pl .ra/\d1.aB≠[])\/h'.size<=B:=hB.imp (λe=>⟨e.1,λh=>e.2 (m8.2 h)⟩) (λe=>by omega)
 have k0:d1.aB≠[]->y1.pl .ra < h6.size:=λaO=>v6.lt (r:=.ra) aO
 have k1:d1.aB≠[]->y1.pl .ra≠y1.pl .w:=λaO hh=>nomatch (v6.inj .ra .w aO trivial hh)
 have nf:=ob.fresh
 have yP:y1.pl .w≠B:=jY.elim (λe hh=>k1 e.2 (by omega)) (λe=>by omega)
 have Xm:=j3.lt
 refine kO (by have:=z.size;omega) (by omega) ?_
 simp only [bM,seval,eJ,j4,zBB]
 refine uR (i:=0) (cs:=r.atom.cells++[.int .i64 r.clause,bv]) (x:=(r.atom,r.clause,bv)) nx TJ rfl (by decide) (by rfl) z.size ob ⟨rfl,Xk⟩ (by rw [Lk];omega) (by rw [Lk];omega) (λw7 h7 A7 XI nc DM=>?_)
 obtain ⟨ua,un,uc,rfl⟩:=XI.slice
 refine gR (A:=B) (by kernel_rfl) (by have:=z.size;rw [bo];omega) (by omega) (by simpa only [bK,bo,bu,dB,cW,gw] using nc) ?_
 have Ii:=j3.bC nc yP
 have f7:aP [B] h6 h7:=(g6.mono (by simp)).ec nc (.inl (by simp))
 have z7:=z.bY nc nf (by omega)
 have Xy:=z7.size
 have sU:y1.pl .w≠A7:=DM.elim (λe=>by rw [e];exact yP) (λe=>by omega)
 have PI:(A7=y1.pl .ra/\d1.aB≠[])\/h6.size<=A7:=DM.elim (λe=>by rw [e];exact jY.imp id (λe=>by omega)) (λe=>.inr (by omega))
 clear z j3
 have z:=z7
 rw [aq h7]
 simp only [aa,seval,eJ]
 refine iH (n:=1) (o:=7) (vs:=[.slice ua un uc]) Ii (by kernel_rfl) rfl rfl (by show 7+1<=9;omega) rfl (λh8 q8 i6=>?_)
 refine gR (A:=y1.pl .w) (by kernel_rfl) (by have:=z.size;rw [bo];omega) (by omega) i6 ?_
 have o8:=Ow.ec (λ_ _ _ _ h=>h) (by simp) (XI.mono (bQ.lay h7 [] _)) i6 sU
 have f8:aP [B,y1.pl .w] h6 h8:=(f7.mono (by simp)).ec i6 (.inl (by simp))
 obtain ⟨E8,y8,v8,s8⟩:=v6.reason uh (r:=r) (bv:=bv) f8 (λX hX=>by
  simp only [dg,gS,or_false] at hX
  rcases hX with rfl|rfl
  .exact .inr (jY.imp id (λe=>by omega))
  .exact .inl rfl) PI o8 (hl.mono s6.inc) q8
 replace z:=z7.bY i6 RO (by omega)
 have XV:=s6.trans s8 (by rw [show ({ d1 with steps:=d.steps+1,known:=r.atom::d1.known }:bg).ab=d.ab from nJ];exact aS _)
 have g:=aP.refl [] h8
 clear g6
 rw [aq h8]
 rw [<- s8.w,<- s8.t]
 simp only [bM,seval,eJ]
 ((with_reducible refine ⟨z.cI.lay _ _,?_⟩);(intro _ h' zz x _);(simp only [bK,bu] at x);replace g:=g.over x;(replace z:=zz);(clear zz);rw [aq h'])
 repeat' (simp only [syms,seval])
 obtain ⟨dT,ji⟩:∃ dT,dT={ d1 with steps:=d.steps+1,known:=r.atom::d1.known,aB:=d1.aB++[r] }:=⟨_,rfl⟩
 have GN:gm d i r=pE dT i:=by rw [hd,ji,iR];unfold j7;rw [aA (by rw [<- iR];exact hm)]
 have oY:dT.calls[i]? = some c1:=by rw [ji];exact Be
 have Bg:dT.calls.length=d.calls.length:=by rw [ji];exact kn
 have tN:dT.queue=d.queue:=by rw [ji];exact Rf
 have tV:dT.ab=d.ab:=by rw [ji];exact nJ
 rw [<- ji] at v8
 have v5:=v8.aX g
 have j3:=gk v5
 have ud:=v5.new _ (v5.own .w trivial)
 have RL:=v5.lt (r:=.w) trivial
 have pq:=z.size
 have BH:dT.calls.length<=100000000:=by rw [Bg];omega
 have cu:∀ (u:ai) (h:Heap) (K:aL),aK (some u) h K=K u h:=λ_ _ _=>rfl
 obtain ⟨h5,Bv⟩:∃ h5,h5=h':=⟨_,rfl⟩
 have g5:aP [] h5 h':=by rw [Bv];exact aP.refl [] h'
 have gT:=g
 rw [<- Bv] at v5 RL pq gT
 clear Bv
 with_reducible first|refine dO (by simp only [eJ]) z.aw ?_
 simp only [aa,seval,eJ,j3.lay,cu]
 refine zkM ((v5.aX g5).aX (aP.lay _ _ _ _)) oY BH (by rw [yV];omega) _ (λh' w A x ow=>?_)
 have g6:=g5
 (((with_reducible refine fC ?_ ?_ ?_);(· exact (by (simp only [fT]);have:=z.size;omega));(· exact x));replace z:=z.ao x;replace g5:=g5.over x;replace j3:=j3.over x;rw [aq h'])
 replace ow:=Ow.low (h0:=h5) (by rw [bo];have:=g6.size;omega) ow
 simp only [bM,seval,eJ,j4,Ky]
 have Si:cS aF.nat b h5 3 (y8.pl .qa) (y8.vl .qa) dT.queue:=v5.cZ .qa
 have Sj:=Si.aX (λ_ _ _ _ h=>h) g5 (λ_ hh=>nomatch hh)
 obtain ⟨B,ob,hB⟩:=Sj.get
 have uh:=z.size
 have g5s:=g5.size
 have jY:(B=y8.pl .qa/\dT.queue≠[])\/h'.size<=B:=hB.imp id (λe=>by omega)
 have k0:dT.queue≠[]->y8.pl .qa < h5.size:=λaO=>v5.lt (r:=.qa) aO
 have k1:dT.queue≠[]->y8.pl .qa≠y8.pl .w:=λaO hh=>nomatch (v5.inj .qa .w aO trivial hh)
 have nf:=ob.fresh
 have yP:y8.pl .w≠B:=jY.elim (λe hh=>k1 e.2 (by omega)) (λe=>by omega)
 have Xm:=j3.lt
 obtain ⟨news,hs,lA⟩:=ym (A:=B) (r:=aF.nat) (by decide) ((ow.sl (by decide)).lay [] (h'.size+0)) (λcs y hr=>hr)
 by_cases xw:c1.waiters=[]
 .have Bd:pE dT i=dT:=by unfold pE;rw [oY,jT,yw,xw,bu]
  rw [GN,Bd] at hk
  rw [xw] at hs
  obtain ⟨qa,qn,qc,Ho⟩:=ob.slice
  rw [Ho]
  rw [zqF iP zE hs]
  simp only [syms,seval]
  refine kO (by have:=z.size;omega) (by omega) ?_
  simp only [aa,seval,eJ]
  refine iH (n:=1) (o:=6) (vs:=[.slice qa qn qc]) j3 (by kernel_rfl) rfl rfl (by show 6+1<=9;omega) rfl (λh7 q7 nc=>?_)
  refine gR (A:=y8.pl .w) (by kernel_rfl) (by have:=z.size;rw [bo];omega) (by omega) (by simpa only [bK,bo,bu,cW,gw] using nc) ?_
  have f7:aP [y8.pl .w] h5 h7:=(g5.mono (by simp)).ec nc (.inl (by simp))
  obtain ⟨E7,v7,s7⟩:=v5.steps pq dT.steps f7 (by unfold Db;rw [Ho];exact q7)
  replace z:=z.bY nc ud (by omega)
  have g:=aP.refl [] h7
  clear g5 g6 j3 ow
  rw [aq h7]
  simp only [bM,seval,eJ]
  ((with_reducible refine ⟨z.cI.lay _ _,?_⟩);(intro _ h' zz x _);(simp only [bK,bu] at x);replace g:=g.over x;(replace z:=zz);(clear zz);rw [aq h'])
  simp only [seval,eJ]
  exact hk _ E7 y8 _ z.aw (v7.aX (g.trans (aP.lay _ _ _ []) (by simp))) (((XV.aX gT).trans s7 (by rw [tV];exact aS _)).aX (g.trans (aP.lay _ _ _ []) (by simp)))
 have Bd:pE dT i={ dT with queue:=dT.queue++c1.waiters }:=by unfold pE;rw [oY];rfl
 rw [GN,Bd] at hk
 obtain ⟨w',h7,A7,p1,p2,p3,p4,p5⟩:=uS (t:=61) iP zE rfl (by decide) (by rw [bo];omega) (ob.mono (bQ.lay _ _ _)) hs lA (by rw [tN,yV];omega) (by rw [tN,yV];omega)
 rw [p1]
 simp only [syms,seval]
 refine gR (A:=B) (by kernel_rfl) (by have:=z.size;rw [bo];omega) (by omega) (by simpa only [bK,bo,bu,cW,gw] using p3) ?_
 rw [bo] at p4
 simp only [cW,gw] at p4
 have Ii:=j3.bC p3 yP
 have f7:aP [B] h5 h7:=(g5.mono (by simp)).ec p3 (.inl (by simp))
 have z7:=z.bY p3 nf (by omega)
 have Xx:=z7.size
 have sU:y8.pl .w≠A7:=p4.elim (λe=>by rw [e];exact yP) (λe=>by omega)
 have DM:(A7=y8.pl .qa/\dT.queue≠[])\/h5.size<=A7:=p4.elim (λe=>by rw [e];exact jY.imp id (λe=>by omega)) (λe=>.inr (by omega))
 have tF:dT.queue++c1.waiters≠[]:=λe=>xw (List.append_eq_nil_iff.1 e).2
 obtain ⟨ua,un,uc,rfl⟩:=p2.slice
 clear z j3 ow g6
 have z:=z7
 rw [aq h7]
 simp only [aa,seval,eJ]
 refine iH (n:=1) (o:=6) (vs:=[.slice ua un uc]) Ii (by kernel_rfl) rfl rfl (by show 6+1<=9;omega) rfl (λh8 q8 i6=>?_)
 refine gR (A:=y8.pl .w) (by kernel_rfl) (by have:=z.size;rw [bo];omega) (by omega) i6 ?_
 have o8:=Ow.ec (λ_ _ _ _ h=>h) tF (p2.mono (bQ.lay h7 [] _)) i6 sU
 have f8:aP [B,y8.pl .w] h5 h8:=(f7.mono (by simp)).ec i6 (.inl (by simp))
 obtain ⟨E8,y8,v8,s8⟩:=v5.queue pq tF f8 (λX hX=>by
  simp only [dg,gS,or_false] at hX
  rcases hX with rfl|rfl
  .exact .inr (jY.imp id (λe=>by omega))
  .exact .inl rfl) DM o8 q8
 replace z:=z7.bY i6 ud (by omega)
 have g:=aP.refl [] h8
 clear g5
 rw [aq h8]
 simp only [bM,seval,eJ]
 ((with_reducible refine ⟨z.cI.lay _ _,?_⟩);(intro _ h' zz x _);(simp only [bK,bu] at x);replace g:=g.over x;(replace z:=zz);(clear zz);rw [aq h'])
 simp only [seval,eJ]
 exact hk _ E8 y8 _ z.aw (v8.aX (g.trans (aP.lay _ _ _ []) (by simp))) (((XV.aX gT).trans s8 (by rw [tV];exact aS _)).aX (g.trans (aP.lay _ _ _ []) (by simp)))
end Go.Proofs.YtnkmeidmdaidhaaGreatDoor
