/- Walks: tables. Written out by fill2.py. No condition. -/
import Derived.Test.YtnkmeidmdaidhaaGreatDoorG34
set_option linter.unusedSimpArgs false
set_option linter.unusedVariables false
set_option maxRecDepth 100000
set_option maxHeartbeats 0
namespace Go.Proofs.YtnkmeidmdaidhaaGreatDoor
open Go.Am Tryz
variable {bZ vf:ai} {E:List Nat} {b hc:Heap}
theorem zui (a:ae) (u m w w':ai):aI (a.cells++[u,m,w]) 13 [w']=a.cells++[u,m,w']:=rfl
theorem zzp (a:ae) (u m w:ai):(a.cells++[u,m,w]).length=14:=rfl
theorem zAA {y:cG} {d:aY} (z:Ext b hc) (v:Am.Inv il b E y bZ vf d hc) {i:Nat} {c:aX} (jc:d.calls[i]? = some c) (k:Nat) (hn:d.calls.length<=100000000) (ha:c.waiters.length<=10000000) (K:aO)
 (hk:∀ h' E' y',Ext b h'->Am.Inv il b E' y' bZ vf (iP d i k) h'->ec d.ab.length E E' y y' hc h'->K (.int .i64 0) h'):Ok prog aJ ov 66 [.pointer (some ⟨y.pl .t,0,none⟩),.int .i64 (i:Int),.int .i64 (k:Int)] hc K:=by
 rw [az hc]
 have g:=aR.refl [] hc
 have qc:=LN v jc
 have oa:du aG.nat b hc 3 (y.pl (.wa i)) (y.vl (.wa i)) c.waiters:=v.dB (.wa i) c jc
 have gO:Sl aG.nat hc (y.vl (.wa i)) c.waiters:=oa.sl (by decide)
 have dg:∀ (h:Heap) (K:aO),aM (some (y.vl (.wa i))) h K=K (y.vl (.wa i)) h:=by
  obtain ⟨a,n,c,e⟩:=du.slice oa
  rw [e]
  exact λ_ _=>rfl
 refine Ok.aF 29 (bY Yb) ?_
 repeat' (simp only [aa,seval,Fz,uX])
 refine MD (v.bf (aR.lay _ _ _ _)) i (ao jc) hn _ (λh' x=>?_)
 (replace z:=z.au x;replace g:=g.over x;replace qc:=qc.over x;rw [az h'])
 repeat' (simp only [aa,seval,Fz,H7,qc.lay,WG,dg])
 refine zoO c.waiters _ k _ ((gO.mono g.all).lay _ _) (by omega) _ (λh' x=>?_)
 (replace z:=z.au x;replace g:=g.over x;replace qc:=qc.over x;rw [az h'])
 have hz:=z.size
 have v1:=v.bf g
 by_cases Dq:k∈c.waiters
 .have hd:iP d i k=d:=by unfold iP;rw [jc];exact aB Dq
  repeat' (first|simp only [aa,seval,Fz,Dq]|((with_reducible apply cK);(· rfl)))
  exact hk _ _ _ z.aw (by rw [hd];exact v1.bf (aR.lay _ _ _ _)) ((ec.refl _ _ _ _).bf (g.trans (aR.lay _ _ _ []) (by simp)))
 .have hd:iP d i k={ d with calls:=d.calls.set i { c with waiters:=c.waiters++[k] } }:=by unfold iP;rw [jc];exact aA Dq
  repeat' (first|simp only [aa,seval,Fz,Dq,qc.lay,WG,dg]|((with_reducible apply cK);(· rfl)))
  simp only [cv,seval,lF,MC]
  have fm:=ao jc
  have qh:=v1.lt (r:=.c i) fm
  have mU:=v1.new _ (v1.own (.c i) fm)
  obtain ⟨B,ob,hB⟩:=(show du aG.nat b h' 3 (y.pl (.wa i)) (y.vl (.wa i)) c.waiters from v1.dB (.wa i) c jc).get
  have oX:=ob.fresh
  have MV:B≠y.pl (.c i):=by
   rcases hB with ⟨e,aL⟩|⟨_,e⟩
   .intro hh
    have:=v1.inj (.wa i) (.c i) ⟨c,jc,aL⟩ fm (by rw [<- e,hh])
    cases this
   .omega
  have YP:(B=y.pl (.wa i)/\c.waiters≠[])\/h'.size<=B:=hB.imp id (λe=>by omega)
  refine xb (i:=0) (cs:=[.int .i64 (k:Int)]) (x:=k) jR BL rfl (by decide) (by rfl) z.size ob rfl (by omega) (by omega) (λw3 h3 A3 jz gg kO=>?_)
  obtain ⟨a3,m3,c3,rfl⟩:=jz.slice
  have q3:=qc.bB gg (Ne.symm MV)
  have z3:=z.aw.step gg oX
  have ue:=z3.size
  rw [az h3]
  have z:=z3
  repeat' (simp only [aa,seval,Fz])
  refine jL (n:=1) (o:=13) (vs:=[.slice a3 m3 c3]) q3 UT rfl rfl (by rw [zzp];decide) rfl (λh4 q4 mR=>?_)
  have CP:y.pl (.c i)≠A3:=by rcases kO with e|e <;> omega
  have o4:=Ow.eN (λ_ _ _ _ h=>h) (by simp) (jz.mono (bP.lay h3 [] h3.low)) mR CP
  have f4:aR [B,y.pl (.c i)] h' h4:=((aR.refl _ h').eN gg (.inl (by simp))).eN mR (.inl (by simp))
  have hA4:(A3=y.pl (.wa i)/\c.waiters≠[])\/h'.size<=A3:=by
   rcases kO with e|e
   .rw [e];exact YP
   .exact .inr e
  obtain ⟨E',y',i1,i2⟩:=v1.wait hz jc f4 (λX hX=>by
   rcases db.1 hX with rfl|hX
   .exact .inr YP
   .exact .inl (eM.1 hX)) hA4 o4 (by rw [zve];rw [zui] at q4;exact q4)
  replace z:=z.aw.step mR mU
  rw [az h4]
  repeat' (simp only [aa,seval,Fz])
  exact hk _ E' y' z.aw (by rw [hd];exact i1.bf (aR.lay _ _ _ _)) ((((ec.refl _ _ _ _).bf g).trans i2 (aQ _)).bf (aR.lay _ _ _ _))
theorem Gt (a b:ae):dy aJ 20 28 a.val b.val=some (decide (a=b)):=by
 have h:dy aJ 20 28 a.val b.val=Qh a b:=by kernel_rfl
 rw [h,zxN]
theorem zpA:aJ.zero 3=some (.int .i64 0):=by kernel_rfl
theorem GG (m:Option Nat) (h:Heap) (K:aO):aM (some (.map m)) h K=K (.map m) h:=rfl
theorem zyk {h:Heap} {y:cG} {d:aY} (v:Am.Inv il b E y bZ vf d h) (a:ae) (K:aO)
 (hk:∀ h',Ext h h'->K (.tuple #[.int .i64 ((rK (eQ 0 (d.calls.map aX.atom)) (bC a)).getD 0),.bool (rK (eQ 0 (d.calls.map aX.atom)) (bC a)).isSome]) h'):Ok prog aJ ov 89 [.pointer (some ⟨y.pl .t,0,none⟩),a.val] h K:=by
 rw [az h]
 have z:=Ext.refl h
 have qt:ak h (y.pl .t) (.row [.map (some (y.pl .pm)),y.vl .ca,.int .i64 (d.count:Int)] 88 false):=v.dB .t
 have mp:bV h (y.pl .pm) (eQ 0 (d.calls.map aX.atom)):=v.dB .pm
 refine Ok.aF 18 (bY Yr) ?_
 repeat' (simp only [aa,seval,AE,js])
 with_reducible first|refine eF (by simp only [AE]) z.aw ?_
 simp only [aa,seval,AE,qt.lay,↓fU,eG,dS,GG]
 refine OO a _ _ (λh' x=>?_)
 (((with_reducible refine fP ?_ ?_ ?_);(· exact (by (simp only [gh]);have:=z.size;omega));(· exact x));replace z:=z.au x;replace qt:=qt.over x;replace mp:=mp.over x;rw [az h'])
 simp only [cv,seval,AE,LB]
 refine zlo mp yC Gt zpA ?_
 obtain ⟨o,ho⟩:∃ o,o=rK (eQ 0 (d.calls.map aX.atom)) (bC a):=⟨_,rfl⟩
 rw [<- ho] at hk ⊢
 cases o with
 |none =>
  simp only [Option.getD_none,Cg,if_true] at hk ⊢
  simp only [aa,seval,AE]
  ((with_reducible refine ⟨z.cS.lay _ _,?_⟩);(intro _ h' zz x _);(simp only [bS,bD] at x);replace qt:=qt.over x;replace mp:=mp.over x;(replace z:=zz);(clear zz);rw [az h'])
  simp only [aa,seval,AE]
  exact hk _ z.aw
 |some n =>
  simp only [Aq,GV,if_true] at hk ⊢
  simp only [aa,seval,AE]
  ((with_reducible refine ⟨z.cS.lay _ _,?_⟩);(intro _ h' zz x _);(simp only [bS,bD] at x);replace qt:=qt.over x;replace mp:=mp.over x;(replace z:=zz);(clear zz);rw [az h'])
  simp only [aa,seval,AE]
  exact hk _ z.aw
theorem zA9 (a:ae) (m:Option Nat):nP aJ 112 [(0,a.val),(2,.map m)]=some (.agg ⟨a.cells++[.slice none 0 0,.map m,.slice none 0 0]⟩):=by kernel_rfl
theorem zCF:tJ aJ 86 86=true:=by kernel_rfl
theorem zAx {y:cG} {d:aY} (dq:bh 1 b) (z:Ext b hc) (v:Am.Inv il b E y bZ vf d hc) (a:ae) (hn:d.calls.length<=10000000) (K:aO)
 (hk:∀ h' E' y' (e:Int),Ext b h'->Am.Inv il b E' y' bZ vf (cY d a).1 h'->ec d.ab.length E E' y y' hc h'->K (.tuple #[.int .i64 ((cY d a).2.1:Int),.bool (cY d a).2.2,.int .i64 e]) h'):Ok prog aJ ov 56 [.pointer (some ⟨y.pl .t,0,none⟩),a.val] hc K:=by
 rw [az hc]
 have g:=aR.refl [] hc
 have qt:ak hc (y.pl .t) (.row [.map (some (y.pl .pm)),y.vl .ca,.int .i64 (d.count:Int)] 88 false):=v.dB .t
 have mp:bV hc (y.pl .pm) (eQ 0 (d.calls.map aX.atom)):=v.dB .pm
 have oc:=v.dB .ca
 have gO:Sl aG.ptr hc (y.vl .ca) ((List.range d.calls.length).map λi=>y.pl (.c i)):=du.sl oc (by decide)
 have Nt:∀ (h:Heap) (K:aO),aM (some (y.vl .ca)) h K=K (y.vl .ca) h:=by
  obtain ⟨a,n,c,e⟩:=du.slice oc
  rw [e]
  exact λ_ _=>rfl
 have FN:=λ(hh:Heap)=>gO.bW py hh
 rw [gq,Fb] at FN
 refine Ok.aF 56 (bY X1) ?_
 repeat' (simp only [aa,seval,pw,uX,js,↓fU,eG,dS])
 refine Ls a _ ((dq.ext z).lay _ _) _ (λdg h' x=>?_) (λdg c h' mU x=>?_)
 rotate_left
 ·(replace z:=z.au x;( replace g:=g.over x );( replace qt:=qt.over x );( replace mp:=mp.over x );rw [az h'])
  have hd:cY d a=(d,0,false):=by unfold cY;rw [aB dg]
  rw [hd] at hk
  repeat' (first|simp only [aa,seval,pw]|((with_reducible apply su) <;> intro _))
  all_goals first|exact hk _ _ _ _ z.aw (v.bf (g.trans (aR.lay _ _ _ []) (by simp))) ((ec.refl _ _ _ _).bf (g.trans (aR.lay _ _ _ []) (by simp)))|(exfalso;omega)
 (replace z:=z.au x;replace g:=g.over x;replace qt:=qt.over x;replace mp:=mp.over x;rw [az h'])
 have q0:=ak.top (i:=0) x rfl
 have hz:=z.size
 repeat' (simp only [aa,seval,pw])
 with_reducible first|refine eF (by simp only [pw]) z.aw ?_
 simp only [aa,seval,pw,q0.lay,↓fU,eG,dS]
 refine zyk ((v.bf g).bf (aR.lay _ _ _ _)) a _ (λh' x=>?_)
 (((with_reducible refine fP ?_ ?_ ?_);(· exact (by (simp only [gh]);have:=z.size;omega));(· exact x));replace z:=z.au x;replace g:=g.over x;replace qt:=qt.over x;replace mp:=mp.over x;replace q0:=q0.over x;rw [az h'])
 have yY:=Lp (bC a) 0 (d.calls.map aX.atom)
 by_cases hm:bC a∈d.calls.map aX.atom
 .rw [aB hm] at yY
  rw [yY]
  have hd:cY d a=(d,wE (bC a) (d.calls.map aX.atom),false):=by unfold cY;rw [aA (λh=>h dg),aB hm]
  rw [hd] at hk
  simp only [Aq,GV,i5]
  simp only [aa,seval,pw]
  ((with_reducible refine ⟨z.cS.lay _ _,?_⟩);(intro _ h' zz x _);(simp only [bS,bD] at x);replace g:=g.over x;replace qt:=qt.over x;replace mp:=mp.over x;replace q0:=q0.over x;(replace z:=zz);(clear zz);rw [az h'])
  repeat' (simp only [aa,seval,pw])
  exact hk _ _ _ _ z.aw (v.bf (g.trans (aR.lay _ _ _ []) (by simp))) ((ec.refl _ _ _ _).bf (g.trans (aR.lay _ _ _ []) (by simp)))
 rw [aA hm] at yY
 rw [yY]
 have hd:cY d a=({ d with calls:=d.calls++[⟨bC a,[],[]⟩] },d.calls.length,true):=by unfold cY;rw [aA (λh=>h dg),aA hm]
 rw [hd] at hk
 simp only [Option.getD_none,Cg]
 simp only [aa,seval,pw]
 ((with_reducible refine ⟨z.cS.lay _ _,?_⟩);(intro _ h' zz x _);(simp only [bS,bD] at x);replace g:=g.over x;replace qt:=qt.over x;replace mp:=mp.over x;replace q0:=q0.over x;(replace z:=zz);(clear zz);rw [az h'])
 repeat' (simp only [aa,seval,pw])
 repeat' (simp only [aa,seval,pw,q0.lay,↓fU,eG,dS])
 refine OO a _ _ (λh' x=>?_)
 (replace z:=z.au x;replace g:=g.over x;replace qt:=qt.over x;replace mp:=mp.over x;replace q0:=q0.over x;rw [az h'])
 have hz:=z.size
 repeat' (simp only [aa,seval,pw,Lm,zA9,qt.lay,Nt,FN])
 obtain ⟨M,hM⟩:∃ M,M=h'.size+0:=⟨_,rfl⟩
 obtain ⟨C,hC⟩:∃ C,C=h'.size+1:=⟨_,rfl⟩
 obtain ⟨hp,yS⟩:∃ hp,hp=h':=⟨_,rfl⟩
 have gp:=g
 have zp:=z
 have hM2:M=hp.size+0:=by rw [hM,yS]
 have YS:C=hp.size+1:=by rw [hC,yS]
 rw [<- yS] at gp zp
 have g2:aR [] hp h':=by rw [yS];exact aR.refl [] h'
 refine uw (λh' x hq=>?_)
 have qm:=hq 0 _ rfl
 have qc:=hq 1 _ rfl
 clear hq
 (replace z:=z.au x;replace g:=g.over x;replace g2:=g2.over x;replace qt:=qt.over x;replace mp:=mp.over x;rw [az h'])
 rw [<- hM] at qc qm
 rw [<- hC] at qc
 rw [<- hM,<- hC]
 with_reducible first|refine eF (by simp only [pw]) z.aw ?_
 simp only [aa,seval,pw,qt.lay,qc.lay,↓Xw,eG,dS,GG,Lc]
 have v1:=v.bf gp
 have tk:=v1.lt (r:=.pm) trivial
 have xA:=v1.lt (r:=.t) trivial
 have oo:=v1.new _ (v1.own .pm trivial)
 have ic:=v1.new _ (v1.own .t trivial)
 have Tv:y.pl .t≠y.pl .pm:=λe=>nomatch (v1.inj .t .pm trivial trivial e)
 have mi:=g2.size
 have hz:=z.size
 have qo:=zp.size
 have hqc:=qc.lt
 have hqm:=qm.lt
 obtain ⟨h3,hu,m3,c3⟩:=zpt (h:=h'.lay [] (h'.size+0)) (a:=bC a) (n:=(d.calls.length:Int)) (mp.over (Ext.refl _)) yC Gt (by rw [Lp,aA hm])
 rw [hu]
 refine i3 (A:=y.pl .pm) (by kernel_rfl) (by have:=z.size;rw [br];omega) (by omega) c3 ?_
 have f2:aR [y.pl .pm] hp h3:=(g2.mono (by simp)).eN c3 (.inl (by simp))
 replace qt:=qt.bB c3 Tv
 replace qm:=qm.bB c3 (by omega)
 replace qc:=qc.bB c3 (by omega)
 replace z:=z.cp c3 oo (by omega)
 clear mp g2 g
 rw [az h3]
 simp only [cv,seval,pw]
 ((with_reducible refine ⟨z.cS.lay _ _,?_⟩);(intro _ h' zz x _);(simp only [bS,bD] at x);replace f2:=f2.over x;replace qt:=qt.over x;replace m3:=m3.over x;replace qm:=qm.over x;replace qc:=qc.over x;(replace z:=zz);(clear zz);rw [az h'])
 repeat' (simp only [aa,seval,pw,qt.lay,Nt,lF,zCF])
 have vK:((List.range d.calls.length).map λi=>y.pl (.c i)).length=d.calls.length:=by rw [gq,Fb]
 have hle:((List.range d.calls.length).map λi=>y.pl (.c i))=[]->d.calls=[]:=λe=>by
  rw [e] at vK
  exact LA vK.symm
 have oR:du aG.ptr b hp 109 (y.pl .ca) (y.vl .ca) ((List.range d.calls.length).map λi=>y.pl (.c i)):=v1.dB .ca
 have hzn:=z.size
 have f2s:=f2.size
 have Za:d.calls≠[]->y.pl .ca < hp.size:=λaL=>v1.lt (r:=.ca) aL
 have IE:d.calls≠[]->y.pl .ca≠y.pl .t:=λaL hh=>nomatch (v1.inj .ca .t aL trivial hh)
 have Zb:d.calls≠[]->y.pl .ca≠y.pl .pm:=λaL hh=>nomatch (v1.inj .ca .pm aL trivial hh)
 have J6:=oR.bf (λ_ _ _ _ h=>h) f2 (λaL hh=>Zb (λe=>aL (by rw [e];rfl)) (eM.1 hh))
 obtain ⟨B,ob,hB⟩:=J6.get
 have lA:(B=y.pl .ca/\d.calls≠[])\/h'.size<=B:=hB.imp (λe=>⟨e.1,λh=>e.2 (by rw [h];rfl)⟩) (λe=>by omega)
 have aii:=qc.lt
 have aik:=qm.lt
 have aio:=qt.lt
 have tY:=m3.lt
 have oX:=ob.fresh
 have Im:y.pl .t≠B:=lA.elim (λe hh=>IE e.2 (by omega)) (λe=>by omega)
 have hBp:y.pl .pm≠B:=lA.elim (λe hh=>Zb e.2 (by omega)) (λe=>by omega)
 have YQ:C≠B:=lA.elim (λe=>by have:=Za e.2;omega) (λe=>by omega)
 have YR:M≠B:=lA.elim (λe=>by have:=Za e.2;omega) (λe=>by omega)
 refine xb (i:=0) (cs:=[.pointer (some ⟨C,0,none⟩)]) (x:=C) py zkn rfl (by decide) (by rfl) z.size ob rfl (by rw [vK];omega) (by rw [vK];omega) (λw3 h4 A3 jz gg kO=>?_)
 obtain ⟨a3,n3,uT,rfl⟩:=jz.slice
 have NJ:=qt.bB gg Im
 have qm4:=qm.bB gg YR
 have NG:=qc.bB gg YQ
 have m4:bV h4 (y.pl .pm) _:=(m3.over (Ext.refl (h'.lay [aZ.row [Value.pointer (some ⟨C,0,none⟩)] 109 false] h'.low))).step gg hBp
 have z4:=z.aw.step gg oX
 have xG:=z4.size
 rw [az h4]
 repeat' (simp only [aa,seval,pw])
 refine jL (n:=1) (o:=1) (vs:=[.slice a3 n3 uT]) NJ UU rfl rfl (by show 1+1<=3;omega) rfl (λh5 q5 px=>?_)
 have CQ:y.pl .t≠A3:=kO.elim (λe=>by rw [e];exact Im) (λe=>by omega)
 have RM:C≠A3:=kO.elim (λe=>by rw [e];exact YQ) (λe=>by omega)
 have RN:M≠A3:=kO.elim (λe=>by rw [e];exact YR) (λe=>by omega)
 have o5:=Ow.eN (λ_ _ _ _ h=>h) (by simp) (jz.mono (bP.lay h4 [] h4.low)) px CQ
 have qm5:=qm4.bB px (by omega)
 have qc5:=NG.bB px (by omega)
 have m5:bV h5 (y.pl .pm) _:=(m4.over (Ext.refl (h4.lay [] h4.low))).step px (Ne.symm Tv)
 have f5:aR [y.pl .pm,B,y.pl .t] hp h5:=((f2.mono (by simp)).eN gg (.inl (by simp))).eN px (.inl (by simp))
 have MT:(A3=y.pl .ca/\d.calls≠[])\/hp.size<=A3:=by
  rcases kO with e|e
  .rw [e];exact lA.imp id (λe=>by omega)
  .exact .inr (by omega)
 obtain ⟨E',y',i1,i2⟩:=v1.call qo f5 (λX hX=>by
  simp only [db,hY,or_false] at hX
  rcases hX with rfl|rfl|rfl
  .exact .inl rfl
  .exact .inr (.inr (lA.imp id (λe=>by omega)))
  .exact .inr (.inl rfl)) MT (Ac:=C) (At:=M) (by omega) (by omega) (by omega) RM RN m5 o5 qc5 ⟨_,_,qm5,rfl⟩ q5
 replace z:=z4.aw.step px ic
 rw [az h5]
 repeat' (simp only [aa,seval,pw])
 exact hk _ E' y' _ z.aw (i1.bf (aR.lay _ _ _ _)) ((((ec.refl _ _ _ _).bf gp).trans i2 (aQ _)).bf (aR.lay _ _ _ _))
theorem zuh (a:ae) (u m w w':ai):aI (a.cells++[u,m,w]) 11 [w']=a.cells++[w',m,w]:=rfl
theorem zBC {y:cG} {d:aY} (dq:bh 1 b) (z:Ext b hc) (v:Am.Inv il b E y bZ vf d hc) {i:Nat} {c:aX} (jc:d.calls[i]? = some c) (a:ae) (hn:d.calls.length<=10000000) (To:c.answers.length<=10000000) (Dx:d.count<=1000000000) (K:aO)
 (hk:∀ h' E' y' (e:Int),Ext b h'->Am.Inv il b E' y' bZ vf (bl d i a).1 h'->ec d.ab.length E E' y y' hc h'->K (.tuple #[.bool (bl d i a).2,.int .i64 e]) h'):Ok prog aJ ov 90 [.pointer (some ⟨y.pl .t,0,none⟩),.int .i64 (i:Int),a.val] hc K:=by
 rw [az hc]
 have g:=aR.refl [] hc
 have qc:=LN v jc
 have qt:ak hc (y.pl .t) (.row [.map (some (y.pl .pm)),y.vl .ca,.int .i64 (d.count:Int)] 88 false):=v.dB .t
 have mt:bV hc (y.pl (.th i)) (eQ 0 c.answers):=v.dB (.th i) c jc
 have oa:du aG.atom b hc 28 (y.pl (.an i)) (y.vl (.an i)) c.answers:=v.dB (.an i) c jc
 have gO:Sl aG.atom hc (y.vl (.an i)) c.answers:=oa.sl (by decide)
 have dg:∀ (h:Heap) (K:aO),aM (some (y.vl (.an i))) h K=K (y.vl (.an i)) h:=by
  obtain ⟨a,n,c,e⟩:=du.slice oa
  rw [e]
  exact λ_ _=>rfl
 have eD:=λ(hh:Heap)=>gO.bW cM hh
 refine Ok.aF 70 (bY Ys) ?_
 repeat' (simp only [aa,seval,kf,uX,js])
 refine MD (v.bf (aR.lay _ _ _ _)) i (ao jc) (by omega) _ (λh' x=>?_)
 (replace z:=z.au x;replace g:=g.over x;replace qc:=qc.over x;replace qt:=qt.over x;replace mt:=mt.over x;rw [az h'])
 have q0:=ak.top (i:=0) x rfl
 have hz:=z.size
 repeat' (simp only [aa,seval,kf,H7])
 with_reducible first|refine eF (by simp only [kf]) z.aw ?_
 simp only [aa,seval,kf,qc.lay,↓Xw,q0.lay,↓fU,eG,dS]
 refine WA c.atom a _ _ (λh' w bb x jU TJ=>?_)
 (((with_reducible refine fP ?_ ?_ ?_);(· exact (by (simp only [gh]);have:=z.size;omega));(· exact x));replace z:=z.au x;replace g:=g.over x;replace qc:=qc.over x;replace qt:=qt.over x;replace mt:=mt.over x;replace q0:=q0.over x;rw [az h'])
 have wz:∀ (h:Heap) (K:aO),aM (some w) h K=K w h:=λ_ _=>rfl
 cases bb
 .have he:(bz [] c.atom a).isSome=false:=by
   cases hx:bz [] c.atom a with
   |none=>rfl
   |some m=>exact absurd (TJ m hx).1 (by decide)
  have hd:bl d i a=(d,false):=by unfold bl;rw [jc];exact aB (.inl he)
  rw [hd] at hk
  simp only [aa,seval,kf,wz]
  ((with_reducible refine ⟨z.cS.lay _ _,?_⟩);(intro _ h' zz x _);(simp only [bS,bD] at x);replace g:=g.over x;replace qc:=qc.over x;replace qt:=qt.over x;replace mt:=mt.over x;replace q0:=q0.over x;(replace z:=zz);(clear zz);rw [az h'])
  repeat' (first|simp only [aa,seval,kf]|((with_reducible apply cK);(· rfl)))
  exact hk _ _ _ _ z.aw (v.bf (g.trans (aR.lay _ _ _ []) (by simp))) ((ec.refl _ _ _ _).bf (g.trans (aR.lay _ _ _ []) (by simp)))
 have he:(bz [] c.atom a).isSome=true:=by
  cases hx:bz [] c.atom a with
  |none=>exact absurd (jU hx) (by decide)
  |some m=>rfl
 simp only [aa,seval,kf,wz]
 ((with_reducible refine ⟨z.cS.lay _ _,?_⟩);(intro _ h' zz x _);(simp only [bS,bD] at x);replace g:=g.over x;replace qc:=qc.over x;replace qt:=qt.over x;replace mt:=mt.over x;replace q0:=q0.over x;(replace z:=zz);(clear zz);rw [az h'])
 repeat' (first|simp only [aa,seval,kf,q0.lay,↓fU,eG,dS]|((with_reducible apply cK);(· rfl)))
 refine Ls a _ ((dq.ext z).lay _ _) _ (λeX h' x=>?_) (λeX e h' mU x=>?_)
 rotate_left
 ·(replace z:=z.au x;( replace g:=g.over x );( replace qc:=qc.over x );( replace qt:=qt.over x );( replace mt:=mt.over x );( replace q0:=q0.over x );rw [az h'])
  have hd:bl d i a=(d,false):=by unfold bl;rw [jc];exact aB (.inr (.inl eX))
  rw [hd] at hk
  repeat' (first|simp only [aa,seval,kf]|((with_reducible apply su) <;> intro _))
  all_goals first|exact hk _ _ _ _ z.aw (v.bf (g.trans (aR.lay _ _ _ []) (by simp))) ((ec.refl _ _ _ _).bf (g.trans (aR.lay _ _ _ []) (by simp)))|(exfalso;omega)
 (replace z:=z.au x;replace g:=g.over x;replace qc:=qc.over x;replace qt:=qt.over x;replace mt:=mt.over x;replace q0:=q0.over x;rw [az h'])
 repeat' (simp only [aa,seval,kf])
 with_reducible first|refine eF (by simp only [kf]) z.aw ?_
 simp only [aa,seval,kf,qc.lay,zrB,q0.lay,↓fU,eG,dS,GG,LB]
 refine zlo mt yC Gt zpA ?_
 have yY:=Lp a 0 c.answers
 by_cases hm:a∈c.answers
 .rw [aB hm] at yY
  rw [yY]
  have hd:bl d i a=(d,false):=by unfold bl;rw [jc];exact aB (.inr (.inr hm))
  rw [hd] at hk
  simp only [Aq,GV,i5,if_true]
  simp only [aa,seval,kf]
  ((with_reducible refine ⟨z.cS.lay _ _,?_⟩);(intro _ h' zz x _);(simp only [bS,bD] at x);replace g:=g.over x;replace qc:=qc.over x;replace qt:=qt.over x;replace mt:=mt.over x;replace q0:=q0.over x;(replace z:=zz);(clear zz);rw [az h'])
  repeat' (simp only [aa,seval,kf])
  exact hk _ _ _ _ z.aw (v.bf (g.trans (aR.lay _ _ _ []) (by simp))) ((ec.refl _ _ _ _).bf (g.trans (aR.lay _ _ _ []) (by simp)))
 rw [aA hm] at yY
 rw [yY]
 have hd:bl d i a=({ d with calls:=d.calls.set i { c with answers:=c.answers++[a] },count:=d.count+1 },true):=by
  unfold bl
  rw [jc]
  exact aA (λe=>e.elim (λe=>absurd (he.symm.trans e) (by decide)) (λe=>e.elim (λe=>e eX) (λe=>hm e)))
 rw [hd] at hk
 simp only [Option.getD_none,Cg,if_true]
 simp only [aa,seval,kf]
 ((with_reducible refine ⟨z.cS.lay _ _,?_⟩);(intro _ h' zz x _);(simp only [bS,bD] at x);replace g:=g.over x;replace qc:=qc.over x;replace qt:=qt.over x;replace mt:=mt.over x;replace q0:=q0.over x;(replace z:=zz);(clear zz);rw [az h'])
 repeat' (simp only [aa,seval,kf])
 obtain ⟨hp,yS⟩:∃ hp,hp=h':=⟨_,rfl⟩
 have g2:aR [] hp h':=by rw [yS];exact aR.refl [] h'
 have gp:aR [] hc hp:=by rw [yS];exact g
 have zp:Ext b hp:=by rw [yS];exact z
 clear g yS
 with_reducible first|refine eF (by simp only [kf]) z.aw ?_
 simp only [aa,seval,kf,qc.lay,zrB,WE,q0.lay,↓fU,eG,dS,GG,dg,eD,Lc]
 have v1:=v.bf gp
 have fm:=ao jc
 have tk:=v1.lt (r:=.th i) fm
 have xA:=v1.lt (r:=.c i) fm
 have hp3:=v1.lt (r:=.t) trivial
 have oo:=v1.new _ (v1.own (.th i) fm)
 have ic:=v1.new _ (v1.own (.c i) fm)
 have Sn:=v1.new _ (v1.own .t trivial)
 have n1:y.pl (.c i)≠y.pl (.th i):=λe=>nomatch (v1.inj (.c i) (.th i) fm fm e)
 have n2:y.pl .t≠y.pl (.th i):=λe=>nomatch (v1.inj .t (.th i) trivial fm e)
 have n3:y.pl .t≠y.pl (.c i):=λe=>nomatch (v1.inj .t (.c i) trivial fm e)
 have hz:=z.size
 have qo:=zp.size
 have mi:=g2.size
 have hgp:=gp.size
 have hq1:=v.lt (r:=.th i) fm
 have hq2:=v.lt (r:=.c i) fm
 have Tw:=v.lt (r:=.t) trivial
 obtain ⟨h3,hu,m3,c3⟩:=zpt (h:=h'.lay [] (h'.size+0)) (a:=a) (n:=(c.answers.length:Int)) (mt.over (Ext.refl _)) yC Gt (by rw [Lp,aA hm])
 rw [hu]
 refine i3 (A:=y.pl (.th i)) (by kernel_rfl) (by have:=z.size;rw [br];omega) (by omega) c3 ?_
 have f2:aR [y.pl (.th i)] hp h3:=(g2.mono (by simp)).eN c3 (.inl (by simp))
 replace qt:=qt.bB c3 n2
 replace qc:=qc.bB c3 n1
 have q0l:=q0.lt
 replace q0:=q0.bB c3 (by omega)
 replace z:=z.cp c3 oo (by omega)
 clear mt g2
 rw [az h3]
 simp only [cv,seval,kf]
 ((with_reducible refine ⟨z.cS.lay _ _,?_⟩);(intro _ h' zz x _);(simp only [bS,bD] at x);replace f2:=f2.over x;replace qc:=qc.over x;replace qt:=qt.over x;replace m3:=m3.over x;replace q0:=q0.over x;(replace z:=zz);(clear zz);rw [az h'])
 repeat' (simp only [syms,seval,kf])
 with_reducible first|refine eF (by simp only [kf]) z.aw ?_
 simp only [aa,seval,kf,qc.lay,WE,q0.lay,↓fU,eG,dS,dg,zlj]
 have oR:du aG.atom b hp 28 (y.pl (.an i)) (y.vl (.an i)) c.answers:=v1.dB (.an i) c jc
 have hzn:=z.size
 have f2s:=f2.size
 have k0:c.answers≠[]->y.pl (.an i) < hp.size:=λaL=>v1.lt (r:=.an i) ⟨c,jc,aL⟩
 have k1:c.answers≠[]->y.pl (.an i)≠y.pl .t:=λaL hh=>nomatch (v1.inj (.an i) .t ⟨c,jc,aL⟩ trivial hh)
 have k2:c.answers≠[]->y.pl (.an i)≠y.pl (.c i):=λaL hh=>nomatch (v1.inj (.an i) (.c i) ⟨c,jc,aL⟩ fm hh)
 have k3:c.answers≠[]->y.pl (.an i)≠y.pl (.th i):=λaL hh=>nomatch (v1.inj (.an i) (.th i) ⟨c,jc,aL⟩ fm hh)
 have J6:=oR.bf (λ_ _ _ _ h=>h) f2 (λaL hh=>k3 aL (eM.1 hh))
 obtain ⟨B,ob,hB⟩:=J6.get
 have lA:(B=y.pl (.an i)/\c.answers≠[])\/h'.size<=B:=hB.imp id (λe=>by omega)
 have tY:=m3.lt
 have oX:=ob.fresh
 have Im:y.pl .t≠B:=lA.elim (λe hh=>k1 e.2 (by omega)) (λe=>by omega)
 have MV:y.pl (.c i)≠B:=lA.elim (λe hh=>k2 e.2 (by omega)) (λe=>by omega)
 have hBh:y.pl (.th i)≠B:=lA.elim (λe hh=>k3 e.2 (by omega)) (λe=>by omega)
 refine nL (by have:=z.size;omega) (by omega) ?_
 simp only [cv,seval,kf,lF,Px]
 refine xb (i:=0) (cs:=a.cells) (x:=a) cM zS rfl (by decide) (by rfl) z.size ob rfl (by omega) (by omega) (λw3 h4 A3 jz gg kO=>?_)
 obtain ⟨a3,m3',uT,rfl⟩:=jz.slice
 refine i3 (A:=B) (by kernel_rfl) (by have:=z.size;rw [br];omega) (by omega) (by simpa only [bS,br,bD,eB,dK,gS] using gg) ?_
 have NJ:=qt.bB gg Im
 have NG:=qc.bB gg MV
 have m4:bV h4 (y.pl (.th i)) _:=(m3.over (Ext.refl (h'.lay [aZ.row a.cells 28 false] _))).step gg hBh
 have z4:=z.cp gg oX (by omega)
 have xG:=z4.size
 have f4:aR [y.pl (.th i),B] hp h4:=(f2.mono (by simp)).eN gg (.inl (by simp))
 clear z f2 qt qc m3
 have z:=z4
 rw [az h4]
 simp only [aa,seval,kf]
 refine jL (n:=1) (o:=11) (vs:=[.slice a3 m3' uT]) NG (by kernel_rfl) rfl rfl (by rw [zzp];decide) rfl (λh5 q5 px=>?_)
 refine i3 (A:=y.pl (.c i)) (by kernel_rfl) (by have:=z.size;rw [br];omega) (by omega) px ?_
 have CP:y.pl (.c i)≠A3:=kO.elim (λe=>by rw [e];exact MV) (λe=>by omega)
 have o5:=Ow.eN (λ_ _ _ _ h=>h) (by simp) (jz.mono (bP.lay h4 [] _)) px CP
 have NK:=NJ.bB px n3
 have m5:bV h5 (y.pl (.th i)) _:=(m4.over (Ext.refl (h4.lay [] _))).step px (Ne.symm n1)
 have f5:aR [y.pl (.th i),B,y.pl (.c i)] hp h5:=(f4.mono (λX hX=>by simp only [db,hY,or_false] at hX ⊢;exact hX.elim .inl (λe=>.inr (.inl e)))).eN px (.inl (by simp))
 have MT:(A3=y.pl (.an i)/\c.answers≠[])\/hp.size<=A3:=kO.elim (λe=>by rw [e];exact lA.imp id (λe=>by omega)) (λe=>.inr (by omega))
 have CQ:y.pl .t≠A3:=kO.elim (λe=>by rw [e];exact Im) (λe=>by omega)
 have z5:=z4.cp px ic (by omega)
 rw [zuh] at q5
 clear z z4 f4 NJ NG m4 jz
 have z:=z5
 rw [az h5]
 simp only [cv,seval,kf]
 ((with_reducible refine ⟨z.cS.lay _ _,?_⟩);(intro _ h' zz x _);(simp only [bS,bD] at x);replace f5:=f5.over x;replace q5:=q5.over x;replace NK:=NK.over x;replace m5:=m5.over x;replace o5:=o5.over x;(replace z:=zz);(clear zz);rw [az h'])
 repeat' (simp only [aa,seval,kf,NK.lay])
 have hwc:IntKind.i64.wrap ((d.count:Int)+1)=((d.count+1:Nat):Int):=by rw [fQ (by omega) (by omega)];omega
 rw [hwc]
 have wC:=z.size
 refine jL (n:=1) (o:=2) (vs:=[.int .i64 ((d.count+1:Nat):Int)]) NK zD rfl rfl (by show 2+1<=3;omega) rfl (λh6 q6 uV=>?_)
 have o6:=Ow.eN (λ_ _ _ _ h=>h) (by simp) (o5.mono (bP.lay h' [] _)) uV CQ
 have qc6:=q5.bB uV (Ne.symm n3)
 have m6:bV h6 (y.pl (.th i)) _:=(m5.over (Ext.refl (h'.lay [] _))).step uV (Ne.symm n2)
 have f6:aR [y.pl (.th i),B,y.pl (.c i),y.pl .t] hp h6:=(f5.mono (λX hX=>by simp only [db,hY,or_false] at hX ⊢;exact hX.elim .inl (λe=>e.elim (λe=>.inr (.inl e)) (λe=>.inr (.inr (.inl e)))))).eN uV (.inl (by simp))
 obtain ⟨E',y',i1,i2⟩:=v1.answer qo jc f6 (λX hX=>by
  simp only [db,hY,or_false] at hX
  rcases hX with rfl|rfl|rfl|rfl
  .exact .inr (.inr (.inl rfl))
  .exact .inr (.inr (.inr (lA.imp id (λe=>by omega))))
  .exact .inr (.inl rfl)
  .exact .inl rfl) MT (a:=a) (by rw [V9,i5];exact m6) o6 (by rw [zvd];exact qc6) q6
 replace z:=z.aw.step uV Sn
 rw [az h6]
 repeat' (simp only [aa,seval,kf])
 exact hk _ E' y' _ z.aw (i1.bf (aR.lay _ _ _ _)) ((((ec.refl _ _ _ _).bf gp).trans i2 (aQ _)).bf (aR.lay _ _ _ _))
end Go.Proofs.YtnkmeidmdaidhaaGreatDoor
