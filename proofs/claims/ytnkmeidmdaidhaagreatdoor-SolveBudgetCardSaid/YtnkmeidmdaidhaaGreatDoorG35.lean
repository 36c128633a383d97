/- Walks: tables. Written out by fill2.py. No condition. -/
import Derived.Test.YtnkmeidmdaidhaaGreatDoorG34
set_option linter.unusedSimpArgs false
set_option linter.unusedVariables false
set_option maxRecDepth 100000
set_option maxHeartbeats 0
namespace Go.Proofs.YtnkmeidmdaidhaaGreatDoor
open Go.Am Tryz
variable {bN vf:ai} {E:List Nat} {b hc:Heap}
theorem ztk (a:ae) (u m w w':ai):aJ (a.cells++[u,m,w]) 13 [w']=a.cells++[u,m,w']:=rfl
theorem zyg (a:ae) (u m w:ai):(a.cells++[u,m,w]).length=14:=rfl
theorem zzw {y:cp} {d:bg} (z:Ext b hc) (v:Am.Inv gj b E y bN vf d hc) {i:Nat} {c:ba} (gX:d.calls[i]? = some c) (k:Nat) (hn:d.calls.length<=100000000) (ha:c.waiters.length<=10000000) (K:aL)
 (hk:∀ h' E' y',Ext b h'->Am.Inv gj b E' y' bN vf (js d i k) h'->dK d.ab.length E E' y y' hc h'->K (.int .i64 0) h'):Ok prog aH ov 66 [.pointer (some ⟨y.pl .t,0,none⟩),.int .i64 (i:Int),.int .i64 (k:Int)] hc K:=by
 rw [aq hc]
 have g:=aP.refl [] hc
 have qc:=JT v gX
 have oa:cS aF.nat b hc 3 (y.pl (.wa i)) (y.vl (.wa i)) c.waiters:=v.cZ (.wa i) c gX
 have gx:Sl aF.nat hc (y.vl (.wa i)) c.waiters:=oa.sl (by decide)
 have cu:∀ (h:Heap) (K:aL),aK (some (y.vl (.wa i))) h K=K (y.vl (.wa i)) h:=by
  obtain ⟨a,n,c,e⟩:=cS.slice oa
  rw [e]
  exact λ_ _=>rfl
 refine Ok.aC 29 (bH VV) ?_
 repeat' (simp only [aa,seval,DI,sS])
 refine KA (v.aX (aP.lay _ _ _ _)) i (au gX) hn _ (λh' x=>?_)
 (replace z:=z.ao x;replace g:=g.over x;replace qc:=qc.over x;rw [aq h'])
 repeat' (simp only [aa,seval,DI,Gh,qc.lay,Ul,cu])
 refine znQ c.waiters _ k _ ((gx.mono g.all).lay _ _) (by omega) _ (λh' x=>?_)
 (replace z:=z.ao x;replace g:=g.over x;replace qc:=qc.over x;rw [aq h'])
 have hz:=z.size
 have v1:=v.aX g
 by_cases Bz:k∈c.waiters
 .have hd:js d i k=d:=by unfold js;rw [gX];exact aG Bz
  repeat' (first|simp only [aa,seval,DI,Bz]|((with_reducible apply cn);(· rfl)))
  exact hk _ _ _ z.aw (by rw [hd];exact v1.aX (aP.lay _ _ _ _)) ((dK.refl _ _ _ _).aX (g.trans (aP.lay _ _ _ []) (by simp)))
 .have hd:js d i k={ d with calls:=d.calls.set i { c with waiters:=c.waiters++[k] } }:=by unfold js;rw [gX];exact aA Bz
  repeat' (first|simp only [aa,seval,DI,Bz,qc.lay,Ul,cu]|((with_reducible apply cn);(· rfl)))
  simp only [bM,seval,j4,Ky]
  have ey:=au gX
  have qQ:=v1.lt (r:=.c i) ey
  have oW:=v1.new _ (v1.own (.c i) ey)
  obtain ⟨B,ob,hB⟩:=(show cS aF.nat b h' 3 (y.pl (.wa i)) (y.vl (.wa i)) c.waiters from v1.cZ (.wa i) c gX).get
  have nf:=ob.fresh
  have KX:B≠y.pl (.c i):=by
   rcases hB with ⟨e,aO⟩|⟨_,e⟩
   .intro hh
    have:=v1.inj (.wa i) (.c i) ⟨c,gX,aO⟩ ey (by rw [<- e,hh])
    cases this
   .omega
  have WB:(B=y.pl (.wa i)/\c.waiters≠[])\/h'.size<=B:=hB.imp id (λe=>by omega)
  refine uR (i:=0) (cs:=[.int .i64 (k:Int)]) (x:=k) iP zE rfl (by decide) (by rfl) z.size ob rfl (by omega) (by omega) (λw3 h3 A3 iy ff jH=>?_)
  obtain ⟨a3,m3,c3,rfl⟩:=iy.slice
  have q3:=qc.bC ff (Ne.symm KX)
  have z3:=z.aw.step ff nf
  have Cc:=z3.size
  rw [aq h3]
  have z:=z3
  repeat' (simp only [aa,seval,DI])
  refine iH (n:=1) (o:=13) (vs:=[.slice a3 m3 c3]) q3 SE rfl rfl (by rw [zyg];decide) rfl (λh4 q4 lr=>?_)
  have AO:y.pl (.c i)≠A3:=by rcases jH with e|e <;> omega
  have o4:=Ow.ec (λ_ _ _ _ h=>h) (by simp) (iy.mono (bQ.lay h3 [] h3.low)) lr AO
  have f4:aP [B,y.pl (.c i)] h' h4:=((aP.refl _ h').ec ff (.inl (by simp))).ec lr (.inl (by simp))
  have PH:(A3=y.pl (.wa i)/\c.waiters≠[])\/h'.size<=A3:=by
   rcases jH with e|e
   .rw [e];exact WB
   .exact .inr e
  obtain ⟨E',y',i1,i2⟩:=v1.wait hz gX f4 (λX hX=>by
   rcases dg.1 hX with rfl|hX
   .exact .inr WB
   .exact .inl (ek.1 hX)) PH o4 (by rw [zuh];rw [ztk] at q4;exact q4)
  replace z:=z.aw.step lr oW
  rw [aq h4]
  repeat' (simp only [aa,seval,DI])
  exact hk _ E' y' z.aw (by rw [hd];exact i1.aX (aP.lay _ _ _ _)) ((((dK.refl _ _ _ _).aX g).trans i2 (aS _)).aX (aP.lay _ _ _ _))
theorem Em (a b:ae):cV aH 20 28 a.val b.val=some (decide (a=b)):=by
 have h:cV aH 20 28 a.val b.val=KR a b:=by kernel_rfl
 rw [h,zqT]
theorem zoB:aH.zero 3=some (.int .i64 0):=by kernel_rfl
theorem EB (m:Option Nat) (h:Heap) (K:aL):aK (some (.map m)) h K=K (.map m) h:=rfl
theorem zw6 {h:Heap} {y:cp} {d:bg} (v:Am.Inv gj b E y bN vf d h) (a:ae) (K:aL)
 (hk:∀ h',Ext h h'->K (.tuple #[.int .i64 ((pM (dY 0 (d.calls.map ba.atom)) (b8 a)).getD 0),.bool (pM (dY 0 (d.calls.map ba.atom)) (b8 a)).isSome]) h'):Ok prog aH ov 89 [.pointer (some ⟨y.pl .t,0,none⟩),a.val] h K:=by
 rw [aq h]
 have z:=Ext.refl h
 have qt:ak h (y.pl .t) (.row [.map (some (y.pl .pm)),y.vl .ca,.int .i64 (d.count:Int)] 88 false):=v.cZ .t
 have mp:ct h (y.pl .pm) (dY 0 (d.calls.map ba.atom)):=v.cZ .pm
 refine Ok.aC 18 (bH Wb) ?_
 repeat' (simp only [aa,seval,yI,iB])
 with_reducible first|refine dO (by simp only [yI]) z.aw ?_
 simp only [aa,seval,yI,qt.lay,↓eH,dJ,dt,EB]
 refine MK a _ _ (λh' x=>?_)
 (((with_reducible refine fC ?_ ?_ ?_);(· exact (by (simp only [fT]);have:=z.size;omega));(· exact x));replace z:=z.ao x;replace qt:=qt.over x;replace mp:=mp.over x;rw [aq h'])
 simp only [bM,seval,yI,JL]
 refine zkJ mp wE Em zoB ?_
 obtain ⟨o,ho⟩:∃ o,o=pM (dY 0 (d.calls.map ba.atom)) (b8 a):=⟨_,rfl⟩
 rw [<- ho] at hk ⊢
 cases o with
 |none =>
  simp only [Option.getD_none,zX,if_true] at hk ⊢
  simp only [aa,seval,yI]
  ((with_reducible refine ⟨z.cI.lay _ _,?_⟩);(intro _ h' zz x _);(simp only [bK,bu] at x);replace qt:=qt.over x;replace mp:=mp.over x;(replace z:=zz);(clear zz);rw [aq h'])
  simp only [aa,seval,yI]
  exact hk _ z.aw
 |some n =>
  simp only [yw,E0,if_true] at hk ⊢
  simp only [aa,seval,yI]
  ((with_reducible refine ⟨z.cI.lay _ _,?_⟩);(intro _ h' zz x _);(simp only [bK,bu] at x);replace qt:=qt.over x;replace mp:=mp.over x;(replace z:=zz);(clear zz);rw [aq h'])
  simp only [aa,seval,yI]
  exact hk _ z.aw
theorem zz3 (a:ae) (m:Option Nat):mu aH 112 [(0,a.val),(2,.map m)]=some (.agg ⟨a.cells++[.slice none 0 0,.map m,.slice none 0 0]⟩):=by kernel_rfl
theorem zBz:rH aH 86 86=true:=by kernel_rfl
theorem zzt {y:cp} {d:bg} (cY:bj 1 b) (z:Ext b hc) (v:Am.Inv gj b E y bN vf d hc) (a:ae) (hn:d.calls.length<=10000000) (K:aL)
 (hk:∀ h' E' y' (e:Int),Ext b h'->Am.Inv gj b E' y' bN vf (dr d a).1 h'->dK d.ab.length E E' y y' hc h'->K (.tuple #[.int .i64 ((dr d a).2.1:Int),.bool (dr d a).2.2,.int .i64 e]) h'):Ok prog aH ov 56 [.pointer (some ⟨y.pl .t,0,none⟩),a.val] hc K:=by
 rw [aq hc]
 have g:=aP.refl [] hc
 have qt:ak hc (y.pl .t) (.row [.map (some (y.pl .pm)),y.vl .ca,.int .i64 (d.count:Int)] 88 false):=v.cZ .t
 have mp:ct hc (y.pl .pm) (dY 0 (d.calls.map ba.atom)):=v.cZ .pm
 have oc:=v.cZ .ca
 have gx:Sl aF.ptr hc (y.vl .ca) ((List.range d.calls.length).map λi=>y.pl (.c i)):=cS.sl oc (by decide)
 have Lm:∀ (h:Heap) (K:aL),aK (some (y.vl .ca)) h K=K (y.vl .ca) h:=by
  obtain ⟨a,n,c,e⟩:=cS.slice oc
  rw [e]
  exact λ_ _=>rfl
 have DW:=λ(hh:Heap)=>gx.bP ny hh
 rw [fN,Dk] at DW
 refine Ok.aC 56 (bH VK) ?_
 repeat' (simp only [aa,seval,nv,sS,iB,↓eH,dJ,dt])
 refine JE a _ ((cY.ext z).lay _ _) _ (λcu h' x=>?_) (λcu c h' oW x=>?_)
 rotate_left
 ·(replace z:=z.ao x;( replace g:=g.over x );( replace qt:=qt.over x );( replace mp:=mp.over x );rw [aq h'])
  have hd:dr d a=(d,0,false):=by unfold dr;rw [aG cu]
  rw [hd] at hk
  repeat' (first|simp only [aa,seval,nv]|((with_reducible apply se) <;> intro _))
  all_goals first|exact hk _ _ _ _ z.aw (v.aX (g.trans (aP.lay _ _ _ []) (by simp))) ((dK.refl _ _ _ _).aX (g.trans (aP.lay _ _ _ []) (by simp)))|(exfalso;omega)
 (replace z:=z.ao x;replace g:=g.over x;replace qt:=qt.over x;replace mp:=mp.over x;rw [aq h'])
 have q0:=ak.top (i:=0) x rfl
 have hz:=z.size
 repeat' (simp only [aa,seval,nv])
 with_reducible first|refine dO (by simp only [nv]) z.aw ?_
 simp only [aa,seval,nv,q0.lay,↓eH,dJ,dt]
 refine zw6 ((v.aX g).aX (aP.lay _ _ _ _)) a _ (λh' x=>?_)
 (((with_reducible refine fC ?_ ?_ ?_);(· exact (by (simp only [fT]);have:=z.size;omega));(· exact x));replace z:=z.ao x;replace g:=g.over x;replace qt:=qt.over x;replace mp:=mp.over x;replace q0:=q0.over x;rw [aq h'])
 have xg:=JC (b8 a) 0 (d.calls.map ba.atom)
 by_cases hm:b8 a∈d.calls.map ba.atom
 .rw [aG hm] at xg
  rw [xg]
  have hd:dr d a=(d,uj (b8 a) (d.calls.map ba.atom),false):=by unfold dr;rw [aA (λh=>h cu),aG hm]
  rw [hd] at hk
  simp only [yw,E0,ia]
  simp only [aa,seval,nv]
  ((with_reducible refine ⟨z.cI.lay _ _,?_⟩);(intro _ h' zz x _);(simp only [bK,bu] at x);replace g:=g.over x;replace qt:=qt.over x;replace mp:=mp.over x;replace q0:=q0.over x;(replace z:=zz);(clear zz);rw [aq h'])
  repeat' (simp only [aa,seval,nv])
  exact hk _ _ _ _ z.aw (v.aX (g.trans (aP.lay _ _ _ []) (by simp))) ((dK.refl _ _ _ _).aX (g.trans (aP.lay _ _ _ []) (by simp)))
 rw [aA hm] at xg
 rw [xg]
 have hd:dr d a=({ d with calls:=d.calls++[⟨b8 a,[],[]⟩] },d.calls.length,true):=by unfold dr;rw [aA (λh=>h cu),aA hm]
 rw [hd] at hk
 simp only [Option.getD_none,zX]
 simp only [aa,seval,nv]
 ((with_reducible refine ⟨z.cI.lay _ _,?_⟩);(intro _ h' zz x _);(simp only [bK,bu] at x);replace g:=g.over x;replace qt:=qt.over x;replace mp:=mp.over x;replace q0:=q0.over x;(replace z:=zz);(clear zz);rw [aq h'])
 repeat' (simp only [aa,seval,nv])
 repeat' (simp only [aa,seval,nv,q0.lay,↓eH,dJ,dt])
 refine MK a _ _ (λh' x=>?_)
 (replace z:=z.ao x;replace g:=g.over x;replace qt:=qt.over x;replace mp:=mp.over x;replace q0:=q0.over x;rw [aq h'])
 have hz:=z.size
 repeat' (simp only [aa,seval,nv,Jy,zz3,qt.lay,Lm,DW])
 obtain ⟨M,hM⟩:∃ M,M=h'.size+0:=⟨_,rfl⟩
 obtain ⟨C,hC⟩:∃ C,C=h'.size+1:=⟨_,rfl⟩
 obtain ⟨hp,w8⟩:∃ hp,hp=h':=⟨_,rfl⟩
 have gp:=g
 have zp:=z
 have hM2:M=hp.size+0:=by rw [hM,w8]
 have WE:C=hp.size+1:=by rw [hC,w8]
 rw [<- w8] at gp zp
 have g2:aP [] hp h':=by rw [w8];exact aP.refl [] h'
 refine r6 (λh' x hq=>?_)
 have qm:=hq 0 _ rfl
 have qc:=hq 1 _ rfl
 clear hq
 (replace z:=z.ao x;replace g:=g.over x;replace g2:=g2.over x;replace qt:=qt.over x;replace mp:=mp.over x;rw [aq h'])
 rw [<- hM] at qc qm
 rw [<- hC] at qc
 rw [<- hM,<- hC]
 with_reducible first|refine dO (by simp only [nv]) z.aw ?_
 simp only [aa,seval,nv,qt.lay,qc.lay,↓U3,dJ,dt,EB,Jv]
 have v1:=v.aX gp
 have q9:=v1.lt (r:=.pm) trivial
 have vu:=v1.lt (r:=.t) trivial
 have ng:=v1.new _ (v1.own .pm trivial)
 have jg:=v1.new _ (v1.own .t trivial)
 have Rb:y.pl .t≠y.pl .pm:=λe=>nomatch (v1.inj .t .pm trivial trivial e)
 have kD:=g2.size
 have hz:=z.size
 have oA:=zp.size
 have hqc:=qc.lt
 have hqm:=qm.lt
 obtain ⟨h3,hu,m3,c3⟩:=zov (h:=h'.lay [] (h'.size+0)) (a:=b8 a) (n:=(d.calls.length:Int)) (mp.over (Ext.refl _)) wE Em (by rw [JC,aA hm])
 rw [hu]
 refine gR (A:=y.pl .pm) (by kernel_rfl) (by have:=z.size;rw [bo];omega) (by omega) c3 ?_
 have f2:aP [y.pl .pm] hp h3:=(g2.mono (by simp)).ec c3 (.inl (by simp))
 replace qt:=qt.bC c3 Rb
 replace qm:=qm.bC c3 (by omega)
 replace qc:=qc.bC c3 (by omega)
 replace z:=z.bY c3 ng (by omega)
 clear mp g2 g
 rw [aq h3]
 simp only [bM,seval,nv]
 ((with_reducible refine ⟨z.cI.lay _ _,?_⟩);(intro _ h' zz x _);(simp only [bK,bu] at x);replace f2:=f2.over x;replace qt:=qt.over x;replace m3:=m3.over x;replace qm:=qm.over x;replace qc:=qc.over x;(replace z:=zz);(clear zz);rw [aq h'])
 repeat' (simp only [aa,seval,nv,qt.lay,Lm,j4,zBz])
 have tz:((List.range d.calls.length).map λi=>y.pl (.c i)).length=d.calls.length:=by rw [fN,Dk]
 have hle:((List.range d.calls.length).map λi=>y.pl (.c i))=[]->d.calls=[]:=λe=>by
  rw [e] at tz
  exact JK tz.symm
 have oR:cS aF.ptr b hp 109 (y.pl .ca) (y.vl .ca) ((List.range d.calls.length).map λi=>y.pl (.c i)):=v1.cZ .ca
 have hzn:=z.size
 have f2s:=f2.size
 have WY:d.calls≠[]->y.pl .ca < hp.size:=λaO=>v1.lt (r:=.ca) aO
 have GM:d.calls≠[]->y.pl .ca≠y.pl .t:=λaO hh=>nomatch (v1.inj .ca .t aO trivial hh)
 have WZ:d.calls≠[]->y.pl .ca≠y.pl .pm:=λaO hh=>nomatch (v1.inj .ca .pm aO trivial hh)
 have H7:=oR.aX (λ_ _ _ _ h=>h) f2 (λaO hh=>WZ (λe=>aO (by rw [e];rfl)) (ek.1 hh))
 obtain ⟨B,ob,hB⟩:=H7.get
 have jY:(B=y.pl .ca/\d.calls≠[])\/h'.size<=B:=hB.imp (λe=>⟨e.1,λh=>e.2 (by rw [h];rfl)⟩) (λe=>by omega)
 have afS:=qc.lt
 have afU:=qm.lt
 have afY:=qt.lt
 have rT:=m3.lt
 have nf:=ob.fresh
 have Gu:y.pl .t≠B:=jY.elim (λe hh=>GM e.2 (by omega)) (λe=>by omega)
 have hBp:y.pl .pm≠B:=jY.elim (λe hh=>WZ e.2 (by omega)) (λe=>by omega)
 have WC:C≠B:=jY.elim (λe=>by have:=WY e.2;omega) (λe=>by omega)
 have WD:M≠B:=jY.elim (λe=>by have:=WY e.2;omega) (λe=>by omega)
 refine uR (i:=0) (cs:=[.pointer (some ⟨C,0,none⟩)]) (x:=C) ny zjZ rfl (by decide) (by rfl) z.size ob rfl (by rw [tz];omega) (by rw [tz];omega) (λw3 h4 A3 iy ff jH=>?_)
 obtain ⟨a3,n3,sN,rfl⟩:=iy.slice
 have LB:=qt.bC ff Gu
 have qm4:=qm.bC ff WD
 have Ly:=qc.bC ff WC
 have m4:ct h4 (y.pl .pm) _:=(m3.over (Ext.refl (h'.lay [bc.row [Value.pointer (some ⟨C,0,none⟩)] 109 false] h'.low))).step ff hBp
 have z4:=z.aw.step ff nf
 have vC:=z4.size
 rw [aq h4]
 repeat' (simp only [aa,seval,nv])
 refine iH (n:=1) (o:=1) (vs:=[.slice a3 n3 sN]) LB SF rfl rfl (by show 1+1<=3;omega) rfl (λh5 q5 nw=>?_)
 have AP:y.pl .t≠A3:=jH.elim (λe=>by rw [e];exact Gu) (λe=>by omega)
 have PF:C≠A3:=jH.elim (λe=>by rw [e];exact WC) (λe=>by omega)
 have PG:M≠A3:=jH.elim (λe=>by rw [e];exact WD) (λe=>by omega)
 have o5:=Ow.ec (λ_ _ _ _ h=>h) (by simp) (iy.mono (bQ.lay h4 [] h4.low)) nw AP
 have qm5:=qm4.bC nw (by omega)
 have qc5:=Ly.bC nw (by omega)
 have m5:ct h5 (y.pl .pm) _:=(m4.over (Ext.refl (h4.lay [] h4.low))).step nw (Ne.symm Rb)
 have f5:aP [y.pl .pm,B,y.pl .t] hp h5:=((f2.mono (by simp)).ec ff (.inl (by simp))).ec nw (.inl (by simp))
 have KV:(A3=y.pl .ca/\d.calls≠[])\/hp.size<=A3:=by
  rcases jH with e|e
  .rw [e];exact jY.imp id (λe=>by omega)
  .exact .inr (by omega)
 obtain ⟨E',y',i1,i2⟩:=v1.call oA f5 (λX hX=>by
  simp only [dg,gS,or_false] at hX
  rcases hX with rfl|rfl|rfl
  .exact .inl rfl
  .exact .inr (.inr (jY.imp id (λe=>by omega)))
  .exact .inr (.inl rfl)) KV (Ac:=C) (At:=M) (by omega) (by omega) (by omega) PF PG m5 o5 qc5 ⟨_,_,qm5,rfl⟩ q5
 replace z:=z4.aw.step nw jg
 rw [aq h5]
 repeat' (simp only [aa,seval,nv])
 exact hk _ E' y' _ z.aw (i1.aX (aP.lay _ _ _ _)) ((((dK.refl _ _ _ _).aX gp).trans i2 (aS _)).aX (aP.lay _ _ _ _))
theorem ztj (a:ae) (u m w w':ai):aJ (a.cells++[u,m,w]) 11 [w']=a.cells++[w',m,w]:=rfl
theorem zAw {y:cp} {d:bg} (cY:bj 1 b) (z:Ext b hc) (v:Am.Inv gj b E y bN vf d hc) {i:Nat} {c:ba} (gX:d.calls[i]? = some c) (a:ae) (hn:d.calls.length<=10000000) (Q5:c.answers.length<=10000000) (BG:d.count<=1000000000) (K:aL)
 (hk:∀ h' E' y' (e:Int),Ext b h'->Am.Inv gj b E' y' bN vf (bq d i a).1 h'->dK d.ab.length E E' y y' hc h'->K (.tuple #[.bool (bq d i a).2,.int .i64 e]) h'):Ok prog aH ov 90 [.pointer (some ⟨y.pl .t,0,none⟩),.int .i64 (i:Int),a.val] hc K:=by
 rw [aq hc]
 have g:=aP.refl [] hc
 have qc:=JT v gX
 have qt:ak hc (y.pl .t) (.row [.map (some (y.pl .pm)),y.vl .ca,.int .i64 (d.count:Int)] 88 false):=v.cZ .t
 have mt:ct hc (y.pl (.th i)) (dY 0 c.answers):=v.cZ (.th i) c gX
 have oa:cS aF.atom b hc 28 (y.pl (.an i)) (y.vl (.an i)) c.answers:=v.cZ (.an i) c gX
 have gx:Sl aF.atom hc (y.vl (.an i)) c.answers:=oa.sl (by decide)
 have cu:∀ (h:Heap) (K:aL),aK (some (y.vl (.an i))) h K=K (y.vl (.an i)) h:=by
  obtain ⟨a,n,c,e⟩:=cS.slice oa
  rw [e]
  exact λ_ _=>rfl
 have dG:=λ(hh:Heap)=>gx.bP cF hh
 refine Ok.aC 70 (bH Wc) ?_
 repeat' (simp only [aa,seval,jd,sS,iB])
 refine KA (v.aX (aP.lay _ _ _ _)) i (au gX) (by omega) _ (λh' x=>?_)
 (replace z:=z.ao x;replace g:=g.over x;replace qc:=qc.over x;replace qt:=qt.over x;replace mt:=mt.over x;rw [aq h'])
 have q0:=ak.top (i:=0) x rfl
 have hz:=z.size
 repeat' (simp only [aa,seval,jd,Gh])
 with_reducible first|refine dO (by simp only [jd]) z.aw ?_
 simp only [aa,seval,jd,qc.lay,↓U3,q0.lay,↓eH,dJ,dt]
 refine Ui c.atom a _ _ (λh' w bb x ni Rs=>?_)
 (((with_reducible refine fC ?_ ?_ ?_);(· exact (by (simp only [fT]);have:=z.size;omega));(· exact x));replace z:=z.ao x;replace g:=g.over x;replace qc:=qc.over x;replace qt:=qt.over x;replace mt:=mt.over x;replace q0:=q0.over x;rw [aq h'])
 have ub:∀ (h:Heap) (K:aL),aK (some w) h K=K w h:=λ_ _=>rfl
 cases bb
 .have he:(cz [] c.atom a).isSome=false:=by
   cases hx:cz [] c.atom a with
   |none=>rfl
   |some m=>exact absurd (Rs m hx).1 (by decide)
  have hd:bq d i a=(d,false):=by unfold bq;rw [gX];exact aG (.inl he)
  rw [hd] at hk
  simp only [aa,seval,jd,ub]
  ((with_reducible refine ⟨z.cI.lay _ _,?_⟩);(intro _ h' zz x _);(simp only [bK,bu] at x);replace g:=g.over x;replace qc:=qc.over x;replace qt:=qt.over x;replace mt:=mt.over x;replace q0:=q0.over x;(replace z:=zz);(clear zz);rw [aq h'])
  repeat' (first|simp only [aa,seval,jd]|((with_reducible apply cn);(· rfl)))
  exact hk _ _ _ _ z.aw (v.aX (g.trans (aP.lay _ _ _ []) (by simp))) ((dK.refl _ _ _ _).aX (g.trans (aP.lay _ _ _ []) (by simp)))
 have he:(cz [] c.atom a).isSome=true:=by
  cases hx:cz [] c.atom a with
  |none=>exact absurd (ni hx) (by decide)
  |some m=>rfl
 simp only [aa,seval,jd,ub]
 ((with_reducible refine ⟨z.cI.lay _ _,?_⟩);(intro _ h' zz x _);(simp only [bK,bu] at x);replace g:=g.over x;replace qc:=qc.over x;replace qt:=qt.over x;replace mt:=mt.over x;replace q0:=q0.over x;(replace z:=zz);(clear zz);rw [aq h'])
 repeat' (first|simp only [aa,seval,jd,q0.lay,↓eH,dJ,dt]|((with_reducible apply cn);(· rfl)))
 refine JE a _ ((cY.ext z).lay _ _) _ (λeg h' x=>?_) (λeg e h' oW x=>?_)
 rotate_left
 ·(replace z:=z.ao x;( replace g:=g.over x );( replace qc:=qc.over x );( replace qt:=qt.over x );( replace mt:=mt.over x );( replace q0:=q0.over x );rw [aq h'])
  have hd:bq d i a=(d,false):=by unfold bq;rw [gX];exact aG (.inr (.inl eg))
  rw [hd] at hk
  repeat' (first|simp only [aa,seval,jd]|((with_reducible apply se) <;> intro _))
  all_goals first|exact hk _ _ _ _ z.aw (v.aX (g.trans (aP.lay _ _ _ []) (by simp))) ((dK.refl _ _ _ _).aX (g.trans (aP.lay _ _ _ []) (by simp)))|(exfalso;omega)
 (replace z:=z.ao x;replace g:=g.over x;replace qc:=qc.over x;replace qt:=qt.over x;replace mt:=mt.over x;replace q0:=q0.over x;rw [aq h'])
 repeat' (simp only [aa,seval,jd])
 with_reducible first|refine dO (by simp only [jd]) z.aw ?_
 simp only [aa,seval,jd,qc.lay,zqK,q0.lay,↓eH,dJ,dt,EB,JL]
 refine zkJ mt wE Em zoB ?_
 have xg:=JC a 0 c.answers
 by_cases hm:a∈c.answers
 .rw [aG hm] at xg
  rw [xg]
  have hd:bq d i a=(d,false):=by unfold bq;rw [gX];exact aG (.inr (.inr hm))
  rw [hd] at hk
  simp only [yw,E0,ia,if_true]
  simp only [aa,seval,jd]
  ((with_reducible refine ⟨z.cI.lay _ _,?_⟩);(intro _ h' zz x _);(simp only [bK,bu] at x);replace g:=g.over x;replace qc:=qc.over x;replace qt:=qt.over x;replace mt:=mt.over x;replace q0:=q0.over x;(replace z:=zz);(clear zz);rw [aq h'])
  repeat' (simp only [aa,seval,jd])
  exact hk _ _ _ _ z.aw (v.aX (g.trans (aP.lay _ _ _ []) (by simp))) ((dK.refl _ _ _ _).aX (g.trans (aP.lay _ _ _ []) (by simp)))
 rw [aA hm] at xg
 rw [xg]
 have hd:bq d i a=({ d with calls:=d.calls.set i { c with answers:=c.answers++[a] },count:=d.count+1 },true):=by
  unfold bq
  rw [gX]
  exact aA (λe=>e.elim (λe=>absurd (he.symm.trans e) (by decide)) (λe=>e.elim (λe=>e eg) (λe=>hm e)))
 rw [hd] at hk
 simp only [Option.getD_none,zX,if_true]
 simp only [aa,seval,jd]
 ((with_reducible refine ⟨z.cI.lay _ _,?_⟩);(intro _ h' zz x _);(simp only [bK,bu] at x);replace g:=g.over x;replace qc:=qc.over x;replace qt:=qt.over x;replace mt:=mt.over x;replace q0:=q0.over x;(replace z:=zz);(clear zz);rw [aq h'])
 repeat' (simp only [aa,seval,jd])
 obtain ⟨hp,w8⟩:∃ hp,hp=h':=⟨_,rfl⟩
 have g2:aP [] hp h':=by rw [w8];exact aP.refl [] h'
 have gp:aP [] hc hp:=by rw [w8];exact g
 have zp:Ext b hp:=by rw [w8];exact z
 clear g w8
 with_reducible first|refine dO (by simp only [jd]) z.aw ?_
 simp only [aa,seval,jd,qc.lay,zqK,Uk,q0.lay,↓eH,dJ,dt,EB,cu,dG,Jv]
 have v1:=v.aX gp
 have ey:=au gX
 have q9:=v1.lt (r:=.th i) ey
 have vu:=v1.lt (r:=.c i) ey
 have hp3:=v1.lt (r:=.t) trivial
 have ng:=v1.new _ (v1.own (.th i) ey)
 have jg:=v1.new _ (v1.own (.c i) ey)
 have Qe:=v1.new _ (v1.own .t trivial)
 have n1:y.pl (.c i)≠y.pl (.th i):=λe=>nomatch (v1.inj (.c i) (.th i) ey ey e)
 have n2:y.pl .t≠y.pl (.th i):=λe=>nomatch (v1.inj .t (.th i) trivial ey e)
 have n3:y.pl .t≠y.pl (.c i):=λe=>nomatch (v1.inj .t (.c i) trivial ey e)
 have hz:=z.size
 have oA:=zp.size
 have kD:=g2.size
 have hgp:=gp.size
 have hq1:=v.lt (r:=.th i) ey
 have Rc:=v.lt (r:=.c i) ey
 have Rd:=v.lt (r:=.t) trivial
 obtain ⟨h3,hu,m3,c3⟩:=zov (h:=h'.lay [] (h'.size+0)) (a:=a) (n:=(c.answers.length:Int)) (mt.over (Ext.refl _)) wE Em (by rw [JC,aA hm])
 rw [hu]
 refine gR (A:=y.pl (.th i)) (by kernel_rfl) (by have:=z.size;rw [bo];omega) (by omega) c3 ?_
 have f2:aP [y.pl (.th i)] hp h3:=(g2.mono (by simp)).ec c3 (.inl (by simp))
 replace qt:=qt.bC c3 n2
 replace qc:=qc.bC c3 n1
 have q0l:=q0.lt
 replace q0:=q0.bC c3 (by omega)
 replace z:=z.bY c3 ng (by omega)
 clear mt g2
 rw [aq h3]
 simp only [bM,seval,jd]
 ((with_reducible refine ⟨z.cI.lay _ _,?_⟩);(intro _ h' zz x _);(simp only [bK,bu] at x);replace f2:=f2.over x;replace qc:=qc.over x;replace qt:=qt.over x;replace m3:=m3.over x;replace q0:=q0.over x;(replace z:=zz);(clear zz);rw [aq h'])
 repeat' (simp only [syms,seval,jd])
 with_reducible first|refine dO (by simp only [jd]) z.aw ?_
 simp only [aa,seval,jd,qc.lay,Uk,q0.lay,↓eH,dJ,dt,cu,zkD]
 have oR:cS aF.atom b hp 28 (y.pl (.an i)) (y.vl (.an i)) c.answers:=v1.cZ (.an i) c gX
 have hzn:=z.size
 have f2s:=f2.size
 have k0:c.answers≠[]->y.pl (.an i) < hp.size:=λaO=>v1.lt (r:=.an i) ⟨c,gX,aO⟩
 have k1:c.answers≠[]->y.pl (.an i)≠y.pl .t:=λaO hh=>nomatch (v1.inj (.an i) .t ⟨c,gX,aO⟩ trivial hh)
 have k2:c.answers≠[]->y.pl (.an i)≠y.pl (.c i):=λaO hh=>nomatch (v1.inj (.an i) (.c i) ⟨c,gX,aO⟩ ey hh)
 have k3:c.answers≠[]->y.pl (.an i)≠y.pl (.th i):=λaO hh=>nomatch (v1.inj (.an i) (.th i) ⟨c,gX,aO⟩ ey hh)
 have H7:=oR.aX (λ_ _ _ _ h=>h) f2 (λaO hh=>k3 aO (ek.1 hh))
 obtain ⟨B,ob,hB⟩:=H7.get
 have jY:(B=y.pl (.an i)/\c.answers≠[])\/h'.size<=B:=hB.imp id (λe=>by omega)
 have rT:=m3.lt
 have nf:=ob.fresh
 have Gu:y.pl .t≠B:=jY.elim (λe hh=>k1 e.2 (by omega)) (λe=>by omega)
 have KX:y.pl (.c i)≠B:=jY.elim (λe hh=>k2 e.2 (by omega)) (λe=>by omega)
 have hBh:y.pl (.th i)≠B:=jY.elim (λe hh=>k3 e.2 (by omega)) (λe=>by omega)
 refine kO (by have:=z.size;omega) (by omega) ?_
 simp only [bM,seval,jd,j4,Nh]
 refine uR (i:=0) (cs:=a.cells) (x:=a) cF xU rfl (by decide) (by rfl) z.size ob rfl (by omega) (by omega) (λw3 h4 A3 iy ff jH=>?_)
 obtain ⟨a3,m3',sN,rfl⟩:=iy.slice
 refine gR (A:=B) (by kernel_rfl) (by have:=z.size;rw [bo];omega) (by omega) (by simpa only [bK,bo,bu,dB,cW,gw] using ff) ?_
 have LB:=qt.bC ff Gu
 have Ly:=qc.bC ff KX
 have m4:ct h4 (y.pl (.th i)) _:=(m3.over (Ext.refl (h'.lay [bc.row a.cells 28 false] _))).step ff hBh
 have z4:=z.bY ff nf (by omega)
 have vC:=z4.size
 have f4:aP [y.pl (.th i),B] hp h4:=(f2.mono (by simp)).ec ff (.inl (by simp))
 clear z f2 qt qc m3
 have z:=z4
 rw [aq h4]
 simp only [aa,seval,jd]
 refine iH (n:=1) (o:=11) (vs:=[.slice a3 m3' sN]) Ly (by kernel_rfl) rfl rfl (by rw [zyg];decide) rfl (λh5 q5 nw=>?_)
 refine gR (A:=y.pl (.c i)) (by kernel_rfl) (by have:=z.size;rw [bo];omega) (by omega) nw ?_
 have AO:y.pl (.c i)≠A3:=jH.elim (λe=>by rw [e];exact KX) (λe=>by omega)
 have o5:=Ow.ec (λ_ _ _ _ h=>h) (by simp) (iy.mono (bQ.lay h4 [] _)) nw AO
 have LC:=LB.bC nw n3
 have m5:ct h5 (y.pl (.th i)) _:=(m4.over (Ext.refl (h4.lay [] _))).step nw (Ne.symm n1)
 have f5:aP [y.pl (.th i),B,y.pl (.c i)] hp h5:=(f4.mono (λX hX=>by simp only [dg,gS,or_false] at hX ⊢;exact hX.elim .inl (λe=>.inr (.inl e)))).ec nw (.inl (by simp))
 have KV:(A3=y.pl (.an i)/\c.answers≠[])\/hp.size<=A3:=jH.elim (λe=>by rw [e];exact jY.imp id (λe=>by omega)) (λe=>.inr (by omega))
 have AP:y.pl .t≠A3:=jH.elim (λe=>by rw [e];exact Gu) (λe=>by omega)
 have z5:=z4.bY nw jg (by omega)
 rw [ztj] at q5
 clear z z4 f4 LB Ly m4 iy
 have z:=z5
 rw [aq h5]
 simp only [bM,seval,jd]
 ((with_reducible refine ⟨z.cI.lay _ _,?_⟩);(intro _ h' zz x _);(simp only [bK,bu] at x);replace f5:=f5.over x;replace q5:=q5.over x;replace LC:=LC.over x;replace m5:=m5.over x;replace o5:=o5.over x;(replace z:=zz);(clear zz);rw [aq h'])
 repeat' (simp only [aa,seval,jd,LC.lay])
 have hwc:IntKind.i64.wrap ((d.count:Int)+1)=((d.count+1:Nat):Int):=by rw [ez (by omega) (by omega)];omega
 rw [hwc]
 have uh:=z.size
 refine iH (n:=1) (o:=2) (vs:=[.int .i64 ((d.count+1:Nat):Int)]) LC xL rfl rfl (by show 2+1<=3;omega) rfl (λh6 q6 sQ=>?_)
 have o6:=Ow.ec (λ_ _ _ _ h=>h) (by simp) (o5.mono (bQ.lay h' [] _)) sQ AP
 have qc6:=q5.bC sQ (Ne.symm n3)
 have m6:ct h6 (y.pl (.th i)) _:=(m5.over (Ext.refl (h'.lay [] _))).step sQ (Ne.symm n2)
 have f6:aP [y.pl (.th i),B,y.pl (.c i),y.pl .t] hp h6:=(f5.mono (λX hX=>by simp only [dg,gS,or_false] at hX ⊢;exact hX.elim .inl (λe=>e.elim (λe=>.inr (.inl e)) (λe=>.inr (.inr (.inl e)))))).ec sQ (.inl (by simp))
 obtain ⟨E',y',i1,i2⟩:=v1.answer oA gX f6 (λX hX=>by
  simp only [dg,gS,or_false] at hX
  rcases hX with rfl|rfl|rfl|rfl
  .exact .inr (.inr (.inl rfl))
  .exact .inr (.inr (.inr (jY.imp id (λe=>by omega))))
  .exact .inr (.inl rfl)
  .exact .inl rfl) KV (a:=a) (by rw [T1,ia];exact m6) o6 (by rw [zug];exact qc6) q6
 replace z:=z.aw.step sQ Qe
 rw [aq h6]
 repeat' (simp only [aa,seval,jd])
 exact hk _ E' y' _ z.aw (i1.aX (aP.lay _ _ _ _)) ((((dK.refl _ _ _ _).aX gp).trans i2 (aS _)).aX (aP.lay _ _ _ _))
end Go.Proofs.YtnkmeidmdaidhaaGreatDoor
