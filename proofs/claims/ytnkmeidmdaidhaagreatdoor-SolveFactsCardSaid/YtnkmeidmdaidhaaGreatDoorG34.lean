/- Walks: tables. Written out by fill2.py. No condition. -/
import Derived.Test.YtnkmeidmdaidhaaGreatDoorG33
set_option linter.unusedSimpArgs false
set_option linter.unusedVariables false
set_option maxRecDepth 100000
set_option maxHeartbeats 0
namespace Go.Proofs.YtnkmeidmdaidhaaGreatDoor
open Go.Am Tryz
variable {cd vf:ai} {E:List Nat} {b hc:Heap}
theorem zu6 (a:ae) (u m w w':ai):aI (a.cells++[u,m,w]) 13 [w']=a.cells++[u,m,w']:=rfl
theorem zAv (a:ae) (u m w:ai):(a.cells++[u,m,w]).length=14:=rfl
theorem zBR {y:cO} {d:ba} (z:Ext b hc) (v:Am.Inv iD b E y cd vf d hc) {i:Nat} {c:aY} (js:d.calls[i]? = some c) (k:Nat) (hn:d.calls.length<=100000000) (ha:c.waiters.length<=10000000) (K:aJ)
 (hk:∀ h' E' y',Ext b h'->Am.Inv iD b E' y' cd vf (i9 d i k) h'->eB d.ab.length E E' y y' hc h'->K (.int .i64 0) h'):Ok prog aH ov 66 [.pointer (some ⟨y.pl .t,0,none⟩),.int .i64 (i:Int),.int .i64 (k:Int)] hc K:=by
 rw [aw hc]
 have g:=aS.refl [] hc
 have qc:=Nz v js
 have oa:dx aC.nat b hc 3 (y.pl (.wa i)) (y.vl (.wa i)) c.waiters:=v.dF (.wa i) c js
 have ia:Sl aC.nat hc (y.vl (.wa i)) c.waiters:=oa.sl (by decide)
 have cX:∀ (h:Heap) (K:aJ),aK (some (y.vl (.wa i))) h K=K (y.vl (.wa i)) h:=by
  obtain ⟨a,n,c,e⟩:=dx.slice oa
  rw [e]
  exact λ_ _=>rfl
 refine Ok.aA 29 (bH N66) ?_
 repeat' (simp only [aa,seval,GB,vR])
 refine Oh (v.bf (aS.lay _ _ _ _)) i (aq js) hn _ (λh' x=>?_)
 (replace z:=z.ao x;replace g:=g.over x;replace qc:=qc.over x;rw [aw h'])
 repeat' (simp only [aa,seval,GB,JE,qc.lay,YA,cX])
 refine zo5 c.waiters _ k _ ((ia.mono g.all).lay _ _) (by omega) _ (λh' x=>?_)
 (replace z:=z.ao x;replace g:=g.over x;replace qc:=qc.over x;rw [aw h'])
 have hz:=z.size
 have v1:=v.bf g
 by_cases En:k∈c.waiters
 .have hd:i9 d i k=d:=by unfold i9;rw [js];exact aD En
  repeat' (first|simp only [aa,seval,GB,En]|((with_reducible apply cf);(· rfl)))
  exact hk _ _ _ z.av (by rw [hd];exact v1.bf (aS.lay _ _ _ _)) ((eB.refl _ _ _ _).bf (g.trans (aS.lay _ _ _ []) (by simp)))
 .have hd:i9 d i k={ d with calls:=d.calls.set i { c with waiters:=c.waiters++[k] } }:=by unfold i9;rw [js];exact az En
  repeat' (first|simp only [aa,seval,GB,En,qc.lay,YA,cX]|((with_reducible apply cf);(· rfl)))
  simp only [cm,seval,jF,Og]
  have fC:=aq js
  have uR:=v1.lt (r:=.c i) fC
  have tJ:=v1.new _ (v1.own (.c i) fC)
  obtain ⟨B,ob,hB⟩:=(show dx aC.nat b h' 3 (y.pl (.wa i)) (y.vl (.wa i)) c.waiters from v1.dF (.wa i) c js).get
  have pG:=ob.fresh
  have OI:B≠y.pl (.c i):=by
   rcases hB with ⟨e,aM⟩|⟨_,e⟩
   .intro hh
    have:=v1.inj (.wa i) (.c i) ⟨c,js,aM⟩ fC (by rw [<- e,hh])
    cases this
   .omega
  have hBA:(B=y.pl (.wa i)/\c.waiters≠[])\/h'.size<=B:=hB.imp id (λe=>by omega)
  refine te (i:=0) (cs:=[.int .i64 (k:Int)]) (x:=k) kb CW rfl (by decide) (by rfl) z.size ob rfl (by omega) (by omega) (λw3 h3 A3 jS eU jM=>?_)
  obtain ⟨a3,m3,c3,rfl⟩:=jS.slice
  have q3:=qc.br eU (Ne.symm OI)
  have z3:=z.av.step eU pG
  have AF:=z3.size
  rw [aw h3]
  have z:=z3
  repeat' (simp only [aa,seval,GB])
  refine j4 (n:=1) (o:=13) (vs:=[.slice a3 m3 c3]) q3 WJ rfl rfl (by rw [zAv];decide) rfl (λh4 q4 lC=>?_)
  have DT:y.pl (.c i)≠A3:=by rcases jM with e|e <;> omega
  have o4:=Ow.eV (λ_ _ _ _ h=>h) (by simp) (jS.mono (bN.lay h3 [] h3.low)) lC DT
  have f4:aS [B,y.pl (.c i)] h' h4:=((aS.refl _ h').eV eU (.inl (by simp))).eV lC (.inl (by simp))
  have OG:(A3=y.pl (.wa i)/\c.waiters≠[])\/h'.size<=A3:=by
   rcases jM with e|e
   .rw [e];exact hBA
   .exact .inr e
  obtain ⟨E',y',i1,i2⟩:=v1.wait hz js f4 (λX hX=>by
   rcases df.1 hX with rfl|hX
   .exact .inr hBA
   .exact .inl (ep.1 hX)) OG o4 (by rw [zv2];rw [zu6] at q4;exact q4)
  replace z:=z.av.step lC tJ
  rw [aw h4]
  repeat' (simp only [aa,seval,GB])
  exact hk _ E' y' z.av (by rw [hd];exact i1.bf (aS.lay _ _ _ _)) ((((eB.refl _ _ _ _).bf g).trans i2 (aR _)).bf (aS.lay _ _ _ _))
theorem HD (a b:ae):dC aH 20 28 a.val b.val=some (decide (a=b)):=by
 have h:dC aH 20 28 a.val b.val=OC a b:=by kernel_rfl
 rw [h,zsl]
theorem zpX:aH.zero 3=some (.int .i64 0):=by kernel_rfl
theorem HI (m:Option Nat) (h:Heap) (K:aJ):aK (some (.map m)) h K=K (.map m) h:=rfl
theorem zzj {h:Heap} {y:cO} {d:ba} (v:Am.Inv iD b E y cd vf d h) (a:ae) (K:aJ)
 (hk:∀ h',Ext h h'->K (.tuple #[.int .i64 ((sd (fc 0 (d.calls.map aY.atom)) (bB a)).getD 0),.bool (sd (fc 0 (d.calls.map aY.atom)) (bB a)).isSome]) h'):Ok prog aH ov 89 [.pointer (some ⟨y.pl .t,0,none⟩),a.val] h K:=by
 rw [aw h]
 have z:=Ext.refl h
 have qt:Holds h (y.pl .t) (.row [.map (some (y.pl .pm)),y.vl .ca,.int .i64 (d.count:Int)] 88 false):=v.dF .t
 have mp:b9 h (y.pl .pm) (fc 0 (d.calls.map aY.atom)):=v.dF .pm
 refine Ok.aA 18 (bH N89) ?_
 repeat' (simp only [aa,seval,BQ,gV])
 with_reducible first|refine ez (by simp only [BQ]) z.av ?_
 simp only [aa,seval,BQ,qt.lay,↓fe,dU,dq,HI]
 refine Qs a _ _ (λh' x=>?_)
 (((with_reducible refine ix ?_ ?_ ?_);(· exact (by (simp only [iY]);have:=z.size;omega));(· exact x));replace z:=z.ao x;replace qt:=qt.over x;replace mp:=mp.over x;rw [aw h'])
 simp only [cm,seval,BQ,Ni]
 refine zlA mp zF HD zpX ?_
 obtain ⟨o,ho⟩:∃ o,o=sd (fc 0 (d.calls.map aY.atom)) (bB a):=⟨_,rfl⟩
 rw [<- ho] at hk ⊢
 cases o with
 |none =>
  simp only [Option.getD_none,Df,if_true] at hk ⊢
  simp only [aa,seval,BQ]
  ((with_reducible refine ⟨z.cU.lay _ _,?_⟩);(intro _ h' zz x _);(simp only [bY,bC] at x);replace qt:=qt.over x;replace mp:=mp.over x;(replace z:=zz);(clear zz);rw [aw h'])
  simp only [aa,seval,BQ]
  exact hk _ z.av
 |some n =>
  simp only [zh,H6,if_true] at hk ⊢
  simp only [aa,seval,BQ]
  ((with_reducible refine ⟨z.cU.lay _ _,?_⟩);(intro _ h' zz x _);(simp only [bY,bC] at x);replace qt:=qt.over x;replace mp:=mp.over x;(replace z:=zz);(clear zz);rw [aw h'])
  simp only [aa,seval,BQ]
  exact hk _ z.av
theorem zCv (a:ae) (m:Option Nat):lL aH 112 [(0,a.val),(2,.map m)]=some (.agg ⟨a.cells++[.slice none 0 0,.map m,.slice none 0 0]⟩):=by kernel_rfl
theorem zEj:td aH 86 86=true:=by kernel_rfl
theorem zBP {y:cO} {d:ba} (dD:bl 1 b) (z:Ext b hc) (v:Am.Inv iD b E y cd vf d hc) (a:ae) (hn:d.calls.length<=10000000) (K:aJ)
 (hk:∀ h' E' y' (e:Int),Ext b h'->Am.Inv iD b E' y' cd vf (de d a).1 h'->eB d.ab.length E E' y y' hc h'->K (.tuple #[.int .i64 ((de d a).2.1:Int),.bool (de d a).2.2,.int .i64 e]) h'):Ok prog aH ov 56 [.pointer (some ⟨y.pl .t,0,none⟩),a.val] hc K:=by
 rw [aw hc]
 have g:=aS.refl [] hc
 have qt:Holds hc (y.pl .t) (.row [.map (some (y.pl .pm)),y.vl .ca,.int .i64 (d.count:Int)] 88 false):=v.dF .t
 have mp:b9 hc (y.pl .pm) (fc 0 (d.calls.map aY.atom)):=v.dF .pm
 have oc:=v.dF .ca
 have ia:Sl aC.ptr hc (y.vl .ca) ((List.range d.calls.length).map λi=>y.pl (.c i)):=dx.sl oc (by decide)
 have Pa:∀ (h:Heap) (K:aJ),aK (some (y.vl .ca)) h K=K (y.vl .ca) h:=by
  obtain ⟨a,n,c,e⟩:=dx.slice oc
  rw [e]
  exact λ_ _=>rfl
 have GZ:=λ(hh:Heap)=>ia.bQ qb hh
 rw [gw,Gg] at GZ
 refine Ok.aA 56 (bH Z2) ?_
 repeat' (simp only [aa,seval,pY,vR,gV,↓fe,dU,dq])
 refine Na a _ ((dD.ext z).lay _ _) _ (λcX h' x=>?_) (λcX c h' tJ x=>?_)
 rotate_left
 ·(replace z:=z.ao x;( replace g:=g.over x );( replace qt:=qt.over x );( replace mp:=mp.over x );rw [aw h'])
  have hd:de d a=(d,0,false):=by unfold de;rw [aD cX]
  rw [hd] at hk
  repeat' (first|simp only [aa,seval,pY]|((with_reducible apply qM) <;> intro _))
  all_goals first|exact hk _ _ _ _ z.av (v.bf (g.trans (aS.lay _ _ _ []) (by simp))) ((eB.refl _ _ _ _).bf (g.trans (aS.lay _ _ _ []) (by simp)))|(exfalso;omega)
 (replace z:=z.ao x;replace g:=g.over x;replace qt:=qt.over x;replace mp:=mp.over x;rw [aw h'])
 have q0:=Holds.top (i:=0) x rfl
 have hz:=z.size
 repeat' (simp only [aa,seval,pY])
 with_reducible first|refine ez (by simp only [pY]) z.av ?_
 simp only [aa,seval,pY,q0.lay,↓fe,dU,dq]
 refine zzj ((v.bf g).bf (aS.lay _ _ _ _)) a _ (λh' x=>?_)
 (((with_reducible refine ix ?_ ?_ ?_);(· exact (by (simp only [iY]);have:=z.size;omega));(· exact x));replace z:=z.ao x;replace g:=g.over x;replace qt:=qt.over x;replace mp:=mp.over x;replace q0:=q0.over x;rw [aw h'])
 have Af:=M7 (bB a) 0 (d.calls.map aY.atom)
 by_cases hm:bB a∈d.calls.map aY.atom
 .rw [aD hm] at Af
  rw [Af]
  have hd:de d a=(d,xl (bB a) (d.calls.map aY.atom),false):=by unfold de;rw [az (λh=>h cX),aD hm]
  rw [hd] at hk
  simp only [zh,H6,iA]
  simp only [aa,seval,pY]
  ((with_reducible refine ⟨z.cU.lay _ _,?_⟩);(intro _ h' zz x _);(simp only [bY,bC] at x);replace g:=g.over x;replace qt:=qt.over x;replace mp:=mp.over x;replace q0:=q0.over x;(replace z:=zz);(clear zz);rw [aw h'])
  repeat' (simp only [aa,seval,pY])
  exact hk _ _ _ _ z.av (v.bf (g.trans (aS.lay _ _ _ []) (by simp))) ((eB.refl _ _ _ _).bf (g.trans (aS.lay _ _ _ []) (by simp)))
 rw [az hm] at Af
 rw [Af]
 have hd:de d a=({ d with calls:=d.calls++[⟨bB a,[],[]⟩] },d.calls.length,true):=by unfold de;rw [az (λh=>h cX),az hm]
 rw [hd] at hk
 simp only [Option.getD_none,Df]
 simp only [aa,seval,pY]
 ((with_reducible refine ⟨z.cU.lay _ _,?_⟩);(intro _ h' zz x _);(simp only [bY,bC] at x);replace g:=g.over x;replace qt:=qt.over x;replace mp:=mp.over x;replace q0:=q0.over x;(replace z:=zz);(clear zz);rw [aw h'])
 repeat' (simp only [aa,seval,pY])
 repeat' (simp only [aa,seval,pY,q0.lay,↓fe,dU,dq])
 refine Qs a _ _ (λh' x=>?_)
 (replace z:=z.ao x;replace g:=g.over x;replace qt:=qt.over x;replace mp:=mp.over x;replace q0:=q0.over x;rw [aw h'])
 have hz:=z.size
 repeat' (simp only [aa,seval,pY,MZ,zCv,qt.lay,Pa,GZ])
 obtain ⟨M,hM⟩:∃ M,M=h'.size+0:=⟨_,rfl⟩
 obtain ⟨C,hC⟩:∃ C,C=h'.size+1:=⟨_,rfl⟩
 obtain ⟨hp,zY⟩:∃ hp,hp=h':=⟨_,rfl⟩
 have gp:=g
 have zp:=z
 have hM2:M=hp.size+0:=by rw [hM,zY]
 have hC2:C=hp.size+1:=by rw [hC,zY]
 rw [<- zY] at gp zp
 have g2:aS [] hp h':=by rw [zY];exact aS.refl [] h'
 refine uB (λh' x hq=>?_)
 have qm:=hq 0 _ rfl
 have qc:=hq 1 _ rfl
 clear hq
 (replace z:=z.ao x;replace g:=g.over x;replace g2:=g2.over x;replace qt:=qt.over x;replace mp:=mp.over x;rw [aw h'])
 rw [<- hM] at qc qm
 rw [<- hC] at qc
 rw [<- hM,<- hC]
 with_reducible first|refine ez (by simp only [pY]) z.av ?_
 simp only [aa,seval,pY,qt.lay,qc.lay,↓Zl,dU,dq,HI,MK]
 have v1:=v.bf gp
 have uT:=v1.lt (r:=.pm) trivial
 have Au:=v1.lt (r:=.t) trivial
 have m8:=v1.new _ (v1.own .pm trivial)
 have iB:=v1.new _ (v1.own .t trivial)
 have Vf:y.pl .t≠y.pl .pm:=λe=>nomatch (v1.inj .t .pm trivial trivial e)
 have lg:=g2.size
 have hz:=z.size
 have pM:=zp.size
 have hqc:=qc.lt
 have hqm:=qm.lt
 obtain ⟨h3,hu,m3,c3⟩:=zpQ (h:=h'.lay [] (h'.size+0)) (a:=bB a) (n:=(d.calls.length:Int)) (mp.over (Ext.refl _)) zF HD (by rw [M7,az hm])
 rw [hu]
 refine iL (A:=y.pl .pm) (by kernel_rfl) (by have:=z.size;rw [bh];omega) (by omega) c3 ?_
 have f2:aS [y.pl .pm] hp h3:=(g2.mono (by simp)).eV c3 (.inl (by simp))
 replace qt:=qt.br c3 Vf
 replace qm:=qm.br c3 (by omega)
 replace qc:=qc.br c3 (by omega)
 replace z:=z.bV c3 m8 (by omega)
 clear mp g2 g
 rw [aw h3]
 simp only [cm,seval,pY]
 ((with_reducible refine ⟨z.cU.lay _ _,?_⟩);(intro _ h' zz x _);(simp only [bY,bC] at x);replace f2:=f2.over x;replace qt:=qt.over x;replace m3:=m3.over x;replace qm:=qm.over x;replace qc:=qc.over x;(replace z:=zz);(clear zz);rw [aw h'])
 repeat' (simp only [aa,seval,pY,qt.lay,Pa,jF,zEj])
 have pe:((List.range d.calls.length).map λi=>y.pl (.c i)).length=d.calls.length:=by rw [gw,Gg]
 have hle:((List.range d.calls.length).map λi=>y.pl (.c i))=[]->d.calls=[]:=λe=>by
  rw [e] at pe
  exact Nc pe.symm
 have oR:dx aC.ptr b hp 109 (y.pl .ca) (y.vl .ca) ((List.range d.calls.length).map λi=>y.pl (.c i)):=v1.dF .ca
 have hzn:=z.size
 have f2s:=f2.size
 have hcL:d.calls≠[]->y.pl .ca < hp.size:=λaM=>v1.lt (r:=.ca) aM
 have Kd:d.calls≠[]->y.pl .ca≠y.pl .t:=λaM hh=>nomatch (v1.inj .ca .t aM trivial hh)
 have hcp:d.calls≠[]->y.pl .ca≠y.pl .pm:=λaM hh=>nomatch (v1.inj .ca .pm aM trivial hh)
 have Ln:=oR.bf (λ_ _ _ _ h=>h) f2 (λaM hh=>hcp (λe=>aM (by rw [e];rfl)) (ep.1 hh))
 obtain ⟨B,ob,hB⟩:=Ln.get
 have lS:(B=y.pl .ca/\d.calls≠[])\/h'.size<=B:=hB.imp (λe=>⟨e.1,λh=>e.2 (by rw [h];rfl)⟩) (λe=>by omega)
 have ak5:=qc.lt
 have ak7:=qm.lt
 have alb:=qt.lt
 have qT:=m3.lt
 have pG:=ob.fresh
 have JW:y.pl .t≠B:=lS.elim (λe hh=>Kd e.2 (by omega)) (λe=>by omega)
 have hBp:y.pl .pm≠B:=lS.elim (λe hh=>hcp e.2 (by omega)) (λe=>by omega)
 have hBC:C≠B:=lS.elim (λe=>by have:=hcL e.2;omega) (λe=>by omega)
 have hBM:M≠B:=lS.elim (λe=>by have:=hcL e.2;omega) (λe=>by omega)
 refine te (i:=0) (cs:=[.pointer (some ⟨C,0,none⟩)]) (x:=C) qb zkz rfl (by decide) (by rfl) z.size ob rfl (by rw [pe];omega) (by rw [pe];omega) (λw3 h4 A3 jS eU jM=>?_)
 obtain ⟨a3,n3,tC,rfl⟩:=jS.slice
 have Pu:=qt.br eU JW
 have qm4:=qm.br eU hBM
 have Pr:=qc.br eU hBC
 have m4:b9 h4 (y.pl .pm) _:=(m3.over (Ext.refl (h'.lay [aZ.row [Value.pointer (some ⟨C,0,none⟩)] 109 false] h'.low))).step eU hBp
 have z4:=z.av.step eU pG
 have uW:=z4.size
 rw [aw h4]
 repeat' (simp only [aa,seval,pY])
 refine j4 (n:=1) (o:=1) (vs:=[.slice a3 n3 tC]) Pu WK rfl rfl (by show 1+1<=3;omega) rfl (λh5 q5 pZ=>?_)
 have DU:y.pl .t≠A3:=jM.elim (λe=>by rw [e];exact JW) (λe=>by omega)
 have TI:C≠A3:=jM.elim (λe=>by rw [e];exact hBC) (λe=>by omega)
 have TJ:M≠A3:=jM.elim (λe=>by rw [e];exact hBM) (λe=>by omega)
 have o5:=Ow.eV (λ_ _ _ _ h=>h) (by simp) (jS.mono (bN.lay h4 [] h4.low)) pZ DU
 have qm5:=qm4.br pZ (by omega)
 have qc5:=Pr.br pZ (by omega)
 have m5:b9 h5 (y.pl .pm) _:=(m4.over (Ext.refl (h4.lay [] h4.low))).step pZ (Ne.symm Vf)
 have f5:aS [y.pl .pm,B,y.pl .t] hp h5:=((f2.mono (by simp)).eV eU (.inl (by simp))).eV pZ (.inl (by simp))
 have GJ:(A3=y.pl .ca/\d.calls≠[])\/hp.size<=A3:=by
  rcases jM with e|e
  .rw [e];exact lS.imp id (λe=>by omega)
  .exact .inr (by omega)
 obtain ⟨E',y',i1,i2⟩:=v1.call pM f5 (λX hX=>by
  simp only [df,il,or_false] at hX
  rcases hX with rfl|rfl|rfl
  .exact .inl rfl
  .exact .inr (.inr (lS.imp id (λe=>by omega)))
  .exact .inr (.inl rfl)) GJ (Ac:=C) (At:=M) (by omega) (by omega) (by omega) TI TJ m5 o5 qc5 ⟨_,_,qm5,rfl⟩ q5
 replace z:=z4.av.step pZ iB
 rw [aw h5]
 repeat' (simp only [aa,seval,pY])
 exact hk _ E' y' _ z.av (i1.bf (aS.lay _ _ _ _)) ((((eB.refl _ _ _ _).bf gp).trans i2 (aR _)).bf (aS.lay _ _ _ _))
theorem zu5 (a:ae) (u m w w':ai):aI (a.cells++[u,m,w]) 11 [w']=a.cells++[w',m,w]:=rfl
theorem zCZ {y:cO} {d:ba} (dD:bl 1 b) (z:Ext b hc) (v:Am.Inv iD b E y cd vf d hc) {i:Nat} {c:aY} (js:d.calls[i]? = some c) (a:ae) (hn:d.calls.length<=10000000) (U9:c.answers.length<=10000000) (Ev:d.count<=1000000000) (K:aJ)
 (hk:∀ h' E' y' (e:Int),Ext b h'->Am.Inv iD b E' y' cd vf (bn d i a).1 h'->eB d.ab.length E E' y y' hc h'->K (.tuple #[.bool (bn d i a).2,.int .i64 e]) h'):Ok prog aH ov 90 [.pointer (some ⟨y.pl .t,0,none⟩),.int .i64 (i:Int),a.val] hc K:=by
 rw [aw hc]
 have g:=aS.refl [] hc
 have qc:=Nz v js
 have qt:Holds hc (y.pl .t) (.row [.map (some (y.pl .pm)),y.vl .ca,.int .i64 (d.count:Int)] 88 false):=v.dF .t
 have mt:b9 hc (y.pl (.th i)) (fc 0 c.answers):=v.dF (.th i) c js
 have oa:dx aC.atom b hc 28 (y.pl (.an i)) (y.vl (.an i)) c.answers:=v.dF (.an i) c js
 have ia:Sl aC.atom hc (y.vl (.an i)) c.answers:=oa.sl (by decide)
 have cX:∀ (h:Heap) (K:aJ),aK (some (y.vl (.an i))) h K=K (y.vl (.an i)) h:=by
  obtain ⟨a,n,c,e⟩:=dx.slice oa
  rw [e]
  exact λ_ _=>rfl
 have dQ:=λ(hh:Heap)=>ia.bQ bZ hh
 refine Ok.aA 70 (bH N90) ?_
 repeat' (simp only [aa,seval,kL,vR,gV])
 refine Oh (v.bf (aS.lay _ _ _ _)) i (aq js) (by omega) _ (λh' x=>?_)
 (replace z:=z.ao x;replace g:=g.over x;replace qc:=qc.over x;replace qt:=qt.over x;replace mt:=mt.over x;rw [aw h'])
 have q0:=Holds.top (i:=0) x rfl
 have hz:=z.size
 repeat' (simp only [aa,seval,kL,JE])
 with_reducible first|refine ez (by simp only [kL]) z.av ?_
 simp only [aa,seval,kL,qc.lay,↓Zl,q0.lay,↓fe,dU,dq]
 refine Yw c.atom a _ _ (λh' w bb x jO Vw=>?_)
 (((with_reducible refine ix ?_ ?_ ?_);(· exact (by (simp only [iY]);have:=z.size;omega));(· exact x));replace z:=z.ao x;replace g:=g.over x;replace qc:=qc.over x;replace qt:=qt.over x;replace mt:=mt.over x;replace q0:=q0.over x;rw [aw h'])
 have xf:∀ (h:Heap) (K:aJ),aK (some w) h K=K w h:=λ_ _=>rfl
 cases bb
 .have he:(bG [] c.atom a).isSome=false:=by
   cases hx:bG [] c.atom a with
   |none=>rfl
   |some m=>exact absurd (Vw m hx).1 (by decide)
  have hd:bn d i a=(d,false):=by unfold bn;rw [js];exact aD (.inl he)
  rw [hd] at hk
  simp only [aa,seval,kL,xf]
  ((with_reducible refine ⟨z.cU.lay _ _,?_⟩);(intro _ h' zz x _);(simp only [bY,bC] at x);replace g:=g.over x;replace qc:=qc.over x;replace qt:=qt.over x;replace mt:=mt.over x;replace q0:=q0.over x;(replace z:=zz);(clear zz);rw [aw h'])
  repeat' (first|simp only [aa,seval,kL]|((with_reducible apply cf);(· rfl)))
  exact hk _ _ _ _ z.av (v.bf (g.trans (aS.lay _ _ _ []) (by simp))) ((eB.refl _ _ _ _).bf (g.trans (aS.lay _ _ _ []) (by simp)))
 have he:(bG [] c.atom a).isSome=true:=by
  cases hx:bG [] c.atom a with
  |none=>exact absurd (jO hx) (by decide)
  |some m=>rfl
 simp only [aa,seval,kL,xf]
 ((with_reducible refine ⟨z.cU.lay _ _,?_⟩);(intro _ h' zz x _);(simp only [bY,bC] at x);replace g:=g.over x;replace qc:=qc.over x;replace qt:=qt.over x;replace mt:=mt.over x;replace q0:=q0.over x;(replace z:=zz);(clear zz);rw [aw h'])
 repeat' (first|simp only [aa,seval,kL,q0.lay,↓fe,dU,dq]|((with_reducible apply cf);(· rfl)))
 refine Na a _ ((dD.ext z).lay _ _) _ (λfo h' x=>?_) (λfo e h' tJ x=>?_)
 rotate_left
 ·(replace z:=z.ao x;( replace g:=g.over x );( replace qc:=qc.over x );( replace qt:=qt.over x );( replace mt:=mt.over x );( replace q0:=q0.over x );rw [aw h'])
  have hd:bn d i a=(d,false):=by unfold bn;rw [js];exact aD (.inr (.inl fo))
  rw [hd] at hk
  repeat' (first|simp only [aa,seval,kL]|((with_reducible apply qM) <;> intro _))
  all_goals first|exact hk _ _ _ _ z.av (v.bf (g.trans (aS.lay _ _ _ []) (by simp))) ((eB.refl _ _ _ _).bf (g.trans (aS.lay _ _ _ []) (by simp)))|(exfalso;omega)
 (replace z:=z.ao x;replace g:=g.over x;replace qc:=qc.over x;replace qt:=qt.over x;replace mt:=mt.over x;replace q0:=q0.over x;rw [aw h'])
 repeat' (simp only [aa,seval,kL])
 with_reducible first|refine ez (by simp only [kL]) z.av ?_
 simp only [aa,seval,kL,qc.lay,zsc,q0.lay,↓fe,dU,dq,HI,Ni]
 refine zlA mt zF HD zpX ?_
 have Af:=M7 a 0 c.answers
 by_cases hm:a∈c.answers
 .rw [aD hm] at Af
  rw [Af]
  have hd:bn d i a=(d,false):=by unfold bn;rw [js];exact aD (.inr (.inr hm))
  rw [hd] at hk
  simp only [zh,H6,iA,if_true]
  simp only [aa,seval,kL]
  ((with_reducible refine ⟨z.cU.lay _ _,?_⟩);(intro _ h' zz x _);(simp only [bY,bC] at x);replace g:=g.over x;replace qc:=qc.over x;replace qt:=qt.over x;replace mt:=mt.over x;replace q0:=q0.over x;(replace z:=zz);(clear zz);rw [aw h'])
  repeat' (simp only [aa,seval,kL])
  exact hk _ _ _ _ z.av (v.bf (g.trans (aS.lay _ _ _ []) (by simp))) ((eB.refl _ _ _ _).bf (g.trans (aS.lay _ _ _ []) (by simp)))
 rw [az hm] at Af
 rw [Af]
 have hd:bn d i a=({ d with calls:=d.calls.set i { c with answers:=c.answers++[a] },count:=d.count+1 },true):=by
  unfold bn
  rw [js]
  exact az (λe=>e.elim (λe=>absurd (he.symm.trans e) (by decide)) (λe=>e.elim (λe=>e fo) (λe=>hm e)))
 rw [hd] at hk
 simp only [Option.getD_none,Df,if_true]
 simp only [aa,seval,kL]
 ((with_reducible refine ⟨z.cU.lay _ _,?_⟩);(intro _ h' zz x _);(simp only [bY,bC] at x);replace g:=g.over x;replace qc:=qc.over x;replace qt:=qt.over x;replace mt:=mt.over x;replace q0:=q0.over x;(replace z:=zz);(clear zz);rw [aw h'])
 repeat' (simp only [aa,seval,kL])
 obtain ⟨hp,zY⟩:∃ hp,hp=h':=⟨_,rfl⟩
 have g2:aS [] hp h':=by rw [zY];exact aS.refl [] h'
 have gp:aS [] hc hp:=by rw [zY];exact g
 have zp:Ext b hp:=by rw [zY];exact z
 clear g zY
 with_reducible first|refine ez (by simp only [kL]) z.av ?_
 simp only [aa,seval,kL,qc.lay,zsc,Yz,q0.lay,↓fe,dU,dq,HI,cX,dQ,MK]
 have v1:=v.bf gp
 have fC:=aq js
 have uT:=v1.lt (r:=.th i) fC
 have Au:=v1.lt (r:=.c i) fC
 have hp3:=v1.lt (r:=.t) trivial
 have m8:=v1.new _ (v1.own (.th i) fC)
 have iB:=v1.new _ (v1.own (.c i) fC)
 have Ca:=v1.new _ (v1.own .t trivial)
 have n1:y.pl (.c i)≠y.pl (.th i):=λe=>nomatch (v1.inj (.c i) (.th i) fC fC e)
 have n2:y.pl .t≠y.pl (.th i):=λe=>nomatch (v1.inj .t (.th i) trivial fC e)
 have n3:y.pl .t≠y.pl (.c i):=λe=>nomatch (v1.inj .t (.c i) trivial fC e)
 have hz:=z.size
 have pM:=zp.size
 have lg:=g2.size
 have hgp:=gp.size
 have hq1:=v.lt (r:=.th i) fC
 have Vj:=v.lt (r:=.c i) fC
 have Vk:=v.lt (r:=.t) trivial
 obtain ⟨h3,hu,m3,c3⟩:=zpQ (h:=h'.lay [] (h'.size+0)) (a:=a) (n:=(c.answers.length:Int)) (mt.over (Ext.refl _)) zF HD (by rw [M7,az hm])
 rw [hu]
 refine iL (A:=y.pl (.th i)) (by kernel_rfl) (by have:=z.size;rw [bh];omega) (by omega) c3 ?_
 have f2:aS [y.pl (.th i)] hp h3:=(g2.mono (by simp)).eV c3 (.inl (by simp))
 replace qt:=qt.br c3 n2
 replace qc:=qc.br c3 n1
 have q0l:=q0.lt
 replace q0:=q0.br c3 (by omega)
 replace z:=z.bV c3 m8 (by omega)
 clear mt g2
 rw [aw h3]
 simp only [cm,seval,kL]
 ((with_reducible refine ⟨z.cU.lay _ _,?_⟩);(intro _ h' zz x _);(simp only [bY,bC] at x);replace f2:=f2.over x;replace qc:=qc.over x;replace qt:=qt.over x;replace m3:=m3.over x;replace q0:=q0.over x;(replace z:=zz);(clear zz);rw [aw h'])
 repeat' (simp only [syms,seval,kL])
 with_reducible first|refine ez (by simp only [kL]) z.av ?_
 simp only [aa,seval,kL,qc.lay,Yz,q0.lay,↓fe,dU,dq,cX,zlv]
 have oR:dx aC.atom b hp 28 (y.pl (.an i)) (y.vl (.an i)) c.answers:=v1.dF (.an i) c js
 have hzn:=z.size
 have f2s:=f2.size
 have k0:c.answers≠[]->y.pl (.an i) < hp.size:=λaM=>v1.lt (r:=.an i) ⟨c,js,aM⟩
 have k1:c.answers≠[]->y.pl (.an i)≠y.pl .t:=λaM hh=>nomatch (v1.inj (.an i) .t ⟨c,js,aM⟩ trivial hh)
 have k2:c.answers≠[]->y.pl (.an i)≠y.pl (.c i):=λaM hh=>nomatch (v1.inj (.an i) (.c i) ⟨c,js,aM⟩ fC hh)
 have k3:c.answers≠[]->y.pl (.an i)≠y.pl (.th i):=λaM hh=>nomatch (v1.inj (.an i) (.th i) ⟨c,js,aM⟩ fC hh)
 have Ln:=oR.bf (λ_ _ _ _ h=>h) f2 (λaM hh=>k3 aM (ep.1 hh))
 obtain ⟨B,ob,hB⟩:=Ln.get
 have lS:(B=y.pl (.an i)/\c.answers≠[])\/h'.size<=B:=hB.imp id (λe=>by omega)
 have qT:=m3.lt
 have pG:=ob.fresh
 have JW:y.pl .t≠B:=lS.elim (λe hh=>k1 e.2 (by omega)) (λe=>by omega)
 have OI:y.pl (.c i)≠B:=lS.elim (λe hh=>k2 e.2 (by omega)) (λe=>by omega)
 have hBh:y.pl (.th i)≠B:=lS.elim (λe hh=>k3 e.2 (by omega)) (λe=>by omega)
 refine ni (by have:=z.size;omega) (by omega) ?_
 simp only [cm,seval,kL,jF,Q5]
 refine te (i:=0) (cs:=a.cells) (x:=a) bZ sV rfl (by decide) (by rfl) z.size ob rfl (by omega) (by omega) (λw3 h4 A3 jS eU jM=>?_)
 obtain ⟨a3,m3',tC,rfl⟩:=jS.slice
 refine iL (A:=B) (by kernel_rfl) (by have:=z.size;rw [bh];omega) (by omega) (by simpa only [bY,bh,bC,ek,db,gx] using eU) ?_
 have Pu:=qt.br eU JW
 have Pr:=qc.br eU OI
 have m4:b9 h4 (y.pl (.th i)) _:=(m3.over (Ext.refl (h'.lay [aZ.row a.cells 28 false] _))).step eU hBh
 have z4:=z.bV eU pG (by omega)
 have uW:=z4.size
 have f4:aS [y.pl (.th i),B] hp h4:=(f2.mono (by simp)).eV eU (.inl (by simp))
 clear z f2 qt qc m3
 have z:=z4
 rw [aw h4]
 simp only [aa,seval,kL]
 refine j4 (n:=1) (o:=11) (vs:=[.slice a3 m3' tC]) Pr (by kernel_rfl) rfl rfl (by rw [zAv];decide) rfl (λh5 q5 pZ=>?_)
 refine iL (A:=y.pl (.c i)) (by kernel_rfl) (by have:=z.size;rw [bh];omega) (by omega) pZ ?_
 have DT:y.pl (.c i)≠A3:=jM.elim (λe=>by rw [e];exact OI) (λe=>by omega)
 have o5:=Ow.eV (λ_ _ _ _ h=>h) (by simp) (jS.mono (bN.lay h4 [] _)) pZ DT
 have Pv:=Pu.br pZ n3
 have m5:b9 h5 (y.pl (.th i)) _:=(m4.over (Ext.refl (h4.lay [] _))).step pZ (Ne.symm n1)
 have f5:aS [y.pl (.th i),B,y.pl (.c i)] hp h5:=(f4.mono (λX hX=>by simp only [df,il,or_false] at hX ⊢;exact hX.elim .inl (λe=>.inr (.inl e)))).eV pZ (.inl (by simp))
 have GJ:(A3=y.pl (.an i)/\c.answers≠[])\/hp.size<=A3:=jM.elim (λe=>by rw [e];exact lS.imp id (λe=>by omega)) (λe=>.inr (by omega))
 have DU:y.pl .t≠A3:=jM.elim (λe=>by rw [e];exact JW) (λe=>by omega)
 have z5:=z4.bV pZ iB (by omega)
 rw [zu5] at q5
 clear z z4 f4 Pu Pr m4 jS
 have z:=z5
 rw [aw h5]
 simp only [cm,seval,kL]
 ((with_reducible refine ⟨z.cU.lay _ _,?_⟩);(intro _ h' zz x _);(simp only [bY,bC] at x);replace f5:=f5.over x;replace q5:=q5.over x;replace Pv:=Pv.over x;replace m5:=m5.over x;replace o5:=o5.over x;(replace z:=zz);(clear zz);rw [aw h'])
 repeat' (simp only [aa,seval,kL,Pv.lay])
 have hwc:IntKind.i64.wrap ((d.count:Int)+1)=((d.count+1:Nat):Int):=by rw [fZ (by omega) (by omega)];omega
 rw [hwc]
 have xi:=z.size
 refine j4 (n:=1) (o:=2) (vs:=[.int .i64 ((d.count+1:Nat):Int)]) Pv AX rfl rfl (by show 2+1<=3;omega) rfl (λh6 q6 vP=>?_)
 have o6:=Ow.eV (λ_ _ _ _ h=>h) (by simp) (o5.mono (bN.lay h' [] _)) vP DU
 have qc6:=q5.br vP (Ne.symm n3)
 have m6:b9 h6 (y.pl (.th i)) _:=(m5.over (Ext.refl (h'.lay [] _))).step vP (Ne.symm n2)
 have f6:aS [y.pl (.th i),B,y.pl (.c i),y.pl .t] hp h6:=(f5.mono (λX hX=>by simp only [df,il,or_false] at hX ⊢;exact hX.elim .inl (λe=>e.elim (λe=>.inr (.inl e)) (λe=>.inr (.inr (.inl e)))))).eV vP (.inl (by simp))
 obtain ⟨E',y',i1,i2⟩:=v1.answer pM js f6 (λX hX=>by
  simp only [df,il,or_false] at hX
  rcases hX with rfl|rfl|rfl|rfl
  .exact .inr (.inr (.inl rfl))
  .exact .inr (.inr (.inr (lS.imp id (λe=>by omega))))
  .exact .inr (.inl rfl)
  .exact .inl rfl) GJ (a:=a) (by rw [X4,iA];exact m6) o6 (by rw [zv1];exact qc6) q6
 replace z:=z.av.step vP Ca
 rw [aw h6]
 repeat' (simp only [aa,seval,kL])
 exact hk _ E' y' _ z.av (i1.bf (aS.lay _ _ _ _)) ((((eB.refl _ _ _ _).bf gp).trans i2 (aR _)).bf (aS.lay _ _ _ _))
end Go.Proofs.YtnkmeidmdaidhaaGreatDoor
