/- Walks: a state begins, an answer comes. Written out by fill2.py. No condition. -/
import Derived.Test.YtnkmeidmdaidhaaGreatDoorG34
import Derived.Test.YtnkmeidmdaidhaaGreatDoorGSolve7
set_option linter.unusedSimpArgs false
set_option linter.unusedVariables false
set_option maxRecDepth 100000
set_option maxHeartbeats 0
namespace Go.Proofs.YtnkmeidmdaidhaaGreatDoor
open Go.Am Tryz
variable {cd vf:ai} {E:List Nat} {b h:Heap}
theorem zEk:td aH 60 60=true:=by kernel_rfl
theorem iF {y:cO} {d:ba} (v:Am.Inv iD b E y cd vf d h):Holds h (y.pl .w) (.row [cd,vf,.int .i64 d.aE,.int .i64 (d.steps:Int),.pointer (some ⟨y.pl .t,0,none⟩),y.vl .sa,y.vl .qa,y.vl .ra,.map (some (y.pl .km))] 63 false):=v.dF .w
theorem Y9 {y:cO} {d:ba} (v:Am.Inv iD b E y cd vf d h) (K:aJ)
 (hk:∀ h',Ext h h'->K (.bool (decide (d.aE < (d.steps:Int)))) h'):Ok prog aH ov 31 [.pointer (some ⟨y.pl .w,0,none⟩)] h K:=by
 rw [aw h]
 have z:=Ext.refl h
 have qw:=iF v
 refine Ok.aA 11 (bH ZM) ?_
 repeat' (simp only [aa,seval,DG])
 with_reducible first|refine ez (by simp only [DG]) z.av ?_
 simp only [aa,seval,DG,qw.lay]
 refine tj (λhh=>?_) (λhh=>?_)
 .have UI:decide (d.aE < (d.steps:Int))=true:=hh
  rw [UI] at hk
  simp only [aa,seval,DG]
  ((with_reducible refine ⟨z.cU.lay _ _,?_⟩);(intro _ h' zz x _);(simp only [bY,bC] at x);replace qw:=qw.over x;(replace z:=zz);(clear zz);rw [aw h'])
  simp only [aa,seval,DG]
  exact hk _ z.av
 .have UI:decide (d.aE < (d.steps:Int))=false:=hh
  rw [UI] at hk
  simp only [aa,seval,DG]
  ((with_reducible refine ⟨z.cU.lay _ _,?_⟩);(intro _ h' zz x _);(simp only [bY,bC] at x);replace qw:=qw.over x;(replace z:=zz);(clear zz);rw [aw h'])
  simp only [aa,seval,DG]
  exact hk _ z.av
theorem zsD {hq hc:Heap} {y:cO} {d:ba} (zq:b.size<=hq.size) (z:Ext b hc) (v:Am.Inv iD b E y cd vf d hq) (g:aS [] hq hc) {s:dy} {As:Nat} {lv:ai} (qf:hq.size<=As) (qs:Holds hc As (.row (tc lv s) 101 false)) (hl:Sl aC.bind (bq E hq) lv s.l)
 (KD:d.steps<=1000000000) (An:d.queue.length<=10000000000000) (U8:d.ab.length<=100000000) (K:aJ)
 (hk:∀ h' E' y' u,As < h'.size->Ext b h'->Am.Inv iD b E' y' cd vf (jV d s) h'->eB d.ab.length E E' y y' hq h'->K u h'):Ok prog aH ov 61 [.pointer (some ⟨y.pl .w,0,none⟩),.pointer (some ⟨As,0,none⟩)] hc K:=by
 rw [aw hc]
 have qw:=(iF v).JK g
 have Pb:∀ (u:ai) (h:Heap) (K:aJ),aK (some u) h K=K u h:=λ_ _ _=>rfl
 have Cj:Sl aC.ptr hq (y.vl .sa) ((List.range d.ab.length).map λi=>y.pl (.s i)):=dx.sl (v.dF .sa) (by decide)
 have dQ:=λ(hh:Heap)=>Cj.bQ tE hh
 rw [gw,Gg] at dQ
 have uU:=v.lt (r:=.w) trivial
 have uV:=v.new _ (v.own .w trivial)
 have Pd:IntKind.i64.wrap ((d.steps:Int)+1)=((d.steps+1:Nat):Int):=by rw [fZ (by omega) (by omega)];omega
 have hz:=z.size
 have hg:=g.size
 refine Ok.aA 33 (bH Z7) ?_
 simp only [aa,seval,yi,qw.lay]
 rw [Pd]
 refine j4 (n:=1) (o:=3) (vs:=[.int .i64 ((d.steps+1:Nat):Int)]) qw AX rfl rfl (by show 3+1<=9;omega) rfl (λh2 q2 c2=>?_)
 have f1:aS [y.pl .w] hq h2:=(g.mono (by simp)).eV c2 (.inl (by simp))
 have ia:=qs.lt
 replace qs:=qs.br c2 (by omega)
 replace z:=z.av.step c2 uV
 have q2:Holds h2 (y.pl .w) (.row [cd,vf,.int .i64 d.aE,.int .i64 ((d.steps+1:Nat):Int),.pointer (some ⟨y.pl .t,0,none⟩),y.vl .sa,y.vl .qa,y.vl .ra,.map (some (y.pl .km))] 63 false):=q2
 clear qw g
 rw [aw h2]
 repeat' (simp only [aa,seval,yi])
 with_reducible first|refine ez (by simp only [yi]) z.av ?_
 simp only [aa,seval,yi,q2.lay,Pb,dQ]
 have lg:=z.size
 have f1s:=f1.size
 have oq:dx aC.nat b hq 3 (y.pl .qa) (y.vl .qa) d.queue:=v.dF .qa
 have os:dx aC.ptr b hq 99 (y.pl .sa) (y.vl .sa) ((List.range d.ab.length).map λi=>y.pl (.s i)):=v.dF .sa
 have k0:d.queue≠[]->y.pl .qa < hq.size:=λaM=>v.lt (r:=.qa) aM
 have k1:d.queue≠[]->y.pl .qa≠y.pl .w:=λaM hh=>nomatch (v.inj .qa .w aM trivial hh)
 have j0:d.ab≠[]->y.pl .sa < hq.size:=λaM=>v.lt (r:=.sa) aM
 have j1:d.ab≠[]->y.pl .sa≠y.pl .w:=λaM hh=>nomatch (v.inj .sa .w aM trivial hh)
 have j2:d.ab≠[]->d.queue≠[]->y.pl .sa≠y.pl .qa:=λaM tW hh=>nomatch (v.inj .sa .qa aM tW hh)
 have pe:((List.range d.ab.length).map λi=>y.pl (.s i)).length=d.ab.length:=by rw [gw,Gg]
 have hle:((List.range d.ab.length).map λi=>y.pl (.s i))=[]↔d.ab=[]:=⟨λe=>by rw [e] at pe;exact Nc pe.symm,λe=>by rw [e];rfl⟩
 have oq2:=oq.bf (λ_ _ _ _ h=>h) f1 (λaM hh=>k1 aM (ep.1 hh))
 obtain ⟨B1,ob1,zJ⟩:=oq2.get
 have vU:(B1=y.pl .qa/\d.queue≠[])\/h2.size<=B1:=zJ.imp id (λe=>by omega)
 have ak2:=q2.lt
 have ala:=qs.lt
 have TT:=ob1.fresh
 have JR:y.pl .w≠B1:=vU.elim (λe hh=>k1 e.2 (by omega)) (λe=>by omega)
 have JQ:As≠B1:=vU.elim (λe=>by have:=k0 e.2;omega) (λe=>by omega)
 refine ni (by have:=z.size;omega) (by omega) ?_
 simp only [cm,seval,yi,jF,Og]
 refine te (i:=0) (cs:=[.int .i64 (d.ab.length:Int)]) (x:=d.ab.length) kb CW rfl (by decide) (by rfl) z.size ob1 rfl (by omega) (by omega) (λw3 h3 A1 jS eU jM=>?_)
 obtain ⟨a3,m3,tC,rfl⟩:=jS.slice
 refine iL (A:=B1) (by kernel_rfl) (by have:=z.size;rw [bh];omega) (by omega) (by simpa only [bY,bh,bC,ek,db,gx] using eU) ?_
 have q3:=q2.br eU JR
 have qs3:=qs.br eU JQ
 have z3:=z.bV eU TT (by omega)
 have AF:=z3.size
 have f3:aS [y.pl .w,B1] hq h3:=(f1.mono (by simp)).eV eU (.inl (by simp))
 have JP:y.pl .w≠A1:=jM.elim (λe=>by rw [e];exact JR) (λe=>by omega)
 have TD:As≠A1:=jM.elim (λe=>by rw [e];exact JQ) (λe=>by omega)
 have nR:(A1=y.pl .qa/\d.queue≠[])\/hq.size<=A1:=jM.elim (λe=>by rw [e];exact vU.imp id (λe=>by omega)) (λe=>.inr (by omega))
 have ajy:=jS.Wj (by simp)
 clear z f1 q2 qs
 have z:=z3
 rw [aw h3]
 simp only [aa,seval,yi]
 refine j4 (n:=1) (o:=6) (vs:=[.slice a3 m3 tC]) q3 (by kernel_rfl) rfl rfl (by show 6+1<=9;omega) rfl (λh4 q4 lC=>?_)
 refine iL (A:=y.pl .w) (by kernel_rfl) (by have:=z.size;rw [bh];omega) (by omega) lC ?_
 have Ps:=qs3.br lC (by omega)
 have o4:=Ow.eV (λ_ _ _ _ h=>h) (by simp) (jS.mono (bN.lay h3 [] _)) lC JP
 have f4:aS [y.pl .w,B1] hq h4:=f3.eV lC (.inl (by simp))
 have z4:=z3.bV lC uV (by omega)
 have uW:=z4.size
 have q4:Holds h4 (y.pl .w) (.row [cd,vf,.int .i64 d.aE,.int .i64 ((d.steps+1:Nat):Int),.pointer (some ⟨y.pl .t,0,none⟩),y.vl .sa,.slice a3 m3 tC,y.vl .ra,.map (some (y.pl .km))] 63 false):=q4
 have h34:h3.size<=h4.size:=lC.size
 clear z z3 f3 q3 qs3 jS
 have z:=z4
 rw [aw h4]
 simp only [cm,seval,yi]
 ((with_reducible refine ⟨z.cU.lay _ _,?_⟩);(intro _ h' zz x _);(simp only [bY,bC] at x);replace f4:=f4.over x;replace q4:=q4.over x;replace Ps:=Ps.over x;replace o4:=o4.over x;(replace z:=zz);(clear zz);rw [aw h'])
 repeat' (simp only [aa,seval,yi,q4.lay,Pb,jF,zEk])
 have ajz:=o4.Wj (by simp)
 have rQ:=z.size
 have f4s:=f4.size
 have ak9:=Ps.lt
 have ald:=q4.lt
 have os2:=os.bf (λ_ _ _ _ h=>h) f4 (λaM hh=>by
  have aM:=λe=>aM (hle.2 e)
  simp only [df,il,or_false] at hh
  rcases hh with hh|hh
  .exact j1 aM hh
  .exact vU.elim (λe=>j2 aM e.2 (hh.trans e.1)) (λe=>by have:=j0 aM;omega))
 obtain ⟨B2,ob2,tF⟩:=os2.get
 have vV:(B2=y.pl .sa/\d.ab≠[])\/h'.size<=B2:=tF.imp (λe=>⟨e.1,λh=>e.2 (hle.2 h)⟩) (λe=>by omega)
 have TU:=ob2.fresh
 have JU:y.pl .w≠B2:=vV.elim (λe hh=>j1 e.2 (by omega)) (λe=>by omega)
 have JT:As≠B2:=vV.elim (λe=>by have:=j0 e.2;omega) (λe=>by omega)
 have JS:A1≠B2:=vV.elim (λe hh=>nR.elim (λe2=>j2 e.2 e2.2 (by omega)) (λe2=>by have:=j0 e.2;omega)) (λe=>by omega)
 refine te (i:=0) (cs:=[.pointer (some ⟨As,0,none⟩)]) (x:=As) tE zlS rfl (by decide) (by rfl) z.size ob2 rfl (by rw [pe];omega) (by rw [pe];omega) (λw6 h6 A2 ow6 vP OH=>?_)
 obtain ⟨a6,m6,c6,rfl⟩:=ow6.slice
 have q6:=q4.br vP JU
 have qs6:=Ps.br vP JT
 have o6:=Ow.eV (λ_ _ _ _ h=>h) (by simp) (o4.mono (bN.lay h' _ _)) vP (Ne.symm JS)
 have z6:=z.av.step vP TU
 have xi:=z6.size
 have f6:aS [y.pl .w,B1,B2] hq h6:=(f4.mono (λX hX=>by simp only [df,il,or_false] at hX ⊢;exact hX.elim .inl (λe=>.inr (.inl e)))).eV vP (.inl (by simp))
 have TH:y.pl .w≠A2:=OH.elim (λe=>by rw [e];exact JU) (λe=>by omega)
 have TG:As≠A2:=OH.elim (λe=>by rw [e];exact JT) (λe=>by omega)
 have TF:A1≠A2:=OH.elim (λe=>by rw [e];exact JS) (λe=>by omega)
 have TE:(A2=y.pl .sa/\d.ab≠[])\/hq.size<=A2:=OH.elim (λe=>by rw [e];exact vV.imp id (λe=>by omega)) (λe=>.inr (by omega))
 rw [aw h6]
 repeat' (simp only [aa,seval,yi])
 refine j4 (n:=1) (o:=5) (vs:=[.slice a6 m6 c6]) q6 WI rfl rfl (by show 5+1<=9;omega) rfl (λh7 q7 pF=>?_)
 have o7:=Ow.eV (λ_ _ _ _ h=>h) (by simp) (ow6.mono (bN.lay h6 [] _)) pF TH
 have o71:=Ow.eV (λ_ _ _ _ h=>h) (by simp) (o6.mono (bN.lay h6 [] _)) pF JP
 have Lw:=qs6.br pF (by omega)
 have f7:aS [y.pl .w,B1,B2] hq h7:=f6.eV pF (.inl (by simp))
 obtain ⟨E',y',i1,i2⟩:=v.Dw zq f7 (λX hX=>by
  simp only [df,il,or_false] at hX
  rcases hX with rfl|rfl|rfl
  .exact .inl rfl
  .exact .inr (vU.elim (λe=>.inl e) (λe=>.inr (.inr (by omega))))
  .exact .inr (.inr (vV.imp id (λe=>by omega)))) nR TE qf TG TD TF o71 o7 Lw hl q7
 replace z:=z6.av.step pF uV
 rw [aw h7]
 simp only [aa,seval,yi]
 exact hk _ E' y' _ (dr Lw.lt (by rw [bh];exact Ih _ _)) z.av (i1.bf (aS.lay _ _ _ _)) (i2.bf (aS.lay _ _ _ _))
theorem YR (a:ae) (u w:ai):cut (a.cells++[u,w]) 0 11=some a.cells:=rfl
theorem zov (a:ae) (u w:ai):cut (a.cells++[u,w]) 0 13=some (a.cells++[u,w]):=rfl
theorem zBV {a:ae} {n:Int} {w:ai} (h:Am.one w=true):(a.cells++[.int .i64 n,w]).all Am.one=true:=by
 have h1:a.cells.all Am.one=true:=rfl
 rw [Dn,h1,Bool.true_and]
 simp only [gS,iI,h,Gv]
 rfl
theorem zz6:aH.zero 123=some (.agg ⟨[]⟩):=by kernel_rfl
theorem zEl:td aH 38 38=true:=by kernel_rfl
theorem zti (k:IntKind) (n:Int) (h:Heap) (K:aJ):aK (some (.int k n)) h K=K (.int k n) h:=rfl
theorem ztj (p:Option Addr) (h:Heap) (K:aJ):aK (some (.pointer p)) h K=K (.pointer p) h:=rfl
theorem MO {T:bJ} {t u:TypeId} {hh:Heap} {n w:Nat} {cs vs:List ai} {v:ai} (hs:dJ T t=some n) (hv:v.cells.toList=vs) (hl:vs.length=n) (hc:cs.length=n) (bU:vs.all Am.one=true) :
 i7 T t (.pointer (some ⟨hh.size+0,0,none⟩)) v (hh.lay [.row cs u false] w)=some (hh.lay [.row vs u false] (min w (hh.size+0))):=by
 have hg:(hh.lay [.row cs u false] w).get (hh.size+0)=some (.row cs u false):=by rw [jG];rfl
 have dS:v.cells.size=n:=by rw [<- hl,<- hv];simp
 unfold i7
 simp only [hs,dO]
 rw [aD dS,hv]
 unfold nM
 rw [hg]
 simp only
 rw [aD (by simp only [dK,jm];exact ⟨by omega,bU⟩),HV _ _ _ _ _ (by simp)]
 rw [zlP,Dp,ya,C6 (by omega),bC]
 rfl
theorem NG {vb:Nat->ai}:∀ {k:Nat} {l:List bc},(oD vb k l).length=l.length
 |_,[]=>rfl
 |_,_::_=>by rw [oD,ek,NG,ek]
theorem zAZ:lL aH 123 []=some (.agg ⟨[]⟩):=by kernel_rfl
theorem zyS (a:ae) (u w z0 z1 z2 z3 z4 z5 z6 z7 z8 z9 xG My z12:ai):pA (λi=>some (i*13,13)) [z0,z1,z2,z3,z4,z5,z6,z7,z8,z9,xG,My,z12] [(0,Value.agg (a.cells++[u,w]).toArray)]=some (a.cells++[u,w]):=rfl
theorem zr7 {T:bJ} {t e:TypeId} {k bytes:Nat} {z:List ai} {a:Option Addr} {n c:Nat} {x:ai} {news:List ai} (hd:T.desc t=some (.slice e)) (hi:T.info e=some (k,bytes,z)) (hs:fU x k h=some (0,news)):jT T t (.slice a n c) x h=some (.slice a n c,h):=by
 unfold jT
 simp only [hd,hi,hs,dO]
 simp
theorem zo1 {hc:Heap} {y:cO} {d:ba} (dD:bl 1 b) (z:Ext b hc) (v:Am.Inv iD b E y cd vf d hc) {i:Nat} {c:aY} (js:d.calls[i]? = some c) {r:bc} {bv:ai} (hl:Sl aC.atom (bq E hc) bv r.body)
 (KD:d.steps<=1000000000) (An:d.queue.length<=10000000000000) (U8:d.calls.length<=10000000) (Ck:c.answers.length<=10000000) (hn5:d.count<=1000000000) (hn6:c.waiters.length<=10000000) (hn7:d.aF.length<=10000000) (K:aJ)
 (hk:∀ h' E' y' u,Ext b h'->Am.Inv iD b E' y' cd vf (gA d i r) h'->eB d.ab.length E E' y y' hc h'->K u h'):Ok prog aH ov 59 [.pointer (some ⟨y.pl .w,0,none⟩),.int .i64 (i:Int),.agg ⟨r.atom.cells++[.int .i64 r.clause,bv]⟩] hc K:=by
 rw [aw hc]
 have g:=aS.refl [] hc
 have qw:=iF v
 have hob:Am.one bv=true:=hl.one
 have aB:=zBV (a:=r.atom) (n:=r.clause) hob
 refine Ok.aA 70 (bH Z5) ?_
 repeat' (simp only [aa,seval,fQ])
 refine uB (λh' x hq=>?_)
 have q0:=hq 0 _ rfl
 clear hq
 (replace z:=z.ao x;replace g:=g.over x;replace qw:=qw.over x;rw [aw h'])
 obtain ⟨A0,fI⟩:∃ A0,A0=hc.size+0:=⟨_,rfl⟩
 rw [<- fI] at q0
 rw [<- fI]
 have hz:=z.size
 with_reducible first|refine ez (by simp only [fQ]) z.av ?_
 simp only [aa,seval,fQ,qw.lay,q0.lay,↓YR,dU,dq]
 refine zCZ dD z.av ((v.bf g).bf (aS.lay _ _ _ _)) js r.atom (by omega) (by omega) (by omega) _ (λh2 E1 y1 e1 z2 v2 s2=>?_)
 have hAE:A0 ∉ E:=λhh=>by have:=v.eF _ hh;omega
 have eQ:=s2.size
 rw [bh] at eQ
 simp only [db,gx] at eQ
 refine Hf (by kernel_rfl) z2.low (by rw [bh];simp only [db];omega) ?_
 obtain ⟨G8,TP⟩:=s2.box (q0.on _ _) hAE
 have oC:=iF v2
 rw [<- s2.w,<- s2.t]
 have G9:=((eB.refl d.ab.length E y hc).bf (g.trans (aS.lay _ _ _ []) (by simp))).trans s2 (aR _)
 clear z q0 qw g
 have z:=z2
 have g:=aS.refl [] h2
 rw [aw h2]
 cases hf:(bn d i r.atom).2
 .have hd:gA d i r=(bn d i r.atom).1:=by unfold gA;rw [hf];rfl
  rw [hd] at hk
  simp only [aa,seval,fQ]
  ((with_reducible refine ⟨z.cU.lay _ _,?_⟩);(intro _ h' zz x _);(simp only [bY,bC] at x);replace g:=g.over x;replace G8:=G8.over x;replace oC:=oC.over x;(replace z:=zz);(clear zz);rw [aw h'])
  repeat' (first|simp only [aa,seval,fQ]|((with_reducible apply cf);(· rfl)))
  exact hk _ E1 y1 _ z.av (v2.bf (g.trans (aS.lay _ _ _ []) (by simp))) (G9.bf (g.trans (aS.lay _ _ _ []) (by simp)))
 have hd:gA d i r=r6 (mc { (bn d i r.atom).1 with steps:=d.steps+1 } r) i:=by unfold gA;rw [hf];rfl
 obtain ⟨cZ,Vm,ot,EI,Kr,OP,jt⟩:=Hw d i r.atom
 obtain ⟨c1,D5,Cd,_⟩:=znY js r.atom
 obtain ⟨d1,jh⟩:∃ d1,d1=(bn d i r.atom).1:=⟨_,rfl⟩
 rw [<- jh] at cZ Vm ot EI Kr OP jt D5 oC v2 hd
 rw [cZ] at oC
 simp only [aa,seval,fQ]
 ((with_reducible refine ⟨z.cU.lay _ _,?_⟩);(intro _ h' zz x _);(simp only [bY,bC] at x);replace g:=g.over x;replace G8:=G8.over x;replace oC:=oC.over x;(replace z:=zz);(clear zz);rw [aw h'])
 simp only [aa,seval,fQ]
 repeat' (((with_reducible apply cf);(· rfl)) <;> simp only [aa,seval,fQ,oC.lay])
 have Pd:IntKind.i64.wrap ((d.steps:Int)+1)=((d.steps+1:Nat):Int):=by rw [fZ (by omega) (by omega)];omega
 rw [Pd]
 have Py:=v2.bf g
 have uU:=Py.new _ (Py.own .w trivial)
 refine j4 (n:=1) (o:=3) (vs:=[.int .i64 ((d.steps+1:Nat):Int)]) oC AX rfl rfl (by show 3+1<=9;omega) rfl (λh3 q3 c3=>?_)
 have lg:=z.size
 obtain ⟨E2,v3,s3⟩:=Py.steps lg (d.steps+1) ((aS.refl _ _).eV c3 (.inl (by simp))) q3
 have z3:=z.av.step c3 uU
 obtain ⟨CB,TQ⟩:=s3.box G8 TP
 have Wx:=(G9.bf g).trans s3 (by rw [ot];exact aR _)
 have xA:=iF v3
 have mk:fh h3 (y1.pl .km) d1.known:=v3.dF .km
 clear z G8 oC g G9 Py
 have z:=z3
 have g:=aS.refl [] h3
 rw [aw h3]
 repeat' (simp only [aa,seval,fQ])
 with_reducible first|refine ez (by simp only [fQ]) z.av ?_
 simp only [aa,seval,fQ,xA.lay,CB.lay,↓YR,dU,dq,HI,Ni]
 refine zq5 mk Jz HD zz6 ?_
 by_cases hm:r.atom∈d1.known
 .rw [sk hm]
  simp only [aa,seval,fQ]
  refine ni (by have:=z.size;omega) (by omega) ?_
  simp only [aa,seval,fQ]
  rw [MO (n:=0) (v:=.agg ⟨[]⟩) (vs:=[]) (by kernel_rfl) rfl rfl rfl rfl]
  simp only [syms,seval]
  refine Fv (by kernel_rfl) (by simp) (by have:=z.size;omega) ?_
  simp only [aa,seval,fQ]
  ((with_reducible refine ⟨z.cU.lay _ _,?_⟩);(intro _ h' zz x _);(simp only [bY,bC] at x);replace g:=g.over x;replace CB:=CB.over x;replace xA:=xA.over x;replace mk:=mk.over x;(replace z:=zz);(clear zz);rw [aw h'])
  repeat' (first|simp only [aa,seval,fQ]|((with_reducible apply cf);(· rfl)))
  obtain ⟨dT,kP⟩:∃ dT,dT={ d1 with steps:=d.steps+1 }:=⟨_,rfl⟩
  have Ke:gA d i r=r6 dT i:=by rw [hd,kP,jh];unfold mc;rw [aD (by rw [<- jh];exact hm)]
  have rG:dT.calls[i]? = some c1:=by rw [kP];exact D5
  have D7:dT.calls.length=d.calls.length:=by rw [kP];exact jt
  have wV:dT.queue=d.queue:=by rw [kP];exact Vm
  have w9:dT.ab=d.ab:=by rw [kP];exact ot
  rw [<- kP] at v3
  have v5:=v3.bf g
  have lY:=iF v5
  have xg:=v5.new _ (v5.own .w trivial)
  have VO:=v5.lt (r:=.w) trivial
  have rQ:=z.size
  have Ew:dT.calls.length<=100000000:=by rw [D7];omega
  have cX:∀ (u:ai) (h:Heap) (K:aJ),aK (some u) h K=K u h:=λ_ _ _=>rfl
  obtain ⟨h5,Ei⟩:∃ h5,h5=h':=⟨_,rfl⟩
  have g5:aS [] h5 h':=by rw [Ei];exact aS.refl [] h'
  have gT:=g
  rw [<- Ei] at v5 VO rQ gT
  clear Ei
  with_reducible first|refine ez (by simp only [fQ]) z.av ?_
  simp only [aa,seval,fQ,lY.lay,cX]
  refine zlD ((v5.bf g5).bf (aS.lay _ _ _ _)) rG Ew (by rw [Cd];omega) _ (λh' w A x ow=>?_)
  have g6:=g5
  (((with_reducible refine ix ?_ ?_ ?_);(· exact (by (simp only [iY]);have:=z.size;omega));(· exact x));replace z:=z.ao x;replace g5:=g5.over x;replace lY:=lY.over x;rw [aw h'])
  replace ow:=Ow.low (h0:=h5) (by rw [bh];have:=g6.size;omega) ow
  simp only [cm,seval,fQ,jF,Og]
  have Wm:dx aC.nat b h5 3 (y1.pl .qa) (y1.vl .qa) dT.queue:=v5.dF .qa
  have Wn:=Wm.bf (λ_ _ _ _ h=>h) g5 (λ_ hh=>nomatch hh)
  obtain ⟨B,ob,hB⟩:=Wn.get
  have xi:=z.size
  have g5s:=g5.size
  have lS:(B=y1.pl .qa/\dT.queue≠[])\/h'.size<=B:=hB.imp id (λe=>by omega)
  have k0:dT.queue≠[]->y1.pl .qa < h5.size:=λaM=>v5.lt (r:=.qa) aM
  have k1:dT.queue≠[]->y1.pl .qa≠y1.pl .w:=λaM hh=>nomatch (v5.inj .qa .w aM trivial hh)
  have pG:=ob.fresh
  have B4:y1.pl .w≠B:=lS.elim (λe hh=>k1 e.2 (by omega)) (λe=>by omega)
  have hqw:=lY.lt
  obtain ⟨news,hs,j3⟩:=xR (A:=B) (r:=aC.nat) (by decide) ((ow.sl (by decide)).lay [] (h'.size+0)) (λcs y hr=>hr)
  by_cases AA:c1.waiters=[]
  .have zO:r6 dT i=dT:=by unfold r6;rw [rG,lu,zh,AA,bC]
   rw [Ke,zO] at hk
   rw [AA] at hs
   obtain ⟨qa,qn,qc,KJ⟩:=ob.slice
   rw [KJ]
   rw [zr7 kb CW hs]
   simp only [syms,seval]
   refine ni (by have:=z.size;omega) (by omega) ?_
   simp only [aa,seval,fQ]
   refine j4 (n:=1) (o:=6) (vs:=[.slice qa qn qc]) lY (by kernel_rfl) rfl rfl (by show 6+1<=9;omega) rfl (λh7 q7 pF=>?_)
   refine iL (A:=y1.pl .w) (by kernel_rfl) (by have:=z.size;rw [bh];omega) (by omega) (by simpa only [bY,bh,bC,db,gx] using pF) ?_
   have f7:aS [y1.pl .w] h5 h7:=(g5.mono (by simp)).eV pF (.inl (by simp))
   obtain ⟨E7,v7,s7⟩:=v5.steps rQ dT.steps f7 (by unfold Dd;rw [KJ];exact q7)
   replace z:=z.bV pF xg (by omega)
   have g:=aS.refl [] h7
   clear g5 g6 lY ow
   rw [aw h7]
   simp only [cm,seval,fQ]
   ((with_reducible refine ⟨z.cU.lay _ _,?_⟩);(intro _ h' zz x _);(simp only [bY,bC] at x);replace g:=g.over x;(replace z:=zz);(clear zz);rw [aw h'])
   simp only [seval,fQ]
   exact hk _ E7 y1 _ z.av (v7.bf (g.trans (aS.lay _ _ _ []) (by simp))) (((Wx.bf gT).trans s7 (by rw [w9];exact aR _)).bf (g.trans (aS.lay _ _ _ []) (by simp)))
  have zO:r6 dT i={ dT with queue:=dT.queue++c1.waiters }:=by unfold r6;rw [rG];rfl
  rw [Ke,zO] at hk
  obtain ⟨w',h7,A7,p1,p2,p3,p4,p5⟩:=sb (t:=61) kb CW rfl (by decide) (by rw [bh];omega) (ob.mono (bN.lay _ _ _)) hs j3 (by rw [wV,Cd];omega) (by rw [wV,Cd];omega)
  rw [p1]
  simp only [syms,seval]
  refine iL (A:=B) (by kernel_rfl) (by have:=z.size;rw [bh];omega) (by omega) (by simpa only [bY,bh,bC,db,gx] using p3) ?_
  rw [bh] at p4
  simp only [db,gx] at p4
  have Lx:=lY.br p3 B4
  have f7:aS [B] h5 h7:=(g5.mono (by simp)).eV p3 (.inl (by simp))
  have z7:=z.bV p3 pG (by omega)
  have hz7:=z7.size
  have vT:y1.pl .w≠A7:=p4.elim (λe=>by rw [e];exact B4) (λe=>by omega)
  have GK:(A7=y1.pl .qa/\dT.queue≠[])\/h5.size<=A7:=p4.elim (λe=>by rw [e];exact lS.imp id (λe=>by omega)) (λe=>.inr (by omega))
  have wM:dT.queue++c1.waiters≠[]:=λe=>AA (List.append_eq_nil_iff.1 e).2
  obtain ⟨ua,un,uc,rfl⟩:=p2.slice
  clear z lY ow g6
  have z:=z7
  rw [aw h7]
  simp only [aa,seval,fQ]
  refine j4 (n:=1) (o:=6) (vs:=[.slice ua un uc]) Lx (by kernel_rfl) rfl rfl (by show 6+1<=9;omega) rfl (λh8 q8 kB=>?_)
  refine iL (A:=y1.pl .w) (by kernel_rfl) (by have:=z.size;rw [bh];omega) (by omega) kB ?_
  have o8:=Ow.eV (λ_ _ _ _ h=>h) wM (p2.mono (bN.lay h7 [] _)) kB vT
  have f8:aS [B,y1.pl .w] h5 h8:=(f7.mono (by simp)).eV kB (.inl (by simp))
  obtain ⟨E8,y8,v8,s8⟩:=v5.queue rQ wM f8 (λX hX=>by
   simp only [df,il,or_false] at hX
   rcases hX with rfl|rfl
   .exact .inr (lS.imp id (λe=>by omega))
   .exact .inl rfl) GK o8 q8
  replace z:=z7.bV kB xg (by omega)
  have g:=aS.refl [] h8
  clear g5
  rw [aw h8]
  simp only [cm,seval,fQ]
  ((with_reducible refine ⟨z.cU.lay _ _,?_⟩);(intro _ h' zz x _);(simp only [bY,bC] at x);replace g:=g.over x;(replace z:=zz);(clear zz);rw [aw h'])
  simp only [seval,fQ]
  exact hk _ E8 y8 _ z.av (v8.bf (g.trans (aS.lay _ _ _ []) (by simp))) (((Wx.bf gT).trans s8 (by rw [w9];exact aR _)).bf (g.trans (aS.lay _ _ _ []) (by simp)))
 rw [tn hm]
 simp only [aa,seval,fQ]
 refine ni (by have:=z.size;omega) (by omega) ?_
 simp only [aa,seval,fQ]
 rw [MO (n:=0) (v:=.agg ⟨[]⟩) (vs:=[]) (by kernel_rfl) rfl rfl rfl rfl]
 simp only [syms,seval]
 refine Fv (by kernel_rfl) (by simp) (by have:=z.size;omega) ?_
 simp only [aa,seval,fQ]
 ((with_reducible refine ⟨z.cU.lay _ _,?_⟩);(intro _ h' zz x _);(simp only [bY,bC] at x);replace g:=g.over x;replace CB:=CB.over x;replace xA:=xA.over x;replace mk:=mk.over x;(replace z:=zz);(clear zz);rw [aw h'])
 repeat' (first|simp only [aa,seval,fQ]|((with_reducible apply cf);(· rfl)))
 have v4:=v3.bf g
 have Ls:=CB
 have s4:=Wx.bf g
 have uW:=z.size
 have O3:=v4.new _ (v4.own .km trivial)
 have jY:=v4.lt (r:=.km) trivial
 obtain ⟨h4,UJ⟩:∃ h4,h4=h':=⟨_,rfl⟩
 have g4:aS [] h4 h':=by rw [UJ];exact aS.refl [] h'
 rw [<- UJ] at v4 uW s4 jY Ls
 clear UJ g
 with_reducible first|refine ez (by simp only [fQ]) z.av ?_
 simp only [aa,seval,fQ,xA.lay,CB.lay,↓YR,dU,dq,HI,zAZ,MK]
 have g4s:=g4.size
 obtain ⟨h5,hu,m5,c5⟩:=zrP (h:=h'.lay [] (h'.size+0)) (a:=r.atom) (mk.over (Ext.refl _)) Jz HD hm
 rw [hu]
 refine iL (A:=y1.pl .km) (by kernel_rfl) (by have:=z.size;rw [bh];omega) (by omega) c5 ?_
 obtain ⟨E5,v5,s5⟩:=v4.known uW ((g4.mono (by simp)).eV c5 (.inl (by simp))) m5
 have xj:=z.size
 have z5:=z.bV c5 O3 (by omega)
 obtain ⟨Wt,ajE⟩:=s5.box Ls TQ
 have lY:=iF v5
 have cX:∀ (u:ai) (h:Heap) (K:aJ),aK (some u) h K=K u h:=λ_ _ _=>rfl
 clear z CB xA g4 mk
 have z:=z5
 have g:=aS.refl [] h5
 rw [aw h5]
 simp only [cm,seval,fQ]
 ((with_reducible refine ⟨z.cU.lay _ _,?_⟩);(intro _ h' zz x _);(simp only [bY,bC] at x);replace g:=g.over x;replace Wt:=Wt.over x;replace lY:=lY.over x;(replace z:=zz);(clear zz);rw [aw h'])
 repeat' (simp only [syms,seval])
 have v6:=v5.bf g
 have s6:=(s4.trans s5 (by rw [show ({ d1 with steps:=d.steps+1 }:ba).ab=d.ab from ot];exact aR _)).bf g
 have xi:=z.size
 have VS:=v6.new _ (v6.own .w trivial)
 have VW:=v6.lt (r:=.w) trivial
 obtain ⟨h6,UK⟩:∃ h6,h6=h':=⟨_,rfl⟩
 have g6:aS [] h6 h':=by rw [UK];exact aS.refl [] h'
 rw [<- UK] at v6 xi s6 VW
 clear UK g
 with_reducible first|refine ez (by simp only [fQ]) z.av ?_
 simp only [aa,seval,fQ,lY.lay,Wt.lay,↓zov,cX,zyS]
 have oR:dx aC.rv b h6 71 (y1.pl .ra) (y1.vl .ra) (oD y1.vb 0 d1.aF):=v6.dF .ra
 have Ln:=oR.bf (λ_ _ _ _ h=>h) g6 (λ_ hh=>nomatch hh)
 obtain ⟨B,ob,hB⟩:=Ln.get
 have hz7:=z.size
 have g6s:=g6.size
 have O9:(oD y1.vb 0 d1.aF).length=d.aF.length:=by rw [NG,EI]
 have lS:(B=y1.pl .ra/\d1.aF≠[])\/h'.size<=B:=hB.imp (λe=>⟨e.1,λh=>e.2 (px.2 h)⟩) (λe=>by omega)
 have k0:d1.aF≠[]->y1.pl .ra < h6.size:=λaM=>v6.lt (r:=.ra) aM
 have k1:d1.aF≠[]->y1.pl .ra≠y1.pl .w:=λaM hh=>nomatch (v6.inj .ra .w aM trivial hh)
 have pG:=ob.fresh
 have B4:y1.pl .w≠B:=lS.elim (λe hh=>k1 e.2 (by omega)) (λe=>by omega)
 have hqw:=lY.lt
 refine ni (by have:=z.size;omega) (by omega) ?_
 simp only [cm,seval,fQ,jF,zEl]
 refine te (i:=0) (cs:=r.atom.cells++[.int .i64 r.clause,bv]) (x:=(r.atom,r.clause,bv)) zE XK rfl (by decide) (by rfl) z.size ob ⟨rfl,hob⟩ (by rw [O9];omega) (by rw [O9];omega) (λw7 h7 A7 ow7 pF GK=>?_)
 obtain ⟨ua,un,uc,rfl⟩:=ow7.slice
 refine iL (A:=B) (by kernel_rfl) (by have:=z.size;rw [bh];omega) (by omega) (by simpa only [bY,bh,bC,ek,db,gx] using pF) ?_
 have Lx:=lY.br pF B4
 have f7:aS [B] h6 h7:=(g6.mono (by simp)).eV pF (.inl (by simp))
 have z7:=z.bV pF pG (by omega)
 have hz8:=z7.size
 have vT:y1.pl .w≠A7:=GK.elim (λe=>by rw [e];exact B4) (λe=>by omega)
 have TM:(A7=y1.pl .ra/\d1.aF≠[])\/h6.size<=A7:=GK.elim (λe=>by rw [e];exact lS.imp id (λe=>by omega)) (λe=>.inr (by omega))
 clear z lY
 have z:=z7
 rw [aw h7]
 simp only [aa,seval,fQ]
 refine j4 (n:=1) (o:=7) (vs:=[.slice ua un uc]) Lx (by kernel_rfl) rfl rfl (by show 7+1<=9;omega) rfl (λh8 q8 kB=>?_)
 refine iL (A:=y1.pl .w) (by kernel_rfl) (by have:=z.size;rw [bh];omega) (by omega) kB ?_
 have o8:=Ow.eV (λ_ _ _ _ h=>h) (by simp) (ow7.mono (bN.lay h7 [] _)) kB vT
 have f8:aS [B,y1.pl .w] h6 h8:=(f7.mono (by simp)).eV kB (.inl (by simp))
 obtain ⟨E8,y8,v8,s8⟩:=v6.reason xi (r:=r) (bv:=bv) f8 (λX hX=>by
  simp only [df,il,or_false] at hX
  rcases hX with rfl|rfl
  .exact .inr (lS.imp id (λe=>by omega))
  .exact .inl rfl) TM o8 (hl.mono s6.inc) q8
 replace z:=z7.bV kB VS (by omega)
 have s8':=s6.trans s8 (by rw [show ({ d1 with steps:=d.steps+1,known:=r.atom::d1.known }:ba).ab=d.ab from ot];exact aR _)
 have g:=aS.refl [] h8
 clear g6
 rw [aw h8]
 rw [<- s8.w,<- s8.t]
 simp only [cm,seval,fQ]
 ((with_reducible refine ⟨z.cU.lay _ _,?_⟩);(intro _ h' zz x _);(simp only [bY,bC] at x);replace g:=g.over x;(replace z:=zz);(clear zz);rw [aw h'])
 repeat' (simp only [syms,seval])
 obtain ⟨dT,kP⟩:∃ dT,dT={ d1 with steps:=d.steps+1,known:=r.atom::d1.known,aF:=d1.aF++[r] }:=⟨_,rfl⟩
 have Ke:gA d i r=r6 dT i:=by rw [hd,kP,jh];unfold mc;rw [az (by rw [<- jh];exact hm)]
 have rG:dT.calls[i]? = some c1:=by rw [kP];exact D5
 have D7:dT.calls.length=d.calls.length:=by rw [kP];exact jt
 have wV:dT.queue=d.queue:=by rw [kP];exact Vm
 have w9:dT.ab=d.ab:=by rw [kP];exact ot
 rw [<- kP] at v8
 have v5:=v8.bf g
 have lY:=iF v5
 have xg:=v5.new _ (v5.own .w trivial)
 have VO:=v5.lt (r:=.w) trivial
 have rQ:=z.size
 have Ew:dT.calls.length<=100000000:=by rw [D7];omega
 have cX:∀ (u:ai) (h:Heap) (K:aJ),aK (some u) h K=K u h:=λ_ _ _=>rfl
 obtain ⟨h5,Ei⟩:∃ h5,h5=h':=⟨_,rfl⟩
 have g5:aS [] h5 h':=by rw [Ei];exact aS.refl [] h'
 have gT:=g
 rw [<- Ei] at v5 VO rQ gT
 clear Ei
 with_reducible first|refine ez (by simp only [fQ]) z.av ?_
 simp only [aa,seval,fQ,lY.lay,cX]
 refine zlD ((v5.bf g5).bf (aS.lay _ _ _ _)) rG Ew (by rw [Cd];omega) _ (λh' w A x ow=>?_)
 have g6:=g5
 (((with_reducible refine ix ?_ ?_ ?_);(· exact (by (simp only [iY]);have:=z.size;omega));(· exact x));replace z:=z.ao x;replace g5:=g5.over x;replace lY:=lY.over x;rw [aw h'])
 replace ow:=Ow.low (h0:=h5) (by rw [bh];have:=g6.size;omega) ow
 simp only [cm,seval,fQ,jF,Og]
 have Wm:dx aC.nat b h5 3 (y8.pl .qa) (y8.vl .qa) dT.queue:=v5.dF .qa
 have Wn:=Wm.bf (λ_ _ _ _ h=>h) g5 (λ_ hh=>nomatch hh)
 obtain ⟨B,ob,hB⟩:=Wn.get
 have xi:=z.size
 have g5s:=g5.size
 have lS:(B=y8.pl .qa/\dT.queue≠[])\/h'.size<=B:=hB.imp id (λe=>by omega)
 have k0:dT.queue≠[]->y8.pl .qa < h5.size:=λaM=>v5.lt (r:=.qa) aM
 have k1:dT.queue≠[]->y8.pl .qa≠y8.pl .w:=λaM hh=>nomatch (v5.inj .qa .w aM trivial hh)
 have pG:=ob.fresh
 have B4:y8.pl .w≠B:=lS.elim (λe hh=>k1 e.2 (by omega)) (λe=>by omega)
 have hqw:=lY.lt
 obtain ⟨news,hs,j3⟩:=xR (A:=B) (r:=aC.nat) (by decide) ((ow.sl (by decide)).lay [] (h'.size+0)) (λcs y hr=>hr)
 by_cases AA:c1.waiters=[]
 .have zO:r6 dT i=dT:=by unfold r6;rw [rG,lu,zh,AA,bC]
  rw [Ke,zO] at hk
  rw [AA] at hs
  obtain ⟨qa,qn,qc,KJ⟩:=ob.slice
  rw [KJ]
  rw [zr7 kb CW hs]
  simp only [syms,seval]
  refine ni (by have:=z.size;omega) (by omega) ?_
  simp only [aa,seval,fQ]
  refine j4 (n:=1) (o:=6) (vs:=[.slice qa qn qc]) lY (by kernel_rfl) rfl rfl (by show 6+1<=9;omega) rfl (λh7 q7 pF=>?_)
  refine iL (A:=y8.pl .w) (by kernel_rfl) (by have:=z.size;rw [bh];omega) (by omega) (by simpa only [bY,bh,bC,db,gx] using pF) ?_
  have f7:aS [y8.pl .w] h5 h7:=(g5.mono (by simp)).eV pF (.inl (by simp))
  obtain ⟨E7,v7,s7⟩:=v5.steps rQ dT.steps f7 (by unfold Dd;rw [KJ];exact q7)
  replace z:=z.bV pF xg (by omega)
  have g:=aS.refl [] h7
  clear g5 g6 lY ow
  rw [aw h7]
  simp only [cm,seval,fQ]
  ((with_reducible refine ⟨z.cU.lay _ _,?_⟩);(intro _ h' zz x _);(simp only [bY,bC] at x);replace g:=g.over x;(replace z:=zz);(clear zz);rw [aw h'])
  simp only [seval,fQ]
  exact hk _ E7 y8 _ z.av (v7.bf (g.trans (aS.lay _ _ _ []) (by simp))) (((s8'.bf gT).trans s7 (by rw [w9];exact aR _)).bf (g.trans (aS.lay _ _ _ []) (by simp)))
 have zO:r6 dT i={ dT with queue:=dT.queue++c1.waiters }:=by unfold r6;rw [rG];rfl
 rw [Ke,zO] at hk
 obtain ⟨w',h7,A7,p1,p2,p3,p4,p5⟩:=sb (t:=61) kb CW rfl (by decide) (by rw [bh];omega) (ob.mono (bN.lay _ _ _)) hs j3 (by rw [wV,Cd];omega) (by rw [wV,Cd];omega)
 rw [p1]
 simp only [syms,seval]
 refine iL (A:=B) (by kernel_rfl) (by have:=z.size;rw [bh];omega) (by omega) (by simpa only [bY,bh,bC,db,gx] using p3) ?_
 rw [bh] at p4
 simp only [db,gx] at p4
 have Lx:=lY.br p3 B4
 have f7:aS [B] h5 h7:=(g5.mono (by simp)).eV p3 (.inl (by simp))
 have z7:=z.bV p3 pG (by omega)
 have hz7:=z7.size
 have vT:y8.pl .w≠A7:=p4.elim (λe=>by rw [e];exact B4) (λe=>by omega)
 have GK:(A7=y8.pl .qa/\dT.queue≠[])\/h5.size<=A7:=p4.elim (λe=>by rw [e];exact lS.imp id (λe=>by omega)) (λe=>.inr (by omega))
 have wM:dT.queue++c1.waiters≠[]:=λe=>AA (List.append_eq_nil_iff.1 e).2
 obtain ⟨ua,un,uc,rfl⟩:=p2.slice
 clear z lY ow g6
 have z:=z7
 rw [aw h7]
 simp only [aa,seval,fQ]
 refine j4 (n:=1) (o:=6) (vs:=[.slice ua un uc]) Lx (by kernel_rfl) rfl rfl (by show 6+1<=9;omega) rfl (λh8 q8 kB=>?_)
 refine iL (A:=y8.pl .w) (by kernel_rfl) (by have:=z.size;rw [bh];omega) (by omega) kB ?_
 have o8:=Ow.eV (λ_ _ _ _ h=>h) wM (p2.mono (bN.lay h7 [] _)) kB vT
 have f8:aS [B,y8.pl .w] h5 h8:=(f7.mono (by simp)).eV kB (.inl (by simp))
 obtain ⟨E8,y8,v8,s8⟩:=v5.queue rQ wM f8 (λX hX=>by
  simp only [df,il,or_false] at hX
  rcases hX with rfl|rfl
  .exact .inr (lS.imp id (λe=>by omega))
  .exact .inl rfl) GK o8 q8
 replace z:=z7.bV kB xg (by omega)
 have g:=aS.refl [] h8
 clear g5
 rw [aw h8]
 simp only [cm,seval,fQ]
 ((with_reducible refine ⟨z.cU.lay _ _,?_⟩);(intro _ h' zz x _);(simp only [bY,bC] at x);replace g:=g.over x;(replace z:=zz);(clear zz);rw [aw h'])
 simp only [seval,fQ]
 exact hk _ E8 y8 _ z.av (v8.bf (g.trans (aS.lay _ _ _ []) (by simp))) (((s8'.bf gT).trans s8 (by rw [w9];exact aR _)).bf (g.trans (aS.lay _ _ _ []) (by simp)))
end Go.Proofs.YtnkmeidmdaidhaaGreatDoor
