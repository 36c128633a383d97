/- Walks: canonical variants. Written out by fill2.py. No condition. -/
import Derived.Test.YtnkmeidmdaidhaaGreatDoorG24
set_option linter.unusedSimpArgs false
set_option linter.unusedVariables false
set_option maxRecDepth 100000
set_option maxHeartbeats 0
noncomputable section
namespace Go.Proofs.YtnkmeidmdaidhaaGreatDoor
open Go.Am Tryz
theorem zxY (a:ae) (i:Nat) (hi:i < 4):a.cells[3+i*2+0]? = some (.bool (a.arg i).v):=by
 have:i=0\/i=1\/i=2\/i=3:=by omega
 rcases this with rfl|rfl|rfl|rfl <;> rfl
theorem zxZ (a:ae) (i:Nat) (hi:i < 4):a.cells[3+i*2+1]? = some (.string (a.arg i).s):=by
 have:i=0\/i=1\/i=2\/i=3:=by omega
 rcases this with rfl|rfl|rfl|rfl <;> rfl
theorem U4:aH.desc 102=some (.map 9 3):=by kernel_rfl
theorem Ge:aH.desc 9=some .string:=by kernel_rfl
theorem SW:aH.zero 3=some (.int .i64 0):=by kernel_rfl
theorem Zc (n:Nat):bZ prog aH .add 9 (.string ⟨#[86]⟩) (.string (jG n))=some (.string (⟨#[86]⟩++jG n)):=MS (by show 1+1<=_;omega)
theorem MK (a:ae) (h:Heap) (K:aL) (hk:∀ h',Ext h h'->K (b8 a).val h'):Ok prog aH ov 30 [a.val] h K:=by
 rw [aq h]
 have z:=Ext.refl h
 have fS:∀ (s:bf) (h:Heap) (K:aL),aK (some (.string s)) h K=K (.string s) h:=λ_ _ _=>rfl
 have oZ:a.cH<=4:=by unfold ae.cH;omega
 refine Ok.aC 50 (bH Vt) ?_
 repeat' (first|simp only [aa,seval,oQ,iB,Kw,Jy]|((with_reducible apply MQ);(· rfl);(· rfl))|((with_reducible apply MO);(· rfl);(· rfl)))
 have hc:(if (4:Int) < (if a.n < 0 then 0 else a.n) then (4:Int) else (if a.n < 0 then 0 else a.n))=(a.cH:Int):=by
  unfold ae.cH
  split <;> split <;> omega
 try rw [hc]
 refine r6 (λh' x hq=>?_)
 have q0:=hq 0 _ rfl
 have q1:=hq 1 _ rfl
 have q2:=hq 2 _ rfl
 clear hq
 (replace z:=z.ao x;rw [aq h'])
 have po:=z.size
 obtain ⟨A0,gO⟩:∃ A0,A0=h.size+0:=⟨_,rfl⟩
 obtain ⟨A1,lS⟩:∃ A1,A1=h.size+1:=⟨_,rfl⟩
 obtain ⟨M,hM⟩:∃ M,M=h.size+2:=⟨_,rfl⟩
 rw [<- gO] at q0
 rw [<- lS] at q1
 rw [<- hM] at q2
 rw [<- gO,<- lS,<- hM]
 obtain ⟨I1,aY⟩:∃ I:Nat->Env->Heap->Prop,I=(λn e h'=>∃ (i:Nat) (h1:Heap),h'=h1.lay [] h1.low/\Ext h h1/\(n=a.cH - i/\i<=a.cH/\ak h1 A0 (.row (dX (nn a) a i).cells 28 false)/\ak h1 A1 (.row ah.cells 28 false)/\eB h1 M (Cg (dq a i)))/\∃ J:Nat->ai,e=(J 0::.pointer (some ⟨A0,0,none⟩)::.pointer (some ⟨A1,0,none⟩)::.map (some M)::jr J 4 7 (.int .i64 a.cH::.int .i64 i::jr J 13 38 ([])))):=⟨_,rfl⟩
 refine dV I1 _ (by rw [aY];exact ⟨0,_,rfl,z,⟨rfl,by omega,q0,q1,eB.new q2⟩,bw⟩) ?_
 intro n e h' aT
 rw [aY] at aT
 obtain ⟨i,bW,rfl,z,hinv,J,rfl⟩:=aT
 clear q0 q1 q2
 obtain ⟨rfl,hi,q0,q1,q2⟩:=hinv
 have hw:=fe i (by omega)
 have hz:=z.size
 simp only [aa,seval,oQ]
 refine b9 (λaW=>?_) (λaW=>?_)
 rotate_left
 .have he:i=a.cH:=by omega
  subst he
  have lf:ak bW A0 (.row (b8 a).cells 28 false):=q0
  repeat' (simp only [aa,seval,oQ,lf.lay,↓eH,dJ,dt])
  refine CT q1 cw rfl rfl rfl (λcK nU c=>?_)
  replace z:=z.aw.step c (by omega)
  rw [aq cK]
  have ux:ak cK A1 (.row (b8 a).cells 28 false):=nU
  simp only [aa,seval,oQ,ux.lay,↓eH,dJ,dt]
  exact hk _ z.aw
 have lY:(0:Int)<=(i:Int)/\(i:Int) < 4:=by omega
 have c0:=zxY (dX (nn a) a i) i (by omega)
 have c1:=zxZ (dX (nn a) a i) i (by omega)
 rw [zq9 _ _ (by omega)] at c0 c1
 have BI:=Ug a i
 cases hv:(a.arg i).v
 .rw [hv] at c0
  have qS:nn a i=a.arg i:=by unfold nn;rw [aA (by rw [hv];decide)]
  have oz:=zzm hv
  have Ie:=q0
  rw [<- znJ (f:=nn a) (a:=a) (k:=i) (by omega) qS] at Ie
  have XO:=q2
  rw [<- oz] at XO
  repeat' (first|simp only [aa,seval,oQ,q0.lay,lY,c0]|((with_reducible apply cn);(· rfl)))
  rw [hw]
  (rw [aY];with_reducible refine cR (m:=_) ?_ ⟨i+1,_,rfl,z,⟨rfl,by omega,Ie,q1,XO⟩,bw⟩;omega)
 rw [hv] at c0
 have qS:nn a i=⟨true,⟨#[86]⟩++jG (iW (a.arg i).s (dq a (i+1)))⟩:=by unfold nn;rw [aG hv]
 repeat' (first|simp only [aa,seval,oQ,q0.lay,lY,c0,c1,fS]|((with_reducible apply cn);(· rfl)))
 simp only [bM,seval,JL]
 refine zsK q2 U4 Ge SW ?_
 rw [Zi]
 by_cases hm:(a.arg i).s∈dq a i
 .rw [aG hm]
  have hix:=UM hm
  have oz:=zwY hm
  rw [oz] at qS
  repeat' (first|simp only [aa,seval,oQ,yw,E0]|((with_reducible apply cn);(· rfl)))
  refine UB (iW (a.arg i).s (dq a i)) (by omega) _ _ (λh' x=>?_)
  (replace z:=z.ao x;replace q0:=q0.over x;replace q1:=q1.over x;replace q2:=q2.over x;rw [aq h'])
  repeat' (simp only [aa,seval,oQ,fS,Zc,lY])
  refine iH (o:=3+i*2+1) q0 Cu rfl rfl (by show _<=11;omega) rfl (λcK lf c=>?_)
  have y4:=TZ (f:=nn a) (a:=a) (k:=i) (by omega) (by rw [qS,hv])
  rw [qS] at y4
  replace lf:ak cK A0 (.row (dX (nn a) a (i+1)).cells 28 false):=by rw [<- y4];exact lf
  have nU:=q1.bC c (by omega)
  have m7:=q2.bC c (by omega)
  replace z:=z.aw.step c (by omega)
  rw [aq cK]
  clear q0 q1 q2
  repeat' (simp only [aa,seval,oQ])
  rw [hw]
  (rw [aY];with_reducible refine cR (m:=_) ?_ ⟨i+1,_,rfl,z,⟨rfl,by omega,lf,nU,by rw [oz];exact m7⟩,bw⟩;omega)
 .rw [aA hm]
  have oz:=zwX hv hm
  rw [oz,znz hm] at qS
  repeat' (first|simp only [aa,seval,oQ,Option.getD_none,zX]|((with_reducible apply cn);(· rfl)))
  have dG:=Sc (h1:=bW) (bs:=[]) (w:=bW.low) q2 U4
  rw [zzh] at dG
  repeat' (simp only [aa,seval,oQ,dG])
  repeat' (simp only [aa,seval,oQ,Jv,fS,q0.lay,lY,c1])
  refine zxF q2 U4 Ge (λh3 q3 c3=>?_)
  rw [Sw hm,<- oz] at q3
  replace q0:=q0.bC c3 (by omega)
  replace q1:=q1.bC c3 (by omega)
  replace z:=z.bY c3 (by omega) (by omega)
  clear q2 dG
  rw [aq h3]
  repeat' (simp only [aa,seval,oQ])
  refine UB (dq a i).length (by omega) _ _ (λh' x=>?_)
  (replace z:=z.ao x;replace q0:=q0.over x;replace q1:=q1.over x;replace q3:=q3.over x;rw [aq h'])
  repeat' (simp only [aa,seval,oQ,fS,Zc,lY])
  refine iH (o:=3+i*2+1) q0 Cu rfl rfl (by show _<=11;omega) rfl (λcK lf c=>?_)
  have y4:=TZ (f:=nn a) (a:=a) (k:=i) (by omega) (by rw [qS,hv])
  rw [qS] at y4
  replace lf:ak cK A0 (.row (dX (nn a) a (i+1)).cells 28 false):=by rw [<- y4];exact lf
  have nU:=q1.bC c (by omega)
  have m7:=q3.bC c (by omega)
  replace z:=z.aw.step c (by omega)
  rw [aq cK]
  clear q0 q1 q3
  repeat' (simp only [aa,seval,oQ])
  rw [hw]
  (rw [aY];with_reducible refine cR (m:=_) ?_ ⟨i+1,_,rfl,z,⟨rfl,by omega,lf,nU,m7⟩,bw⟩;omega)
theorem zwt:bZ prog aH .add 9 (.string ⟨#[35]⟩) (.string (jG 1))=some (.string ⟨#[35,49]⟩):=MS (by show 1+1<=_;omega)
theorem znX (a:ae) (QW:a.bE=true) (h:Heap) (K:aL) (hk:∀ h',Ext h h'->K (gd a).val h'):Ok prog aH ov 50 [a.val,.int .i64 1] h K:=by
 rw [aq h]
 have z:=Ext.refl h
 have fS:∀ (s:bf) (h:Heap) (K:aL),aK (some (.string s)) h K=K (.string s) h:=λ_ _ _=>rfl
 have oZ:a.cH<=4:=by unfold ae.cH;omega
 refine Ok.aC 33 (bH VH) ?_
 repeat' (first|simp only [aa,seval,sP,iB,Kw]|((with_reducible apply MQ);(· rfl);(· rfl))|((with_reducible apply MO);(· rfl);(· rfl)))
 have hc:(if (4:Int) < (if a.n < 0 then 0 else a.n) then (4:Int) else (if a.n < 0 then 0 else a.n))=(a.cH:Int):=by
  unfold ae.cH
  split <;> split <;> omega
 try rw [hc]
 refine r6 (λh' x hq=>?_)
 have q0:=hq 0 _ rfl
 have q1:=hq 1 _ rfl
 clear hq
 (replace z:=z.ao x;rw [aq h'])
 have po:=z.size
 obtain ⟨A0,gO⟩:∃ A0,A0=h.size+0:=⟨_,rfl⟩
 obtain ⟨A1,lS⟩:∃ A1,A1=h.size+1:=⟨_,rfl⟩
 rw [<- gO] at q0
 rw [<- lS] at q1
 rw [<- gO,<- lS]
 obtain ⟨I1,aY⟩:∃ I:Nat->Env->Heap->Prop,I=(λn e h'=>∃ (i:Nat) (h1:Heap),h'=h1.lay [] h1.low/\Ext h h1/\(n=a.cH - i/\i<=a.cH/\ak h1 A0 (.row (dX (kF a) a i).cells 28 false)/\ak h1 A1 (.row ah.cells 28 false))/\∃ J:Nat->ai,e=(J 0::.int .i64 1::.pointer (some ⟨A0,0,none⟩)::J 3::.pointer (some ⟨A1,0,none⟩)::jr J 5 7 (.int .i64 a.cH::.int .i64 i::jr J 14 21 ([])))):=⟨_,rfl⟩
 refine dV I1 _ (by rw [aY];exact ⟨0,_,rfl,z,⟨rfl,by omega,q0,q1⟩,bw⟩) ?_
 intro n e h' aT
 rw [aY] at aT
 obtain ⟨i,bW,rfl,z,hinv,J,rfl⟩:=aT
 clear q0 q1
 obtain ⟨rfl,hi,q0,q1⟩:=hinv
 have hw:=fe i (by omega)
 have hz:=z.size
 simp only [aa,seval,sP]
 refine b9 (λaW=>?_) (λaW=>?_)
 rotate_left
 .have he:i=a.cH:=by omega
  subst he
  have lf:ak bW A0 (.row (gd a).cells 28 false):=q0
  repeat' (simp only [aa,seval,sP,lf.lay,↓eH,dJ,dt])
  refine CT q1 cw rfl rfl rfl (λcK nU c=>?_)
  replace z:=z.aw.step c (by omega)
  rw [aq cK]
  have ux:ak cK A1 (.row (gd a).cells 28 false):=nU
  simp only [aa,seval,sP,ux.lay,↓eH,dJ,dt]
  exact hk _ z.aw
 have lY:(0:Int)<=(i:Int)/\(i:Int) < 4:=by omega
 have c0:=zxY (dX (kF a) a i) i (by omega)
 have c1:=zxZ (dX (kF a) a i) i (by omega)
 rw [zq9 _ _ (by omega)] at c0 c1
 cases hv:(a.arg i).v
 .rw [hv] at c0
  have qS:kF a i=a.arg i:=by unfold kF;rw [aA (by rw [hv];decide)]
  have Ie:=q0
  rw [<- znJ (f:=kF a) (a:=a) (k:=i) (by omega) qS] at Ie
  repeat' (simp only [aa,seval,sP,q0.lay,lY,c0])
  rw [hw]
  (rw [aY];with_reducible refine cR (m:=_) ?_ ⟨i+1,_,rfl,z,⟨rfl,by omega,Ie,q1⟩,bw⟩;omega)
 rw [hv] at c0
 have qS:kF a i=⟨true,(a.arg i).s++⟨#[35,49]⟩⟩:=by unfold kF;rw [aG hv]
 have dC:=JB QW i
 have Ql:bZ prog aH .add 9 (.string (a.arg i).s) (.string ⟨#[35,49]⟩)=some (.string ((a.arg i).s++⟨#[35,49]⟩)):=MS (by show _+2<=_;omega)
 simp only [aa,seval,sP,q0.lay,lY,c0]
 with_reducible first|refine dO (by simp only [sP]) z.aw ?_
 simp only [aa,seval,sP,q0.lay,lY,c1,fS]
 refine UB 1 (by omega) _ _ (λh' x=>?_)
 (((with_reducible refine fC ?_ ?_ ?_);(· exact (by (simp only [fT]);have:=z.size;omega));(· exact x));replace z:=z.ao x;replace q0:=q0.over x;replace q1:=q1.over x;rw [aq h'])
 repeat' (simp only [aa,seval,sP,fS,zwt,Ql,lY])
 refine iH (o:=3+i*2+1) q0 Cu rfl rfl (by show _<=11;omega) rfl (λcK lf c=>?_)
 refine gR (A:=A0) (by kernel_rfl) (by rw [bo];have:=z.size;omega) (by omega) (by simpa only [bK,bo,bu,cW,gw] using c) ?_
 have y4:=TZ (f:=kF a) (a:=a) (k:=i) (by omega) (by rw [qS,hv])
 rw [qS] at y4
 replace lf:ak cK A0 (.row (dX (kF a) a (i+1)).cells 28 false):=by rw [<- y4];exact lf
 have nU:=q1.bC c (by omega)
 replace z:=(z.iG [] (h'.size+0) (by have:=z.size;omega)).step c (by omega)
 rw [aq cK]
 clear q0 q1
 simp only [bM,seval,sP]
 ((with_reducible refine ⟨z.cI.lay _ _,?_⟩);(intro _ h' zz x _);(simp only [bK,bu] at x);replace lf:=lf.over x;replace nU:=nU.over x;(replace z:=zz);(clear zz);rw [aq h'])
 simp only [aa,seval,sP]
 rw [hw]
 (rw [aY];with_reducible refine cR (m:=_) ?_ ⟨i+1,_,rfl,z,⟨rfl,by omega,lf,nU⟩,bw⟩;omega)
theorem Ui (p g:ae) (h:Heap) (K:aL)
 (hk:∀ h' w b,Ext h h'->(cz [] p g=none->b=false)->(∀ m,cz [] p g=some m->b=true/\Sl aF.bind h' w m)->K (.tuple #[w,.bool b]) h'):Ok prog aH ov 67 [p.val,g.val] h K:=by
 rw [aq h]
 have z:=Ext.refl h
 refine Ok.aC 9 (bH VW) ?_
 repeat' (simp only [aa,seval,Wp,iB,↓eH,dJ,dt])
 refine zAy [] _ p g _ Sl.nil (by simp) _ (λh' w b x hn hs=>?_)
 (replace z:=z.ao x;rw [aq h'])
 have cu:∀ (h:Heap) (K:aL),aK (some w) h K=K w h:=λ_ _=>rfl
 cases b
 all_goals
  repeat' (simp only [aa,seval,Wp,cu])
  exact hk _ _ _ z.aw hn (λm hm=>⟨(hs m hm).1,(hs m hm).2.lay _ _⟩)
theorem zrz (a:ae):a.val.cells.size=11:=rfl
theorem zq8 (a:ae):a.cells.length=11:=rfl
theorem zrm (a:ae):a.cells.all Am.one=true:=rfl
theorem CR (a:ae):a.val.cells.size=11:=rfl
theorem CP (a:ae):a.cells.length=11:=rfl
theorem Eo (a:ae):a.cells.all Am.one=true:=rfl
theorem zkD (b:ae) (z0 z1 z2 z3 z4 z5 z6 z7 z8 z9 Cy:ai):n8 (λi=>some (i*11,11)) [z0,z1,z2,z3,z4,z5,z6,z7,z8,z9,Cy] [(0,b.val)]=some b.cells:=rfl
theorem Nh:rH aH 23 23=true:=by kernel_rfl
theorem zAx (p:ae) (l:aU) (v:ai) (h:Heap) (hl:Sl aF.atom h v l) (hs:l.length<=1000) (K:aL)
 (hk:∀ h' w A,Ext h h'->Ow aF.atom h h' 28 A w (fX p l)->K w h'):Ok prog aH ov 58 [p.val,v] h K:=by
 rw [aq h]
 have z:=Ext.refl h
 have dG:=λ(hh:Heap)=>hl.bP cF hh
 refine Ok.aC 27 (bH VM) ?_
 repeat' (simp only [aa,seval,wB,iB,dG])
 refine r6 (λh' x hq=>?_)
 have q0:=hq 0 _ rfl
 clear hq
 (replace z:=z.ao x;rw [aq h'])
 obtain ⟨A0,gO⟩:∃ A0,A0=h.size+0:=⟨_,rfl⟩
 rw [<- gO] at q0
 rw [<- gO]
 have po:=z.size
 obtain ⟨I1,aY⟩:∃ I:Nat->Env->Heap->Prop,I=(λn e h'=>∃ (i:Nat) (wv:ai) (A:Nat) (h1:Heap),h'=h1.lay [] h1.low/\Ext h h1/\(n=l.length - i/\i<=l.length/\ak h1 A0 (.row p.cells 28 false)/\Ow aF.atom h h1 28 A wv (fX p (l.take i))/\A≠A0)/\∃ J:Nat->ai,e=(jr J 0 2 (.pointer (some ⟨A0,0,none⟩)::jr J 3 2 (wv::jr J 6 4 (v::.int .i64 l.length::.int .i64 i::jr J 13 16 ([])))))):=⟨_,rfl⟩
 refine dV I1 _ (by rw [aY];exact ⟨0,.slice none 0 0,h.size+1,_,rfl,z,⟨rfl,by omega,q0,Ow.nil (by omega),by omega⟩,bw⟩) ?_
 intro n e h' aT
 rw [aY] at aT
 obtain ⟨i,wv,A,bW,rfl,z,hinv,J,rfl⟩:=aT
 clear q0
 obtain ⟨rfl,hi,q0,ow,Wz⟩:=hinv
 have hw:=fe i (by omega)
 have hz:=z.size
 simp only [aa,seval,wB]
 refine b9 (λeM=>?_) (λeM=>?_)
 rotate_left
 .rw [iK (by omega)] at ow
  repeat' (simp only [aa,seval,wB])
  exact hk _ _ _ z.aw (ow.mono (bQ.lay _ _ _))
 obtain ⟨r,hr,cv⟩:=ig (l:=l) (i:=i) (by omega)
 have mT:l.take (i+1)=l.take i++[r]:=by rw [od,cv];rfl
 have mR:=ztY p (l.take i) r
 rw [<- mT] at mR
 have hle:=MA p (l.take i)
 rw [hZ] at hle
 repeat' (first|simp only [aa,seval,wB]|with_reducible refine uQ (hl.mono z.inc) cF cw (by omega) hr (λpp hp=>?_)|with_reducible refine rq hp iM cw ?_)
 repeat' (simp only [aa,seval,wB,gy,gv,eA,lJ,iB,CR,CP,Eo,↓eH,dJ,dt,q0.lay])
 refine Ui p r _ _ (λh' w b x hn hs=>?_)
 have q1:=ak.top (i:=0) x rfl
 (replace z:=z.ao x;replace q0:=q0.over x;replace ow:=ow.over x;rw [aq h'])
 clear hp
 have D1:∀ (h:Heap) (K:aL),aK (some w) h K=K w h:=λ_ _=>rfl
 cases b
 .have he:(cz [] p r).isSome=false:=by
   cases hx:cz [] p r with
   |none=>rfl
   |some m=>exact absurd (hs m hx).1 (by decide)
  rw [he,aA (by decide)] at mR
  repeat' (simp only [aa,seval,wB,D1])
  rw [hw]
  (rw [aY];with_reducible refine cR (m:=_) ?_ ⟨i+1,wv,A,_,rfl,z,⟨rfl,by omega,q0,by rw [mR];exact ow,Wz⟩,bw⟩;omega)
 .have he:(cz [] p r).isSome=true:=by
   cases hx:cz [] p r with
   |none=>exact absurd (hn hx) (by decide)
   |some m=>rfl
  rw [he,aG rfl] at mR
  repeat' (simp only [aa,seval,wB,D1,q1.lay,↓eH,dJ,dt])
  simp only [aa,seval,wB,j4,Nh,zkD]
  refine uR (i:=0) (cs:=r.cells) (x:=r) cF xU rfl (by decide) (by rfl) z.size ow rfl (by omega) (by omega) (λw3 h3 A3 iy ff jH=>?_)
  have DR:=ow.fresh
  have afM:=q0.lt
  replace q0:=q0.bC ff (Ne.symm Wz)
  replace z:=z.aw.step ff (by omega)
  rw [aq h3]
  repeat' (simp only [aa,seval,wB])
  rw [hw]
  rw [<- mR] at iy
  clear ow
  (rw [aY];with_reducible refine cR (m:=_) ?_ ⟨i+1,w3,A3,_,rfl,z,⟨rfl,by omega,q0,iy,by rcases jH with e|e <;> omega⟩,bw⟩;omega)
def V4:=bD f80
def YQ:=PLift.up (by have c:=bG V4 f80;simp only [aQ,f80,seval] at c;exact nd c <| @Pa)
theorem Wq:type_of% YQ.down:=YQ.down
def Fv:=bD f114
def IC:=PLift.up (by have c:=bG Fv f114;simp only [aQ,f114,seval] at c;exact nd c <| @zA3)
theorem F4:type_of% IC.down:=IC.down
def Fs:=bD f111
def Iz:=PLift.up (by have c:=bG Fs f111;simp only [aQ,f111,seval] at c;exact nd c <| @zA0)
theorem F2:type_of% Iz.down:=Iz.down
def V5:=bD f81
def YR:=PLift.up (by have c:=bG V5 f81;simp only [aQ,f81,seval] at c;exact nd c <| @Pb)
theorem AG:type_of% YR.down:=YR.down
def V3:=bD f79
def YP:=PLift.up (by have c:=bG V3 f79;simp only [aQ,f79,seval] at c;exact nd c <| nd @Se <| @O9)
theorem qb:type_of% YP.down:=YP.down
def Fu:=bD f113
def IB:=PLift.up (by have c:=bG Fu f113;simp only [aQ,f113,seval] at c;exact nd c <| @zA2)
theorem F3:type_of% IB.down:=IB.down
def V6:=bD f82
def YS:=PLift.up (by have c:=bG V6 f82;simp only [aQ,f82,seval] at c;exact nd c <| @Pc)
theorem KO:type_of% YS.down:=YS.down
def VC:=bD f44
def Yl:=PLift.up (by have c:=bG VC f44;simp only [aQ,f44,seval] at c;exact nd c <| @OE)
theorem F8:type_of% Yl.down:=Yl.down
def VD:=bD f45
def Ym:=PLift.up (by have c:=bG VD f45;simp only [aQ,f45,seval] at c;exact nd c <| @OG)
theorem NP:type_of% Ym.down:=Ym.down
def V9:=bD f85
def YV:=PLift.up (by have c:=bG V9 f85;simp only [aQ,f85,seval] at c;exact nd c <| @Pf)
theorem F9:type_of% YV.down:=YV.down
def Fx:=bD f116
def IE:=PLift.up (by have c:=bG Fx f116;simp only [aQ,f116,seval] at c;exact nd c <| @zA5)
theorem sL:type_of% IE.down:=IE.down
def V8:=bD f84
def YU:=PLift.up (by have c:=bG V8 f84;simp only [aQ,f84,seval] at c;exact nd c <| @Pe)
theorem NU:type_of% YU.down:=YU.down
def Fw:=bD f115
def ID:=PLift.up (by have c:=bG Fw f115;simp only [aQ,f115,seval] at c;exact nd c <| @zA4)
theorem sK:type_of% ID.down:=ID.down
def Ft:=bD f112
def IA:=PLift.up (by have c:=bG Ft f112;simp only [aQ,f112,seval] at c;exact nd c <| @zA1)
theorem Av:type_of% IA.down:=IA.down
def FL:=bD f136
def IX:=PLift.up (by have c:=bG FL f136;simp only [aQ,f136,seval] at c;exact nd c <| nd @Ce <| nd @jZ <| nd @Ck <| @zBj)
theorem wA:type_of% IX.down:=IX.down
def Nj:=bD f49
def Yq:=PLift.up (by have c:=bG Nj f49;simp only [aQ,f49,seval] at c;exact nd c <| nd @vY <| nd @r9 <| nd @vD <| nd @jZ <| @OK)
theorem KI:type_of% Yq.down:=Yq.down
def Vo:=bD f25
def X6:=PLift.up (by have c:=bG Vo f25;simp only [aQ,f25,seval] at c;exact nd c <| nd @lq <| nd @Kj <| nd @C6 <| nd @zV <| nd @vZ <| nd @xC <| nd @jm <| nd @cj <| nd @mh <| nd @jZ <| nd @xH <| @Oj)
theorem sM:type_of% X6.down:=X6.down
def VG:=bD f48
def Yp:=PLift.up (by have c:=bG VG f48;simp only [aQ,f48,seval] at c;exact nd c <| nd @jm <| @OJ)
theorem NR:type_of% Yp.down:=Yp.down
def Fp:=bD f109
def Ix:=PLift.up (by have c:=bG Fp f109;simp only [aQ,f109,seval] at c;exact nd c <| nd @cj <| @zAY)
theorem F0:type_of% Ix.down:=Ix.down
def FJ:=bD f135
def IW:=PLift.up (by have c:=bG FJ f135;simp only [aQ,f135,seval] at c;exact nd c <| nd @lq <| nd @FX <| nd @vY <| nd @r9 <| nd @xC <| nd @jm <| nd @cj <| nd @vD <| nd @jZ <| nd @xH <| @zBi)
theorem mE:type_of% IW.down:=IW.down
end Go.Proofs.YtnkmeidmdaidhaaGreatDoor
