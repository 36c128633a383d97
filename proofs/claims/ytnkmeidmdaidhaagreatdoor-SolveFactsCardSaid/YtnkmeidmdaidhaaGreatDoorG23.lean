/- Walks: canonical variants. Written out by fill2.py. No condition. -/
import Derived.Test.YtnkmeidmdaidhaaGreatDoorG22
set_option linter.unusedSimpArgs false
set_option linter.unusedVariables false
set_option maxRecDepth 100000
set_option maxHeartbeats 0
noncomputable section
namespace Go.Proofs.YtnkmeidmdaidhaaGreatDoor
open Go.Am Tryz
theorem zAe (a:ae) (i:Nat) (hi:i < 4):a.cells[3+i*2+0]? = some (.bool (a.arg i).v):=by
 have:i=0\/i=1\/i=2\/i=3:=by omega
 rcases this with rfl|rfl|rfl|rfl <;> rfl
theorem zAf (a:ae) (i:Nat) (hi:i < 4):a.cells[3+i*2+1]? = some (.string (a.arg i).s):=by
 have:i=0\/i=1\/i=2\/i=3:=by omega
 rcases this with rfl|rfl|rfl|rfl <;> rfl
theorem Zm:aH.desc 102=some (.map 9 3):=by kernel_rfl
theorem JA:aH.desc 9=some .string:=by kernel_rfl
theorem Xd:aH.zero 3=some (.int .i64 0):=by kernel_rfl
theorem zCC (n:Nat):cA prog aH .add 9 (.string ⟨#[86]⟩) (.string (kN n))=some (.string (⟨#[86]⟩++kN n)):=QH (by show 1+1<=_;omega)
theorem Qs (a:ae) (h:Heap) (K:aJ) (hk:∀ h',Ext h h'->K (bB a).val h'):Ok prog aH ov 30 [a.val] h K:=by
 rw [aw h]
 have z:=Ext.refl h
 have iw:∀ (s:aU) (h:Heap) (K:aJ),aK (some (.string s)) h K=K (.string s) h:=λ_ _ _=>rfl
 have m9:a.bx<=4:=by unfold ae.bx;omega
 refine Ok.aA 50 (bH ZL) ?_
 repeat' (first|simp only [aa,seval,rD,gV,Od,MZ]|((with_reducible apply Nt);(· rfl);(· rfl))|((with_reducible apply Ns);(· rfl);(· rfl)))
 have hc:(if (4:Int) < (if a.n < 0 then 0 else a.n) then (4:Int) else (if a.n < 0 then 0 else a.n))=(a.bx:Int):=by
  unfold ae.bx
  split <;> split <;> omega
 try rw [hc]
 refine uB (λh' x hq=>?_)
 have q0:=hq 0 _ rfl
 have q1:=hq 1 _ rfl
 have q2:=hq 2 _ rfl
 clear hq
 (replace z:=z.ao x;rw [aw h'])
 have sS:=z.size
 obtain ⟨A0,fI⟩:∃ A0,A0=h.size+0:=⟨_,rfl⟩
 obtain ⟨A1,nR⟩:∃ A1,A1=h.size+1:=⟨_,rfl⟩
 obtain ⟨M,hM⟩:∃ M,M=h.size+2:=⟨_,rfl⟩
 rw [<- fI] at q0
 rw [<- nR] at q1
 rw [<- hM] at q2
 rw [<- fI,<- nR,<- hM]
 obtain ⟨I1,aX⟩:∃ I:Nat->Env->Heap->Prop,I=(λn e h'=>∃ (i:Nat) (h1:Heap),h'=h1.lay [] h1.low/\Ext h h1/\(n=a.bx - i/\i<=a.bx/\Holds h1 A0 (.row (eZ (lk a) a i).cells 28 false)/\Holds h1 A1 (.row ah.cells 28 false)/\eH h1 M (Fb (cT a i)))/\∃ J:Nat->ai,e=(J 0::.pointer (some ⟨A0,0,none⟩)::.pointer (some ⟨A1,0,none⟩)::.map (some M)::jr J 4 7 (.int .i64 a.bx::.int .i64 i::jr J 13 38 ([])))):=⟨_,rfl⟩
 refine dN I1 _ (by rw [aX];exact ⟨0,_,rfl,z,⟨rfl,by omega,q0,q1,eH.new q2⟩,bo⟩) ?_
 intro n e h' aP
 rw [aX] at aP
 obtain ⟨i,bU,rfl,z,hinv,J,rfl⟩:=aP
 clear q0 q1 q2
 obtain ⟨rfl,hi,q0,q1,q2⟩:=hinv
 have hw:=eE i (by omega)
 have hz:=z.size
 simp only [aa,seval,rD]
 refine bS (λaT=>?_) (λaT=>?_)
 rotate_left
 .have he:i=a.bx:=by omega
  subst he
  have nh:Holds bU A0 (.row (bB a).cells 28 false):=q0
  repeat' (simp only [aa,seval,rD,nh.lay,↓fe,dU,dq])
  refine FQ q1 ck rfl rfl rfl (λdc qG c=>?_)
  replace z:=z.av.step c (by omega)
  rw [aw dc]
  have xz:Holds dc A1 (.row (bB a).cells 28 false):=qG
  simp only [aa,seval,rD,xz.lay,↓fe,dU,dq]
  exact hk _ z.av
 have iK:(0:Int)<=(i:Int)/\(i:Int) < 4:=by omega
 have c0:=zAe (eZ (lk a) a i) i (by omega)
 have c1:=zAf (eZ (lk a) a i) i (by omega)
 rw [zsA _ _ (by omega)] at c0 c1
 have Ey:=Ys a i
 cases hv:(a.arg i).v
 .rw [hv] at c0
  have tK:lk a i=a.arg i:=by unfold lk;rw [az (by rw [hv];decide)]
  have qU:=zBG hv
  have Lt:=q0
  rw [<- zoY (f:=lk a) (a:=a) (k:=i) (by omega) tK] at Lt
  have q2n:=q2
  rw [<- qU] at q2n
  repeat' (first|simp only [aa,seval,rD,q0.lay,iK,c0]|((with_reducible apply cf);(· rfl)))
  rw [hw]
  (rw [aX];with_reducible refine cF (m:=_) ?_ ⟨i+1,_,rfl,z,⟨rfl,by omega,Lt,q1,q2n⟩,bo⟩;omega)
 rw [hv] at c0
 have tK:lk a i=⟨true,⟨#[86]⟩++kN (ie (a.arg i).s (cT a (i+1)))⟩:=by unfold lk;rw [aD hv]
 repeat' (first|simp only [aa,seval,rD,q0.lay,iK,c0,c1,iw]|((with_reducible apply cf);(· rfl)))
 simp only [cm,seval,Ni]
 refine zut q2 Zm JA Xd ?_
 rw [zCV]
 by_cases hm:(a.arg i).s∈cT a i
 .rw [aD hm]
  have hix:=YW hm
  have qU:=zza hm
  rw [qU] at tK
  repeat' (first|simp only [aa,seval,rD,zh,H6]|((with_reducible apply cf);(· rfl)))
  refine Y7 (ie (a.arg i).s (cT a i)) (by omega) _ _ (λh' x=>?_)
  (replace z:=z.ao x;replace q0:=q0.over x;replace q1:=q1.over x;replace q2:=q2.over x;rw [aw h'])
  repeat' (simp only [aa,seval,rD,iw,zCC,iK])
  refine j4 (o:=3+i*2+1) q0 xD rfl rfl (by show _<=11;omega) rfl (λdc nh c=>?_)
  have Cl:=X1 (f:=lk a) (a:=a) (k:=i) (by omega) (by rw [tK,hv])
  rw [tK] at Cl
  replace nh:Holds dc A0 (.row (eZ (lk a) a (i+1)).cells 28 false):=by rw [<- Cl];exact nh
  have qG:=q1.br c (by omega)
  have pq:=q2.br c (by omega)
  replace z:=z.av.step c (by omega)
  rw [aw dc]
  clear q0 q1 q2
  repeat' (simp only [aa,seval,rD])
  rw [hw]
  (rw [aX];with_reducible refine cF (m:=_) ?_ ⟨i+1,_,rfl,z,⟨rfl,by omega,nh,qG,by rw [qU];exact pq⟩,bo⟩;omega)
 .rw [az hm]
  have qU:=zsC hv hm
  rw [qU,zoO hm] at tK
  repeat' (first|simp only [aa,seval,rD,Option.getD_none,Df]|((with_reducible apply cf);(· rfl)))
  have dQ:=Wg (h1:=bU) (bs:=[]) (w:=bU.low) q2 Zm
  rw [zBC] at dQ
  repeat' (simp only [aa,seval,rD,dQ])
  repeat' (simp only [aa,seval,rD,MK,iw,q0.lay,iK,c1])
  refine zzY q2 Zm JA (λh3 q3 c3=>?_)
  rw [WA hm,<- qU] at q3
  replace q0:=q0.br c3 (by omega)
  replace q1:=q1.br c3 (by omega)
  replace z:=z.bV c3 (by omega) (by omega)
  clear q2 dQ
  rw [aw h3]
  repeat' (simp only [aa,seval,rD])
  refine Y7 (cT a i).length (by omega) _ _ (λh' x=>?_)
  (replace z:=z.ao x;replace q0:=q0.over x;replace q1:=q1.over x;replace q3:=q3.over x;rw [aw h'])
  repeat' (simp only [aa,seval,rD,iw,zCC,iK])
  refine j4 (o:=3+i*2+1) q0 xD rfl rfl (by show _<=11;omega) rfl (λdc nh c=>?_)
  have Cl:=X1 (f:=lk a) (a:=a) (k:=i) (by omega) (by rw [tK,hv])
  rw [tK] at Cl
  replace nh:Holds dc A0 (.row (eZ (lk a) a (i+1)).cells 28 false):=by rw [<- Cl];exact nh
  have qG:=q1.br c (by omega)
  have pq:=q3.br c (by omega)
  replace z:=z.av.step c (by omega)
  rw [aw dc]
  clear q0 q1 q3
  repeat' (simp only [aa,seval,rD])
  rw [hw]
  (rw [aX];with_reducible refine cF (m:=_) ?_ ⟨i+1,_,rfl,z,⟨rfl,by omega,nh,qG,pq⟩,bo⟩;omega)
theorem zyC:cA prog aH .add 9 (.string ⟨#[35]⟩) (.string (kN 1))=some (.string ⟨#[35,49]⟩):=QH (by show 1+1<=_;omega)
theorem zpc (a:ae) (U0:a.bW=true) (h:Heap) (K:aJ) (hk:∀ h',Ext h h'->K (fN a).val h'):Ok prog aH ov 50 [a.val,.int .i64 1] h K:=by
 rw [aw h]
 have z:=Ext.refl h
 have iw:∀ (s:aU) (h:Heap) (K:aJ),aK (some (.string s)) h K=K (.string s) h:=λ_ _ _=>rfl
 have m9:a.bx<=4:=by unfold ae.bx;omega
 refine Ok.aA 33 (bH ZZ) ?_
 repeat' (first|simp only [aa,seval,vO,gV,Od]|((with_reducible apply Nt);(· rfl);(· rfl))|((with_reducible apply Ns);(· rfl);(· rfl)))
 have hc:(if (4:Int) < (if a.n < 0 then 0 else a.n) then (4:Int) else (if a.n < 0 then 0 else a.n))=(a.bx:Int):=by
  unfold ae.bx
  split <;> split <;> omega
 try rw [hc]
 refine uB (λh' x hq=>?_)
 have q0:=hq 0 _ rfl
 have q1:=hq 1 _ rfl
 clear hq
 (replace z:=z.ao x;rw [aw h'])
 have sS:=z.size
 obtain ⟨A0,fI⟩:∃ A0,A0=h.size+0:=⟨_,rfl⟩
 obtain ⟨A1,nR⟩:∃ A1,A1=h.size+1:=⟨_,rfl⟩
 rw [<- fI] at q0
 rw [<- nR] at q1
 rw [<- fI,<- nR]
 obtain ⟨I1,aX⟩:∃ I:Nat->Env->Heap->Prop,I=(λn e h'=>∃ (i:Nat) (h1:Heap),h'=h1.lay [] h1.low/\Ext h h1/\(n=a.bx - i/\i<=a.bx/\Holds h1 A0 (.row (eZ (jy a) a i).cells 28 false)/\Holds h1 A1 (.row ah.cells 28 false))/\∃ J:Nat->ai,e=(J 0::.int .i64 1::.pointer (some ⟨A0,0,none⟩)::J 3::.pointer (some ⟨A1,0,none⟩)::jr J 5 7 (.int .i64 a.bx::.int .i64 i::jr J 14 21 ([])))):=⟨_,rfl⟩
 refine dN I1 _ (by rw [aX];exact ⟨0,_,rfl,z,⟨rfl,by omega,q0,q1⟩,bo⟩) ?_
 intro n e h' aP
 rw [aX] at aP
 obtain ⟨i,bU,rfl,z,hinv,J,rfl⟩:=aP
 clear q0 q1
 obtain ⟨rfl,hi,q0,q1⟩:=hinv
 have hw:=eE i (by omega)
 have hz:=z.size
 simp only [aa,seval,vO]
 refine bS (λaT=>?_) (λaT=>?_)
 rotate_left
 .have he:i=a.bx:=by omega
  subst he
  have nh:Holds bU A0 (.row (fN a).cells 28 false):=q0
  repeat' (simp only [aa,seval,vO,nh.lay,↓fe,dU,dq])
  refine FQ q1 ck rfl rfl rfl (λdc qG c=>?_)
  replace z:=z.av.step c (by omega)
  rw [aw dc]
  have xz:Holds dc A1 (.row (fN a).cells 28 false):=qG
  simp only [aa,seval,vO,xz.lay,↓fe,dU,dq]
  exact hk _ z.av
 have iK:(0:Int)<=(i:Int)/\(i:Int) < 4:=by omega
 have c0:=zAe (eZ (jy a) a i) i (by omega)
 have c1:=zAf (eZ (jy a) a i) i (by omega)
 rw [zsA _ _ (by omega)] at c0 c1
 cases hv:(a.arg i).v
 .rw [hv] at c0
  have tK:jy a i=a.arg i:=by unfold jy;rw [az (by rw [hv];decide)]
  have Lt:=q0
  rw [<- zoY (f:=jy a) (a:=a) (k:=i) (by omega) tK] at Lt
  repeat' (simp only [aa,seval,vO,q0.lay,iK,c0])
  rw [hw]
  (rw [aX];with_reducible refine cF (m:=_) ?_ ⟨i+1,_,rfl,z,⟨rfl,by omega,Lt,q1⟩,bo⟩;omega)
 rw [hv] at c0
 have tK:jy a i=⟨true,(a.arg i).s++⟨#[35,49]⟩⟩:=by unfold jy;rw [aD hv]
 have dS:=M6 U0 i
 have Up:cA prog aH .add 9 (.string (a.arg i).s) (.string ⟨#[35,49]⟩)=some (.string ((a.arg i).s++⟨#[35,49]⟩)):=QH (by show _+2<=_;omega)
 simp only [aa,seval,vO,q0.lay,iK,c0]
 with_reducible first|refine ez (by simp only [vO]) z.av ?_
 simp only [aa,seval,vO,q0.lay,iK,c1,iw]
 refine Y7 1 (by omega) _ _ (λh' x=>?_)
 (((with_reducible refine ix ?_ ?_ ?_);(· exact (by (simp only [iY]);have:=z.size;omega));(· exact x));replace z:=z.ao x;replace q0:=q0.over x;replace q1:=q1.over x;rw [aw h'])
 repeat' (simp only [aa,seval,vO,iw,zyC,Up,iK])
 refine j4 (o:=3+i*2+1) q0 xD rfl rfl (by show _<=11;omega) rfl (λdc nh c=>?_)
 refine iL (A:=A0) (by kernel_rfl) (by rw [bh];have:=z.size;omega) (by omega) (by simpa only [bY,bh,bC,db,gx] using c) ?_
 have Cl:=X1 (f:=jy a) (a:=a) (k:=i) (by omega) (by rw [tK,hv])
 rw [tK] at Cl
 replace nh:Holds dc A0 (.row (eZ (jy a) a (i+1)).cells 28 false):=by rw [<- Cl];exact nh
 have qG:=q1.br c (by omega)
 replace z:=(z.jC [] (h'.size+0) (by have:=z.size;omega)).step c (by omega)
 rw [aw dc]
 clear q0 q1
 simp only [cm,seval,vO]
 ((with_reducible refine ⟨z.cU.lay _ _,?_⟩);(intro _ h' zz x _);(simp only [bY,bC] at x);replace nh:=nh.over x;replace qG:=qG.over x;(replace z:=zz);(clear zz);rw [aw h'])
 simp only [aa,seval,vO]
 rw [hw]
 (rw [aX];with_reducible refine cF (m:=_) ?_ ⟨i+1,_,rfl,z,⟨rfl,by omega,nh,qG⟩,bo⟩;omega)
theorem Yw (p g:ae) (h:Heap) (K:aJ)
 (hk:∀ h' w b,Ext h h'->(bG [] p g=none->b=false)->(∀ m,bG [] p g=some m->b=true/\Sl aC.bind h' w m)->K (.tuple #[w,.bool b]) h'):Ok prog aH ov 67 [p.val,g.val] h K:=by
 rw [aw h]
 have z:=Ext.refl h
 refine Ok.aA 9 (bH N67) ?_
 repeat' (simp only [aa,seval,c67,gV,↓fe,dU,dq])
 refine zC2 [] _ p g _ Sl.nil (by simp) _ (λh' w b x hn hs=>?_)
 (replace z:=z.ao x;rw [aw h'])
 have cX:∀ (h:Heap) (K:aJ),aK (some w) h K=K w h:=λ_ _=>rfl
 cases b
 all_goals
  repeat' (simp only [aa,seval,c67,cX])
  exact hk _ _ _ z.av hn (λm hm=>⟨(hs m hm).1,(hs m hm).2.lay _ _⟩)
theorem zs9 (a:ae):a.val.cells.size=11:=rfl
theorem zsy (a:ae):a.cells.length=11:=rfl
theorem zsR (a:ae):a.cells.all Am.one=true:=rfl
theorem FP (a:ae):a.val.cells.size=11:=rfl
theorem FN (a:ae):a.cells.length=11:=rfl
theorem HF (a:ae):a.cells.all Am.one=true:=rfl
theorem zlv (b:ae) (z0 z1 z2 z3 z4 z5 z6 z7 z8 z9 xG:ai):pA (λi=>some (i*11,11)) [z0,z1,z2,z3,z4,z5,z6,z7,z8,z9,xG] [(0,b.val)]=some b.cells:=rfl
theorem Q5:td aH 23 23=true:=by kernel_rfl
theorem zC0 (p:ae) (l:aN) (v:ai) (h:Heap) (hl:Sl aC.atom h v l) (hs:l.length<=1000) (K:aJ)
 (hk:∀ h' w A,Ext h h'->Ow aC.atom h h' 28 A w (eT p l)->K w h'):Ok prog aH ov 58 [p.val,v] h K:=by
 rw [aw h]
 have z:=Ext.refl h
 have dQ:=λ(hh:Heap)=>hl.bQ bZ hh
 refine Ok.aA 27 (bH Z4) ?_
 repeat' (simp only [aa,seval,zB,gV,dQ])
 refine uB (λh' x hq=>?_)
 have q0:=hq 0 _ rfl
 clear hq
 (replace z:=z.ao x;rw [aw h'])
 obtain ⟨A0,fI⟩:∃ A0,A0=h.size+0:=⟨_,rfl⟩
 rw [<- fI] at q0
 rw [<- fI]
 have sS:=z.size
 obtain ⟨I1,aX⟩:∃ I:Nat->Env->Heap->Prop,I=(λn e h'=>∃ (i:Nat) (wv:ai) (A:Nat) (h1:Heap),h'=h1.lay [] h1.low/\Ext h h1/\(n=l.length - i/\i<=l.length/\Holds h1 A0 (.row p.cells 28 false)/\Ow aC.atom h h1 28 A wv (eT p (l.take i))/\A≠A0)/\∃ J:Nat->ai,e=(jr J 0 2 (.pointer (some ⟨A0,0,none⟩)::jr J 3 2 (wv::jr J 6 4 (v::.int .i64 l.length::.int .i64 i::jr J 13 16 ([])))))):=⟨_,rfl⟩
 refine dN I1 _ (by rw [aX];exact ⟨0,.slice none 0 0,h.size+1,_,rfl,z,⟨rfl,by omega,q0,Ow.nil (by omega),by omega⟩,bo⟩) ?_
 intro n e h' aP
 rw [aX] at aP
 obtain ⟨i,wv,A,bU,rfl,z,hinv,J,rfl⟩:=aP
 clear q0
 obtain ⟨rfl,hi,q0,ow,GL⟩:=hinv
 have hw:=eE i (by omega)
 have hz:=z.size
 simp only [aa,seval,zB]
 refine bS (λey=>?_) (λey=>?_)
 rotate_left
 .rw [gb (by omega)] at ow
  repeat' (simp only [aa,seval,zB])
  exact hk _ _ _ z.av (ow.mono (bN.lay _ _ _))
 obtain ⟨r,hr,cw⟩:=gC (l:=l) (i:=i) (by omega)
 have ic:l.take (i+1)=l.take i++[r]:=by rw [lr,cw];rfl
 have pg:=zvK p (l.take i) r
 rw [<- ic] at pg
 have hle:=Qh p (l.take i)
 rw [gR] at hle
 repeat' (first|simp only [aa,seval,zB]|with_reducible refine r9 (hl.mono z.inc) bZ ck (by omega) hr (λpp hp=>?_)|with_reducible refine qV hp iQ ck ?_)
 repeat' (simp only [aa,seval,zB,iy,im,gd,lI,gV,FP,FN,HF,↓fe,dU,dq,q0.lay])
 refine Yw p r _ _ (λh' w b x hn hs=>?_)
 have q1:=Holds.top (i:=0) x rfl
 (replace z:=z.ao x;replace q0:=q0.over x;replace ow:=ow.over x;rw [aw h'])
 clear hp
 have yB:∀ (h:Heap) (K:aJ),aK (some w) h K=K w h:=λ_ _=>rfl
 cases b
 .have he:(bG [] p r).isSome=false:=by
   cases hx:bG [] p r with
   |none=>rfl
   |some m=>exact absurd (hs m hx).1 (by decide)
  rw [he,az (by decide)] at pg
  repeat' (simp only [aa,seval,zB,yB])
  rw [hw]
  (rw [aX];with_reducible refine cF (m:=_) ?_ ⟨i+1,wv,A,_,rfl,z,⟨rfl,by omega,q0,by rw [pg];exact ow,GL⟩,bo⟩;omega)
 .have he:(bG [] p r).isSome=true:=by
   cases hx:bG [] p r with
   |none=>exact absurd (hn hx) (by decide)
   |some m=>rfl
  rw [he,aD rfl] at pg
  repeat' (simp only [aa,seval,zB,yB,q1.lay,↓fe,dU,dq])
  simp only [aa,seval,zB,jF,Q5,zlv]
  refine te (i:=0) (cs:=r.cells) (x:=r) bZ sV rfl (by decide) (by rfl) z.size ow rfl (by omega) (by omega) (λw3 h3 A3 jS eU jM=>?_)
  have wz:=ow.fresh
  have Vg:=q0.lt
  replace q0:=q0.br eU (Ne.symm GL)
  replace z:=z.av.step eU (by omega)
  rw [aw h3]
  repeat' (simp only [aa,seval,zB])
  rw [hw]
  rw [<- pg] at jS
  clear ow
  (rw [aX];with_reducible refine cF (m:=_) ?_ ⟨i+1,w3,A3,_,rfl,z,⟨rfl,by omega,q0,jS,by rcases jM with e|e <;> omega⟩,bo⟩;omega)
def N80:=bI f80
def x80:=PLift.up (by have c:=bM N80 f80;simp only [aO,f80,seval] at c;exact nd c <| @Tc)
theorem c80:type_of% x80.down:=x80.down
def IE:=bI f114
def LY:=PLift.up (by have c:=bM IE f114;simp only [aO,f114,seval] at c;exact nd c <| @zDI)
theorem Jn:type_of% LY.down:=LY.down
def IB:=bI f111
def LV:=PLift.up (by have c:=bM IB f111;simp only [aO,f111,seval] at c;exact nd c <| @zDF)
theorem Jl:type_of% LV.down:=LV.down
def N81:=bI f81
def x81:=PLift.up (by have c:=bM N81 f81;simp only [aO,f81,seval] at c;exact nd c <| @Td)
theorem DJ:type_of% x81.down:=x81.down
def N79:=bI f79
def x79:=PLift.up (by have c:=bM N79 f79;simp only [aO,f79,seval] at c;exact nd c <| nd @Lj <| @Tb)
theorem sF:type_of% x79.down:=x79.down
def ID:=bI f113
def LX:=PLift.up (by have c:=bM ID f113;simp only [aO,f113,seval] at c;exact nd c <| @zDH)
theorem Jm:type_of% LX.down:=LX.down
def N82:=bI f82
def x82:=PLift.up (by have c:=bM N82 f82;simp only [aO,f82,seval] at c;exact nd c <| @Te)
theorem Oz:type_of% x82.down:=x82.down
def ZU:=bI f44
def x44:=PLift.up (by have c:=bM ZU f44;simp only [aO,f44,seval] at c;exact nd c <| @Sx)
theorem Jv:type_of% x44.down:=x44.down
def ZV:=bI f45
def x45:=PLift.up (by have c:=bM ZV f45;simp only [aO,f45,seval] at c;exact nd c <| @Sy)
theorem RI:type_of% x45.down:=x45.down
def N85:=bI f85
def x85:=PLift.up (by have c:=bM N85 f85;simp only [aO,f85,seval] at c;exact nd c <| @Th)
theorem Jw:type_of% x85.down:=x85.down
def IG:=bI f116
def L3:=PLift.up (by have c:=bM IG f116;simp only [aO,f116,seval] at c;exact nd c <| @zDK)
theorem vM:type_of% L3.down:=L3.down
def N84:=bI f84
def x84:=PLift.up (by have c:=bM N84 f84;simp only [aO,f84,seval] at c;exact nd c <| @Tg)
theorem RQ:type_of% x84.down:=x84.down
def IF:=bI f115
def LZ:=PLift.up (by have c:=bM IF f115;simp only [aO,f115,seval] at c;exact nd c <| @zDJ)
theorem vL:type_of% LZ.down:=LZ.down
def IC:=bI f112
def LW:=PLift.up (by have c:=bM IC f112;simp only [aO,f112,seval] at c;exact nd c <| @zDG)
theorem DA:type_of% LW.down:=LW.down
def I6:=bI f136
def Ml:=PLift.up (by have c:=bM I6 f136;simp only [aO,f136,seval] at c;exact nd c <| nd @xm <| nd @kp <| nd @xp <| @zD2)
theorem zA:type_of% Ml.down:=Ml.down
def Q8:=bI f49
def x49:=PLift.up (by have c:=bM Q8 f49;simp only [aO,f49,seval] at c;exact nd c <| nd @uD <| nd @ta <| nd @ui <| nd @kp <| @SC)
theorem Oo:type_of% x49.down:=x49.down
def ZG:=bI f25
def x25:=PLift.up (by have c:=bM ZG f25;simp only [aO,f25,seval] at c;exact nd c <| nd @nu <| nd @Ie <| nd @Bu <| nd @yV <| nd @uE <| nd @AJ <| nd @jQ <| nd @cq <| nd @ng <| nd @kp <| nd @AN <| @Sf)
theorem vN:type_of% x25.down:=x25.down
def ZY:=bI f48
def x48:=PLift.up (by have c:=bM ZY f48;simp only [aO,f48,seval] at c;exact nd c <| nd @jQ <| @SB)
theorem RM:type_of% x48.down:=x48.down
def Iz:=bI f109
def LR:=PLift.up (by have c:=bM Iz f109;simp only [aO,f109,seval] at c;exact nd c <| nd @cq <| @zDD)
theorem Jj:type_of% LR.down:=LR.down
def I0:=bI f135
def Mk:=PLift.up (by have c:=bM I0 f135;simp only [aO,f135,seval] at c;exact nd c <| nd @nu <| nd @zt <| nd @uD <| nd @ta <| nd @AJ <| nd @jQ <| nd @cq <| nd @ui <| nd @kp <| nd @AN <| @zD1)
theorem oO:type_of% Mk.down:=Mk.down
end Go.Proofs.YtnkmeidmdaidhaaGreatDoor
