/- Walks: canonical variants. Written out by fill2.py. No condition. -/
import Derived.Test.YtnkmeidmdaidhaaGreatDoorG24
set_option linter.unusedSimpArgs false
set_option linter.unusedVariables false
set_option maxRecDepth 100000
set_option maxHeartbeats 0
noncomputable section
namespace Go.Proofs.YtnkmeidmdaidhaaGreatDoor
open Go.Am Tryz
theorem zy8 (a:ae) (i:Nat) (hi:i < 4):a.cells[3+i*2+0]? = some (.bool (a.arg i).v):=by
 have:i=0\/i=1\/i=2\/i=3:=by omega
 rcases this with rfl|rfl|rfl|rfl <;> rfl
theorem zy9 (a:ae) (i:Nat) (hi:i < 4):a.cells[3+i*2+1]? = some (.string (a.arg i).s):=by
 have:i=0\/i=1\/i=2\/i=3:=by omega
 rcases this with rfl|rfl|rfl|rfl <;> rfl
theorem Xx:aJ.desc 102=some (.map 9 3):=by kernel_rfl
theorem H3:aJ.desc 9=some .string:=by kernel_rfl
theorem Vf:aJ.zero 3=some (.int .i64 0):=by kernel_rfl
theorem zBh (n:Nat):cE prog aJ .add 9 (.string ⟨#[86]⟩) (.string (kh n))=some (.string (⟨#[86]⟩++kh n)):=OY (by show 1+1<=_;omega)
theorem OO (a:ae) (h:Heap) (K:aO) (hk:∀ h',Ext h h'->K (bC a).val h'):Ok prog aJ ov 30 [a.val] h K:=by
 rw [az h]
 have z:=Ext.refl h
 have gZ:∀ (s:aV) (h:Heap) (K:aO),aM (some (.string s)) h K=K (.string s) h:=λ_ _ _=>rfl
 have ny:a.bt<=4:=by unfold ae.bt;omega
 refine Ok.aF 50 (bY XN) ?_
 repeat' (first|simp only [aa,seval,qQ,js,Mz,Lm]|((with_reducible apply O1);(· rfl);(· rfl))|((with_reducible apply O8);(· rfl);(· rfl)))
 have hc:(if (4:Int) < (if a.n < 0 then 0 else a.n) then (4:Int) else (if a.n < 0 then 0 else a.n))=(a.bt:Int):=by
  unfold ae.bt
  split <;> split <;> omega
 try rw [hc]
 refine uw (λh' x hq=>?_)
 have q0:=hq 0 _ rfl
 have q1:=hq 1 _ rfl
 have q2:=hq 2 _ rfl
 clear hq
 (replace z:=z.au x;rw [az h'])
 have tu:=z.size
 obtain ⟨A0,iX⟩:∃ A0,A0=h.size+0:=⟨_,rfl⟩
 obtain ⟨A1,nq⟩:∃ A1,A1=h.size+1:=⟨_,rfl⟩
 obtain ⟨M,hM⟩:∃ M,M=h.size+2:=⟨_,rfl⟩
 rw [<- iX] at q0
 rw [<- nq] at q1
 rw [<- hM] at q2
 rw [<- iX,<- nq,<- hM]
 obtain ⟨I1,bo⟩:∃ I:Nat->Env->Heap->Prop,I=(λn e h'=>∃ (i:Nat) (h1:Heap),h'=h1.lay [] h1.low/\Ext h h1/\(n=a.bt - i/\i<=a.bt/\ak h1 A0 (.row (eP (kJ a) a i).cells 28 false)/\ak h1 A1 (.row ah.cells 28 false)/\ep h1 M (D2 (cQ a i)))/\∃ J:Nat->ai,e=(J 0::.pointer (some ⟨A0,0,none⟩)::.pointer (some ⟨A1,0,none⟩)::.map (some M)::jr J 4 7 (.int .i64 a.bt::.int .i64 i::jr J 13 38 ([])))):=⟨_,rfl⟩
 refine fh I1 _ (by rw [bo];exact ⟨0,_,rfl,z,⟨rfl,by omega,q0,q1,ep.new q2⟩,bO⟩) ?_
 intro n e h' aU
 rw [bo] at aU
 obtain ⟨i,cF,rfl,z,hinv,J,rfl⟩:=aU
 clear q0 q1 q2
 obtain ⟨rfl,hi,q0,q1,q2⟩:=hinv
 have hw:=gE i (by omega)
 have hz:=z.size
 simp only [aa,seval,qQ]
 refine cm (λbc=>?_) (λbc=>?_)
 rotate_left
 .have he:i=a.bt:=by omega
  subst he
  have mH:ak cF A0 (.row (bC a).cells 28 false):=q0
  repeat' (simp only [aa,seval,qQ,mH.lay,↓fU,eG,dS])
  refine EG q1 cw rfl rfl rfl (λda pU c=>?_)
  replace z:=z.aw.step c (by omega)
  rw [az da]
  have wM:ak da A1 (.row (bC a).cells 28 false):=pU
  simp only [aa,seval,qQ,wM.lay,↓fU,eG,dS]
  exact hk _ z.aw
 have jH:(0:Int)<=(i:Int)/\(i:Int) < 4:=by omega
 have c0:=zy8 (eP (kJ a) a i) i (by omega)
 have c1:=zy9 (eP (kJ a) a i) i (by omega)
 rw [zrY _ _ (by omega)] at c0 c1
 have Dz:=Ww a i
 cases hv:(a.arg i).v
 .rw [hv] at c0
  have sV:kJ a i=a.arg i:=by unfold kJ;rw [aA (by rw [hv];decide)]
  have qj:=zAq hv
  have Kb:=q0
  rw [<- zoI (f:=kJ a) (a:=a) (k:=i) (by omega) sV] at Kb
  have Z6:=q2
  rw [<- qj] at Z6
  repeat' (first|simp only [aa,seval,qQ,q0.lay,jH,c0]|((with_reducible apply cK);(· rfl)))
  rw [hw]
  (rw [bo];with_reducible refine dA (m:=_) ?_ ⟨i+1,_,rfl,z,⟨rfl,by omega,Kb,q1,Z6⟩,bO⟩;omega)
 rw [hv] at c0
 have sV:kJ a i=⟨true,⟨#[86]⟩++kh (gP (a.arg i).s (cQ a (i+1)))⟩:=by unfold kJ;rw [aB hv]
 repeat' (first|simp only [aa,seval,qQ,q0.lay,jH,c0,c1,gZ]|((with_reducible apply cK);(· rfl)))
 simp only [cv,seval,LB]
 refine ztI q2 Xx H3 Vf ?_
 rw [zBA]
 by_cases hm:(a.arg i).s∈cQ a i
 .rw [aB hm]
  have hix:=Xf hm
  have qj:=zyc hm
  rw [qj] at sV
  repeat' (first|simp only [aa,seval,qQ,Aq,GV]|((with_reducible apply cK);(· rfl)))
  refine W4 (gP (a.arg i).s (cQ a i)) (by omega) _ _ (λh' x=>?_)
  (replace z:=z.au x;replace q0:=q0.over x;replace q1:=q1.over x;replace q2:=q2.over x;rw [az h'])
  repeat' (simp only [aa,seval,qQ,gZ,zBh,jH])
  refine jL (o:=3+i*2+1) q0 Eh rfl rfl (by show _<=11;omega) rfl (λda mH c=>?_)
  have Bf:=Wl (f:=kJ a) (a:=a) (k:=i) (by omega) (by rw [sV,hv])
  rw [sV] at Bf
  replace mH:ak da A0 (.row (eP (kJ a) a (i+1)).cells 28 false):=by rw [<- Bf];exact mH
  have pU:=q1.bB c (by omega)
  have oL:=q2.bB c (by omega)
  replace z:=z.aw.step c (by omega)
  rw [az da]
  clear q0 q1 q2
  repeat' (simp only [aa,seval,qQ])
  rw [hw]
  (rw [bo];with_reducible refine dA (m:=_) ?_ ⟨i+1,_,rfl,z,⟨rfl,by omega,mH,pU,by rw [qj];exact oL⟩,bO⟩;omega)
 .rw [aA hm]
  have qj:=zr0 hv hm
  rw [qj,zox hm] at sV
  repeat' (first|simp only [aa,seval,qQ,Option.getD_none,Cg]|((with_reducible apply cK);(· rfl)))
  have eD:=Uq (h1:=cF) (bs:=[]) (w:=cF.low) q2 Xx
  rw [zAm] at eD
  repeat' (simp only [aa,seval,qQ,eD])
  repeat' (simp only [aa,seval,qQ,Lc,gZ,q0.lay,jH,c1])
  refine zyS q2 Xx H3 (λh3 q3 c3=>?_)
  rw [UJ hm,<- qj] at q3
  replace q0:=q0.bB c3 (by omega)
  replace q1:=q1.bB c3 (by omega)
  replace z:=z.cp c3 (by omega) (by omega)
  clear q2 eD
  rw [az h3]
  repeat' (simp only [aa,seval,qQ])
  refine W4 (cQ a i).length (by omega) _ _ (λh' x=>?_)
  (replace z:=z.au x;replace q0:=q0.over x;replace q1:=q1.over x;replace q3:=q3.over x;rw [az h'])
  repeat' (simp only [aa,seval,qQ,gZ,zBh,jH])
  refine jL (o:=3+i*2+1) q0 Eh rfl rfl (by show _<=11;omega) rfl (λda mH c=>?_)
  have Bf:=Wl (f:=kJ a) (a:=a) (k:=i) (by omega) (by rw [sV,hv])
  rw [sV] at Bf
  replace mH:ak da A0 (.row (eP (kJ a) a (i+1)).cells 28 false):=by rw [<- Bf];exact mH
  have pU:=q1.bB c (by omega)
  have oL:=q3.bB c (by omega)
  replace z:=z.aw.step c (by omega)
  rw [az da]
  clear q0 q1 q3
  repeat' (simp only [aa,seval,qQ])
  rw [hw]
  (rw [bo];with_reducible refine dA (m:=_) ?_ ⟨i+1,_,rfl,z,⟨rfl,by omega,mH,pU,oL⟩,bO⟩;omega)
theorem zxC:cE prog aJ .add 9 (.string ⟨#[35]⟩) (.string (kh 1))=some (.string ⟨#[35,49]⟩):=OY (by show 1+1<=_;omega)
theorem zoV (a:ae) (Tf:a.bQ=true) (h:Heap) (K:aO) (hk:∀ h',Ext h h'->K (fp a).val h'):Ok prog aJ ov 50 [a.val,.int .i64 1] h K:=by
 rw [az h]
 have z:=Ext.refl h
 have gZ:∀ (s:aV) (h:Heap) (K:aO),aM (some (.string s)) h K=K (.string s) h:=λ_ _ _=>rfl
 have ny:a.bt<=4:=by unfold ae.bt;omega
 refine Ok.aF 33 (bY XY) ?_
 repeat' (first|simp only [aa,seval,uU,js,Mz]|((with_reducible apply O1);(· rfl);(· rfl))|((with_reducible apply O8);(· rfl);(· rfl)))
 have hc:(if (4:Int) < (if a.n < 0 then 0 else a.n) then (4:Int) else (if a.n < 0 then 0 else a.n))=(a.bt:Int):=by
  unfold ae.bt
  split <;> split <;> omega
 try rw [hc]
 refine uw (λh' x hq=>?_)
 have q0:=hq 0 _ rfl
 have q1:=hq 1 _ rfl
 clear hq
 (replace z:=z.au x;rw [az h'])
 have tu:=z.size
 obtain ⟨A0,iX⟩:∃ A0,A0=h.size+0:=⟨_,rfl⟩
 obtain ⟨A1,nq⟩:∃ A1,A1=h.size+1:=⟨_,rfl⟩
 rw [<- iX] at q0
 rw [<- nq] at q1
 rw [<- iX,<- nq]
 obtain ⟨I1,bo⟩:∃ I:Nat->Env->Heap->Prop,I=(λn e h'=>∃ (i:Nat) (h1:Heap),h'=h1.lay [] h1.low/\Ext h h1/\(n=a.bt - i/\i<=a.bt/\ak h1 A0 (.row (eP (jj a) a i).cells 28 false)/\ak h1 A1 (.row ah.cells 28 false))/\∃ J:Nat->ai,e=(J 0::.int .i64 1::.pointer (some ⟨A0,0,none⟩)::J 3::.pointer (some ⟨A1,0,none⟩)::jr J 5 7 (.int .i64 a.bt::.int .i64 i::jr J 14 21 ([])))):=⟨_,rfl⟩
 refine fh I1 _ (by rw [bo];exact ⟨0,_,rfl,z,⟨rfl,by omega,q0,q1⟩,bO⟩) ?_
 intro n e h' aU
 rw [bo] at aU
 obtain ⟨i,cF,rfl,z,hinv,J,rfl⟩:=aU
 clear q0 q1
 obtain ⟨rfl,hi,q0,q1⟩:=hinv
 have hw:=gE i (by omega)
 have hz:=z.size
 simp only [aa,seval,uU]
 refine cm (λbc=>?_) (λbc=>?_)
 rotate_left
 .have he:i=a.bt:=by omega
  subst he
  have mH:ak cF A0 (.row (fp a).cells 28 false):=q0
  repeat' (simp only [aa,seval,uU,mH.lay,↓fU,eG,dS])
  refine EG q1 cw rfl rfl rfl (λda pU c=>?_)
  replace z:=z.aw.step c (by omega)
  rw [az da]
  have wM:ak da A1 (.row (fp a).cells 28 false):=pU
  simp only [aa,seval,uU,wM.lay,↓fU,eG,dS]
  exact hk _ z.aw
 have jH:(0:Int)<=(i:Int)/\(i:Int) < 4:=by omega
 have c0:=zy8 (eP (jj a) a i) i (by omega)
 have c1:=zy9 (eP (jj a) a i) i (by omega)
 rw [zrY _ _ (by omega)] at c0 c1
 cases hv:(a.arg i).v
 .rw [hv] at c0
  have sV:jj a i=a.arg i:=by unfold jj;rw [aA (by rw [hv];decide)]
  have Kb:=q0
  rw [<- zoI (f:=jj a) (a:=a) (k:=i) (by omega) sV] at Kb
  repeat' (simp only [aa,seval,uU,q0.lay,jH,c0])
  rw [hw]
  (rw [bo];with_reducible refine dA (m:=_) ?_ ⟨i+1,_,rfl,z,⟨rfl,by omega,Kb,q1⟩,bO⟩;omega)
 rw [hv] at c0
 have sV:jj a i=⟨true,(a.arg i).s++⟨#[35,49]⟩⟩:=by unfold jj;rw [aB hv]
 have dV:=Lo Tf i
 have Sw:cE prog aJ .add 9 (.string (a.arg i).s) (.string ⟨#[35,49]⟩)=some (.string ((a.arg i).s++⟨#[35,49]⟩)):=OY (by show _+2<=_;omega)
 simp only [aa,seval,uU,q0.lay,jH,c0]
 with_reducible first|refine eF (by simp only [uU]) z.aw ?_
 simp only [aa,seval,uU,q0.lay,jH,c1,gZ]
 refine W4 1 (by omega) _ _ (λh' x=>?_)
 (((with_reducible refine fP ?_ ?_ ?_);(· exact (by (simp only [gh]);have:=z.size;omega));(· exact x));replace z:=z.au x;replace q0:=q0.over x;replace q1:=q1.over x;rw [az h'])
 repeat' (simp only [aa,seval,uU,gZ,zxC,Sw,jH])
 refine jL (o:=3+i*2+1) q0 Eh rfl rfl (by show _<=11;omega) rfl (λda mH c=>?_)
 refine i3 (A:=A0) (by kernel_rfl) (by rw [br];have:=z.size;omega) (by omega) (by simpa only [bS,br,bD,dK,gS] using c) ?_
 have Bf:=Wl (f:=jj a) (a:=a) (k:=i) (by omega) (by rw [sV,hv])
 rw [sV] at Bf
 replace mH:ak da A0 (.row (eP (jj a) a (i+1)).cells 28 false):=by rw [<- Bf];exact mH
 have pU:=q1.bB c (by omega)
 replace z:=(z.jK [] (h'.size+0) (by have:=z.size;omega)).step c (by omega)
 rw [az da]
 clear q0 q1
 simp only [cv,seval,uU]
 ((with_reducible refine ⟨z.cS.lay _ _,?_⟩);(intro _ h' zz x _);(simp only [bS,bD] at x);replace mH:=mH.over x;replace pU:=pU.over x;(replace z:=zz);(clear zz);rw [az h'])
 simp only [aa,seval,uU]
 rw [hw]
 (rw [bo];with_reducible refine dA (m:=_) ?_ ⟨i+1,_,rfl,z,⟨rfl,by omega,mH,pU⟩,bO⟩;omega)
theorem WA (p g:ae) (h:Heap) (K:aO)
 (hk:∀ h' w b,Ext h h'->(bz [] p g=none->b=false)->(∀ m,bz [] p g=some m->b=true/\Sl aG.bind h' w m)->K (.tuple #[w,.bool b]) h'):Ok prog aJ ov 67 [p.val,g.val] h K:=by
 rw [az h]
 have z:=Ext.refl h
 refine Ok.aF 9 (bY Yc) ?_
 repeat' (simp only [aa,seval,YD,js,↓fU,eG,dS])
 refine zBE [] _ p g _ Sl.nil (by simp) _ (λh' w b x hn hs=>?_)
 (replace z:=z.au x;rw [az h'])
 have dg:∀ (h:Heap) (K:aO),aM (some w) h K=K w h:=λ_ _=>rfl
 cases b
 all_goals
  repeat' (simp only [aa,seval,YD,dg])
  exact hk _ _ _ z.aw hn (λm hm=>⟨(hs m hm).1,(hs m hm).2.lay _ _⟩)
theorem zsr (a:ae):a.val.cells.size=11:=rfl
theorem zrX (a:ae):a.cells.length=11:=rfl
theorem zsa (a:ae):a.cells.all Am.one=true:=rfl
theorem EF (a:ae):a.val.cells.size=11:=rfl
theorem ED (a:ae):a.cells.length=11:=rfl
theorem Gv (a:ae):a.cells.all Am.one=true:=rfl
theorem zlj (b:ae) (z0 z1 z2 z3 z4 z5 z6 z7 z8 z9 Em:ai):pZ (λi=>some (i*11,11)) [z0,z1,z2,z3,z4,z5,z6,z7,z8,z9,Em] [(0,b.val)]=some b.cells:=rfl
theorem Px:tJ aJ 23 23=true:=by kernel_rfl
theorem zBD (p:ae) (l:aN) (v:ai) (h:Heap) (hl:Sl aG.atom h v l) (hs:l.length<=1000) (K:aO)
 (hk:∀ h' w A,Ext h h'->Ow aG.atom h h' 28 A w (fB p l)->K w h'):Ok prog aJ ov 58 [p.val,v] h K:=by
 rw [az h]
 have z:=Ext.refl h
 have eD:=λ(hh:Heap)=>hl.bW cM hh
 refine Ok.aF 27 (bY X3) ?_
 repeat' (simp only [aa,seval,yy,js,eD])
 refine uw (λh' x hq=>?_)
 have q0:=hq 0 _ rfl
 clear hq
 (replace z:=z.au x;rw [az h'])
 obtain ⟨A0,iX⟩:∃ A0,A0=h.size+0:=⟨_,rfl⟩
 rw [<- iX] at q0
 rw [<- iX]
 have tu:=z.size
 obtain ⟨I1,bo⟩:∃ I:Nat->Env->Heap->Prop,I=(λn e h'=>∃ (i:Nat) (wv:ai) (A:Nat) (h1:Heap),h'=h1.lay [] h1.low/\Ext h h1/\(n=l.length - i/\i<=l.length/\ak h1 A0 (.row p.cells 28 false)/\Ow aG.atom h h1 28 A wv (fB p (l.take i))/\A≠A0)/\∃ J:Nat->ai,e=(jr J 0 2 (.pointer (some ⟨A0,0,none⟩)::jr J 3 2 (wv::jr J 6 4 (v::.int .i64 l.length::.int .i64 i::jr J 13 16 ([])))))):=⟨_,rfl⟩
 refine fh I1 _ (by rw [bo];exact ⟨0,.slice none 0 0,h.size+1,_,rfl,z,⟨rfl,by omega,q0,Ow.nil (by omega),by omega⟩,bO⟩) ?_
 intro n e h' aU
 rw [bo] at aU
 obtain ⟨i,wv,A,cF,rfl,z,hinv,J,rfl⟩:=aU
 clear q0
 obtain ⟨rfl,hi,q0,ow,YN⟩:=hinv
 have hw:=gE i (by omega)
 have hz:=z.size
 simp only [aa,seval,yy]
 refine cm (λfM=>?_) (λfM=>?_)
 rotate_left
 .rw [iR (by omega)] at ow
  repeat' (simp only [aa,seval,yy])
  exact hk _ _ _ z.aw (ow.mono (bP.lay _ _ _))
 obtain ⟨r,hr,cI⟩:=i4 (l:=l) (i:=i) (by omega)
 have kq:l.take (i+1)=l.take i++[r]:=by rw [oT,cI];rfl
 have oF:=zuU p (l.take i) r
 rw [<- kq] at oF
 have hle:=OC p (l.take i)
 rw [gR] at hle
 repeat' (first|simp only [aa,seval,yy]|with_reducible refine tH (hl.mono z.inc) cM cw (by omega) hr (λpp hp=>?_)|with_reducible refine rj hp jb cw ?_)
 repeat' (simp only [aa,seval,yy,iw,iv,fW,nb,js,EF,ED,Gv,↓fU,eG,dS,q0.lay])
 refine WA p r _ _ (λh' w b x hn hs=>?_)
 have q1:=ak.top (i:=0) x rfl
 (replace z:=z.au x;replace q0:=q0.over x;replace ow:=ow.over x;rw [az h'])
 clear hp
 have FV:∀ (h:Heap) (K:aO),aM (some w) h K=K w h:=λ_ _=>rfl
 cases b
 .have he:(bz [] p r).isSome=false:=by
   cases hx:bz [] p r with
   |none=>rfl
   |some m=>exact absurd (hs m hx).1 (by decide)
  rw [he,aA (by decide)] at oF
  repeat' (simp only [aa,seval,yy,FV])
  rw [hw]
  (rw [bo];with_reducible refine dA (m:=_) ?_ ⟨i+1,wv,A,_,rfl,z,⟨rfl,by omega,q0,by rw [oF];exact ow,YN⟩,bO⟩;omega)
 .have he:(bz [] p r).isSome=true:=by
   cases hx:bz [] p r with
   |none=>exact absurd (hn hx) (by decide)
   |some m=>rfl
  rw [he,aB rfl] at oF
  repeat' (simp only [aa,seval,yy,FV,q1.lay,↓fU,eG,dS])
  simp only [aa,seval,yy,lF,Px,zlj]
  refine xb (i:=0) (cs:=r.cells) (x:=r) cM zS rfl (by decide) (by rfl) z.size ow rfl (by omega) (by omega) (λw3 h3 A3 jz gg kO=>?_)
  have FJ:=ow.fresh
  have aid:=q0.lt
  replace q0:=q0.bB gg (Ne.symm YN)
  replace z:=z.aw.step gg (by omega)
  rw [az h3]
  repeat' (simp only [aa,seval,yy])
  rw [hw]
  rw [<- oF] at jz
  clear ow
  (rw [bo];with_reducible refine dA (m:=_) ?_ ⟨i+1,w3,A3,_,rfl,z,⟨rfl,by omega,q0,jz,by rcases kO with e|e <;> omega⟩,bO⟩;omega)
def Yk:=bR f80
def x80:=PLift.up (by have c:=bU Yk f80;simp only [aS,f80,seval] at c;exact nd c <| @Re)
theorem YE:type_of% x80.down:=x80.down
def Hl:=bR f114
def Kz:=PLift.up (by have c:=bU Hl f114;simp only [aS,f114,seval] at c;exact nd c <| @zB8)
theorem HQ:type_of% Kz.down:=Kz.down
def Hi:=bR f111
def Kw:=PLift.up (by have c:=bU Hi f111;simp only [aS,f111,seval] at c;exact nd c <| @zB5)
theorem HO:type_of% Kw.down:=Kw.down
def Yl:=bR f81
def x81:=PLift.up (by have c:=bU Yl f81;simp only [aS,f81,seval] at c;exact nd c <| @Rf)
theorem CG:type_of% x81.down:=x81.down
def Yj:=bR f79
def x79:=PLift.up (by have c:=bU Yj f79;simp only [aS,f79,seval] at c;exact nd c <| nd @Ut <| @Rd)
theorem rV:type_of% x79.down:=x79.down
def Hk:=bR f113
def Ky:=PLift.up (by have c:=bU Hk f113;simp only [aS,f113,seval] at c;exact nd c <| @zB7)
theorem HP:type_of% Ky.down:=Ky.down
def Ym:=bR f82
def x82:=PLift.up (by have c:=bU Ym f82;simp only [aS,f82,seval] at c;exact nd c <| @Rh)
theorem MN:type_of% x82.down:=x82.down
def XT:=bR f44
def x44:=PLift.up (by have c:=bU XT f44;simp only [aS,f44,seval] at c;exact nd c <| @QJ)
theorem HW:type_of% x44.down:=x44.down
def XU:=bR f45
def x45:=PLift.up (by have c:=bU XU f45;simp only [aS,f45,seval] at c;exact nd c <| @QK)
theorem P6:type_of% x45.down:=x45.down
def Yp:=bR f85
def x85:=PLift.up (by have c:=bU Yp f85;simp only [aS,f85,seval] at c;exact nd c <| @Rk)
theorem HX:type_of% x85.down:=x85.down
def Hn:=bR f116
def KB:=PLift.up (by have c:=bU Hn f116;simp only [aS,f116,seval] at c;exact nd c <| @zCa)
theorem uR:type_of% KB.down:=KB.down
def Yo:=bR f84
def x84:=PLift.up (by have c:=bU Yo f84;simp only [aS,f84,seval] at c;exact nd c <| @Rj)
theorem Qb:type_of% x84.down:=x84.down
def Hm:=bR f115
def KA:=PLift.up (by have c:=bU Hm f115;simp only [aS,f115,seval] at c;exact nd c <| @zB9)
theorem uQ:type_of% KA.down:=KA.down
def Hj:=bR f112
def Kx:=PLift.up (by have c:=bU Hj f112;simp only [aS,f112,seval] at c;exact nd c <| @zB6)
theorem Cy:type_of% Kx.down:=Kx.down
def Hz:=bR f136
def KP:=PLift.up (by have c:=bU Hz f136;simp only [aS,f136,seval] at c;exact nd c <| nd @D0 <| nd @lD <| nd @D7 <| @zCo)
theorem yx:type_of% KP.down:=KP.down
def PA:=bR f49
def x49:=PLift.up (by have c:=bU PA f49;simp only [aS,f49,seval] at c;exact nd c <| nd @xX <| nd @uA <| nd @xH <| nd @lD <| @QO)
theorem MI:type_of% x49.down:=x49.down
def XI:=bR f25
def x25:=PLift.up (by have c:=bU XI f25;simp only [aS,f25,seval] at c;exact nd c <| nd @mQ <| nd @Mk <| nd @E0 <| nd @B7 <| nd @xY <| nd @zt <| nd @kr <| nd @cJ <| nd @nH <| nd @lD <| nd @zy <| @Qx)
theorem uS:type_of% x25.down:=x25.down
def XX:=bR f48
def x48:=PLift.up (by have c:=bU XX f48;simp only [aS,f48,seval] at c;exact nd c <| nd @kr <| @QN)
theorem P8:type_of% x48.down:=x48.down
def Hg:=bR f109
def Ku:=PLift.up (by have c:=bU Hg f109;simp only [aS,f109,seval] at c;exact nd c <| nd @cJ <| @zB3)
theorem HM:type_of% Ku.down:=Ku.down
def Hy:=bR f135
def KO:=PLift.up (by have c:=bU Hy f135;simp only [aS,f135,seval] at c;exact nd c <| nd @mQ <| nd @HK <| nd @xX <| nd @uA <| nd @zt <| nd @kr <| nd @cJ <| nd @xH <| nd @lD <| nd @zy <| @zCn)
theorem n8:type_of% KO.down:=KO.down
end Go.Proofs.YtnkmeidmdaidhaaGreatDoor
