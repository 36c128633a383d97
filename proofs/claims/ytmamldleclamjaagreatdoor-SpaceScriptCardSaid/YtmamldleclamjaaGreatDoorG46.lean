/- Walks: a copy of the document's space. Written out by fill2.py. No condition. -/
import Derived.Test.YtmamldleclamjaaGreatDoorG44
set_option linter.unusedSimpArgs false
set_option linter.unusedVariables false
set_option maxRecDepth 100000
set_option maxHeartbeats 0
namespace Go.Proofs.YtmamldleclamjaaGreatDoor
open Go.Am Tryz
variable {h:Heap}
theorem zw0 (d:aq) (q:Int) (facts:au->aN) (az:au->Nat) (h:Heap) (N S2 NB:Nat) (E:List Nat) (sd:gC N (aD E h) S2 NB d q facts az) (AV:∀ B∈E,B < h.size) (k0:d.ab.length<=16) (gv:∀ w,(facts w).length<=100000) (K:aI)
 (hk:∀ h' S3 me,Ext h h'->gC 0 (aD (NB::E) h') S3 me d q facts az->K (.pointer (some ⟨S3,0,none⟩)) h'):Ok prog aG ov 10 [.pointer (some ⟨S2,0,none⟩)] h K:=by
 obtain ⟨p0,p1,p2,p5,p6,b,nv,rows,e1,e2,e3,e4,e5,e6,e7,e8,e9⟩:=id sd
 have ik:=nu E h
 have g1:=e1.mono ik
 have g3:=cN.qZ e3 ik
 rw [fX] at e9
 have xz:∀ B∈NB::E,B < h.size:=λB hB=>by
  rcases cJ.1 hB with rfl|hB
  .exact e9
  .exact AV B hB
 have sZ:∀ hh:Heap,aD (NB::E) hh=aD [NB] (aD E hh):=λhh=>Dk [NB] E hh
 have EJ:fx (aD (NB::E) h) p0 p1 p2 p5 p6 d:=by rw [sZ];exact e2
 have e5':∀ x∈rows,x.n=az x.aR/\Sl aK.atom (aD (NB::E) h) x.v (facts x.aR):=by rw [sZ];exact e5
 have Ir:rows.length=d.ab.length:=by rw [<- e4,nA]
 obtain ⟨X,hX⟩:∃ X,X=NB::E:=⟨_,rfl⟩
 rw [<- hX] at hk xz EJ e5'
 obtain ⟨a0,n0,c0,rfl⟩:=nq e2.s0
 obtain ⟨a1,n1,c1,rfl⟩:=nq e2.s1
 obtain ⟨a2,n2,c2,rfl⟩:=nq e2.s2
 obtain ⟨a5,n5,c5,rfl⟩:=nq e2.s5
 obtain ⟨a6,n6,c6,rfl⟩:=nq e2.s6
 have je:∀ (h:Heap) (K:aI),aH (some nv) h K=K nv h:=λ_ _=>rfl
 have cU:=λ(hh:Heap)=>g3.bn wY hh
 rw [ao h]
 have z:=Ext.refl h
 refine Ok.aw 43 (bu N10) ?_
 simp only [aa,seval,uM,g1.lay,↓EG,gO,fY,zCW]
 obtain ⟨S3,zA⟩:∃ S3,S3=h.size+0:=⟨_,rfl⟩
 refine lZ (λh' x hq=>?_)
 have q1:=hq 0 _ rfl
 clear hq
 (replace z:=z.an x;replace g1:=g1.over x;rw [ao h'])
 rw [<- zA] at q1
 rw [<- zA]
 obtain ⟨I1,aX⟩:∃ I:Nat->Env->Heap->Prop,I=(λn e h'=>∃ (i:Nat) (me:Nat) (IA:ah) (iV:List j4) (h1:Heap),h'=h1.lay [] h1.low/\Ext h h1/\(n=rows.length - i/\i<=rows.length/\Holds h1 S3 (.row (za (.slice a0 n0 c0) (.slice a1 n1 c1) (.slice a2 n2 c2) (.slice a5 n5 c5) (.slice a6 n6 c6) q b IA) 78 false)/\cN 3 j4.cells h1 80 me IA iV/\iV.map j4.aR=(rows.take i).map j4.aR/\(∀ x∈iV,x.n=az x.aR/\Sl aK.atom (aD (me::S3::X) h1) x.v (facts x.aR))/\me < h1.size/\(IA=.slice none 0 0/\iV=[]\/h.size<=me/\me≠S3))/\∃ J:Nat->ah,e=(.pointer (some ⟨S2,0,none⟩)::jr J 1 2 (.pointer (some ⟨S3,0,none⟩)::.int .i64 i::jr J 5 39 ([])))):=⟨_,rfl⟩
 refine du I1 _ (by rw [aX];exact ⟨0,0,.slice none 0 0,[],_,rfl,z,⟨rfl,by omega,q1,cN.nil,by simp,by simp,by have:=q1.lt;omega,.inl ⟨rfl,rfl⟩⟩,bm⟩) ?_
 intro n e h' aP
 rw [aX] at aP
 obtain ⟨i,me,IA,iV,bx,rfl,z,hinv,J,rfl⟩:=aP
 clear q1 g1
 obtain ⟨rfl,hi,q1,f,mq,aE,H3,HZ⟩:=hinv
 have g1:=(e1.mono ik).mono z.inc
 have g3:=cN.qZ (cN.qZ e3 ik) z.inc
 have gk:=ei i (by omega)
 have qu:=z.size
 have hr3:iV.length=i:=by
  have:=congrArg List.length mq
  rw [nA,nA,fw] at this
  omega
 simp only [aa,seval,uM,g1.lay,vU,je,cU]
 refine bq (λaW=>?_) (λkW=>?_)
 rotate_left
 .rw [gA (by omega),e4] at mq
  have fr:aM [] h (bx.lay [] bx.low):=(z.cT []).trans (aM.lay _ _ _ []) (λ_ h=>nomatch h)
  have L6:S3 ∉ X:=λhx=>by have:=xz _ hx;omega
  simp only [aa,seval,uM]
  rcases HZ with ⟨rfl,rfl⟩|⟨Y3,n3'⟩
  .exact hk _ S3 NB z.aC ⟨_,_,_,_,_,b,_,[],(q1.on _ _).iU L6,EJ.mono (zy1 (λA hA _=>.inl (by rw [fH.1 hA];exact yV (by rw [hX];exact fZ) e9)) (fr.kill X).all),cN.nil,mq,by simp,by omega,i6 _,i6 _,by rw [fX,bd];omega⟩
  .exact hk _ S3 me z.aC ⟨_,_,_,_,_,b,_,iV,(q1.on _ _).iU L6,EJ.mono (zjH (fr.kill X).all (λB hB=>by rw [fH.1 hB,fX];exact Y3)),(f.lay _ _).hold (λ_ q=>q.iU (λhx=>by have:=xz _ hx;omega)),mq,λx hx=>⟨(aE x hx).1,(aE x hx).2.mono (bH.trans (SJ (nu [S3] (aD X bx))) (SJ ((aM.lay bx [] _ []).kill X).all))⟩,n3'.symm,i6 _,i6 _,by rw [fX,bd];omega⟩
 obtain ⟨⟨s,sv,sn⟩,hr⟩:∃ r,rows[i]? = some r:=⟨_,ie (by omega)⟩
 obtain ⟨lM,jV⟩:=e5' _ (fW hr)
 dsimp only at lM jV
 have hrn:=gv s
 obtain ⟨va,vl,vc,rfl⟩:=nq jV
 have gr:=g3.ix (kd:=.i64) (i:=i) wY D0 (by omega)
 obtain ⟨row,FY,km⟩:=g3.row hr
 replace km:cut row (i*3) 3=some [.string s,.slice va vl vc,.int .u64 sn]:=km
 have Nh:∀ (l:List ah) (h:Heap) (K:aI),aH (some (.agg l.toArray)) h K=K (.agg l.toArray) h:=λ_ _ _=>rfl
 simp only [aa,seval,uM,g1.lay,vU,je,gr,FY.lay,↓km,Nh]
 refine zkL (i:=0) rfl D0 rfl rfl rfl rfl ?_
 simp only [nR]
 simp only [aa,seval,uM,ly,ZV]
 obtain ⟨hb,Fy⟩:∃ hb,hb=bx.lay [ba.row [.string s,.slice va vl vc,.int .u64 sn] 80 false,ba.row [] 47 false] (min bx.low (bx.size+0)):=⟨_,rfl⟩
 rw [<- Fy]
 have H8:hb.size=bx.size+2:=by rw [Fy,bd];rfl
 have frb:aM [] bx hb:=by rw [Fy];exact aM.lay _ _ _ _
 have zb:Ext h hb:=by rw [Fy];exact z.aC
 have qb:Holds hb (bx.size+0) (.row [.string s,.slice va vl vc,.int .u64 sn] 80 false):=by rw [Fy];exact ⟨by rw [bd];simp,by rw [iB];rfl⟩
 have f0:Ow aK.atom bx hb 47 (bx.size+2) (.slice (some ⟨bx.size+1,0,none⟩) 0 0) [] :=
  .inl ⟨by omega,rfl,.inr ⟨bx.size+1,0,rfl,by omega,by omega,[],47,false,by rw [Fy,iB];rfl⟩⟩
 obtain ⟨P,hP⟩:∃ P,P=bx.size+0:=⟨_,rfl⟩
 rw [<- hP] at qb
 rw [<- hP]
 have rT:Sl aK.atom hb (.slice va vl vc) (facts s):=((jV.mono (nu X h)).mono z.inc).mono frb.all
 obtain ⟨news,hs,mI⟩:=vT (A:=bx.size+2) (r:=aK.atom) (by decide) rT (λcs y hr=>hr)
 obtain ⟨w,h3,A',k1,k2,k3,k4,k5⟩:=uy (t:=51) bF r6 rfl (by decide) (by omega) f0 hs mI (by simp only [dK];omega) (by simp only [dK];omega)
 rw [k1]
 rw [pk] at k2
 obtain ⟨wa,wn,wc,rfl⟩:=nq (k2.sl (by decide))
 have q3:=qb.step k3 (by omega)
 have z3:=zb.step k3 (by omega)
 have fO:aM [] bx h3:=frb.trans (k3.cT (D:=[bx.size+2]) (by simp)) (λB hB=>.inr (by rw [fH.1 hB];omega))
 have pO:=k3.size
 have WD:P≠A':=by omega
 rw [ao h3]
 simp only [aa,seval,uM]
 refine GQ (o:=1) q3 zxX rfl rfl (by show 1+1<=3;decide) rfl (λh4 q4 Rf=>?_)
 replace q4:Holds h4 P (.row [.string s,.slice wa wn wc,.int .u64 sn] 80 false):=q4
 have o4:=Ow.turn (λ_ _ _ _ q=>q) (k2.lay [] h3.low) Rf WD q4
 have z4:=z3.cw Rf (by omega) (by omega)
 have jk:aM [] bx h4:=fO.trans ((aM.lay h3 [] h3.low [P]).trans (Rf.cT (by simp)) (λB hB=>.inl hB)) (λB hB=>.inr (by rw [fH.1 hB];omega))
 have td:=jk.size
 have sw4:Sl aK.atom (aD (me::S3::X) h4) (.slice wa wn wc) (facts s):=o4.aD (λ_ _ _ _ q=>q) (by decide) (λB hB=>by
  have:=q1.lt
  rcases cJ.1 hB with rfl|hB
  .omega
  .rcases cJ.1 hB with rfl|hB
   .omega
   .have:=xz B hB;omega)
 have zQ:=q1.cY jk
 have f4:=f.hold (λ_ q=>q.cY jk)
 have hS4:=zQ.lt
 have CB:∀ x∈iV,x.n=az x.aR/\Sl aK.atom (aD (me::S3::X) h4) x.v (facts x.aR):=λx hx=>⟨(aE x hx).1,(aE x hx).2.mono (jk.mono (D':=me::S3::X) (λ_ h=>nomatch h) |>.inc (λB hB=>.inl hB))⟩
 obtain ⟨Ed,UQ,H2⟩:∃ Ed,cN 3 j4.cells h4 80 Ed IA iV/\(IA=.slice none 0 0/\iV=[]/\Ed=h4.size\/Ed=me/\h.size<=me/\me≠S3):=by
  rcases HZ with ⟨e1,e2⟩|e
  .exact ⟨h4.size,by rw [e1,e2];exact cN.nil,.inl ⟨e1,e2,rfl⟩⟩
  .exact ⟨me,f4,.inr ⟨rfl,e⟩⟩
 clear z q1 f aE zb qb f0 mI q3 z3 fO k2 k3 Rf
 have z:=z4
 rw [ao h4]
 obtain ⟨xa,xn,xc,rfl⟩:=UQ.shape
 have am2:aM [] h4 h4:=aM.refl _ _
 simp only [aa,seval,uM]
 with_reducible first|refine dL (by simp only [uM]) z.aC ?_
 simp only [aa,seval,uM,zQ.lay,q4.lay,vU,Nh]
 refine vN (by omega) (by omega) ?_
 simp only [dx,seval,uM,ly,zAy]
 refine cN.app (x:=(⟨s,.slice wa wn wc,sn⟩:j4)) (j:=0) Ji rfl (by decide) wY SR UQ rfl (by omega) (by omega) (λv3 h5 N3 f5 hN5 R0 Ry=>?_)
 have YN:=z.size
 have kR:aM [Ed] h4 h5:=by
  rcases H2 with ⟨e1,_,_⟩|⟨e1,_,_⟩
  .exact (aM.refl [Ed] h4).over (R0 e1)
  .exact (aM.refl [Ed] h4).ji (Ry (by omega)) (.inl (by simp))
 have z5:Ext h h5:=by
  rcases H2 with ⟨e1,_,_⟩|⟨e1,e2,_⟩
  .exact z.rf (R0 e1) (by omega)
  .exact z.cw (Ry (by omega)) (by omega) (by omega)
 have ud:=kR.size
 refine zS (by kernel_rfl) z5.low (by
  rcases H2 with ⟨e1,_,_⟩|⟨e1,_,_⟩
  .exact (R0 e1).size
  .exact (Ry (by omega)).size) ?_
 have AX:h.size<=N3/\N3≠S3/\(N3=me\/h4.size<=N3):=by
  rw [bd] at hN5
  rcases H2 with ⟨_,_,e3⟩|⟨e1,e2,e3⟩ <;> rcases hN5 with ⟨e4,e5⟩|e4 <;> omega
 have q15:=zQ.cT kR (λhm=>by
  rw [fH] at hm
  rcases H2 with ⟨_,_,e3⟩|⟨e1,e2,e3⟩ <;> omega)
 obtain ⟨ya,yn,yc,rfl⟩:=f5.shape
 have WA:aM (me::S3::X) h4 h5:=(aM.refl (me::S3::X) h4).trans kR (λB hB=>by
  rw [fH.1 hB]
  rcases H2 with ⟨_,_,e3⟩|⟨e1,e2,e3⟩
  .exact .inr (by omega)
  .exact .inl (by rw [e1];exact fZ))
 clear z z4 R0 Ry zQ q4 UQ f4
 have z:=z5
 rw [ao h5]
 simp only [aa,seval,uM]
 refine GQ (o:=7) q15 zAA rfl rfl (by show 7+1<=8;decide) rfl (λh6 q6 Rh=>?_)
 replace q6:Holds h6 S3 (.row (za (.slice a0 n0 c0) (.slice a1 n1 c1) (.slice a2 n2 c2) (.slice a5 n5 c5) (.slice a6 n6 c6) q b (.slice ya yn yc)) 78 false):=q6
 have z6:=z.cw Rh (by omega) (by omega)
 have RU:=Rh.size
 rw [bd] at RU
 refine zS (by kernel_rfl) z6.low (by rw [bd];exact RU) ?_
 have f6:=f5.bK Rh AX.2.1
 have WB:aM (me::S3::X) h4 h6:=WA.ji Rh (.inl (by simp))
 clear z
 have z:=z6
 rw [ao h6]
 simp only [dx,seval,uM]
 ((with_reducible refine ⟨z.cK.lay _ _,?_⟩);(intro _ h' zz x _);(simp only [b9,bG] at x);replace q6:=q6.over x;replace f6:=f6.over x;(replace z:=zz);(clear zz);rw [ao h'])
 simp only [aa,seval,uM]
 rw [gk]

 have Mc:∀ x∈iV++[(⟨s,.slice wa wn wc,sn⟩:j4)],x.n=az x.aR/\Sl aK.atom (aD (N3::S3::X) h') x.v (facts x.aR):=by
  have hI:bH (aD (me::S3::X) h4) (aD (N3::S3::X) h'):=(WB.over x).inc (λB hB=>by
   rcases cJ.1 hB with rfl|hB
   .exact AX.2.2.imp (λe=>by rw [e];exact fZ) id
   .exact .inl (eQ _ hB))
  intro y hy
  rcases iA.1 hy with hy|hy
  .exact ⟨(CB y hy).1,(CB y hy).2.mono hI⟩
  .rw [fH.1 hy]
   exact ⟨lM,sw4.mono hI⟩
 (rw [aX];with_reducible refine cy (m:=_) ?_ ⟨i+1,N3,.slice ya yn yc,iV++[⟨s,.slice wa wn wc,sn⟩],_,rfl,z,⟨rfl,by omega,q6,f6,by rw [Ar,mq,nS,hr];simp,Mc,f6.lt (by simp),.inr ⟨AX.1,AX.2.1⟩⟩,bm⟩;omega)
theorem zwU {A:Nat} {c1 c2:List ah} (f:Holds h A (.row c1 80 false)) (g:Holds h A (.row c2 28 false)):False:=by
 have e:=f.get.symm.trans g.get
 simp only [eh,ba.row.injEq] at e
 exact absurd e.2.1 (by decide)
theorem zxc (d:aq) (p0 p1 p2 p5 p6:ah) (q b:Int) (h:Heap) (bt:(dW p0 p1 p2 p5 p6 q b).all Am.one=true) (hd:fx h p0 p1 p2 p5 p6 d) (hq:d.dV=q) (hb:d.cP=b) (hn:d.bf.length<=70) (X:List Nat) (hX:∀ B∈X,B < h.size) (hdX:fx (aD X h) p0 p1 p2 p5 p6 d) (K:aI)
 (sL:oF d≠0->∀ h',Ext h h'->K (.tuple #[.pointer none,.int .i64 (oF d)]) h')
 (kS:oF d=0->∀ h' S2 NB,Ext h h'->gC h.size (aD X h') S2 NB d q (λ_=>[]) (λ_=>0)->K (.tuple #[.pointer (some ⟨S2,0,none⟩),.int .i64 0]) h'):Ok prog aG ov 8 [hU p0 p1 p2 p5 p6 q b] h K:=by
 obtain ⟨a0,n0,c0,rfl⟩:=nq hd.s0
 obtain ⟨a1,n1,c1,rfl⟩:=nq hd.s1
 obtain ⟨a2,n2,c2,rfl⟩:=nq hd.s2
 obtain ⟨a5,n5,c5,rfl⟩:=nq hd.s5
 obtain ⟨a6,n6,c6,rfl⟩:=nq hd.s6
 rw [ao h]
 have z:=Ext.refl h
 have cU:=λ(hh:Heap)=>hd.s0.bn cG hh
 have hle:=hd.s0.le
 refine Ok.aw 37 (bu N8) ?_
 simp only [aa,seval,c8,kG,↓iR,gO,fY]
 refine zub d _ _ _ _ _ q b _ bt (hd.lay _ _) hq hb hn _ (λh' x=>?_)
 have q0:=Holds.top (i:=0) x rfl
 (replace z:=z.an x;rw [ao h'])
 obtain ⟨A0,ep⟩:∃ A0,A0=h.size+0:=⟨_,rfl⟩
 rw [<- ep] at q0
 rw [<- ep]
 simp only [aa,seval,c8]
 refine iS (λaS=>?_) (λheq=>?_)
 .simp only [aa,seval,c8]
  exact sL aS _ z.aC
 have amc:=q0.lt
 obtain ⟨gw,k0⟩:=zjm heq
 have hz:=z.size
 simp only [aa,seval,c8,q0.lay,↓iR,gO,fY,zCW]
 obtain ⟨S2,zy⟩:∃ S2,S2=h'.size+0:=⟨_,rfl⟩
 refine lZ (λh' x hq=>?_)
 have q1:=hq 0 _ rfl
 clear hq
 (replace z:=z.an x;replace q0:=q0.over x;rw [ao h'])
 rw [<- zy] at q1
 rw [<- zy]
 have amu:=q1.lt
 have LN:A0≠S2:=by omega
 obtain ⟨I1,aX⟩:∃ I:Nat->Env->Heap->Prop,I=(λn e h'=>∃ (i:Nat) (NB:Nat) (nv:ah) (rows:List j4) (h1:Heap),h'=h1.lay [] h1.low/\Ext h h1/\(n=d.ab.length - i/\i<=d.ab.length/\Holds h1 A0 (.row (dW (.slice a0 n0 c0) (.slice a1 n1 c1) (.slice a2 n2 c2) (.slice a5 n5 c5) (.slice a6 n6 c6) q b) 28 false)/\Holds h1 S2 (.row (za (.slice a0 n0 c0) (.slice a1 n1 c1) (.slice a2 n2 c2) (.slice a5 n5 c5) (.slice a6 n6 c6) q b nv) 78 false)/\cN 3 j4.cells h1 80 NB nv rows/\rows.map j4.aR=d.ab.take i/\(∀ x∈rows,x.v=.slice none 0 0/\x.n=0)/\h.size<=NB/\NB < h1.size/\NB≠S2/\(NB=A0->nv=.slice none 0 0))/\∃ J:Nat->ah,e=(J 0::.pointer (some ⟨A0,0,none⟩)::jr J 2 3 (.pointer (some ⟨S2,0,none⟩)::.int .i64 i::jr J 7 31 ([])))):=⟨_,rfl⟩
 refine du I1 _ (by rw [aX];exact ⟨0,A0,.slice none 0 0,[],_,rfl,z,⟨rfl,by omega,q0,q1,cN.nil,by simp,by simp,by omega,q0.lt,LN,λ_=>rfl⟩,bm⟩) ?_
 intro n e h' aP
 rw [aX] at aP
 obtain ⟨i,NB,nv,rows,bx,rfl,z,hinv,J,rfl⟩:=aP
 clear q0 q1
 obtain ⟨rfl,hi,q0,q1,f,mq,aE,WU,H3,WT,hNA⟩:=hinv
 have gk:=ei i (by omega)
 have qu:=z.size
 have Ir:rows.length=i:=by
  have:=congrArg List.length mq
  rw [nA,fw] at this
  omega
 simp only [aa,seval,c8,q0.lay,lO,cU]
 refine bq (λaW=>?_) (λkW=>?_)
 .obtain ⟨r,hr,bT⟩:=fo (l:=d.ab) (i:=i) (by omega)
  simp only [aa,seval,c8]
  with_reducible first|refine dL (by simp only [c8]) z.aC ?_
  obtain ⟨va,vn,vc,rfl⟩:=f.shape
  simp only [aa,seval,c8,q1.lay,vU,q0.lay,lO]
  repeat' ((first|with_reducible refine qz (hd.s0.mono z.inc) cG nK (by omega) hr (λp hp=>?_)|with_reducible refine iY hp kJ ?_) <;> simp only [aa,seval,c8,zDN])
  refine vN (by omega) (by omega) ?_
  simp only [dx,seval,c8,ly,zAy]
  refine cN.app (x:=(⟨r,.slice none 0 0,0⟩:j4)) (j:=0) Ji rfl (by decide) wY SR f rfl (by omega) (by omega) (λv3 h3 N3 f3 HZ hx3 zC=>?_)
  have c3:=zC H3
  have z3:=z.cw c3 WU (by omega)
  have pO:=c3.size
  rw [bd] at pO
  simp only [dY,dK] at pO
  refine zS (by kernel_rfl) z3.low (by rw [bd];simp only [dY,dK];omega) ?_
  have q13:=q1.bK c3 WT.symm
  have Cz:Holds h3 A0 (.row (dW (.slice a0 n0 c0) (.slice a1 n1 c1) (.slice a2 n2 c2) (.slice a5 n5 c5) (.slice a6 n6 c6) q b) 28 false):=by
   by_cases hh:NB=A0
   .exact q0.over (hx3 (hNA hh))
   .exact q0.bK c3 (λe=>hh e.symm)
  have amq:N3 < h3.size:=f3.lt (by simp)
  have WN:N3≠A0:=λe=>by
   rcases f3 with ⟨_,h0⟩|⟨qq,row,_,hr3,_⟩
   .simp at h0
   .exact zwU hr3 (e ▸ Cz)
  have L3:N3≠S2:=λe=>by
   rcases HZ with ⟨e2,_⟩|e2
   .exact WT (e2 ▸ e)
   .rw [bd] at e2
    have:=q1.lt
    omega
  have WO:h.size<=N3:=by
   rcases HZ with ⟨e2,_⟩|e2
   .omega
   .rw [bd] at e2
    omega
  obtain ⟨xa,xn,xc,rfl⟩:=f3.shape
  clear z q0 q1 f hx3 zC
  have z:=z3
  rw [ao h3]
  simp only [aa,seval,c8]
  refine GQ (o:=7) q13 zAA rfl rfl (by show 7+1<=8;decide) rfl (λh4 zQ c4=>?_)
  replace zQ:Holds h4 S2 (.row (za (.slice a0 n0 c0) (.slice a1 n1 c1) (.slice a2 n2 c2) (.slice a5 n5 c5) (.slice a6 n6 c6) q b (.slice xa xn xc)) 78 false):=zQ
  have z4:=z.cw c4 (by omega) (by omega)
  have td:=c4.size
  rw [bd] at td
  refine zS (by kernel_rfl) z4.low (by rw [bd];exact td) ?_
  have Zj:=Cz.bK c4 LN
  have f4:=f3.bK c4 L3
  clear z
  have z:=z4
  rw [ao h4]
  simp only [dx,seval,c8]
  ((with_reducible refine ⟨z.cK.lay _ _,?_⟩);(intro _ h' zz x _);(simp only [b9,bG] at x);replace Zj:=Zj.over x;replace zQ:=zQ.over x;replace f4:=f4.over x;(replace z:=zz);(clear zz);rw [ao h'])
  simp only [aa,seval,c8]
  rw [gk]
  (rw [aX];with_reducible refine cy (m:=_) ?_ ⟨i+1,N3,.slice xa xn xc,rows++[⟨r,.slice none 0 0,0⟩],_,rfl,z,⟨rfl,by omega,Zj,zQ,f4,by rw [Ar,mq,nS,show d.ab[i]? = some r from bT];simp,λx hx=>(iA.1 hx).elim (aE x) (λe=>by rw [fH.1 e];exact ⟨rfl,rfl⟩),WO,f4.lt (by simp),L3,λe=>absurd e WN⟩,bm⟩;omega)
 .rw [gA (by omega)] at mq
  have hzz:=z.size
  have AY:S2 ∉ X:=λhx=>by have:=hX _ hx;omega
  have uU:NB ∉ X:=λhx=>by have:=hX _ hx;omega
  simp only [aa,seval,c8]
  refine kS heq _ S2 NB z.aC ⟨.slice a0 n0 c0,.slice a1 n1 c1,.slice a2 n2 c2,.slice a5 n5 c5,.slice a6 n6 c6,b,nv,rows,(q1.on _ _).iU AY,hdX.mono (zjH (((z.cT []).trans (aM.lay _ _ _ []) (λ_ h=>nomatch h)).kill X).all (λB hB=>by rw [fH.1 hB,fX];exact WU)),(f.lay _ _).hold (λ_ q=>q.iU uU),mq,λx hx=>?_,WT.symm,by omega,WU,by rw [fX,bd];omega⟩
  obtain ⟨e1,e2⟩:=aE x hx
  rw [e1,e2]
  exact ⟨rfl,.nil⟩
theorem LD (b:Bool):cm prog aG .eql 4 (.bool b) (.bool b)=some (.bool true):=by cases b <;> kernel_rfl
theorem gC.down {N N2 S2 NB:Nat} {d:aq} {q:Int} {facts:au->aN} {az:au->Nat} (f:gC N h S2 NB d q facts az) (hN:N2<=N):gC N2 h S2 NB d q facts az:=by
 obtain ⟨p0,p1,p2,p5,p6,b,nv,rows,e1,e2,e3,e4,e5,e6,e7,e8,e9⟩:=f
 exact ⟨p0,p1,p2,p5,p6,b,nv,rows,e1,e2,e3,e4,e5,e6,by omega,by omega,e9⟩
theorem gC.nb {N S2 NB:Nat} {d:aq} {q:Int} {facts:au->aN} {az:au->Nat} (f:gC N h S2 NB d q facts az):N<=NB/\NB < h.size:=by
 obtain ⟨p0,p1,p2,p5,p6,b,nv,rows,e1,e2,e3,e4,e5,e6,e7,e8,e9⟩:=f
 exact ⟨e8,e9⟩
theorem zBV (d:aq) (q:Int) (c:dM) (facts:au->aN) (az us:au->Nat) (h hc:Heap) (z:Ext h hc) (N b k:Nat) (S0 S2 NB:Nat) (E:List Nat) (hN:N=h.size) (fb:eH [NB] N b hc S0 E d q facts az us) (sd:gC N (aD E hc) S2 NB d q facts az) (inv:de d k facts az us) (gw:d.ab.Nodup) (k0:d.ab.length<=16) (cR:bc 1 hc) (ha:c.a.aY=true) (hk:k<=700) (hb:b < 50000) (K:aI)
 (hK:∀ h' E2 gq,Ext h h'->aM (NB::E) hc h'->(∀ B∈E2,B∈E\/hc.size<=B)->eH [NB] N (b+4) h' S0 E2 d q (qi facts c.s (gX d q c (facts c.s))) (oK az c.s (gX d q c (facts c.s))) gq->gC N (aD E2 h') S2 NB d q (qi facts c.s (gX d q c (facts c.s))) (oK az c.s (gX d q c (facts c.s)))->de d (k+1) (qi facts c.s (gX d q c (facts c.s))) (oK az c.s (gX d q c (facts c.s))) gq->K (.bool true) h'):Ok prog aG ov 11 [.pointer (some ⟨S0,0,none⟩),.pointer (some ⟨S2,0,none⟩),.agg ⟨c.cells⟩] hc K:=by
 rw [ao hc]
 have AV:∀ B∈E,B < hc.size:=λB hB=>by have:=(fb.lt.2 B hB).2;exact this
 have gv:=inv.len c.s
 have o7:∀ (b:Bool) (h:Heap) (K:aI),aH (some (.bool b)) h K=K (.bool b) h:=λ_ _ _=>rfl
 have nI:=inv.BN c.s
 refine Ok.aw 68 (bu N11) ?_
 simp only [aa,seval,Cn,Ue]
 refine zB4 c.k 2 _ _ (by decide) ?_
 obtain ⟨CD,Fy⟩:∃ CD,CD=hc.lay [.row c.cells 49 false] hc.low:=⟨_,rfl⟩
 have Rn:aM [] hc (hc.lay [.row c.cells 49 false] hc.low):=aM.lay _ _ _ _
 have q0:Holds (hc.lay [.row c.cells 49 false] hc.low) (hc.size+0) (.row c.cells 49 false):=⟨by rw [bd];simp,by rw [iB];rfl⟩
 simp only [aa,seval,Cn]
 refine bq (λhp=>?_) (λhp=>?_)
 focus
  have hx:gX d q c (facts c.s)=eN d q c.s c.a (facts c.s):=aB ((zsQ c.k).1 hp)
  simp only [aa,seval,Cn,Az,↓AA,ef,dy]
  refine zua d q c.s c.a facts az us h _ z.aC N b k S0 E hN [NB] (fb.cT Rn) inv gw k0 (cR.lay _ _) ha hk hb _ (λh3 E2 gq z2 f2 EX pY inv2=>?_)
  have pO:=f2.size
  rw [bd] at pO
  have EZ:∀ B∈E2,B∈E\/hc.size<=B:=λB hB=>(EX B hB).imp id (λe=>by rw [bd] at e;simp at e;omega)
  have f3:aM E hc h3:=(Rn.mono (D':=E) (λ_ h=>nomatch h)).trans f2 (λB hB=>.inl hB)
  have Zn:=sd.beside (E2:=E2) f3 EZ
  have q2:=q0.cT f2 (λhm=>by have:=AV _ hm;omega)
  have EY:=pY.lt.2
  have Rv:NB ∉ E2:=λhm=>pY.2.1 NB hm (by simp)
  clear z sd fb q0
  have z:=z2
  rw [ao h3]
  obtain ⟨bb,jG⟩:∃ bb,bb=(eN d q c.s c.a (facts c.s)).isSome:=⟨_,rfl⟩
  rw [<- jG]
  simp only [aa,seval,Cn,o7,q2.lay,Az,↓AA,ef,dy]
  refine zt8 d q c.s c.a facts az h _ z.aC N S2 NB hN E2 (λB hB=>by rw [bd];have:=(EY B hB).2;omega) (Zn.cY (aM.lay _ _ _ _)) Rv gw (inv.sort _) (by omega) (λx hx=>inv.aY hx) ha (by omega) _ (λh7 z7 f7 NL=>?_)
  have GD:=pY.other ((aM.lay h3 [] _ [NB]).trans f7 (λB hB=>.inl hB))
  have f8:aM (NB::E) hc h7:=(f3.mono (D':=NB::E) (λB hB=>eQ _ hB)).trans ((aM.lay h3 [] _ [NB]).trans f7 (λB hB=>.inl hB)) (λB hB=>.inl (by rw [fH.1 hB];exact fZ))
  rw [ao h7,<- jG]
  simp only [aa,seval,Cn,o7,LD]
  rw [<- hx] at GD NL inv2
  exact hK _ E2 gq z7.aC (f8.trans (aM.lay _ _ _ []) (λ_ h=>nomatch h)) EZ (GD.lay _ _) (NL.cY (aM.lay _ _ _ _)) inv2
 focus
  have hx:gX d q c (facts c.s)=fM d c.s c.a (facts c.s):=aA (λe=>hp ((zsQ c.k).2 e))
  simp only [aa,seval,Cn,Az,↓AA,ef,dy]
  refine zrg d q c.s c.a facts az us h _ z.aC N b k S0 E hN [NB] (fb.cT Rn) inv gw k0 (cR.lay _ _) ha hk hb _ (λh3 E2 gq z2 f2 EX pY inv2=>?_)
  have pO:=f2.size
  rw [bd] at pO
  have EZ:∀ B∈E2,B∈E\/hc.size<=B:=λB hB=>(EX B hB).imp id (λe=>by rw [bd] at e;simp at e;omega)
  have f3:aM E hc h3:=(Rn.mono (D':=E) (λ_ h=>nomatch h)).trans f2 (λB hB=>.inl hB)
  have Zn:=sd.beside (E2:=E2) f3 EZ
  have q2:=q0.cT f2 (λhm=>by have:=AV _ hm;omega)
  have EY:=pY.lt.2
  have Rv:NB ∉ E2:=λhm=>pY.2.1 NB hm (by simp)
  clear z sd fb q0
  have z:=z2
  rw [ao h3]
  obtain ⟨bb,jG⟩:∃ bb,bb=(fM d c.s c.a (facts c.s)).isSome:=⟨_,rfl⟩
  rw [<- jG]
  simp only [aa,seval,Cn,o7,q2.lay,Az,↓AA,ef,dy]
  refine zre d q c.s c.a facts az h _ z.aC N S2 NB hN E2 (λB hB=>by rw [bd];have:=(EY B hB).2;omega) (Zn.cY (aM.lay _ _ _ _)) Rv gw (inv.sort _) (by omega) (λx hx=>inv.aY hx) ha (by omega) _ (λh7 z7 f7 NL=>?_)
  have GD:=pY.other ((aM.lay h3 [] _ [NB]).trans f7 (λB hB=>.inl hB))
  have f8:aM (NB::E) hc h7:=(f3.mono (D':=NB::E) (λB hB=>eQ _ hB)).trans ((aM.lay h3 [] _ [NB]).trans f7 (λB hB=>.inl hB)) (λB hB=>.inl (by rw [fH.1 hB];exact fZ))
  rw [ao h7,<- jG]
  simp only [aa,seval,Cn,o7,LD]
  rw [<- hx] at GD NL inv2
  exact hK _ E2 gq z7.aC (f8.trans (aM.lay _ _ _ []) (λ_ h=>nomatch h)) EZ (GD.lay _ _) (NL.cY (aM.lay _ _ _ _)) inv2
end Go.Proofs.YtmamldleclamjaaGreatDoor
