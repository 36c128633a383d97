/- Walks: a call is opened, its facts and clauses. Written out by fill2.py. No condition. -/
import Derived.Test.YtnkmeidmdaidhaaGreatDoorG38
set_option linter.unusedSimpArgs false
set_option linter.unusedVariables false
set_option maxRecDepth 100000
set_option maxHeartbeats 0
namespace Go.Proofs.YtnkmeidmdaidhaaGreatDoor
open Go.Am Tryz
theorem zyU (x:ai) (h:Heap) (K:aO):aM (some x) h K=K x h:=rfl
theorem zBc (a b:Int) (wa:Option Addr) (wn wc:Nat):nP aJ 101 [(0,.int .i64 a),(1,.int .i64 b),(3,.slice wa wn wc)]=some (.agg ⟨[.int .i64 a,.int .i64 b,.int .i64 0,.slice wa wn wc]++ah.cells++[.int .i64 0,.int .i64 0]⟩):=by kernel_rfl
theorem zr3 {h hc:Heap} {E:List Nat} {y:cG} {bZ vf:ai} {d:aY} (dq:bh 1 h) (z:Ext h hc) (v:Am.Inv il h E y bZ vf d hc) {cl:List aq} {facts:aN} (jd:Sl aG.clause h bZ cl) (jG:Sl aG.atom h vf facts) (ny:cl.length<=1000) (kT:facts.length<=1000) (a:ae) (hn:d.calls.length<=10000000)
 (yE:∀ i,qb (jM (cY d (bC a)).1 (cY d (bC a)).2.1 ((fB (bC (bC a)) facts).take i)))
 (sQ:∀ j,qb (gk (jM (cY d (bC a)).1 (cY d (bC a)).2.1 (fB (bC (bC a)) facts)) (cY d (bC a)).2.1 (bC (bC a)) 0 (cl.take j))) (K:aO)
 (hk:∀ h' E' y',Ext h h'->Am.Inv il h E' y' bZ vf (aT facts cl d a).1 h'->ec d.ab.length E E' y y' hc h'->K (.int .i64 ((aT facts cl d a).2:Int)) h'):Ok prog aJ ov 29 [.pointer (some ⟨y.pl .w,0,none⟩),a.val] hc K:=by
 rw [az hc]
 have g:=aR.refl [] hc
 have qw:=im v
 refine Ok.aF 81 (bY XM) ?_
 repeat' (simp only [aa,seval,ke,js])
 refine uw (λh' x hq=>?_)
 have q0:=hq 0 _ rfl
 clear hq
 (replace z:=z.au x;replace g:=g.over x;replace qw:=qw.over x;rw [az h'])
 obtain ⟨A0,iX⟩:∃ A0,A0=hc.size+0:=⟨_,rfl⟩
 rw [<- iX] at q0
 rw [<- iX]
 have hz:=z.size
 with_reducible first|refine eF (by simp only [ke]) z.aw ?_
 simp only [aa,seval,ke,qw.lay,q0.lay,↓fU,eG,dS]
 refine OO a _ _ (λh' x=>?_)
 (((with_reducible refine fP ?_ ?_ ?_);(· exact (by (simp only [gh]);have:=z.size;omega));(· exact x));replace z:=z.au x;replace g:=g.over x;replace qw:=qw.over x;replace q0:=q0.over x;rw [az h'])
 simp only [aa,seval,ke]
 refine zAx dq z.aw ((v.bf g).bf (aR.lay _ _ _ _)) (bC a) hn _ (λh2 E1 y1 e1 z2 v2 s2=>?_)
 have eE:=s2.size
 rw [br] at eE
 simp only [dK,gS] at eE
 refine F6 (by kernel_rfl) z2.low (by rw [br];simp only [dK];omega) ?_
 rw [<- s2.w,<- s2.t]
 have F1:=((ec.refl d.ab.length E y hc).bf (g.trans (aR.lay _ _ _ []) (by simp))).trans s2 (aQ _)
 obtain ⟨d1,iY⟩:∃ d1,d1=(cY d (bC a)).1:=⟨_,rfl⟩
 obtain ⟨id,hid⟩:∃ id,id=(cY d (bC a)).2.1:=⟨_,rfl⟩
 rw [<- iY] at v2 yE sQ
 rw [<- hid] at yE sQ ⊢
 clear z q0 qw g
 have z:=z2
 have g:=aR.refl [] h2
 rw [az h2]
 cases hf:(cY d (bC a)).2.2
 .have hd:aT facts cl d a=(d1,id):=by unfold aT;rw [hf,iY,hid];rfl
  rw [hd] at hk
  simp only [aa,seval,ke]
  ((with_reducible refine ⟨z.cS.lay _ _,?_⟩);(intro _ h' zz x _);(simp only [bS,bD] at x);replace g:=g.over x;(replace z:=zz);(clear zz);rw [az h'])
  repeat' (first|simp only [aa,seval,ke]|((with_reducible apply cK);(· rfl)))
  exact hk _ E1 y1 z.aw (v2.bf (g.trans (aR.lay _ _ _ []) (by simp))) (F1.bf (g.trans (aR.lay _ _ _ []) (by simp)))
 obtain ⟨Bg,Nr⟩:=Wd hf
 rw [<- iY] at Bg
 rw [<- hid] at Nr
 obtain ⟨q,hq⟩:∃ q,q=bC (bC a):=⟨_,rfl⟩
 have hd:aT facts cl d a=(gk (jM d1 id (fB q facts)) id q 0 cl,id):=by unfold aT;rw [hf,<- iY,<- hid,<- hq];rfl
 rw [hd] at hk
 rw [<- hq] at yE sQ Bg
 have jc:d1.calls[id]? = some ⟨q,[],[]⟩:=by rw [Bg,Nr,lj (aQ _),tQ];rfl
 have wk:d1.ab=d.ab:=by rw [Bg]
 have Sq:qb d1:=yE 0
 have nI:=im v2
 simp only [aa,seval,ke]
 ((with_reducible refine ⟨z.cS.lay _ _,?_⟩);(intro _ h' zz x _);(simp only [bS,bD] at x);replace g:=g.over x;replace nI:=nI.over x;(replace z:=zz);(clear zz);rw [az h'])
 simp only [aa,seval,ke]
 repeat' (((with_reducible apply cK);(· rfl)) <;> simp only [aa,seval,ke,nI.lay])
 refine zAs ((v2.bf g).bf (aR.lay _ _ _ _)) jc (by have:=Sq.calls;omega) _ (λh' x=>?_)
 (replace z:=z.au x;replace g:=g.over x;replace nI:=nI.over x;rw [az h'])
 have mi:=z.size
 repeat' (simp only [aa,seval,ke,iw,iv,fW,nb,js,EF,ED,Gv,dS])
 obtain ⟨A8,YM⟩:∃ A8,A8=h'.size+0:=⟨_,rfl⟩
 have mV:=g.size
 have RP:A8 ∉ E1:=λhh=>by have:=v2.eA _ hh;omega
 have hE8:∀ X∈E1,X < h'.size:=λX hX=>by have:=v2.eA X hX;omega
 refine uw (λh' x hq=>?_)
 have q8:=hq 0 _ rfl
 clear hq
 (replace z:=z.au x;replace g:=g.over x;replace nI:=nI.over x;rw [az h'])
 rw [<- YM] at q8
 rw [<- YM]
 have ue:=z.size
 have SM:=g.size
 with_reducible first|refine eF (by simp only [ke]) z.aw ?_
 simp only [aa,seval,ke,nI.lay,q8.lay,↓fU,eG,zyU]
 refine zBD q facts _ _ ((jG.mono z.inc).lay _ _) kT _ (λh' mv mA x om=>?_)
 (((with_reducible refine fP ?_ ?_ ?_);(· exact (by (simp only [gh]);have:=z.size;omega));(· exact x));replace z:=z.au x;replace g:=g.over x;replace nI:=nI.over x;replace q8:=q8.over x;rw [az h'])
 obtain ⟨ml,Je⟩:∃ ml,ml=fB q facts:=⟨_,rfl⟩
 rw [<- Je] at om yE sQ hk
 have hm:Sl aG.atom (bp E1 h') mv ml:=om.bp (λ_ _ _ _ h=>h) (by decide) (λX hX=>by rw [br];have:=v2.eA X hX;omega)
 have Tm:ml.length<=1000:=by rw [Je];exact dZ (OC q facts) kT
 have Ja:=λ(hh:Heap)=>(hm.mono (ui _ _)).bW cM hh
 have Dk:aR [] h' h':=aR.refl [] h'
 simp only [aa,seval,ke,Ja]
 ((with_reducible refine ⟨z.cS.lay _ _,?_⟩);(intro _ h' zz x _);(simp only [bS,bD] at x);replace g:=g.over x;replace q8:=q8.over x;replace Dk:=Dk.over x;(replace z:=zz);(clear zz);rw [az h'])
 have ff:Sl aG.atom (bp E1 h') mv ml:=hm.mono ((Dk.wide (D':=E1) (by simp)).inc (λB hB=>.inl hB))
 have vB:=v2.bf g
 have sB:=F1.bf g
 obtain ⟨hX,te⟩:∃ hX,hX=h':=⟨_,rfl⟩
 have sX:ec d1.ab.length E1 E1 y1 y1 hX h':=by rw [te];exact ec.refl _ _ _ _
 rw [<- te] at sB
 have Tj:Sl aG.atom (bp E1 hX) mv ml:=by rw [te];exact ff
 have q8X:ak hX A8 (.row q.cells 28 false):=by rw [te];exact q8
 clear te
 simp only [syms,seval,ke]
 obtain ⟨I1,bo⟩:∃ I:Nat->Env->Heap->Prop,I=(λn e h'=>∃ (i:Nat) (E2:List Nat) (y2:cG) (h1:Heap),h'=h1.lay [] h1.low/\Ext h h1/\(n=ml.length - i/\i<=ml.length/\Am.Inv il h E2 y2 bZ vf (jM d1 id (ml.take i)) h1/\ec d1.ab.length E1 E2 y1 y2 hX h1)/\∃ J:Nat->ai,e=(.pointer (some ⟨y1.pl .w,0,none⟩)::jr J 1 4 (.int .i64 (id:Int)::jr J 6 2 (.pointer (some ⟨A8,0,none⟩)::jr J 9 35 (mv::.int .i64 ml.length::.int .i64 i::jr J 47 36 ([])))))):=⟨_,rfl⟩
 refine fh I1 _ (by rw [bo];exact ⟨0,E1,y1,_,rfl,z,⟨rfl,by omega,vB,sX⟩,bO⟩) ?_
 intro n e h' aU
 rw [bo] at aU
 obtain ⟨i,E2,y2,cF,rfl,z,hinv,J,rfl⟩:=aU
 clear vB sX
 obtain ⟨rfl,hi,vi,si⟩:=hinv
 have mF:=gE i (by omega)
 have hzi:=z.size
 have Nn:Sl aG.atom cF mv ml:=(Tj.mono si.inc).mono (ui _ _)
 simp only [aa,seval,ke]
 refine cm (λbc=>?_) (λbc=>?_)
 rotate_left
 .rw [iR (by omega)] at vi
  have wN:=im vi
  have FN:=λ(hh:Heap)=>jd.bW jv hh
  have Nt:∀ (h:Heap) (K:aO),aM (some bZ) h K=K bZ h:=λ_ _=>rfl
  rw [si.w] at wN
  repeat' (simp only [aa,seval,ke])
  have Tw:=wN.lay [] cF.low
  rw [Tw]
  simp only [aa,seval,ke,Nt,FN]
  obtain ⟨d2,kC⟩:∃ d2,d2=jM d1 id ml:=⟨_,rfl⟩
  have wm:d2.ab=d1.ab:=by rw [kC,KZ]
  rw [<- kC] at vi sQ hk
  clear yE wN Tw
  obtain ⟨I2,gN⟩:∃ I:Nat->Env->Heap->Prop,I=(λn e h'=>∃ (j:Nat) (E3:List Nat) (y3:cG) (h1:Heap),h'=h1.lay [] h1.low/\Ext h h1/\(n=cl.length - j/\j<=cl.length/\Am.Inv il h E3 y3 bZ vf (gk d2 id q 0 (cl.take j)) h1/\ec d1.ab.length E1 E3 y1 y3 hX h1)/\∃ J:Nat->ai,e=(.pointer (some ⟨y1.pl .w,0,none⟩)::jr J 1 4 (.int .i64 (id:Int)::jr J 6 2 (.pointer (some ⟨A8,0,none⟩)::jr J 9 50 (bZ::.int .i64 cl.length::.int .i64 j::jr J 62 21 ([])))))):=⟨_,rfl⟩
  refine fh I2 _ (by rw [gN];exact ⟨0,E2,y2,_,rfl,z,⟨rfl,by omega,vi,si⟩,bO⟩) ?_
  intro n e h' aU
  rw [gN] at aU
  obtain ⟨j,E3,y3,da,rfl,z,hinv,J,rfl⟩:=aU
  clear vi si
  obtain ⟨rfl,hj,vj,sj⟩:=hinv
  have xF:=gE j (by omega)
  have hzj:=z.size
  have Kc:=(sj.box q8X RP).1
  have C7:=jd.mono z.inc
  have Ss:=sQ j
  simp only [aa,seval,ke]
  refine cm (λfM=>?_) (λfM=>?_)
  rotate_left
  .rw [iR (by omega)] at vj
   repeat' (simp only [aa,seval,ke])
   exact hk _ E3 y3 z.aw (vj.bf (aR.lay _ _ _ _)) ((sB.trans sj (by rw [wk];exact aQ _)).bf (aR.lay _ _ _ _))
  obtain ⟨c,lC,sU⟩:=i4 (l:=cl) (i:=j) fM
  have g4:=aR.refl [] da
  repeat' (first|simp only [aa,seval,ke]|with_reducible refine GX C7 jv kx (by omega) lC (λp bd gV hp=>?_)|with_reducible refine JZ hp sK kx ?_)
  have aE:=LI (a:=c.head) gV.one
  repeat' (simp only [aa,seval,ke,iw,iv,fW,ry,O7,aE,↓W9,eG,dS,Kc.lay,↓fU])
  clear hp
  refine zyn q c.head _ _ (λjU h' w x=>?_) (λl wB h' w x ow=>?_)
  ·(replace z:=z.au x;( replace g4:=g4.over x );( replace Kc:=Kc.over x );rw [az h'])
   have kq:cl.take (j+1)=cl.take j++[c]:=by rw [oT,sU];rfl
   have oF:gk d2 id q 0 (cl.take (j+1))=gk d2 id q 0 (cl.take j):=by rw [kq,Vx,jU]
   have wz:∀ (h:Heap) (K:aO),aM (some w) h K=K w h:=λ_ _=>rfl
   repeat' (simp only [aa,seval,ke,wz])
   rw [xF]
   (rw [gN];with_reducible refine dA (m:=_) ?_ ⟨j+1,E3,y3,_,rfl,z,⟨rfl,by omega,by rw [oF];exact vj.bf g4,sj.bf g4⟩,bO⟩;omega)
  obtain ⟨Aw,J9⟩:=ow
  obtain ⟨wa,wn,wc,rfl⟩:=J9.slice
  have o0:Sl aG.bind (bp E3 h') (.slice wa wn wc) l:=J9.bp (λ_ _ _ _ h=>h) (by decide) (λX hX=>by rw [br];have:=vj.eA X hX;omega)
  (replace z:=z.au x;replace g4:=g4.over x;replace Kc:=Kc.over x;rw [az h'])
  have kq:cl.take (j+1)=cl.take j++[c]:=by rw [oT,sU];rfl
  have FL:(cl.take j).length=j:=by rw [gR];omega
  have oF:gk d2 id q 0 (cl.take (j+1))=jB (gk d2 id q 0 (cl.take j)) ⟨id,(j:Int),0,l,ah,0,0⟩:=by rw [kq,Vx,wB,FL,i5]
  have hzw:=z.size
  have vq:=vj.bf g4
  have sq:=sj.bf g4
  repeat' (simp only [aa,seval,ke,zBc])
  rw [<- sj.w]
  refine zr1 hzw z.aw vq (aR.lay _ _ _ _) (As:=h'.size+0) (s:=⟨id,(j:Int),0,l,ah,0,0⟩) (lv:=.slice wa wn wc) (by omega) ⟨by rw [br];simp,by rw [kE];rfl⟩ o0 Ss.steps Ss.queue Ss.ab _ (λh5 E5 y5 u5 _ z5 v5 s5=>?_)
  rw [sj.w]
  rw [<- oF] at v5
  have s6:=sq.trans s5 (by rw [<- wm];exact VQ _ _ _ _ _)
  rw [az h5]
  repeat' (simp only [aa,seval,ke])
  rw [xF]
  have z:=z5
  (rw [gN];with_reducible refine dA (m:=_) ?_ ⟨j+1,E5,y5,_,rfl,z,⟨rfl,by omega,v5,s6⟩,bO⟩;omega)
 obtain ⟨f,yQ,Dd⟩:=i4 (l:=ml) (i:=i) bc
 repeat' (first|simp only [aa,seval,ke]|with_reducible refine tH Nn cM cw (by omega) yQ (λp hp=>?_)|with_reducible refine rj hp jb cw ?_)
 repeat' (simp only [aa,seval,ke,iw,iv,fW,nb,js,EF,ED,Gv,↓fU,eG,dS,zu8])
 clear hp
 have CY:=yE i
 obtain ⟨c1,qh,_⟩:=zlA id (ml.take i) jc
 have IA:=ek qh
 rw [<- si.w]
 refine zoM dq z.aw (vi.bf (aR.lay _ _ _ _)) qh (r:=⟨f,-1,[]⟩) (bv:=.slice none 0 0) (.inl ⟨rfl,rfl⟩) CY.steps CY.queue CY.calls (CY.lq _ IA) CY.count (CY.pf _ IA) CY.aC _ (λh3 E3 y3 u3 z3 v3 s3=>?_)
 rw [si.w]
 have kq:ml.take (i+1)=ml.take i++[f]:=by rw [oT,Dd];rfl
 rw [<- zud,<- kq] at v3
 have s4:=(si.bf (aR.lay cF [aZ.row f.cells 28 false] _ [])).trans s3 (by rw [KZ];exact aQ _)
 rw [az h3]
 repeat' (simp only [aa,seval,ke])
 rw [mF]
 have z:=z3
 (rw [bo];with_reducible refine dA (m:=_) ?_ ⟨i+1,E3,y3,_,rfl,z,⟨rfl,by omega,v3,s4⟩,bO⟩;omega)
theorem zzY (v w:ai) (n:ae):(n.cells++[v,w])[1]? = some (.string n.pred):=rfl
theorem zyf {b h:Heap} {E:List Nat} {y:cG} {bZ vf:ai} {d:aY} (v:Am.Inv il b E y bZ vf d h) {k:Nat} {s:dv} (hs:d.ab[k]? = some s) (K:aO)
 (hk:∀ h',Ext h h'->K (.bool (decide (s.next.pred≠⟨#[]⟩))) h'):Ok prog aJ ov 64 [.pointer (some ⟨y.pl (.s k),0,none⟩)] h K:=by
 rw [az h]
 have z:=Ext.refl h
 have qs:=na v hs
 refine Ok.aF 8 (bY X9) ?_
 have gZ:∀ (s:aV) (h:Heap) (K:aO),aM (some (.string s)) h K=K (.string s) h:=λ_ _ _=>rfl
 simp only [aa,seval,YC,qs.lay,zzY,gZ]
 refine sx (λhh=>?_) (λhh=>?_)
 all_goals
  rw [hh] at hk
  simp only [aa,seval,YC]
  exact hk _ z.aw
end Go.Proofs.YtnkmeidmdaidhaaGreatDoor
