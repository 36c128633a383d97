/- Walks: a call is opened, its facts and clauses. Written out by fill2.py. No condition. -/
import Derived.Test.YtnkmeidmdaidhaaGreatDoorG38
set_option linter.unusedSimpArgs false
set_option linter.unusedVariables false
set_option maxRecDepth 100000
set_option maxHeartbeats 0
namespace Go.Proofs.YtnkmeidmdaidhaaGreatDoor
open Go.Am Tryz
theorem zxH (x:ai) (h:Heap) (K:aL):aK (some x) h K=K x h:=rfl
theorem zz6 (a b:Int) (wa:Option Addr) (wn wc:Nat):mu aH 101 [(0,.int .i64 a),(1,.int .i64 b),(3,.slice wa wn wc)]=some (.agg ⟨[.int .i64 a,.int .i64 b,.int .i64 0,.slice wa wn wc]++ah.cells++[.int .i64 0,.int .i64 0]⟩):=by kernel_rfl
theorem zrc {h hc:Heap} {E:List Nat} {y:cp} {bN vf:ai} {d:bg} (cY:bj 1 h) (z:Ext h hc) (v:Am.Inv gj h E y bN vf d hc) {cl:List ay} {facts:aU} (kn:Sl aF.clause h bN cl) (ly:Sl aF.atom h vf facts) (oZ:cl.length<=1000) (kx:facts.length<=1000) (a:ae) (hn:d.calls.length<=10000000)
 (wH:∀ i,og (jR (dr d (b8 a)).1 (dr d (b8 a)).2.1 ((fX (b8 (b8 a)) facts).take i)))
 (qO:∀ j,og (gQ (jR (dr d (b8 a)).1 (dr d (b8 a)).2.1 (fX (b8 (b8 a)) facts)) (dr d (b8 a)).2.1 (b8 (b8 a)) 0 (cl.take j))) (K:aL)
 (hk:∀ h' E' y',Ext h h'->Am.Inv gj h E' y' bN vf (bp facts cl d a).1 h'->dK d.ab.length E E' y y' hc h'->K (.int .i64 ((bp facts cl d a).2:Int)) h'):Ok prog aH ov 29 [.pointer (some ⟨y.pl .w,0,none⟩),a.val] hc K:=by
 rw [aq hc]
 have g:=aP.refl [] hc
 have qw:=gk v
 refine Ok.aC 81 (bH Vs) ?_
 repeat' (simp only [aa,seval,jc,iB])
 refine r6 (λh' x hq=>?_)
 have q0:=hq 0 _ rfl
 clear hq
 (replace z:=z.ao x;replace g:=g.over x;replace qw:=qw.over x;rw [aq h'])
 obtain ⟨A0,gO⟩:∃ A0,A0=hc.size+0:=⟨_,rfl⟩
 rw [<- gO] at q0
 rw [<- gO]
 have hz:=z.size
 with_reducible first|refine dO (by simp only [jc]) z.aw ?_
 simp only [aa,seval,jc,qw.lay,q0.lay,↓eH,dJ,dt]
 refine MK a _ _ (λh' x=>?_)
 (((with_reducible refine fC ?_ ?_ ?_);(· exact (by (simp only [fT]);have:=z.size;omega));(· exact x));replace z:=z.ao x;replace g:=g.over x;replace qw:=qw.over x;replace q0:=q0.over x;rw [aq h'])
 simp only [aa,seval,jc]
 refine zzt cY z.aw ((v.aX g).aX (aP.lay _ _ _ _)) (b8 a) hn _ (λh2 E1 y1 e1 z2 v2 s2=>?_)
 have eX:=s2.size
 rw [bo] at eX
 simp only [cW,gw] at eX
 refine Eg (by kernel_rfl) z2.low (by rw [bo];simp only [cW];omega) ?_
 rw [<- s2.w,<- s2.t]
 have D7:=((dK.refl d.ab.length E y hc).aX (g.trans (aP.lay _ _ _ []) (by simp))).trans s2 (aS _)
 obtain ⟨d1,iR⟩:∃ d1,d1=(dr d (b8 a)).1:=⟨_,rfl⟩
 obtain ⟨id,hid⟩:∃ id,id=(dr d (b8 a)).2.1:=⟨_,rfl⟩
 rw [<- iR] at v2 wH qO
 rw [<- hid] at wH qO ⊢
 clear z q0 qw g
 have z:=z2
 have g:=aP.refl [] h2
 rw [aq h2]
 cases hf:(dr d (b8 a)).2.2
 .have hd:bp facts cl d a=(d1,id):=by unfold bp;rw [hf,iR,hid];rfl
  rw [hd] at hk
  simp only [aa,seval,jc]
  ((with_reducible refine ⟨z.cI.lay _ _,?_⟩);(intro _ h' zz x _);(simp only [bK,bu] at x);replace g:=g.over x;(replace z:=zz);(clear zz);rw [aq h'])
  repeat' (first|simp only [aa,seval,jc]|((with_reducible apply cn);(· rfl)))
  exact hk _ E1 y1 z.aw (v2.aX (g.trans (aP.lay _ _ _ []) (by simp))) (D7.aX (g.trans (aP.lay _ _ _ []) (by simp)))
 obtain ⟨xo,BL⟩:=zn1 hf
 rw [<- iR] at xo
 rw [<- hid] at BL
 obtain ⟨q,hq⟩:∃ q,q=b8 (b8 a):=⟨_,rfl⟩
 have hd:bp facts cl d a=(gQ (jR d1 id (fX q facts)) id q 0 cl,id):=by unfold bp;rw [hf,<- iR,<- hid,<- hq];rfl
 rw [hd] at hk
 rw [<- hq] at wH qO xo
 have gX:d1.calls[id]? = some ⟨q,[],[]⟩:=by rw [xo,BL,n9 (aS _),DB];rfl
 have tT:d1.ab=d.ab:=by rw [xo]
 have Qg:og d1:=wH 0
 have mj:=gk v2
 simp only [aa,seval,jc]
 ((with_reducible refine ⟨z.cI.lay _ _,?_⟩);(intro _ h' zz x _);(simp only [bK,bu] at x);replace g:=g.over x;replace mj:=mj.over x;(replace z:=zz);(clear zz);rw [aq h'])
 simp only [aa,seval,jc]
 repeat' (((with_reducible apply cn);(· rfl)) <;> simp only [aa,seval,jc,mj.lay])
 refine zzo ((v2.aX g).aX (aP.lay _ _ _ _)) gX (by have:=Qg.calls;omega) _ (λh' x=>?_)
 (replace z:=z.ao x;replace g:=g.over x;replace mj:=mj.over x;rw [aq h'])
 have kD:=z.size
 repeat' (simp only [aa,seval,jc,gy,gv,eA,lJ,iB,CR,CP,Eo,dt])
 obtain ⟨A8,Wy⟩:∃ A8,A8=h'.size+0:=⟨_,rfl⟩
 have qg:=g.size
 have PJ:A8 ∉ E1:=λhh=>by have:=v2.eh _ hh;omega
 have hE8:∀ X∈E1,X < h'.size:=λX hX=>by have:=v2.eh X hX;omega
 refine r6 (λh' x hq=>?_)
 have q8:=hq 0 _ rfl
 clear hq
 (replace z:=z.ao x;replace g:=g.over x;replace mj:=mj.over x;rw [aq h'])
 rw [<- Wy] at q8
 rw [<- Wy]
 have Cc:=z.size
 have Qz:=g.size
 with_reducible first|refine dO (by simp only [jc]) z.aw ?_
 simp only [aa,seval,jc,mj.lay,q8.lay,↓eH,dJ,zxH]
 refine zAx q facts _ _ ((ly.mono z.inc).lay _ _) kx _ (λh' mv mA x om=>?_)
 (((with_reducible refine fC ?_ ?_ ?_);(· exact (by (simp only [fT]);have:=z.size;omega));(· exact x));replace z:=z.ao x;replace g:=g.over x;replace mj:=mj.over x;replace q8:=q8.over x;rw [aq h'])
 obtain ⟨ml,Hc⟩:∃ ml,ml=fX q facts:=⟨_,rfl⟩
 rw [<- Hc] at om wH qO hk
 have hm:Sl aF.atom (bm E1 h') mv ml:=om.bm (λ_ _ _ _ h=>h) (by decide) (λX hX=>by rw [bo];have:=v2.eh X hX;omega)
 have Q3:ml.length<=1000:=by rw [Hc];exact dZ (MA q facts) kx
 have Lg:=λ(hh:Heap)=>(hm.mono (rY _ _)).bP cF hh
 have Bt:aP [] h' h':=aP.refl [] h'
 simp only [aa,seval,jc,Lg]
 ((with_reducible refine ⟨z.cI.lay _ _,?_⟩);(intro _ h' zz x _);(simp only [bK,bu] at x);replace g:=g.over x;replace q8:=q8.over x;replace Bt:=Bt.over x;(replace z:=zz);(clear zz);rw [aq h'])
 have iF:Sl aF.atom (bm E1 h') mv ml:=hm.mono ((Bt.wide (D':=E1) (by simp)).inc (λB hB=>.inl hB))
 have vB:=v2.aX g
 have sB:=D7.aX g
 obtain ⟨hX,qV⟩:∃ hX,hX=h':=⟨_,rfl⟩
 have sX:dK d1.ab.length E1 E1 y1 y1 hX h':=by rw [qV];exact dK.refl _ _ _ _
 rw [<- qV] at sB
 have Q0:Sl aF.atom (bm E1 hX) mv ml:=by rw [qV];exact iF
 have q8X:ak hX A8 (.row q.cells 28 false):=by rw [qV];exact q8
 clear qV
 simp only [syms,seval,jc]
 obtain ⟨I1,aY⟩:∃ I:Nat->Env->Heap->Prop,I=(λn e h'=>∃ (i:Nat) (E2:List Nat) (y2:cp) (h1:Heap),h'=h1.lay [] h1.low/\Ext h h1/\(n=ml.length - i/\i<=ml.length/\Am.Inv gj h E2 y2 bN vf (jR d1 id (ml.take i)) h1/\dK d1.ab.length E1 E2 y1 y2 hX h1)/\∃ J:Nat->ai,e=(.pointer (some ⟨y1.pl .w,0,none⟩)::jr J 1 4 (.int .i64 (id:Int)::jr J 6 2 (.pointer (some ⟨A8,0,none⟩)::jr J 9 35 (mv::.int .i64 ml.length::.int .i64 i::jr J 47 36 ([])))))):=⟨_,rfl⟩
 refine dV I1 _ (by rw [aY];exact ⟨0,E1,y1,_,rfl,z,⟨rfl,by omega,vB,sX⟩,bw⟩) ?_
 intro n e h' aT
 rw [aY] at aT
 obtain ⟨i,E2,y2,bW,rfl,z,hinv,J,rfl⟩:=aT
 clear vB sX
 obtain ⟨rfl,hi,vi,si⟩:=hinv
 have jx:=fe i (by omega)
 have hzi:=z.size
 have Lh:Sl aF.atom bW mv ml:=(Q0.mono si.inc).mono (rY _ _)
 simp only [aa,seval,jc]
 refine b9 (λaW=>?_) (λaW=>?_)
 rotate_left
 .rw [iK (by omega)] at vi
  have uy:=gk vi
  have DW:=λ(hh:Heap)=>kn.bP iv hh
  have Lm:∀ (h:Heap) (K:aL),aK (some bN) h K=K bN h:=λ_ _=>rfl
  rw [si.w] at uy
  repeat' (simp only [aa,seval,jc])
  have Rd:=uy.lay [] bW.low
  rw [Rd]
  simp only [aa,seval,jc,Lm,DW]
  obtain ⟨d2,jw⟩:∃ d2,d2=jR d1 id ml:=⟨_,rfl⟩
  have tU:d2.ab=d1.ab:=by rw [jw,Jf]
  rw [<- jw] at vi qO hk
  clear wH uy Rd
  obtain ⟨I2,fI⟩:∃ I:Nat->Env->Heap->Prop,I=(λn e h'=>∃ (j:Nat) (E3:List Nat) (y3:cp) (h1:Heap),h'=h1.lay [] h1.low/\Ext h h1/\(n=cl.length - j/\j<=cl.length/\Am.Inv gj h E3 y3 bN vf (gQ d2 id q 0 (cl.take j)) h1/\dK d1.ab.length E1 E3 y1 y3 hX h1)/\∃ J:Nat->ai,e=(.pointer (some ⟨y1.pl .w,0,none⟩)::jr J 1 4 (.int .i64 (id:Int)::jr J 6 2 (.pointer (some ⟨A8,0,none⟩)::jr J 9 50 (bN::.int .i64 cl.length::.int .i64 j::jr J 62 21 ([])))))):=⟨_,rfl⟩
  refine dV I2 _ (by rw [fI];exact ⟨0,E2,y2,_,rfl,z,⟨rfl,by omega,vi,si⟩,bw⟩) ?_
  intro n e h' aT
  rw [fI] at aT
  obtain ⟨j,E3,y3,cK,rfl,z,hinv,J,rfl⟩:=aT
  clear vi si
  obtain ⟨rfl,hj,vj,sj⟩:=hinv
  have vA:=fe j (by omega)
  have hzj:=z.size
  have Ig:=(sj.box q8X PJ).1
  have hcj:=kn.mono z.inc
  have DO:=qO j
  simp only [aa,seval,jc]
  refine b9 (λeM=>?_) (λeM=>?_)
  rotate_left
  .rw [iK (by omega)] at vj
   repeat' (simp only [aa,seval,jc])
   exact hk _ E3 y3 z.aw (vj.aX (aP.lay _ _ _ _)) ((sB.trans sj (by rw [tT];exact aS _)).aX (aP.lay _ _ _ _))
  obtain ⟨c,qR,Bc⟩:=ig (l:=cl) (i:=j) eM
  have g4:=aP.refl [] cK
  repeat' (first|simp only [aa,seval,jc]|with_reducible refine EW hcj iv jo (by omega) qR (λp bd fO hp=>?_)|with_reducible refine HX hp qJ jo ?_)
  have aD:=JY (a:=c.head) fO.one
  repeat' (simp only [aa,seval,jc,gy,gv,eA,pC,MN,aD,↓UG,dJ,dt,Ig.lay,↓eH])
  clear hp
  refine zw9 q c.head _ _ (λni h' w x=>?_) (λl ue h' w x ow=>?_)
  ·(replace z:=z.ao x;( replace g4:=g4.over x );( replace Ig:=Ig.over x );rw [aq h'])
   have mT:cl.take (j+1)=cl.take j++[c]:=by rw [od,Bc];rfl
   have mR:gQ d2 id q 0 (cl.take (j+1))=gQ d2 id q 0 (cl.take j):=by rw [mT,SX,ni]
   have ub:∀ (h:Heap) (K:aL),aK (some w) h K=K w h:=λ_ _=>rfl
   repeat' (simp only [aa,seval,jc,ub])
   rw [vA]
   (rw [fI];with_reducible refine cR (m:=_) ?_ ⟨j+1,E3,y3,_,rfl,z,⟨rfl,by omega,by rw [mR];exact vj.aX g4,sj.aX g4⟩,bw⟩;omega)
  obtain ⟨Aw,Ia⟩:=ow
  obtain ⟨wa,wn,wc,rfl⟩:=Ia.slice
  have rS:Sl aF.bind (bm E3 h') (.slice wa wn wc) l:=Ia.bm (λ_ _ _ _ h=>h) (by decide) (λX hX=>by rw [bo];have:=vj.eh X hX;omega)
  (replace z:=z.ao x;replace g4:=g4.over x;replace Ig:=Ig.over x;rw [aq h'])
  have mT:cl.take (j+1)=cl.take j++[c]:=by rw [od,Bc];rfl
  have hjl:(cl.take j).length=j:=by rw [hZ];omega
  have mR:gQ d2 id q 0 (cl.take (j+1))=kT (gQ d2 id q 0 (cl.take j)) ⟨id,(j:Int),0,l,ah,0,0⟩:=by rw [mT,SX,ue,hjl,ia]
  have hzw:=z.size
  have vq:=vj.aX g4
  have sq:=sj.aX g4
  repeat' (simp only [aa,seval,jc,zz6])
  rw [<- sj.w]
  refine zra hzw z.aw vq (aP.lay _ _ _ _) (As:=h'.size+0) (s:=⟨id,(j:Int),0,l,ah,0,0⟩) (lv:=.slice wa wn wc) (by omega) ⟨by rw [bo];simp,by rw [kM];rfl⟩ rS DO.steps DO.queue DO.ab _ (λh5 E5 y5 u5 _ z5 v5 s5=>?_)
  rw [sj.w]
  rw [<- mR] at v5
  have s6:=sq.trans s5 (by rw [<- tU];exact TF _ _ _ _ _)
  rw [aq h5]
  repeat' (simp only [aa,seval,jc])
  rw [vA]
  have z:=z5
  (rw [fI];with_reducible refine cR (m:=_) ?_ ⟨j+1,E5,y5,_,rfl,z,⟨rfl,by omega,v5,s6⟩,bw⟩;omega)
 obtain ⟨f,wX,Bm⟩:=ig (l:=ml) (i:=i) aW
 repeat' (first|simp only [aa,seval,jc]|with_reducible refine uQ Lh cF cw (by omega) wX (λp hp=>?_)|with_reducible refine rq hp iM cw ?_)
 repeat' (simp only [aa,seval,jc,gy,gv,eA,lJ,iB,CR,CP,Eo,↓eH,dJ,dt,zub])
 clear hp
 have vo:=wH i
 obtain ⟨c1,qQ,_⟩:=zkU id (ml.take i) gX
 have GG:=fV qQ
 rw [<- si.w]
 refine znO cY z.aw (vi.aX (aP.lay _ _ _ _)) qQ (r:=⟨f,-1,[]⟩) (bv:=.slice none 0 0) (.inl ⟨rfl,rfl⟩) vo.steps vo.queue vo.calls (vo.lP _ GG) vo.count (vo.nk _ GG) vo.aB _ (λh3 E3 y3 u3 z3 v3 s3=>?_)
 rw [si.w]
 have mT:ml.take (i+1)=ml.take i++[f]:=by rw [od,Bm];rfl
 rw [<- ztf,<- mT] at v3
 have s4:=(si.aX (aP.lay bW [bc.row f.cells 28 false] _ [])).trans s3 (by rw [Jf];exact aS _)
 rw [aq h3]
 repeat' (simp only [aa,seval,jc])
 rw [jx]
 have z:=z3
 (rw [aY];with_reducible refine cR (m:=_) ?_ ⟨i+1,E3,y3,_,rfl,z,⟨rfl,by omega,v3,s4⟩,bw⟩;omega)
theorem zyS (v w:ai) (n:ae):(n.cells++[v,w])[1]? = some (.string n.pred):=rfl
theorem zw1 {b h:Heap} {E:List Nat} {y:cp} {bN vf:ai} {d:bg} (v:Am.Inv gj b E y bN vf d h) {k:Nat} {s:eu} (hs:d.ab[k]? = some s) (K:aL)
 (hk:∀ h',Ext h h'->K (.bool (decide (s.next.pred≠⟨#[]⟩))) h'):Ok prog aH ov 64 [.pointer (some ⟨y.pl (.s k),0,none⟩)] h K:=by
 rw [aq h]
 have z:=Ext.refl h
 have qs:=lH v hs
 refine Ok.aC 8 (bH VT) ?_
 have fS:∀ (s:bf) (h:Heap) (K:aL),aK (some (.string s)) h K=K (.string s) h:=λ_ _ _=>rfl
 simp only [aa,seval,Wo,qs.lay,zyS,fS]
 refine qC (λhh=>?_) (λhh=>?_)
 all_goals
  rw [hh] at hk
  simp only [aa,seval,Wo]
  exact hk _ z.aw
end Go.Proofs.YtnkmeidmdaidhaaGreatDoor
