/- Walks: a state is taken on. Written out by fill2.py. No condition. -/
import Derived.Test.YtnkmeidmdaidhaaGreatDoorG41
set_option linter.unusedSimpArgs false
set_option linter.unusedVariables false
namespace Go.Proofs.YtnkmeidmdaidhaaGreatDoor
open Go.Am Tryz
set_option maxRecDepth 100000
set_option maxHeartbeats 0
theorem zBu {h hc:Heap} {E:List Nat} {y:cp} {bN vf:ai} {d:bg} (cY:bj 1 h) (z:Ext h hc) (v:Am.Inv gj h E y bN vf d hc) {cl:List ay} {facts:aU} (kn:Sl aF.clause h bN cl) (ly:Sl aF.atom h vf facts) (oZ:cl.length<=1000) (kx:facts.length<=1000) {k:Nat} {s:eu} (hs:d.ab[k]? = some s) {j:Nat} (hj:s.clause=(j:Int)) {c:ay} (eO:cl[j]? = some c) (nh:c.body.length<=1000) (gx:s.l.length<=400) (htl:s.taken<=c.body.length) (hB:og d) (hOB:∀ b2,c.body[s.taken]? = some b2->Kq facts cl { d with ab:=d.ab.set k { s with next:=dA s.l b2 } } (dA s.l b2)) (Qk:s.call < d.calls.length) (mS:s.src < d.calls.length) (hT:∀ s4 c9,(en facts cl d k s c).ab[k]? = some s4->(en facts cl d k s c).calls[s4.src]? = some c9->∀ i,og (fM k ((c9.answers.drop s4.seen).take i) (en facts cl d k s c))) (K:aL)
 (hk:∀ h' E' y' u,Ext h h'->Am.Inv gj h E' y' bN vf (i7 facts cl d k) h'->dK d.ab.length E E' y y' hc h'->K u h'):Ok prog aH ov 32 [.pointer (some ⟨y.pl .w,0,none⟩),.int .i64 (k:Int)] hc K:=by
 rw [aq hc]
 have g:=aP.refl [] hc
 have qw:=gk v
 have qs:=lH v hs
 rw [hj] at qs
 have hz:=z.size
 have yY:Sl aF.ptr hc (y.vl .sa) ((List.range d.ab.length).map λi=>y.pl (.s i)):=cS.sl (v.cZ .sa) (by decide)
 have hr:((List.range d.ab.length).map λi=>y.pl (.s i))[(k:Int).toNat]? = some (y.pl (.s k)):=by
  rw [wj,jS,J5 (au hs)]
  rfl
 have fS:∀ (h:Heap) (K:aL),aK (some (y.vl .sa)) h K=K (y.vl .sa) h:=λ_ _=>rfl
 have Bf:Sl aF.clause hc bN cl:=kn.mono z.inc
 have cu:∀ (u:ai) (h:Heap) (K:aL),aK (some u) h K=K u h:=λ_ _ _=>rfl
 refine Ok.aC 146 (bH KE) ?_
 repeat' (first|simp only [aa,seval,dQ,qw.lay,fS]|with_reducible refine zye yY qN SG (by omega) hr (λp hp=>?_)|with_reducible refine sc hp FV ?_)
 with_reducible first|refine dO (by simp only [dQ]) z.aw ?_
 simp only [aa,seval,dQ,qw.lay,qs.lay,cu]
 have eQ:cl[(j:Int).toNat]? = some c:=by rw [wj];exact eO
 refine EW Bf iv jo (by omega) eQ (λp bd fO hp=>?_)
 simp only [aa,seval,dQ]
 refine HX hp qJ jo ?_
 clear hp
 simp only [aa,seval,dQ]
 refine kO (by have:=z.size;omega) (by omega) ?_
 simp only [aa,seval,dQ]
 rw [Jk (n:=12) (v:=.agg ⟨c.head.cells++[bd]⟩) (vs:=c.head.cells++[bd]) (by kernel_rfl) rfl rfl rfl (JY fO.one)]
 simp only [syms,seval]
 refine vJ (by kernel_rfl) (by simp) (by have:=z.size;omega) ?_
 simp only [bM,seval,dQ]
 ((with_reducible refine ⟨z.cI.lay _ _,?_⟩);(intro _ h' zz x _);(simp only [bK,bu] at x);replace g:=g.over x;replace qw:=qw.over x;replace qs:=qs.over x;(replace z:=zz);(clear zz);rw [aq h'])
 have q0:=ak.top (i:=0) x rfl
 have kD:=z.size
 obtain ⟨A0,gO⟩:∃ A0,A0=hc.size+0:=⟨_,rfl⟩
 rw [<- gO] at q0
 rw [<- gO]
 have xf:=λ(hh:Heap)=>fO.bP cF hh
 have B6:∀ (h:Heap) (K:aL),aK (some bd) h K=K bd h:=λ_ _=>rfl
 simp only [syms,seval,dQ]
 with_reducible first|refine dO (by simp only [dQ]) z.aw ?_
 simp only [aa,seval,dQ,qs.lay,q0.lay,JH,B6,xf]
 obtain ⟨cc,qR⟩:=vK Qk
 have GI:=fV qR
 have wP:i7 facts cl d k=if s.taken=c.body.length then gm d s.call (Dn c s) else
  (match (en facts cl d k s c).ab[k]? with
   |some s4=>fM k (((((en facts cl d k s c).calls[s4.src]?).map ba.answers).getD []).drop s4.seen) (en facts cl d k s c)
   |none=>en facts cl d k s c):=by
  unfold i7
  rw [hs]
  dsimp only
  rw [hj,wj,eO]
  rfl
 by_cases ht:s.taken=c.body.length
 .rw [aG ht] at wP
  rw [wP] at hk
  have hb:((s.taken:Int) == (c.body.length:Int))=true:=by rw [ht];exact beq_self_eq_true _
  rw [hb]
  simp only [aa,seval,dQ]
  ((with_reducible refine ⟨z.cI.lay _ _,?_⟩);(intro _ h' zz x _);(simp only [bK,bu] at x);replace g:=g.over x;replace qw:=qw.over x;replace qs:=qs.over x;replace q0:=q0.over x;(replace z:=zz);(clear zz);rw [aq h'])
  repeat' (simp only [aa,seval,dQ])
  refine zzp cY z.aw ((v.aX g).aX (aP.lay _ _ _ _)) kn hs hj eO nh (by omega) qR hB.steps hB.queue hB.calls (hB.lP _ GI) hB.count (hB.nk _ GI) hB.aB _ (λh2 E2 y2 u2 z2 v2 s2=>?_)
  rw [aq h2]
  simp only [aa,seval,dQ]
  have s3:=((dK.refl d.ab.length E y hc).aX (g.trans (aP.lay _ _ _ []) (by simp))).trans s2 (aS _)
  exact hk _ E2 y2 _ z2.aw (v2.aX (aP.lay _ _ _ _)) (s3.aX (aP.lay _ _ _ _))
 rw [aA ht] at wP
 rw [wP] at hk
 have hb:((s.taken:Int) == (c.body.length:Int))=false:=by
  rw [beq_eq_false_iff_ne]
  omega
 rw [hb]
 simp only [aa,seval,dQ]
 ((with_reducible refine ⟨z.cI.lay _ _,?_⟩);(intro _ h' zz x _);(simp only [bK,bu] at x);replace g:=g.over x;replace qw:=qw.over x;replace qs:=qs.over x;replace q0:=q0.over x;(replace z:=zz);(clear zz);rw [aq h'])
 repeat' (simp only [aa,seval,dQ])
 refine zw1 ((v.aX g).aX (aP.lay _ _ _ _)) hs _ (λh' x=>?_)
 (replace z:=z.ao x;replace g:=g.over x;replace qw:=qw.over x;replace qs:=qs.over x;replace q0:=q0.over x;rw [aq h'])
 have aeY:=kn.mono z.inc
 have Cc:=z.size
 by_cases K2:s.next.pred≠⟨#[]⟩
 .have tJ:en facts cl d k s c=d:=by unfold en;rw [aG K2]
  rw [tJ,hs] at hk
  rw [wm K2]
  repeat' (first|simp only [aa,seval,dQ]|((with_reducible apply cn);(· rfl)))
  obtain ⟨c9,qf⟩:=vK mS
  rw [tJ] at hT
  dsimp only at hk
  rw [qf,jT,yw] at hk
  refine zuw z (v.aX g) hs hj qf gx (by omega) (hT s c9 hs qf) K (Cf (by kernel_rfl)) (λh2 E2 y2 u2 z2 v2 s2=>?_)
  exact hk h2 E2 y2 u2 z2 v2 (((dK.refl d.ab.length E y hc).aX g).trans s2 (aS _))
 have Qh:decide (s.next.pred≠⟨#[]⟩)=false:=su K2
 rw [Qh]
 repeat' (first|simp only [aa,seval,dQ]|((with_reducible apply cn);(· rfl)))
 with_reducible first|refine dO (by simp only [dQ]) z.aw ?_
 simp only [aa,seval,dQ,qs.lay,q0.lay,JH,cu]
 obtain ⟨b2,jg,wL⟩:=ig (l:=c.body) (i:=s.taken) (by omega)
 have mQ:({ s with next:=dA s.l ((c.body[s.taken]?).getD ah) }:eu)={ s with next:=dA s.l b2 }:=by rw [wL];rfl
 have QS:=v.fz k s hs
 refine uQ (fO.mono g.all) cF cw (by omega) jg (λp hp=>?_)
 simp only [aa,seval,dQ]
 refine rq hp iM cw ?_
 clear hp
 simp only [aa,seval,dQ]
 refine T2 s.l _ b2 _ (((QS.mono (rY _ _)).mono g.all).lay _ _) (by omega) _ (λh' x=>?_)
 (((with_reducible refine fC ?_ ?_ ?_);(· exact (by (simp only [fT]);have:=z.size;omega));(· exact x));replace z:=z.ao x;replace g:=g.over x;replace qw:=qw.over x;replace qs:=qs.over x;replace q0:=q0.over x;rw [aq h'])
 simp only [aa,seval,dQ]
 have Rm:=v.own (.s k) (au hs)
 have Hv:=v.new _ Rm
 have v1:=v.aX g
 have pq:=z.size
 refine iH (n:=11) (o:=4) (vs:=(dA s.l b2).cells) qs (by kernel_rfl) rfl rfl (by show 4+11<=17;omega) rfl (λh5 q5 nw=>?_)
 refine gR (A:=y.pl (.s k)) (by kernel_rfl) (by have:=z.size;rw [bo];omega) (by omega) nw ?_
 obtain ⟨E5,v5,s5⟩:=v1.state pq hs (s':={ s with next:=dA s.l b2 }) rfl ((aP.refl _ _).ec nw (.inl (by simp))) (by unfold uL;rw [hj];exact q5)
 obtain ⟨d5,DQ⟩:∃ d5,d5={ d with ab:=d.ab.set k { s with next:=dA s.l b2 } }:=⟨_,rfl⟩
 obtain ⟨PX,PY⟩:=hOB b2 wL
 rw [<- DQ] at PX PY v5
 have BU:d5.ab[k]? = some { s with next:=dA s.l b2 }:=by rw [DQ];exact qF (au hs)
 have hc5:d5.calls.length<=10000000:=by rw [DQ];exact hB.calls
 have z5:=z.bY nw Hv (by omega)
 have XU:=((dK.refl d.ab.length E y hc).aX g).trans s5 (aS _)
 have LA:=lH v5 BU
 clear z qs q0 qw g
 have z:=z5
 have g:=aP.refl [] h5
 rw [aq h5]
 simp only [bM,seval,dQ]
 ((with_reducible refine ⟨z.cI.lay _ _,?_⟩);(intro _ h' zz x _);(simp only [bK,bu] at x);replace g:=g.over x;replace LA:=LA.over x;(replace z:=zz);(clear zz);rw [aq h'])
 repeat' (simp only [aa,seval,dQ,LA.lay,↓zx1,dJ,dt])
 have uh:=z.size
 have s5a:=(XU.aX g).aX (aP.lay h' [] h'.low [])
 refine zrc cY z.aw ((v5.aX g).aX (aP.lay _ _ _ _)) kn ly oZ kx (dA s.l b2) hc5 PX PY _ (λh7 E7 y7 z7 v7 s7=>?_)
 rw [aq h7]
 obtain ⟨o7,BM⟩:∃ o7,o7=bp facts cl d5 (dA s.l b2):=⟨_,rfl⟩
 rw [<- BM] at v7
 rw [<- BM]
 have Hu:o7.1.ab[k]? = some { s with next:=dA s.l b2 }:=by rw [BM,T5 (au BU),BU]
 have rb:y7.pl (.s k)=y.pl (.s k):=(s7.s k (au BU)).trans (XU.s k (au hs))
 have Ih:=lH v7 Hu
 rw [rb] at Ih
 have Xy:=z7.size
 have Hw:=v7.new _ (v7.own (.s k) (au Hu))
 rw [rb] at Hw
 repeat' (simp only [aa,seval,dQ])
 refine iH (n:=1) (o:=15) (vs:=[.int .i64 (o7.2:Int)]) Ih xL rfl rfl (by show 15+1<=17;omega) rfl (λh8 q8 i6=>?_)
 have z8:=(z7.iG [] h7.low (by omega)).step i6 Hw
 obtain ⟨E8,v8,s8⟩:=v7.state Xy Hu (s':={ s with next:=dA s.l b2,src:=o7.2 }) rfl (by rw [rb];exact (aP.refl [y.pl (.s k)] h7).ec i6 (.inl (by simp))) (by rw [rb];unfold uL;exact q8)
 have hz9:=z8.size
 have hpw:y7.pl .w=y.pl .w:=s7.w
 have afI:y7.pl .t=y.pl .t:=s7.t
 have XS:=gk v8
 have XR:=lH v8 (qF (au Hu))
 rw [rb] at XR
 rw [hpw] at XS
 clear z g LA
 have z:=z8
 have g:=aP.refl [] h8
 rw [aq h8]
 repeat' (simp only [aa,seval,dQ])
 with_reducible first|refine dO (by simp only [dQ]) z.aw ?_
 simp only [aa,seval,dQ,XS.lay,XR.lay,zqL]
 have WA:og o7.1:=by rw [BM];exact zvu ⟨PX,PY⟩
 have WT:o7.2 < o7.1.calls.length:=by
  obtain ⟨_,_,k3,k4⟩:=zH facts cl d5 (dA s.l b2)
  rw [BM,k3,k4]
  exact zrn (by rw [DQ];show 0 < d.calls.length;omega) _
 obtain ⟨c9,qf⟩:=vK WT
 have hn9:=WA.calls
 have hw9:=WA.nk _ (fV qf)
 refine zzw z.aw (v8.aX (aP.lay _ _ _ _)) qf k (by show o7.1.calls.length<=_;omega) (by omega) _ (λh9 E9 y9 z9 v9 s9=>?_)
 have Xo:=s9.size
 rw [bo] at Xo
 simp only [cW,gw] at Xo
 refine Eg (by kernel_rfl) z9.low (by rw [bo];simp only [cW];omega) ?_
 clear z g
 have z:=z9
 have g:=aP.refl [] h9
 rw [aq h9]
 simp only [bM,seval,dQ]
 ((with_reducible refine ⟨z.cI.lay _ _,?_⟩);(intro _ h' zz x _);(simp only [bK,bu] at x);replace g:=g.over x;(replace z:=zz);(clear zz);rw [aq h'])
 repeat' (simp only [syms,seval,dQ])
 have tJ:en facts cl d k s c=js { o7.1 with ab:=o7.1.ab.set k { s with next:=dA s.l b2,src:=o7.2 } } o7.2 k:=by
  unfold en
  rw [aA K2,mQ]
  dsimp only
  rw [<- DQ,<- BM]
 rw [tJ] at hk hT
 obtain ⟨d9,hd9⟩:∃ d9,d9=js { o7.1 with ab:=o7.1.ab.set k { s with next:=dA s.l b2,src:=o7.2 } } o7.2 k:=⟨_,rfl⟩
 obtain ⟨_,_,k3,k4,_⟩:=CH { o7.1 with ab:=o7.1.ab.set k { s with next:=dA s.l b2,src:=o7.2 } } o7.2 k
 rw [<- hd9] at v9 hk hT k3 k4
 have BV:d9.ab[k]? = some { s with next:=dA s.l b2,src:=o7.2 }:=by rw [k3];exact qF (au Hu)
 obtain ⟨DF,A6⟩:∃ DF,d9.calls[o7.2]? = some DF:=vK (by rw [k4];exact WT)
 have QP:d5.ab.length=d.ab.length:=by rw [DQ];exact ij
 have Xb:d5.ab.length<=o7.1.ab.length:=by
  refine Nat.le_of_not_lt λhh=>?_
  have hq:d5.ab[o7.1.ab.length]? ≠ none:=by rw [ne_eq,List.getElem?_eq_none_iff];omega
  rw [BM] at hh hq
  rw [<- T5 (facts:=facts) (cl:=cl) (a:=dA s.l b2) hh] at hq
  exact hq (ER (aS _))
 have Xc:(o7.1.ab.set k { s with next:=dA s.l b2,src:=o7.2 }).length=o7.1.ab.length:=ij
 have Sv:=(((s5a.trans s7 (sy QP.symm)).trans s8 (by omega)).aX (aP.lay h8 [] (h8.size+0) [])).trans s9 (dZ (dZ (sy QP.symm) Xb) (sy Xc.symm))
 have RM:y9.pl .w=y.pl .w:=Sv.w
 have QJ:y9.pl (.s k)=y.pl (.s k):=Sv.s k (au hs)
 have e9:∀ (q:Option ba),q=some DF->(match some ({ s with next:=dA s.l b2,src:=o7.2 }:eu) with|some s4=>fM k ((((d9.calls[s4.src]?).map ba.answers).getD []).drop s4.seen) d9|none=>d9)=fM k (DF.answers.drop s.seen) d9:=λq hq=>by
  show fM k ((((d9.calls[o7.2]?).map ba.answers).getD []).drop s.seen) d9=_
  rw [A6];rfl
 rw [BV,e9 _ rfl] at hk
 refine zuw z (v9.aX g) BV hj A6 gx (by show s.taken<=1000;omega) (hT _ DF BV A6) K (by rw [RM,QJ];exact Cf (by kernel_rfl)) (λh2 E2 y2 u2 z2 v2 s2=>?_)
 exact hk h2 E2 y2 u2 z2 v2 ((Sv.aX g).trans s2 (by rw [k3];exact dZ (dZ (sy QP.symm) Xb) (sy Xc.symm)))
end Go.Proofs.YtnkmeidmdaidhaaGreatDoor
