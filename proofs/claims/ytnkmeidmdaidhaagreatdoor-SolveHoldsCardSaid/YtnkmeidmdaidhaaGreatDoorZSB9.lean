/- Walks: a state is taken on. Written out by fill2.py. No condition. -/
import Derived.Test.YtnkmeidmdaidhaaGreatDoorG41
set_option linter.unusedSimpArgs false
set_option linter.unusedVariables false
namespace Go.Proofs.YtnkmeidmdaidhaaGreatDoor
open Go.Am Tryz
set_option maxRecDepth 100000
set_option maxHeartbeats 0
theorem zCA {h hc:Heap} {E:List Nat} {y:cG} {bZ vf:ai} {d:aY} (dq:bh 1 h) (z:Ext h hc) (v:Am.Inv il h E y bZ vf d hc) {cl:List aq} {facts:aN} (jd:Sl aG.clause h bZ cl) (jG:Sl aG.atom h vf facts) (ny:cl.length<=1000) (kT:facts.length<=1000) {k:Nat} {s:dv} (hs:d.ab[k]? = some s) {j:Nat} (hj:s.clause=(j:Int)) {c:aq} (dO:cl[j]? = some c) (kQ:c.body.length<=1000) (gO:s.l.length<=400) (TO:s.taken<=c.body.length) (hB:qb d) (hOB:∀ b2,c.body[s.taken]? = some b2->Mr facts cl { d with ab:=d.ab.set k { s with next:=cB s.l b2 } } (cB s.l b2)) (Sv:s.call < d.calls.length) (kW:s.src < d.calls.length) (hT:∀ s4 c9,(dG facts cl d k s c).ab[k]? = some s4->(dG facts cl d k s c).calls[s4.src]? = some c9->∀ i,qb (fH k ((c9.answers.drop s4.seen).take i) (dG facts cl d k s c))) (K:aO)
 (hk:∀ h' E' y' u,Ext h h'->Am.Inv il h E' y' bZ vf (gU facts cl d k) h'->ec d.ab.length E E' y y' hc h'->K u h'):Ok prog aJ ov 32 [.pointer (some ⟨y.pl .w,0,none⟩),.int .i64 (k:Int)] hc K:=by
 rw [az hc]
 have g:=aR.refl [] hc
 have qw:=im v
 have qs:=na v hs
 rw [hj] at qs
 have hz:=z.size
 have Bd:Sl aG.ptr hc (y.vl .sa) ((List.range d.ab.length).map λi=>y.pl (.s i)):=du.sl (v.dB .sa) (by decide)
 have hr:((List.range d.ab.length).map λi=>y.pl (.s i))[(k:Int).toNat]? = some (y.pl (.s k)):=by
  rw [uG,lk,LY (ao hs)]
  rfl
 have gZ:∀ (h:Heap) (K:aO),aM (some (y.vl .sa)) h K=K (y.vl .sa) h:=λ_ _=>rfl
 have C8:Sl aG.clause hc bZ cl:=jd.mono z.inc
 have dg:∀ (u:ai) (h:Heap) (K:aO),aM (some u) h K=K u h:=λ_ _ _=>rfl
 refine Ok.aF 146 (bY MF) ?_
 repeat' (first|simp only [aa,seval,eJ,qw.lay,gZ]|with_reducible refine Xv Bd sO UW (by omega) hr (λp hp=>?_)|with_reducible refine uB hp HG ?_)
 with_reducible first|refine eF (by simp only [eJ]) z.aw ?_
 simp only [aa,seval,eJ,qw.lay,qs.lay,dg]
 have fo:cl[(j:Int).toNat]? = some c:=by rw [uG];exact dO
 refine GX C8 jv kx (by omega) fo (λp bd gV hp=>?_)
 simp only [aa,seval,eJ]
 refine JZ hp sK kx ?_
 clear hp
 simp only [aa,seval,eJ]
 refine nL (by have:=z.size;omega) (by omega) ?_
 simp only [aa,seval,eJ]
 rw [Lk (n:=12) (v:=.agg ⟨c.head.cells++[bd]⟩) (vs:=c.head.cells++[bd]) (by kernel_rfl) rfl rfl rfl (LI gV.one)]
 simp only [syms,seval]
 refine Eo (by kernel_rfl) (by simp) (by have:=z.size;omega) ?_
 simp only [cv,seval,eJ]
 ((with_reducible refine ⟨z.cS.lay _ _,?_⟩);(intro _ h' zz x _);(simp only [bS,bD] at x);replace g:=g.over x;replace qw:=qw.over x;replace qs:=qs.over x;(replace z:=zz);(clear zz);rw [az h'])
 have q0:=ak.top (i:=0) x rfl
 have mi:=z.size
 obtain ⟨A0,iX⟩:∃ A0,A0=hc.size+0:=⟨_,rfl⟩
 rw [<- iX] at q0
 rw [<- iX]
 have yX:=λ(hh:Heap)=>gV.bW cM hh
 have DT:∀ (h:Heap) (K:aO),aM (some bd) h K=K bd h:=λ_ _=>rfl
 simp only [syms,seval,eJ]
 with_reducible first|refine eF (by simp only [eJ]) z.aw ?_
 simp only [aa,seval,eJ,qs.lay,q0.lay,Lx,DT,yX]
 obtain ⟨cc,lC⟩:=nM Sv
 have IB:=ek lC
 have yJ:gU facts cl d k=if s.taken=c.body.length then gj d s.call (qD c s) else
  (match (dG facts cl d k s c).ab[k]? with
   |some s4=>fH k (((((dG facts cl d k s c).calls[s4.src]?).map aX.answers).getD []).drop s4.seen) (dG facts cl d k s c)
   |none=>dG facts cl d k s c):=by
  unfold gU
  rw [hs]
  dsimp only
  rw [hj,uG,dO]
  rfl
 by_cases ht:s.taken=c.body.length
 .rw [aB ht] at yJ
  rw [yJ] at hk
  have hb:((s.taken:Int) == (c.body.length:Int))=true:=by rw [ht];exact beq_self_eq_true _
  rw [hb]
  simp only [aa,seval,eJ]
  ((with_reducible refine ⟨z.cS.lay _ _,?_⟩);(intro _ h' zz x _);(simp only [bS,bD] at x);replace g:=g.over x;replace qw:=qw.over x;replace qs:=qs.over x;replace q0:=q0.over x;(replace z:=zz);(clear zz);rw [az h'])
  repeat' (simp only [aa,seval,eJ])
  refine zAt dq z.aw ((v.bf g).bf (aR.lay _ _ _ _)) jd hs hj dO kQ (by omega) lC hB.steps hB.queue hB.calls (hB.lq _ IB) hB.count (hB.pf _ IB) hB.aC _ (λh2 E2 y2 u2 z2 v2 s2=>?_)
  rw [az h2]
  simp only [aa,seval,eJ]
  have s3:=((ec.refl d.ab.length E y hc).bf (g.trans (aR.lay _ _ _ []) (by simp))).trans s2 (aQ _)
  exact hk _ E2 y2 _ z2.aw (v2.bf (aR.lay _ _ _ _)) (s3.bf (aR.lay _ _ _ _))
 rw [aA ht] at yJ
 rw [yJ] at hk
 have hb:((s.taken:Int) == (c.body.length:Int))=false:=by
  rw [beq_eq_false_iff_ne]
  omega
 rw [hb]
 simp only [aa,seval,eJ]
 ((with_reducible refine ⟨z.cS.lay _ _,?_⟩);(intro _ h' zz x _);(simp only [bS,bD] at x);replace g:=g.over x;replace qw:=qw.over x;replace qs:=qs.over x;replace q0:=q0.over x;(replace z:=zz);(clear zz);rw [az h'])
 repeat' (simp only [aa,seval,eJ])
 refine zyf ((v.bf g).bf (aR.lay _ _ _ _)) hs _ (λh' x=>?_)
 (replace z:=z.au x;replace g:=g.over x;replace qw:=qw.over x;replace qs:=qs.over x;replace q0:=q0.over x;rw [az h'])
 have ahr:=jd.mono z.inc
 have ue:=z.size
 by_cases M1:s.next.pred≠⟨#[]⟩
 .have vT:dG facts cl d k s c=d:=by unfold dG;rw [aB M1]
  rw [vT,hs] at hk
  rw [sH M1]
  repeat' (first|simp only [aa,seval,eJ]|((with_reducible apply cK);(· rfl)))
  obtain ⟨c9,xu⟩:=nM kW
  rw [vT] at hT
  dsimp only at hk
  rw [xu,kK,Aq] at hk
  refine zvq z (v.bf g) hs hj xu gO (by omega) (hT s c9 hs xu) K (D1 (by kernel_rfl)) (λh2 E2 y2 u2 z2 v2 s2=>?_)
  exact hk h2 E2 y2 u2 z2 v2 (((ec.refl d.ab.length E y hc).bf g).trans s2 (aQ _))
 have Sr:decide (s.next.pred≠⟨#[]⟩)=false:=tO M1
 rw [Sr]
 repeat' (first|simp only [aa,seval,eJ]|((with_reducible apply cK);(· rfl)))
 with_reducible first|refine eF (by simp only [eJ]) z.aw ?_
 simp only [aa,seval,eJ,qs.lay,q0.lay,Lx,dg]
 obtain ⟨b2,ic,yG⟩:=i4 (l:=c.body) (i:=s.taken) (by omega)
 have jo:({ s with next:=cB s.l ((c.body[s.taken]?).getD ah) }:dv)={ s with next:=cB s.l b2 }:=by rw [yG];rfl
 have Tb:=v.fz k s hs
 refine tH (gV.mono g.all) cM cw (by omega) ic (λp hp=>?_)
 simp only [aa,seval,eJ]
 refine rj hp jb cw ?_
 clear hp
 simp only [aa,seval,eJ]
 refine Wa s.l _ b2 _ (((Tb.mono (ui _ _)).mono g.all).lay _ _) (by omega) _ (λh' x=>?_)
 (((with_reducible refine fP ?_ ?_ ?_);(· exact (by (simp only [gh]);have:=z.size;omega));(· exact x));replace z:=z.au x;replace g:=g.over x;replace qw:=qw.over x;replace qs:=qs.over x;replace q0:=q0.over x;rw [az h'])
 simp only [aa,seval,eJ]
 have TE:=v.own (.s k) (ao hs)
 have Jy:=v.new _ TE
 have v1:=v.bf g
 have rh:=z.size
 refine jL (n:=11) (o:=4) (vs:=(cB s.l b2).cells) qs (by kernel_rfl) rfl rfl (by show 4+11<=17;omega) rfl (λh5 q5 px=>?_)
 refine i3 (A:=y.pl (.s k)) (by kernel_rfl) (by have:=z.size;rw [br];omega) (by omega) px ?_
 obtain ⟨E5,v5,s5⟩:=v1.state rh hs (s':={ s with next:=cB s.l b2 }) rfl ((aR.refl _ _).eN px (.inl (by simp))) (by unfold sk;rw [hj];exact q5)
 obtain ⟨d5,FI⟩:∃ d5,d5={ d with ab:=d.ab.set k { s with next:=cB s.l b2 } }:=⟨_,rfl⟩
 obtain ⟨R1,R3⟩:=hOB b2 yG
 rw [<- FI] at R1 R3 v5
 have DJ:d5.ab[k]? = some { s with next:=cB s.l b2 }:=by rw [FI];exact mz (ao hs)
 have hc5:d5.calls.length<=10000000:=by rw [FI];exact hB.calls
 have z5:=z.cp px Jy (by omega)
 have s5':=((ec.refl d.ab.length E y hc).bf g).trans s5 (aQ _)
 have NI:=na v5 DJ
 clear z qs q0 qw g
 have z:=z5
 have g:=aR.refl [] h5
 rw [az h5]
 simp only [cv,seval,eJ]
 ((with_reducible refine ⟨z.cS.lay _ _,?_⟩);(intro _ h' zz x _);(simp only [bS,bD] at x);replace g:=g.over x;replace NI:=NI.over x;(replace z:=zz);(clear zz);rw [az h'])
 repeat' (simp only [aa,seval,eJ,NI.lay,↓zza,eG,dS])
 have wC:=z.size
 have s5a:=(s5'.bf g).bf (aR.lay h' [] h'.low [])
 refine zr3 dq z.aw ((v5.bf g).bf (aR.lay _ _ _ _)) jd jG ny kT (cB s.l b2) hc5 R1 R3 _ (λh7 E7 y7 z7 v7 s7=>?_)
 rw [az h7]
 obtain ⟨o7,DC⟩:∃ o7,o7=aT facts cl d5 (cB s.l b2):=⟨_,rfl⟩
 rw [<- DC] at v7
 rw [<- DC]
 have Jx:o7.1.ab[k]? = some { s with next:=cB s.l b2 }:=by rw [DC,Ot (ao DJ),DJ]
 have zi:y7.pl (.s k)=y.pl (.s k):=(s7.s k (ao DJ)).trans (s5'.s k (ao hs))
 have Ke:=na v7 Jx
 rw [zi] at Ke
 have ZQ:=z7.size
 have Jz:=v7.new _ (v7.own (.s k) (ao Jx))
 rw [zi] at Jz
 repeat' (simp only [aa,seval,eJ])
 refine jL (n:=1) (o:=15) (vs:=[.int .i64 (o7.2:Int)]) Ke zD rfl rfl (by show 15+1<=17;omega) rfl (λh8 q8 j7=>?_)
 have z8:=(z7.jK [] h7.low (by omega)).step j7 Jz
 obtain ⟨E8,v8,s8⟩:=v7.state ZQ Jx (s':={ s with next:=cB s.l b2,src:=o7.2 }) rfl (by rw [zi];exact (aR.refl [y.pl (.s k)] h7).eN j7 (.inl (by simp))) (by rw [zi];unfold sk;exact q8)
 have hz9:=z8.size
 have hpw:y7.pl .w=y.pl .w:=s7.w
 have ah9:y7.pl .t=y.pl .t:=s7.t
 have qw8:=im v8
 have Z9:=na v8 (mz (ao Jx))
 rw [zi] at Z9
 rw [hpw] at qw8
 clear z g NI
 have z:=z8
 have g:=aR.refl [] h8
 rw [az h8]
 repeat' (simp only [aa,seval,eJ])
 with_reducible first|refine eF (by simp only [eJ]) z.aw ?_
 simp only [aa,seval,eJ,qw8.lay,Z9.lay,zrC]
 have YO:qb o7.1:=by rw [DC];exact zws ⟨R1,R3⟩
 have Y5:o7.2 < o7.1.calls.length:=by
  obtain ⟨_,_,k3,k4⟩:=BP facts cl d5 (cB s.l b2)
  rw [DC,k3,k4]
  exact zsb (by rw [FI];show 0 < d.calls.length;omega) _
 obtain ⟨c9,xu⟩:=nM Y5
 have hn9:=YO.calls
 have hw9:=YO.pf _ (ek xu)
 refine zAA z.aw (v8.bf (aR.lay _ _ _ _)) xu k (by show o7.1.calls.length<=_;omega) (by omega) _ (λh9 E9 y9 z9 v9 s9=>?_)
 have ZA:=s9.size
 rw [br] at ZA
 simp only [dK,gS] at ZA
 refine F6 (by kernel_rfl) z9.low (by rw [br];simp only [dK];omega) ?_
 clear z g
 have z:=z9
 have g:=aR.refl [] h9
 rw [az h9]
 simp only [cv,seval,eJ]
 ((with_reducible refine ⟨z.cS.lay _ _,?_⟩);(intro _ h' zz x _);(simp only [bS,bD] at x);replace g:=g.over x;(replace z:=zz);(clear zz);rw [az h'])
 repeat' (simp only [syms,seval,eJ])
 have vT:dG facts cl d k s c=iP { o7.1 with ab:=o7.1.ab.set k { s with next:=cB s.l b2,src:=o7.2 } } o7.2 k:=by
  unfold dG
  rw [aA M1,jo]
  dsimp only
  rw [<- FI,<- DC]
 rw [vT] at hk hT
 obtain ⟨d9,hd9⟩:∃ d9,d9=iP { o7.1 with ab:=o7.1.ab.set k { s with next:=cB s.l b2,src:=o7.2 } } o7.2 k:=⟨_,rfl⟩
 obtain ⟨_,_,k3,k4,_⟩:=BQ { o7.1 with ab:=o7.1.ab.set k { s with next:=cB s.l b2,src:=o7.2 } } o7.2 k
 rw [<- hd9] at v9 hk hT k3 k4
 have DK:d9.ab[k]? = some { s with next:=cB s.l b2,src:=o7.2 }:=by rw [k3];exact mz (ao Jx)
 obtain ⟨Fw,C1⟩:∃ Fw,d9.calls[o7.2]? = some Fw:=nM (by rw [k4];exact Y5)
 have S8:d5.ab.length=d.ab.length:=by rw [FI];exact iS
 have Zm:d5.ab.length<=o7.1.ab.length:=by
  refine Nat.le_of_not_lt λhh=>?_
  have hq:d5.ab[o7.1.ab.length]? ≠ none:=by rw [ne_eq,List.getElem?_eq_none_iff];omega
  rw [DC] at hh hq
  rw [<- Ot (facts:=facts) (cl:=cl) (a:=cB s.l b2) hh] at hq
  exact hq (GR (aQ _))
 have Zn:(o7.1.ab.set k { s with next:=cB s.l b2,src:=o7.2 }).length=o7.1.ab.length:=iS
 have UI:=(((s5a.trans s7 (uJ S8.symm)).trans s8 (by omega)).bf (aR.lay h8 [] (h8.size+0) [])).trans s9 (dZ (dZ (uJ S8.symm) Zm) (uJ Zn.symm))
 have T2:y9.pl .w=y.pl .w:=UI.w
 have SZ:y9.pl (.s k)=y.pl (.s k):=UI.s k (ao hs)
 have e9:∀ (q:Option aX),q=some Fw->(match some ({ s with next:=cB s.l b2,src:=o7.2 }:dv) with|some s4=>fH k ((((d9.calls[s4.src]?).map aX.answers).getD []).drop s4.seen) d9|none=>d9)=fH k (Fw.answers.drop s.seen) d9:=λq hq=>by
  show fH k ((((d9.calls[o7.2]?).map aX.answers).getD []).drop s.seen) d9=_
  rw [C1];rfl
 rw [DK,e9 _ rfl] at hk
 refine zvq z (v9.bf g) DK hj C1 gO (by show s.taken<=1000;omega) (hT _ Fw DK C1) K (by rw [T2,SZ];exact D1 (by kernel_rfl)) (λh2 E2 y2 u2 z2 v2 s2=>?_)
 exact hk h2 E2 y2 u2 z2 v2 ((UI.bf g).trans s2 (by rw [k3];exact dZ (dZ (uJ S8.symm) Zm) (uJ Zn.symm)))
end Go.Proofs.YtnkmeidmdaidhaaGreatDoor
