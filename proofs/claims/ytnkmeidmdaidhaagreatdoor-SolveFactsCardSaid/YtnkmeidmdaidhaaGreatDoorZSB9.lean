/- Walks: a state is taken on. Written out by fill2.py. No condition. -/
import Derived.Test.YtnkmeidmdaidhaaGreatDoorG39
set_option linter.unusedSimpArgs false
set_option linter.unusedVariables false
namespace Go.Proofs.YtnkmeidmdaidhaaGreatDoor
open Go.Am Tryz
set_option maxRecDepth 100000
set_option maxHeartbeats 0
theorem zEe {h hc:Heap} {E:List Nat} {y:cO} {cd vf:ai} {d:ba} (dD:bl 1 h) (z:Ext h hc) (v:Am.Inv iD h E y cd vf d hc) {cl:List ak} {facts:aN} (jt:Sl aC.clause h cd cl) (kS:Sl aC.atom h vf facts) (m9:cl.length<=1000) (lf:facts.length<=1000) {k:Nat} {s:dy} (hs:d.ab[k]? = some s) {j:Nat} (hj:s.clause=(j:Int)) {c:ak} (ec:cl[j]? = some c) (jN:c.body.length<=1000) (ia:s.l.length<=400) (VB:s.taken<=c.body.length) (hB:qP d) (hOB:∀ b2,c.body[s.taken]? = some b2->N1 facts cl { d with ab:=d.ab.set k { s with next:=cN s.l b2 } } (cN s.l b2)) (D3:s.call < d.calls.length) (lF:s.src < d.calls.length) (hT:∀ s4 c9,(dE facts cl d k s c).ab[k]? = some s4->(dE facts cl d k s c).calls[s4.src]? = some c9->∀ i,qP (fO k ((c9.answers.drop s4.seen).take i) (dE facts cl d k s c))) (K:aJ)
 (hk:∀ h' E' y' u,Ext h h'->Am.Inv iD h E' y' cd vf (gU facts cl d k) h'->eB d.ab.length E E' y y' hc h'->K u h'):Ok prog aH ov 32 [.pointer (some ⟨y.pl .w,0,none⟩),.int .i64 (k:Int)] hc K:=by
 rw [aw hc]
 have g:=aS.refl [] hc
 have qw:=iF v
 have qs:=nH v hs
 rw [hj] at qs
 have hz:=z.size
 have Cj:Sl aC.ptr hc (y.vl .sa) ((List.range d.ab.length).map λi=>y.pl (.s i)):=dx.sl (v.dF .sa) (by decide)
 have hr:((List.range d.ab.length).map λi=>y.pl (.s i))[(k:Int).toNat]? = some (y.pl (.s k)):=by
  rw [uK,lP,NI (aq hs)]
  rfl
 have iw:∀ (h:Heap) (K:aJ),aK (some (y.vl .sa)) h K=K (y.vl .sa) h:=λ_ _=>rfl
 have D6:Sl aC.clause hc cd cl:=jt.mono z.inc
 have cX:∀ (u:ai) (h:Heap) (K:aJ),aK (some u) h K=K u h:=λ_ _ _=>rfl
 refine Ok.aA 146 (bH Ol) ?_
 repeat' (first|simp only [aa,seval,eN,qw.lay,iw]|with_reducible refine Zk Cj tE WL (by omega) hr (λp hp=>?_)|with_reducible refine qJ hp Jd ?_)
 with_reducible first|refine ez (by simp only [eN]) z.av ?_
 simp only [aa,seval,eN,qw.lay,qs.lay,cX]
 have iu:cl[(j:Int).toNat]? = some c:=by rw [uK];exact ec
 refine Db D6 fB iE (by omega) iu (λp bd gz hp=>?_)
 simp only [aa,seval,eN]
 refine G5 hp rz iE ?_
 clear hp
 simp only [aa,seval,eN]
 refine ni (by have:=z.size;omega) (by omega) ?_
 simp only [aa,seval,eN]
 rw [MO (n:=12) (v:=.agg ⟨c.head.cells++[bd]⟩) (vs:=c.head.cells++[bd]) (by kernel_rfl) rfl rfl rfl (Nu gz.one)]
 simp only [syms,seval]
 refine Fv (by kernel_rfl) (by simp) (by have:=z.size;omega) ?_
 simp only [cm,seval,eN]
 ((with_reducible refine ⟨z.cU.lay _ _,?_⟩);(intro _ h' zz x _);(simp only [bY,bC] at x);replace g:=g.over x;replace qw:=qw.over x;replace qs:=qs.over x;(replace z:=zz);(clear zz);rw [aw h'])
 have q0:=Holds.top (i:=0) x rfl
 have lg:=z.size
 obtain ⟨A0,fI⟩:∃ A0,A0=hc.size+0:=⟨_,rfl⟩
 rw [<- fI] at q0
 rw [<- fI]
 have Ae:=λ(hh:Heap)=>gz.bQ bZ hh
 have EV:∀ (h:Heap) (K:aJ),aK (some bd) h K=K bd h:=λ_ _=>rfl
 simp only [syms,seval,eN]
 with_reducible first|refine ez (by simp only [eN]) z.av ?_
 simp only [aa,seval,eN,qs.lay,q0.lay,Nf,EV,Ae]
 obtain ⟨cc,kO⟩:=oF D3
 have J9:=en kO
 have zR:gU facts cl d k=if s.taken=c.body.length then gA d s.call (rf c s) else
  (match (dE facts cl d k s c).ab[k]? with
   |some s4=>fO k (((((dE facts cl d k s c).calls[s4.src]?).map aY.answers).getD []).drop s4.seen) (dE facts cl d k s c)
   |none=>dE facts cl d k s c):=by
  unfold gU
  rw [hs]
  dsimp only
  rw [hj,uK,ec]
  rfl
 by_cases ht:s.taken=c.body.length
 .rw [aD ht] at zR
  rw [zR] at hk
  have hb:((s.taken:Int) == (c.body.length:Int))=true:=by rw [ht];exact beq_self_eq_true _
  rw [hb]
  simp only [aa,seval,eN]
  ((with_reducible refine ⟨z.cU.lay _ _,?_⟩);(intro _ h' zz x _);(simp only [bY,bC] at x);replace g:=g.over x;replace qw:=qw.over x;replace qs:=qs.over x;replace q0:=q0.over x;(replace z:=zz);(clear zz);rw [aw h'])
  repeat' (simp only [aa,seval,eN])
  refine zBJ dD z.av ((v.bf g).bf (aS.lay _ _ _ _)) jt hs hj ec jN (by omega) kO hB.steps hB.queue hB.calls (hB.mY _ J9) hB.count (hB.pN _ J9) hB.aF _ (λh2 E2 y2 u2 z2 v2 s2=>?_)
  rw [aw h2]
  simp only [aa,seval,eN]
  have s3:=((eB.refl d.ab.length E y hc).bf (g.trans (aS.lay _ _ _ []) (by simp))).trans s2 (aR _)
  exact hk _ E2 y2 _ z2.av (v2.bf (aS.lay _ _ _ _)) (s3.bf (aS.lay _ _ _ _))
 rw [az ht] at zR
 rw [zR] at hk
 have hb:((s.taken:Int) == (c.body.length:Int))=false:=by
  rw [beq_eq_false_iff_ne]
  omega
 rw [hb]
 simp only [aa,seval,eN]
 ((with_reducible refine ⟨z.cU.lay _ _,?_⟩);(intro _ h' zz x _);(simp only [bY,bC] at x);replace g:=g.over x;replace qw:=qw.over x;replace qs:=qs.over x;replace q0:=q0.over x;(replace z:=zz);(clear zz);rw [aw h'])
 repeat' (simp only [aa,seval,eN])
 refine zzd ((v.bf g).bf (aS.lay _ _ _ _)) hs _ (λh' x=>?_)
 (replace z:=z.ao x;replace g:=g.over x;replace qw:=qw.over x;replace qs:=qs.over x;replace q0:=q0.over x;rw [aw h'])
 have aj9:=jt.mono z.inc
 have AF:=z.size
 by_cases OO:s.next.pred≠⟨#[]⟩
 .have wR:dE facts cl d k s c=d:=by unfold dE;rw [aD OO]
  rw [wR,hs] at hk
  rw [sk OO]
  repeat' (first|simp only [aa,seval,eN]|((with_reducible apply cf);(· rfl)))
  obtain ⟨c9,yn⟩:=oF lF
  rw [wR] at hT
  dsimp only at hk
  rw [yn,lu,zh] at hk
  refine zwi z (v.bf g) hs hj yn ia (by omega) (hT s c9 hs yn) K (Fa (by kernel_rfl)) (λh2 E2 y2 u2 z2 v2 s2=>?_)
  exact hk h2 E2 y2 u2 z2 v2 (((eB.refl d.ab.length E y hc).bf g).trans s2 (aR _))
 have Ul:decide (s.next.pred≠⟨#[]⟩)=false:=tn OO
 rw [Ul]
 repeat' (first|simp only [aa,seval,eN]|((with_reducible apply cf);(· rfl)))
 with_reducible first|refine ez (by simp only [eN]) z.av ?_
 simp only [aa,seval,eN,qs.lay,q0.lay,Nf,cX]
 obtain ⟨b2,iB,zM⟩:=gC (l:=c.body) (i:=s.taken) (by omega)
 have ji:({ s with next:=cN s.l ((c.body[s.taken]?).getD ah) }:dy)={ s with next:=cN s.l b2 }:=by rw [zM];rfl
 have UW:=v.fz k s hs
 refine r9 (gz.mono g.all) bZ ck (by omega) iB (λp hp=>?_)
 simp only [aa,seval,eN]
 refine qV hp iQ ck ?_
 clear hp
 simp only [aa,seval,eN]
 refine X5 s.l _ b2 _ (((UW.mono (uX _ _)).mono g.all).lay _ _) (by omega) _ (λh' x=>?_)
 (((with_reducible refine ix ?_ ?_ ?_);(· exact (by (simp only [iY]);have:=z.size;omega));(· exact x));replace z:=z.ao x;replace g:=g.over x;replace qw:=qw.over x;replace qs:=qs.over x;replace q0:=q0.over x;rw [aw h'])
 simp only [aa,seval,eN]
 have Vr:=v.own (.s k) (aq hs)
 have KT:=v.new _ Vr
 have v1:=v.bf g
 have rQ:=z.size
 refine j4 (n:=11) (o:=4) (vs:=(cN s.l b2).cells) qs (by kernel_rfl) rfl rfl (by show 4+11<=17;omega) rfl (λh5 q5 pZ=>?_)
 refine iL (A:=y.pl (.s k)) (by kernel_rfl) (by have:=z.size;rw [bh];omega) (by omega) pZ ?_
 obtain ⟨E5,v5,s5⟩:=v1.state rQ hs (s':={ s with next:=cN s.l b2 }) rfl ((aS.refl _ _).eV pZ (.inl (by simp))) (by unfold tc;rw [hj];exact q5)
 obtain ⟨d5,GR⟩:∃ d5,d5={ d with ab:=d.ab.set k { s with next:=cN s.l b2 } }:=⟨_,rfl⟩
 obtain ⟨TZ,T1⟩:=hOB b2 zM
 rw [<- GR] at TZ T1 v5
 have EJ:d5.ab[k]? = some { s with next:=cN s.l b2 }:=by rw [GR];exact mV (aq hs)
 have Uo:d5.calls.length<=10000000:=by rw [GR];exact hB.calls
 have z5:=z.bV pZ KT (by omega)
 have s5':=((eB.refl d.ab.length E y hc).bf g).trans s5 (aR _)
 have Pt:=nH v5 EJ
 clear z qs q0 qw g
 have z:=z5
 have g:=aS.refl [] h5
 rw [aw h5]
 simp only [cm,seval,eN]
 ((with_reducible refine ⟨z.cU.lay _ _,?_⟩);(intro _ h' zz x _);(simp only [bY,bC] at x);replace g:=g.over x;replace Pt:=Pt.over x;(replace z:=zz);(clear zz);rw [aw h'])
 repeat' (simp only [aa,seval,eN,Pt.lay,↓zAg,dU,dq])
 have xi:=z.size
 have s5a:=(s5'.bf g).bf (aS.lay h' [] h'.low [])
 refine zsI dD z.av ((v5.bf g).bf (aS.lay _ _ _ _)) jt kS m9 lf (cN s.l b2) Uo TZ T1 _ (λh7 E7 y7 z7 v7 s7=>?_)
 rw [aw h7]
 obtain ⟨o7,EB⟩:∃ o7,o7=aW facts cl d5 (cN s.l b2):=⟨_,rfl⟩
 rw [<- EB] at v7
 rw [<- EB]
 have KS:o7.1.ab[k]? = some { s with next:=cN s.l b2 }:=by rw [EB,P6 (aq EJ),EJ]
 have Ay:y7.pl (.s k)=y.pl (.s k):=(s7.s k (aq EJ)).trans (s5'.s k (aq hs))
 have Lw:=nH v7 KS
 rw [Ay] at Lw
 have hz8:=z7.size
 have KU:=v7.new _ (v7.own (.s k) (aq KS))
 rw [Ay] at KU
 repeat' (simp only [aa,seval,eN])
 refine j4 (n:=1) (o:=15) (vs:=[.int .i64 (o7.2:Int)]) Lw AX rfl rfl (by show 15+1<=17;omega) rfl (λh8 q8 kB=>?_)
 have z8:=(z7.jC [] h7.low (by omega)).step kB KU
 obtain ⟨E8,v8,s8⟩:=v7.state hz8 KS (s':={ s with next:=cN s.l b2,src:=o7.2 }) rfl (by rw [Ay];exact (aS.refl [y.pl (.s k)] h7).eV kB (.inl (by simp))) (by rw [Ay];unfold tc;exact q8)
 have Pf:=z8.size
 have hpw:y7.pl .w=y.pl .w:=s7.w
 have akX:y7.pl .t=y.pl .t:=s7.t
 have qw8:=iF v8
 have qs8:=nH v8 (mV (aq KS))
 rw [Ay] at qs8
 rw [hpw] at qw8
 clear z g Pt
 have z:=z8
 have g:=aS.refl [] h8
 rw [aw h8]
 repeat' (simp only [aa,seval,eN])
 with_reducible first|refine ez (by simp only [eN]) z.av ?_
 simp only [aa,seval,eN,qw8.lay,qs8.lay,zsd]
 have hB7:qP o7.1:=by rw [EB];exact zxu ⟨TZ,T1⟩
 have ha7:o7.2 < o7.1.calls.length:=by
  obtain ⟨_,_,k3,k4⟩:=CT facts cl d5 (cN s.l b2)
  rw [EB,k3,k4]
  exact zsS (by rw [GR];show 0 < d.calls.length;omega) _
 obtain ⟨c9,yn⟩:=oF ha7
 have hn9:=hB7.calls
 have hw9:=hB7.pN _ (en yn)
 refine zBR z.av (v8.bf (aS.lay _ _ _ _)) yn k (by show o7.1.calls.length<=_;omega) (by omega) _ (λh9 E9 y9 z9 v9 s9=>?_)
 have hs9:=s9.size
 rw [bh] at hs9
 simp only [db,gx] at hs9
 refine Hf (by kernel_rfl) z9.low (by rw [bh];simp only [db];omega) ?_
 clear z g
 have z:=z9
 have g:=aS.refl [] h9
 rw [aw h9]
 simp only [cm,seval,eN]
 ((with_reducible refine ⟨z.cU.lay _ _,?_⟩);(intro _ h' zz x _);(simp only [bY,bC] at x);replace g:=g.over x;(replace z:=zz);(clear zz);rw [aw h'])
 repeat' (simp only [syms,seval,eN])
 have wR:dE facts cl d k s c=i9 { o7.1 with ab:=o7.1.ab.set k { s with next:=cN s.l b2,src:=o7.2 } } o7.2 k:=by
  unfold dE
  rw [az OO,ji]
  dsimp only
  rw [<- GR,<- EB]
 rw [wR] at hk hT
 obtain ⟨d9,hd9⟩:∃ d9,d9=i9 { o7.1 with ab:=o7.1.ab.set k { s with next:=cN s.l b2,src:=o7.2 } } o7.2 k:=⟨_,rfl⟩
 obtain ⟨_,_,k3,k4,_⟩:=CQ { o7.1 with ab:=o7.1.ab.set k { s with next:=cN s.l b2,src:=o7.2 } } o7.2 k
 rw [<- hd9] at v9 hk hT k3 k4
 have EK:d9.ab[k]? = some { s with next:=cN s.l b2,src:=o7.2 }:=by rw [k3];exact mV (aq KS)
 obtain ⟨BN,D2⟩:∃ BN,d9.calls[o7.2]? = some BN:=oF (by rw [k4];exact ha7)
 have US:d5.ab.length=d.ab.length:=by rw [GR];exact ja
 have hl7:d5.ab.length<=o7.1.ab.length:=by
  refine Nat.le_of_not_lt λhh=>?_
  have hq:d5.ab[o7.1.ab.length]? ≠ none:=by rw [ne_eq,List.getElem?_eq_none_iff];omega
  rw [EB] at hh hq
  rw [<- P6 (facts:=facts) (cl:=cl) (a:=cN s.l b2) hh] at hq
  exact hq (H2 (aR _))
 have hl8:(o7.1.ab.set k { s with next:=cN s.l b2,src:=o7.2 }).length=o7.1.ab.length:=ja
 have Wy:=(((s5a.trans s7 (vy US.symm)).trans s8 (by omega)).bf (aS.lay h8 [] (h8.size+0) [])).trans s9 (eA (eA (vy US.symm) hl7) (vy hl8.symm))
 have VP:y9.pl .w=y.pl .w:=Wy.w
 have UN:y9.pl (.s k)=y.pl (.s k):=Wy.s k (aq hs)
 have e9:∀ (q:Option aY),q=some BN->(match some ({ s with next:=cN s.l b2,src:=o7.2 }:dy) with|some s4=>fO k ((((d9.calls[s4.src]?).map aY.answers).getD []).drop s4.seen) d9|none=>d9)=fO k (BN.answers.drop s.seen) d9:=λq hq=>by
  show fO k ((((d9.calls[o7.2]?).map aY.answers).getD []).drop s.seen) d9=_
  rw [D2];rfl
 rw [EK,e9 _ rfl] at hk
 refine zwi z (v9.bf g) EK hj D2 ia (by show s.taken<=1000;omega) (hT _ BN EK D2) K (by rw [VP,UN];exact Fa (by kernel_rfl)) (λh2 E2 y2 u2 z2 v2 s2=>?_)
 exact hk h2 E2 y2 u2 z2 v2 ((Wy.bf g).trans s2 (by rw [k3];exact eA (eA (vy US.symm) hl7) (vy hl8.symm)))
end Go.Proofs.YtnkmeidmdaidhaaGreatDoor
