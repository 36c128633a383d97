/- Walks: a space turned. Written out by fill2.py. No condition. -/
import Derived.Test.YtiapegieocgmfaaGreatDoorG36
set_option linter.unusedSimpArgs false
set_option linter.unusedVariables false
set_option maxRecDepth 100000
set_option maxHeartbeats 0
namespace Go.Proofs.YtiapegieocgmfaaGreatDoor
open Go.Am Tryz
theorem xR (x):cz prog aD .eql 33 (.pointer (some x)) (.pointer none)=some (.bool false):=by kernel_rfl
theorem NU (x):cz prog aD .neq 33 (.pointer (some x)) (.pointer none)=some (.bool true):=by kernel_rfl
theorem zCl (T0:Nat) (v0 v1:ab) (q:Int) (NM:Nat):cut (HI T0 v0 v1 q NM) 1 7=some (du v0 v1 (.slice none 0 0) (.slice none 0 0) (.slice none 0 0) q 0):=rfl
theorem J5 (T0:Nat) (v0 v1:ab) (q:Int) (NM:Nat):(HI T0 v0 v1 q NM)[8]? = some (.map (some NM)):=rfl
theorem zCP (T0:Nat) (v0 v1:ab) (q:Int) (NM:Nat):(HI T0 v0 v1 q NM)[4]? = some (.int .i64 q):=rfl
theorem uV:aD.desc 79=some (.map 9 83):=by kernel_rfl
theorem Ia:aD.zero 83=some (.agg #[.slice none 0 0,.int .u64 0]):=by kernel_rfl
theorem Og:dg aD 83=some 2:=by kernel_rfl
theorem gB (b:Bool) (h:Heap) (K:aF):aC (some (.bool b)) h K=K (.bool b) h:=rfl
theorem zCx (a) (n c:Nat) (h:Heap):bo aD 38 (.slice a n c) h=some (.int .i64 n):=by kernel_rfl
theorem zCe (a) (n c:Nat) (v:Int):qp aD 83 [(0,.slice a n c),(1,.int .u64 v)]=some (.agg #[.slice a n c,.int .u64 v]):=by kernel_rfl
theorem Z5 {n:Nat} (h:n < 1000000000):IntKind.u64.wrap ((n:Int)+1)=((n+1:Nat):Int):=by
 unfold IntKind.wrap
 simp [IntKind.signed,IntKind.bits]
 omega
def ly (f:au->aS) (s:au) (l:aS):au->aS:=λx=>if x=s then l else f x
theorem Zi {h:Heap} {v0 v1:ab} {d:aq} (s0:Sl aM.str h v0 d.ah) (s1:Sl aM.pred h v1 d.bZ) (q:Int):(du v0 v1 (.slice none 0 0) (.slice none 0 0) (.slice none 0 0) q 0).all Am.one=true:=by
 have h0:=s0.one
 have h1:=s1.one
 simp only [du,nU,oX,h0,h1]
 rfl
theorem zlz (d:aq) (q:Int) (s:au) (a:ak) (room:Int) (fv:ab) (is:aS->Bool) (tn:aS->aS) (facts:au->aS) (aI us:au->Nat) (h hc:Heap) (z:Ext h hc) (N b:Nat) (S0:Nat) (E:List Nat) (hN:N=h.size) (X:List Nat) (dz:eC X N b hc S0 E d q facts aI us) (cG:bd 1 hc) (Np:d.ah.length<=1000) (iF:(facts s).length<=800) (aT:∀ x∈facts s,x.aW=true) (hv:aI s < 1000000000)
 (htn:(tn (facts s)).length<=900)
 (ht:∀ (h2:Heap) (v:ab) (K:aF),Sl aM.atom h2 v (facts s)->(∀ h' w,Ext h2 h'->(∃ a n c,w=.slice a n c)->(is (facts s)=true->ja h2 h' 47 w (tn (facts s)))->K (.tuple #[w,.bool (is (facts s))]) h')->oU prog aD ov [v,a.val] h2 K fv)
 (K:aF)
 (yv:jk d s a≠0->∀ h',Ext h h'->aL [] hc h'->K (.tuple #[.bool false,.int .i64 (jk d s a)]) h')
 (gz:jk d s a=0->is (facts s)=false->∀ h',Ext h h'->aL [] hc h'->K (.tuple #[.bool false,.int .i64 0]) h')
 (pj:jk d s a=0->is (facts s)=true->room < (tn (facts s)).length->∀ h',Ext h h'->aL [] hc h'->K (.tuple #[.bool false,.int .i64 12]) h')
 (yw:jk d s a=0->is (facts s)=true->((tn (facts s)).length:Int)<=room->∀ h',Ext h h'->aL E hc h'->eC X N b h' S0 E d q (ly facts s (tn (facts s))) (fP aI s (aI s+1)) us->K (.tuple #[.bool true,.int .i64 0]) h'):Ok prog aD ov 34 [.pointer (some ⟨S0,0,none⟩),.string s,a.val,.int .i64 room,fv] hc K:=by
 obtain ⟨⟨T0,D,NM,v0,v1,nv,rfl,x1,x2,x3,x4,x5,g6,x7,g8,g9,g10,g11⟩,jV,FO⟩:=dz
 have ux:=aL.iR X hc
 have ui:=zC2 (NM::D) X hc
 have Br:=x1.alive (by simp)
 have uZ:NM ∉ X:=jV _ (by simp)
 have zV:∀ B∈D,B ∉ X:=λB hB=>jV B (fB _ hB)
 have g1:=x1.bN ux Br
 have g2:=x2.bN ux zV
 have g3:=x3.hold (λb q=>q.bN ux uZ)
 have g4:=x4.mono ui
 have g5:=x5.mono ui
 have g7:∀ who x,dE nv who=some x->∃ s,x=.agg #[s,.int .u64 (aI who:Int)]/\Sl aM.atom (aG (NM::D) hc) s (facts who):=λwho x hx=>(x7 who x hx).imp λs hs=>⟨hs.1,hs.2.mono ui⟩
 have bf:=Zi g4 g5 q
 have t4:=g4.mono (rH _ _)
 have t5:=g5.mono (rH _ _)
 rw [ao hc]
 refine Ok.aw 55 (bq N34) ?_
 simp only [aa,seval,pM,eE,xR]
 with_reducible first|refine dL (by simp only [pM]) z.aA ?_
 simp only [aa,seval,pM,dm,g1.lay,↓zCl,eV,eI,eE,↓eY,eJ,dX]
 refine zyU d s a v0 v1 _ _ _ q 0 _ (cG.lay _ _) bf (t4.lay _ _) (t5.lay _ _) Np _ (λh' x=>?_)
 have q0:=Holds.top (i:=0) x rfl
 have fr:aL [] hc h':=(aL.refl [] hc).over x
 (((with_reducible refine cU ?_ ?_ ?_);(· exact (by (simp only [ck]);have:=z.size;omega));(· exact x));replace z:=z.an x;replace g1:=g1.over x;rw [ao h'])
 simp only [aa,seval,pM,bO]
 ((with_reducible refine ⟨z.cn.lay _ _,?_⟩);(intro _ h' zz x _);(simp only [bM,bu] at x);replace g1:=g1.over x;replace q0:=q0.over x;replace fr:=fr.over x;(replace z:=zz);(clear zz);rw [ao h'])
 simp only [aa,seval,pM,bO]
 refine gg (λaQ=>?_) (λheq=>?_)
 .simp only [aa,seval,pM,bO]
  exact yv aQ _ z.aA (fr.trans (aL.lay _ _ _ []) (λ_ h=>nomatch h))
 have g3':=g3.hold (λb q=>q.bN fr (by simp))
 have GD:=fr.size
 have hq0:=q0.lt
 have Dl:=g1.lt
 obtain ⟨sv,ez,oa⟩:∃ sv,(dE nv s).getD (.agg #[.slice none 0 0,.int .u64 0])=.agg #[sv,.int .u64 (aI s:Int)]/\Sl aM.atom (aG (NM::D) hc) sv (facts s):=by
  cases hl:dE nv s with
  |none =>
   obtain ⟨e1,e2⟩:=g6 s hl
   rw [e1,e2]
   exact ⟨_,rfl,.nil⟩
  |some x=>exact g7 s x hl
 obtain ⟨sa,sn,Ao,rfl⟩:=rG oa
 simp only [aa,seval,pM,mN,g1.lay,J5,D6]
 refine Qa g3' uV CJ Ia ?_
 simp only [ez,gM,if_false]
 simp only [aa,seval,pM,j6]
 have hA:Sl aM.atom h' (.slice sa sn Ao) (facts s):=(oa.mono (rH _ _)).mono fr.all
 have tf:∀ (h:Heap) (K:aF),aC (some (.slice sa sn Ao)) h K=K (.slice sa sn Ao) h:=λ_ _=>rfl
 have r8:=z.size
 refine zpL (i:=0) rfl Og rfl rfl rfl rfl ?_
 simp only [oV]
 simp only [aa,seval,pM,tf,q0.lay,eE,↓eY,eJ,dX]
 have Mm:∀ B∈NM::D,B < h'.size:=λB hB=>by
  rcases dh.1 hB with rfl|hB
  .have:=g3.lt;omega
  .have:=(g2.lo B hB).2;omega
 refine ht _ _ _ (hA.lay _ _) (λh' w x mY ho=>?_)
 have q2:=Holds.top (i:=0) x rfl
 (replace z:=z.an x;replace g1:=g1.over x;replace q0:=q0.over x;replace fr:=fr.over x;rw [ao h'])
 obtain ⟨wa,wn,wc,rfl⟩:=mY
 have IL:∀ (h:Heap) (K:aF),aC (some (.slice wa wn wc)) h K=K (.slice wa wn wc) h:=λ_ _=>rfl
 cases rZ:is (facts s)
 .simp only [aa,seval,pM,jg,IL,gB]
  (with_reducible apply bX);(· rfl)
  simp only [aa,seval,pM]
  exact gz heq rZ _ z.aA (fr.trans (aL.lay _ _ _ []) (λ_ h=>nomatch h))
 replace ho:=ho rZ
 have Ym:=ho
 obtain ⟨AW,tw,Ss,hwq,hwA,hwl⟩:=ho
 simp only [Value.slice.injEq] at Ss
 obtain ⟨YI,IM,hwc⟩:=Ss
 simp only [aa,seval,pM,jg,IL,gB]
 (with_reducible apply bX);(· rfl)
 simp only [aa,seval,pM,IL,zCx,bO]
 refine bn (λvo=>?_) (λhle=>?_)
 .simp only [aa,seval,pM,bO]
  exact pj heq rZ (by rw [<- IM];omega) _ z.aA (fr.trans (aL.lay _ _ _ []) (λ_ h=>nomatch h))
 have IP:IntKind.u64.wrap ((aI s:Int)+1)=((aI s+1:Nat):Int):=Z5 (by omega)
 simp only [aa,seval,pM]
 with_reducible first|refine dL (by simp only [pM]) z.aA ?_
 simp only [aa,seval,pM,mN,bO,dm,j6,IL,g1.lay,J5,q2.lay,Oh,IP,zCe,PW]
 have gm:=g3.hold (λb q=>q.bN fr (by simp))
 refine zs1 gm uV CJ (λh3 m3 c3=>?_)
 have hz:=z.size
 have FJ:h.size<=NM:=by omega
 have XL:=g3.lt
 refine og (A:=NM) (by kernel_rfl) (by rw [bc];omega) (by omega) (by simpa only [bM,bc,bu,dn,dN,iU] using c3) ?_
 have z3:=(z.kN [] (h'.size+0) (by omega)).step c3 FJ
 have f3:aL [NM] h' h3:=(aL.refl [NM] h').iL c3 (.inl (by simp))
 have Xa:S0≠NM:=λe=>g8 (by rw [e];simp)
 have k1:=Ym.kill (D:=(NM::D)++X) (λB hB=>by
  rw [bc]
  rcases mj.1 hB with hB|hB
  .have:=Mm B hB;omega
  .have:=FO B hB;omega)
 rw [SM] at k1
 clear z q0 q2
 have z:=z3
 rw [ao h3]
 simp only [aa,seval,pM]
 ((with_reducible refine ⟨z.cn.lay _ _,?_⟩);(intro _ h4 zz x _);(simp only [bM,bu] at x))
 replace f3:=f3.over x
 replace m3:=m3.over x
 clear z
 have z:=zz
 rw [ao h4]
 simp only [aa,seval,pM,bO,gB]
 have f4:aL [NM] h' (h4.lay [] h4.low):=f3.trans (aL.lay _ _ _ []) (λ_ h=>nomatch h)
 have f5:aL [NM] hc (h4.lay [] h4.low):=fr.mono (D':=[NM]) (λ_ h=>nomatch h) |>.trans f4 (λB hB=>.inl hB)
 have vD:∀ B∈[NM],B∈NM::D:=λB hB=>by rw [hU.1 hB];simp
 have i1:bL (aG (NM::D) (aG X hc)) (aG (NM::D) (aG X (h4.lay [] h4.low))):=((f5.kill X).mono vD).inc (λB hB=>.inl hB)
 have i2:bL (aG (NM::D) (aG X h')) (aG (NM::D) (aG X (h4.lay [] h4.low))):=((f4.kill X).mono vD).inc (λB hB=>.inl hB)
 refine yw heq rZ (by rw [<- IM];omega) _ z.aA (f5.mono vD) ⟨⟨T0,D,NM,v0,v1,fZ nv s (.agg #[.slice wa wn wc,.int .u64 ((aI s+1:Nat):Int)]),rfl,x1.bN (f5.kill X) (by simpa using Xa),x2.bN (f5.kill X) (λB hB hm=>g9 (by rw [<- hU.1 hm];exact hB)),(m3.lay _ _).hold (λ_ q=>q.kg uZ),x4.mono i1,x5.mono i1,λwho hw=>?_,λwho y hw=>?_,g8,g9,g10,g11⟩,jV,λB hB=>dB (FO B hB) f5.size⟩
 .rw [Hu] at hw
  by_cases mY:who=s
  .rw [aE mY] at hw;cases hw
  .rw [az mY] at hw
   unfold ly
   rw [az mY,tF mY]
   exact g6 who hw
 .rw [Hu] at hw
  by_cases mY:who=s
  .rw [aE mY] at hw
   cases hw
   subst mY
   unfold ly
   rw [aE rfl,wW]
   exact ⟨_,rfl,k1.mono i2⟩
  .rw [az mY] at hw
   unfold ly
   rw [az mY,tF mY]
   exact (x7 who y hw).imp λv hv=>⟨hv.1,hv.2.mono i1⟩
theorem nV.turn {N b2:Nat} {h h2:Heap} {S0 T0 NM:Nat} {D D2:List Nat} {d:aq} {q:Int} {facts:au->aS} {aI gd:au->Nat} {v0 v1:ab} {nv:List (au × ab)} (q1:Holds h S0 (.row (HI T0 v0 v1 q NM) 81 false)) (m:dq h NM nv) (s0:Sl aM.str (aG (NM::D) h) v0 d.ah) (s1:Sl aM.pred (aG (NM::D) h) v1 d.bZ)
 (g6:∀ who,dE nv who=none->facts who=[]/\aI who=0) (g7:∀ who x,dE nv who=some x->∃ s,x=.agg #[s,.int .u64 (aI who:Int)]/\Sl aM.atom (aG (NM::D) h) s (facts who)) (g8:S0 ∉ NM::D) (g9:NM ∉ D) (g10:N<=S0) (g11:N<=NM)
 (f:aL D h h2) (t:dY N b2 h2 D2 T0 gd) (hD:∀ B∈D2,B∈D\/h.size<=B):nV N b2 h2 S0 (NM::D2) d q facts aI gd:=by
 have hi:bL (aG (NM::D) h) (aG (NM::D2) h2):=(f.mono (D':=NM::D) (λB hB=>fB _ hB)).inc (λB hB=>by
  rcases dh.1 hB with rfl|hB
  .exact .inl (by simp)
  .exact (hD B hB).imp (fB _) id)
 have hS:S0 ∉ NM::D2:=λhm=>by
  rcases dh.1 hm with e|hm
  .exact g8 (by rw [e];simp)
  .rcases hD _ hm with e|e
   .exact g8 (fB _ e)
   .have:=q1.lt;omega
 have hM:NM ∉ D2:=λhm=>by
  rcases hD _ hm with e|e
  .exact g9 e
  .have:=m.lt;omega
 exact ⟨T0,D2,NM,v0,v1,nv,rfl,q1.bN f (λhm=>g8 (fB _ hm)),t,m.hold (λb q=>q.bN f g9),s0.mono hi,s1.mono hi,g6,λwho x hx=>(g7 who x hx).imp λs hs=>⟨hs.1,hs.2.mono hi⟩,hS,hM,g10,g11⟩
theorem ZV (T0:Nat) (v0 v1:ab) (q:Int) (NM:Nat):cut (HI T0 v0 v1 q NM) 0 1=some [.pointer (some ⟨T0,0,none⟩)]:=rfl
theorem zxm (a:ak) (l:aS):cD a l≠[]:=by
 cases l with
 |nil=>simp [cD]
 |cons x r =>
  unfold cD
  split
  .simp
  .split <;> simp
theorem zt1 (d:aq) (q:Int) (s:au) (a:ak) (facts:au->aS) (aI us:au->Nat) (h hc:Heap) (z:Ext h hc) (N b:Nat) (S0:Nat) (E:List Nat) (hN:N=h.size) (X:List Nat) (dz:eC X N b hc S0 E d q facts aI us) (cG:bd 1 hc) (Np:d.ah.length<=1000) (iF:(facts s).length<=800) (aT:∀ x∈facts s,x.aW=true) (ha:a.aW=true) (hv:aI s < 1000000000) (BP:eo (facts s)=facts s) (hb:b < 50000) (kD:∀ x,us x < 1000000000)
 (dx:jk d s a=0->∀ x,xg a x->x.size≠0/\x.size<=255) (oG:(cD a (facts s)).length<=900)
 (K:aF)
 (yv:jk d s a≠0->∀ h',Ext h h'->aL [] hc h'->K (.tuple #[.bool false,.int .i64 (jk d s a)]) h')
 (gz:jk d s a=0->bE (facts s) a=true->∀ h',Ext h h'->aL [] hc h'->K (.tuple #[.bool false,.int .i64 0]) h')
 (pj:jk d s a=0->bE (facts s) a=false->q < (cD a (facts s)).length->∀ h',Ext h h'->aL [] hc h'->K (.tuple #[.bool false,.int .i64 12]) h')
 (yw:jk d s a=0->bE (facts s) a=false->((cD a (facts s)).length:Int)<=q->∀ h' cs E2,Ext h h'->aL E hc h'->(∀ B∈E2,B∈E\/hc.size<=B)->cs.length<=4->cs.Nodup->(∀ x,x∈cs↔xg a x)->eC X N (b+4) h' S0 E2 d q (ly facts s (cD a (facts s))) (fP aI s (aI s+1)) (jc us cs)->K (.tuple #[.bool true,.int .i64 0]) h'):Ok prog aD ov 14 [.pointer (some ⟨S0,0,none⟩),.string s,a.val] hc K:=by
 subst hN
 have FO:=dz.2.2
 obtain ⟨⟨T0,D,NM,v0,v1,nv,rfl,x1,g2,g3,_⟩,_⟩:=id dz
 have g1:=x1.bN (aL.iR X hc) (x1.alive (by simp))
 have F9:=dz.lt
 rw [ao hc]
 refine Ok.aw 32 (bq N14) ?_
 simp only [aa,seval,Bb,NU,g1.lay,zCP,bO,dm,eE,↓eY,eJ,dX]
 refine zlz d q s a q _ (λl => !bE l a) (λl=>cD a (eo l)) facts aI us h _ z.aA h.size b S0 (NM::D) rfl X (dz.lay _ _) (cG.lay _ _) Np iF aT hv (by rw [BP];exact oG) (λh2 v K2 gV hk=>?_) _ (λhe h' z2 fr=>?_) (λhe rZ h' z2 fr=>?_) (λhe rZ um h' z2 fr=>?_) (λhe rZ um h' z2 fr mK=>?_)
 .rw [r9]
  refine zCE (facts s) a v h2 gV (by omega) aT ha K2 (λh' w x ho=>hk h' w x ?_ (λhi=>dG.b ho (zxm _ _)))
  exact rG ho.sl
 .rw [ao h']
  simp only [aa,seval,Bb,jg,gB,bO]
  exact yv he _ z2.aA (((aL.lay hc _ _ []).trans fr (λ_ h=>nomatch h)).trans (aL.lay _ _ _ []) (λ_ h=>nomatch h))
 .rw [ao h']
  simp only [aa,seval,Bb,jg,gB,bO]
  exact gz he (by simpa using rZ) _ z2.aA (((aL.lay hc _ _ []).trans fr (λ_ h=>nomatch h)).trans (aL.lay _ _ _ []) (λ_ h=>nomatch h))
 .rw [ao h']
  simp only [aa,seval,Bb,jg,gB,bO]
  simp only [BP] at um
  exact pj he (by simpa using rZ) um _ z2.aA (((aL.lay hc _ _ []).trans fr (λ_ h=>nomatch h)).trans (aL.lay _ _ _ []) (λ_ h=>nomatch h))
 .simp only [BP] at um mK
  have XV:bE (facts s) a=false:=by simpa using rZ
  have lS:=dx he
  obtain ⟨⟨T1,D1,Rz,w0,w1,nw,Md,y1,y2,e3,e4,e5,e6,e7,e8,e9,LU,LV⟩,jV,xW⟩:=mK
  simp only [List.cons.injEq] at Md
  obtain ⟨rfl,rfl⟩:=Md
  have ux:=aL.iR X h'
  have zV:∀ B∈D,B ∉ X:=λB hB=>jV B (fB _ hB)
  have e1:=y1.bN ux (y1.alive (by simp))
  have e2:=y2.bN ux zV
  have q0:Holds h' (hc.size+0) (.row a.cells 47 false):=(Holds.mk (by rw [bc];simp) (by rw [iB];rfl):Holds (hc.lay [.row a.cells 47 false] hc.low) (hc.size+0) (.row a.cells 47 false)).bN fr (by
   intro hm
   rcases dh.1 hm with e|hm
   .have:=(F9.2 _ (jm)).2;omega
   .have:=(F9.2 _ (fB _ hm)).2;omega)
  have L6:aL (NM::D) hc h':=(aL.lay hc _ _ _).trans fr (λB hB=>.inl hB)
  rw [ao h']
  have z:=z2
  simp only [aa,seval,Bb,jg,gB,bO]
  with_reducible first|refine dL (by simp only [Bb]) z.aA ?_
  simp only [aa,seval,Bb,dm,e1.lay,↓ZV,q0.lay,eE,↓eY,eJ,dX,j6]
  refine zsE a h _ z.aA D T1 b us (e2.lay _ _) (by omega) lS kD _ (λh5 cs D2 z5 mz yA iG b8 tm uY=>?_)
  have yR:=mz.size
  rw [bc] at yR
  refine vT (by kernel_rfl) z5.low (by rw [bc];exact yR) ?_
  have nW:aL D h' h5:=(aL.lay h' [] _ D).trans mz (λB hB=>.inl hB)
  clear z
  have z:=z5
  rw [ao h5]
  simp only [aa,seval,Bb]
  ((with_reducible refine ⟨z.cn.lay _ _,?_⟩);(intro _ h6 zz x _);(simp only [bM,bu] at x))
  replace nW:=nW.over x
  replace tm:=tm.over x
  clear z
  have z:=zz
  rw [ao h6]
  simp only [aa,seval,Bb,jg,gB,bO]
  have wF:aL D h' (h6.lay [] h6.low):=nW.trans (aL.lay _ _ _ []) (λ_ h=>nomatch h)
  have rW:∀ B∈D2,B∈D\/h'.size<=B:=λB hB=>(uY B hB).imp id (λe=>by rw [bc] at e;simpa using e)
  have XA:=L6.size
  have qY:∀ B∈D2,B ∉ X:=λB hB hx=>by
   rcases rW B hB with e|e
   .exact zV B e hx
   .have:=xW B hx;omega
  refine yw he XV um _ cs (NM::D2) z.aA (L6.trans wF (λB hB=>.inl (fB _ hB))) (λB hB=>?_) yA iG b8 ⟨nV.turn y1 e3 e4 e5 e6 e7 e8 e9 LU LV (wF.kill X) ((tm.lay _ _).bN (aL.dead X _) qY) (λB hB=>by rw [iC];exact rW B hB),λB hB=>?_,λB hB=>dB (xW B hB) wF.size⟩
  .rcases dh.1 hB with rfl|hB
   .exact .inl (by simp)
   .exact (rW B hB).imp (fB _) (λe=>by omega)
  .rcases dh.1 hB with rfl|hB
   .exact jV _ (by simp)
   .exact qY B hB
end Go.Proofs.YtiapegieocgmfaaGreatDoor
