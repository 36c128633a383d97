/- Walks: a fact retracted. Written out by fill2.py. No condition. -/
import Derived.Test.YtmamldleclamjaaGreatDoorG41
set_option linter.unusedSimpArgs false
set_option linter.unusedVariables false
set_option maxRecDepth 100000
set_option maxHeartbeats 0
namespace Go.Proofs.YtmamldleclamjaaGreatDoor
open Go.Am Tryz
theorem zrf (d:aq) (q:Int) (s:au) (a:aj) (facts:au->aN) (az us:au->Nat) (h hc:Heap) (z:Ext h hc) (N b:Nat) (S0:Nat) (E:List Nat) (hN:N=h.size) (X:List Nat) (fb:eH X N b hc S0 E d q facts az us) (cR:bc 1 hc) (MX:d.ab.length<=1000) (gv:(facts s).length<=800) (aW:∀ x∈facts s,x.aY=true) (ha:a.aY=true) (hv:az s < 1000000000) (vu:eW (facts s)=facts s) (hb:b < 50000) (ku:∀ x,us x < 1000000000)
 (k6:fG d s a=0->bL (facts s) a=true->∀ x,wQ a x->0 < us x)
 (K:aI)
 (xU:fG d s a≠0->∀ h',Ext h h'->aM [] hc h'->K (.tuple #[.bool false,.int .i64 (fG d s a)]) h')
 (gu:fG d s a=0->bL (facts s) a=false->∀ h',Ext h h'->aM [] hc h'->K (.tuple #[.bool false,.int .i64 0]) h')
 (zI:fG d s a=0->bL (facts s) a=true->∀ h' cs E2,Ext h h'->aM E hc h'->(∀ B∈E2,B∈E\/hc.size<=B)->cs.length<=4->cs.Nodup->(∀ x,x∈cs↔wQ a x)->eH X N b h' S0 E2 d q (ln facts s (eR a (facts s))) (fU az s (az s+1)) (jY us cs)->K (.tuple #[.bool true,.int .i64 0]) h'):Ok prog aG ov 26 [.pointer (some ⟨S0,0,none⟩),.string s,a.val] hc K:=by
 subst hN
 have Fa:=fb.2.2
 obtain ⟨⟨T0,D,NM,v0,v1,nv,rfl,x1,g2,g3,_⟩,_⟩:=id fb
 have g1:=x1.cT (aM.gZ X hc) (x1.alive (by simp))
 have Fw:=fb.lt
 rw [ao hc]
 refine Ok.aw 23 (bu N26) ?_
 simp only [aa,seval,Cp,gI,↓eP,ef,dy]
 refine zlQ d q s a 1000 _ (λl=>bL l a) (λl=>eR a (eW l)) facts az us h _ z.aC h.size b S0 (NM::D) rfl X (fb.lay _ _) (cR.lay _ _) MX gv aW hv (by rw [vu];exact hY (Hv _ _) (by omega)) (λh2 v K2 gG hk=>?_) _ (λhe h' z2 fr=>?_) (λhe rQ h' z2 fr=>?_) (λhe rQ uc h' z2 fr=>?_) (λhe rQ uc h' z2 fr pY=>?_)
 .rw [rV]
  refine zuw (facts s) a v h2 gG (by omega) aW ha K2 (λh' w x hw ho=>hk h' w x hw (λhi=>ho hi))
 .rw [ao h']
  simp only [aa,seval,Cp]
  exact xU he _ z2.aC (((aM.lay hc _ _ []).trans fr (λ_ h=>nomatch h)).trans (aM.lay _ _ _ []) (λ_ h=>nomatch h))
 .rw [ao h']
  simp only [aa,seval,Cp]
  exact gu he rQ _ z2.aC (((aM.lay hc _ _ []).trans fr (λ_ h=>nomatch h)).trans (aM.lay _ _ _ []) (λ_ h=>nomatch h))
 .exfalso
  have h1:((eR a (eW (facts s))).length:Int)<=800:=by rw [vu];exact Int.ofNat_le.2 (hY (Hv _ _) gv)
  omega
 .simp only [vu] at pY
  have mj:=k6 he rQ
  obtain ⟨⟨T1,D1,Q2,w0,w1,nw,LS,y1,y2,e3,e4,e5,e6,e7,e8,e9,Lx,Ly⟩,jR,xA⟩:=pY
  simp only [List.cons.injEq] at LS
  obtain ⟨rfl,rfl⟩:=LS
  have ux:=aM.gZ X h'
  have zt:∀ B∈D,B ∉ X:=λB hB=>jR B (eQ _ hB)
  have e1:=y1.cT ux (y1.alive (by simp))
  have e2:=y2.cT ux zt
  have q0:Holds h' (hc.size+0) (.row a.cells 47 false):=(Holds.mk (by rw [bd];simp) (by rw [iB];rfl):Holds (hc.lay [.row a.cells 47 false] hc.low) (hc.size+0) (.row a.cells 47 false)).cT fr (by
   intro hm
   rcases cJ.1 hm with e|hm
   .have:=(Fw.2 _ (fZ)).2;omega
   .have:=(Fw.2 _ (eQ _ hm)).2;omega)
  have LK:aM (NM::D) hc h':=(aM.lay hc _ _ _).trans fr (λB hB=>.inl hB)
  rw [ao h']
  have z:=z2
  simp only [aa,seval,Cp]
  with_reducible first|refine dL (by simp only [Cp]) z.aC ?_
  simp only [aa,seval,Cp,e1.lay,↓ZP,q0.lay,↓eP,ef,dy]
  refine zzi a h _ z.aC D T1 b us (e2.lay _ _) (by omega) mj ku _ (λh5 cs D2 z5 kR wy gw bY tx uT=>?_)
  have ud:=kR.size
  rw [bd] at ud
  refine zS (by kernel_rfl) z5.low (by rw [bd];exact ud) ?_
  have nE:aM D h' h5:=(aM.lay h' [] _ D).trans kR (λB hB=>.inl hB)
  clear z
  have z:=z5
  rw [ao h5]
  simp only [dx,seval,Cp]
  ((with_reducible refine ⟨z.cK.lay _ _,?_⟩);(intro _ h6 zz x _);(simp only [b9,bG] at x))
  replace nE:=nE.over x
  replace tx:=tx.over x
  clear z
  have z:=zz
  rw [ao h6]
  simp only [aa,seval,Cp]
  have wm:aM D h' (h6.lay [] h6.low):=nE.trans (aM.lay _ _ _ []) (λ_ h=>nomatch h)
  have tR:∀ B∈D2,B∈D\/h'.size<=B:=λB hB=>(uT B hB).imp id (λe=>by rw [bd] at e;simpa using e)
  have Xp:=LK.size
  have qO:∀ B∈D2,B ∉ X:=λB hB hx=>by
   rcases tR B hB with e|e
   .exact zt B e hx
   .have:=xA B hx;omega
  refine zI he rQ _ cs (NM::D2) z.aC (LK.trans wm (λB hB=>.inl (eQ _ hB))) (λB hB=>?_) wy gw bY ⟨lT.turn y1 e3 e4 e5 e6 e7 e8 e9 Lx Ly (wm.kill X) ((tx.lay _ _).cT (aM.dead X _) qO) (λB hB=>by rw [fX];exact tR B hB),λB hB=>?_,λB hB=>dJ (xA B hB) wm.size⟩
  .rcases cJ.1 hB with rfl|hB
   .exact .inl (by simp)
   .exact (tR B hB).imp (eQ _) (λe=>by omega)
  .rcases cJ.1 hB with rfl|hB
   .exact jR _ (by simp)
   .exact qO B hB
def Av (us:au->Nat) (n:Nat):Prop:=∃ keys:List au,keys.Nodup/\(∀ t,t∈keys↔0 < us t)/\n=keys.length
theorem Av.same {us vs:au->Nat} {n m:Nat} (f:Av us n) (g:Av vs m) (h:∀ t,0 < us t↔0 < vs t):n=m:=by
 obtain ⟨k1,n1,m1,rfl⟩:=f
 obtain ⟨k2,n2,m2,rfl⟩:=g
 exact ((List.perm_ext_iff_of_nodup n1 n2).2 λt=>by rw [m1,m2];exact h t).length_eq
theorem lT.name {N b:Nat} {h:Heap} {S0:Nat} {E:List Nat} {d:aq} {q:Int} {facts:au->aN} {az us:au->Nat} {nv:List (au × ah)} (g6:∀ aR,dq nv aR=none->facts aR=[]/\az aR=0) (g7:∀ aR x,dq nv aR=some x->∃ s,x=.agg #[s,.int .u64 (az aR:Int)]/\Sl aK.atom (aD E h) s (facts aR)) (s:au):∃ sa sn sc,(dq nv s).getD (.agg #[.slice none 0 0,.int .u64 0])=.agg #[.slice sa sn sc,.int .u64 (az s:Int)]/\Sl aK.atom (aD E h) (.slice sa sn sc) (facts s):=by
 cases hl:dq nv s with
 |none =>
  obtain ⟨e1,e2⟩:=g6 s hl
  rw [e1,e2]
  exact ⟨_,_,_,rfl,.nil⟩
 |some x =>
  obtain ⟨v,rfl,f⟩:=g7 s x hl
  obtain ⟨sa,sn,sc,rfl⟩:=nq f
  exact ⟨sa,sn,sc,rfl,f⟩
theorem zpf (aR:au) (d:aq) (q:Int) (facts:au->aN) (az us:au->Nat) (h:Heap) (N b:Nat) (S0:Nat) (E:List Nat) (fb:lT N b h S0 E d q facts az us) (gv:(facts aR).length<=100000) (K:aI)
 (hk:∀ h' w A,Ext h h'->Ow aK.atom h h' 47 A w (facts aR)->K w h'):Ok prog aG ov 13 [.pointer (some ⟨S0,0,none⟩),.string aR] h K:=by
 obtain ⟨T0,D,NM,v0,v1,nv,rfl,g1,g2,g3,g4,g5,g6,g7,g8,g9,g10,g11⟩:=id fb
 obtain ⟨sa,sn,vC,dS,nH⟩:=lT.name (N:=N) (b:=b) (S0:=S0) (d:=d) (q:=q) (us:=us) g6 g7 aR
 have z:=Ext.refl h
 rw [ao h]
 refine Ok.aw 13 (bu N13) ?_
 simp only [aa,seval,UH,sK,kE,g1.lay,DZ,Aa]
 refine GP g3 qM zg zk ?_
 simp only [dS,gB,if_false]
 simp only [aa,seval,UH]
 have hA:Sl aK.atom h (.slice sa sn vC) (facts aR):=nH.mono (nu _ _)
 refine zlS (facts aR) _ _ (hA.lay _ _) gv _ (λh' w A x o=>?_)
 replace o:=o.down (h0:=h) (by rw [bd];omega)
 (replace z:=z.an x;rw [ao h'])
 simp only [aa,seval,UH]
 exact hk _ _ _ z.aC (o.lay _ _)
theorem zj5 (aR:au) (d:aq) (q:Int) (facts:au->aN) (az us:au->Nat) (h:Heap) (N b:Nat) (S0:Nat) (E:List Nat) (fb:lT N b h S0 E d q facts az us) (K:aI)
 (hk:∀ h',Ext h h'->K (.int .u64 (az aR:Int)) h'):Ok prog aG ov 15 [.pointer (some ⟨S0,0,none⟩),.string aR] h K:=by
 obtain ⟨T0,D,NM,v0,v1,nv,rfl,g1,g2,g3,g4,g5,g6,g7,g8,g9,g10,g11⟩:=id fb
 obtain ⟨sa,sn,vC,dS,nH⟩:=lT.name (N:=N) (b:=b) (S0:=S0) (d:=d) (q:=q) (us:=us) g6 g7 aR
 have z:=Ext.refl h
 rw [ao h]
 refine Ok.aw 12 (bu N15) ?_
 simp only [aa,seval,c15,sK,kE,g1.lay,DZ,Aa]
 refine GP g3 qM zg zk ?_
 simp only [dS,gB,if_false]
 simp only [aa,seval,c15]
 exact hk _ z.aC
theorem zw5 (aR:au) (d:aq) (q:Int) (facts:au->aN) (az us:au->Nat) (h:Heap) (N b:Nat) (S0:Nat) (E:List Nat) (fb:lT N b h S0 E d q facts az us) (K:aI)
 (hk:∀ h',Ext h h'->K (.int .i64 (facts aR).length) h'):Ok prog aG ov 17 [.pointer (some ⟨S0,0,none⟩),.string aR] h K:=by
 obtain ⟨T0,D,NM,v0,v1,nv,rfl,g1,g2,g3,g4,g5,g6,g7,g8,g9,g10,g11⟩:=id fb
 obtain ⟨sa,sn,vC,dS,nH⟩:=lT.name (N:=N) (b:=b) (S0:=S0) (d:=d) (q:=q) (us:=us) g6 g7 aR
 have qo:=λ(hh:Heap)=>nH.bn bF hh
 have z:=Ext.refl h
 rw [ao h]
 refine Ok.aw 13 (bu N17) ?_
 simp only [aa,seval,c17,sK,kE,g1.lay,DZ,Aa]
 refine GP g3 qM zg zk ?_
 simp only [dS,gB,if_false]
 simp only [aa,seval,c17,qo]
 exact hk _ z.aC
theorem zxr (d:aq) (q:Int) (facts:au->aN) (az us:au->Nat) (h:Heap) (N b:Nat) (S0:Nat) (E:List Nat) (fb:lT N b h S0 E d q facts az us) (K:aI)
 (hk:∀ h' n,Ext h h'->Av us n->n<=b->K (.int .i64 (n:Nat)) h'):Ok prog aG ov 21 [.pointer (some ⟨S0,0,none⟩)] h K:=by
 obtain ⟨T0,D,NM,v0,v1,nv,rfl,g1,g2,g3,g4,g5,g6,g7,g8,g9,g10,g11⟩:=id fb
 obtain ⟨FI,FE,FM,free,aV,kv,rfl,ts,tp,xM,rO⟩:=g2
 have z:=Ext.refl h
 rw [ao h]
 refine Ok.aw 10 (bu N21) ?_
 simp only [aa,seval,c21,sK,g1.lay,zFn]
 refine zBZ _ T0 FI FE FM N free aV kv (ts.lay _ _) _ (λh' x=>?_)
 (replace z:=z.an x;rw [ao h'])
 simp only [aa,seval,c21]
 refine hk _ _ z.aC ⟨kv.map Prod.fst,tp.kn,λt=>?_,by rw [nA]⟩ rO
 rw [<- tp.has t]
 cases hl:dq kv t with
 |none=>simp [fm.1 hl]
 |some v =>
  simp only [Hz,iff_true]
  refine Classical.byContradiction λhn=>?_
  rw [fm.2 hn] at hl
  cases hl
theorem zvI (a:aj):a.cells[0]? = some (.string a.says):=rfl
theorem zBY (a:aj) (d:aq) (q:Int) (facts:au->aN) (az us:au->Nat) (h:Heap) (N b:Nat) (S0:Nat) (E:List Nat) (fb:lT N b h S0 E d q facts az us) (gv:(facts a.says).length<=1000) (K:aI)
 (hk:∀ h',Ext h h'->K (.bool (decide (a∈facts a.says))) h'):Ok prog aG ov 19 [.pointer (some ⟨S0,0,none⟩),a.val] h K:=by
 obtain ⟨T0,D,NM,v0,v1,nv,rfl,g1,g2,g3,g4,g5,g6,g7,g8,g9,g10,g11⟩:=id fb
 obtain ⟨sa,sn,vC,dS,nH⟩:=lT.name (N:=N) (b:=b) (S0:=S0) (d:=d) (q:=q) (us:=us) g6 g7 a.says
 have hA:Sl aK.atom h (.slice sa sn vC) (facts a.says):=nH.mono (nu _ _)
 have z:=Ext.refl h
 rw [ao h]
 refine Ok.aw 15 (bu N19) ?_
 simp only [aa,seval,HP,sK,gI]
 with_reducible first|refine dL (by simp only [HP]) z.aC ?_
 simp only [aa,seval,HP,kE,g1.lay,DZ,Aa,zvI]
 refine GP g3 qM zg zk ?_
 simp only [dS,gB,if_false]
 simp only [aa,seval,HP,↓eP,ef,dy]
 refine zjY (facts a.says) _ a _ (hA.lay _ _) gv _ (λh' x=>?_)
 (((with_reducible refine cW ?_ ?_ ?_);(· exact (by (simp only [cV]);have:=z.size;omega));(· exact x));replace z:=z.an x;rw [ao h'])
 generalize Ib:decide (a∈facts a.says)=db at hk ⊢
 simp only [aa,seval,HP]
 ((with_reducible refine ⟨z.cK.lay _ _,?_⟩);(intro _ h' zz x _);(simp only [b9,bG] at x);(replace z:=zz);(clear zz);rw [ao h'])
 simp only [aa,seval,HP]
 exact hk _ z.aC
section
variable {X:List Nat} {N b b2 k:Nat} {h h2:Heap} {S0:Nat} {E:List Nat} {d:aq} {q:Int} {facts:au->aN} {az us:au->Nat} {s:au} {a:aj} {l:aN} {cs:List au}
theorem eH.more (s:eH X N b h S0 E d q facts az us) (hb:b<=b2):eH X N b2 h S0 E d q facts az us:=by
 obtain ⟨⟨T0,D,NM,v0,v1,nv,e,g1,g2,g3⟩,s2⟩:=s
 exact ⟨⟨T0,D,NM,v0,v1,nv,e,g1,g2.le hb,g3⟩,s2⟩
theorem dZ.down {N2 b T0:Nat} {D:List Nat} (t:dZ N b h D T0 us) (hN:N2<=N):dZ N2 b h D T0 us:=by
 obtain ⟨FI,FE,FM,free,aV,kv,e,⟨a1,a2,a3,lo,hi⟩,p⟩:=t
 exact ⟨FI,FE,FM,free,aV,kv,e,⟨a1,a2,a3,⟨by omega,by omega,by omega,by omega⟩,hi⟩,p⟩
theorem eH.down {N2:Nat} (s:eH X N b h S0 E d q facts az us) (hN:N2<=N):eH X N2 b h S0 E d q facts az us:=by
 obtain ⟨⟨T0,D,NM,v0,v1,nv,e,g1,g2,g3,g4,g5,g6,g7,g8,g9,g10,g11⟩,s2⟩:=s
 exact ⟨⟨T0,D,NM,v0,v1,nv,e,g1,g2.down hN,g3,g4,g5,g6,g7,g8,g9,by omega,by omega⟩,s2⟩
theorem eH.fresh (s:eH [] N b h S0 E d q facts az us) (f:aM [] h h2) (hX:∀ B∈X,h.size<=B/\B < h2.size):eH X N b h2 S0 E d q facts az us:=by
 have hl:=s.lt
 obtain ⟨⟨T0,D,NM,v0,v1,nv,rfl,g1,g2,g3,g4,g5,g6,g7,g8⟩,_⟩:=s
 have jR:∀ B∈NM::D,B ∉ X:=λB hB hx=>by
  have h1:=(hl.2 B hB).2
  have h2:=(hX B hx).1
  omega
 have u:aM X h (aD X h2):=(f.mono (D':=X) (λ_ h=>nomatch h)).trans (aM.dead X h2) (λB hB=>.inl hB)
 have hi:bH (aD (NM::D) h) (aD (NM::D) (aD X h2)):=by
  refine ⟨by rw [fX,fX,fX];exact f.size,λB hB hd=>?_⟩
  rw [fX] at hB
  have hE:B ∉ NM::D:=λhh=>hd (yV hh hB)
  have hx:B ∉ X:=λhh=>by have:=(hX B hh).1;omega
  rw [nN hE,nN hE]
  exact u.get B hB hx
 exact ⟨⟨T0,D,NM,v0,v1,nv,rfl,g1.cT u (λhx=>by have:=(hX _ hx).1;have:=hl.1;omega),g2.cT u (λB hB=>jR B (eQ _ hB)),g3.hold (λb q=>q.cT u (jR _ (by simp))),g4.mono hi,g5.mono hi,g6,λaR x hx=>(g7 aR x hx).imp λs hs=>⟨hs.1,hs.2.mono hi⟩,g8⟩,jR,λB hB=>(hX B hB).2⟩
theorem zmc:qi facts s (some l)=ln facts s l:=rfl
theorem zme:oK az s (some l)=fU az s (az s+1):=rfl
theorem zCQ (h:∀ x,x∈cs↔wQ a x) (t:au):ja us cs t=us t+(if mu a t then 1 else 0):=by
 unfold ja
 by_cases ht:mu a t=true
 .rw [aB ht,aB ((h t).2 (jH.1 ht))]
 .rw [aA ht,aA (λhm=>ht (jH.2 ((h t).1 hm)))]
  rfl
theorem zDy (h:∀ x,x∈cs↔wQ a x) (t:au):jY us cs t=us t - (if mu a t then 1 else 0):=by
 unfold jY
 by_cases ht:mu a t=true
 .rw [aB ht,aB ((h t).2 (jH.1 ht))]
 .rw [aA ht,aA (λhm=>ht (jH.2 ((h t).1 hm)))]
  rfl
end
theorem zua (d:aq) (q:Int) (s:au) (a:aj) (facts:au->aN) (az us:au->Nat) (h hc:Heap) (z:Ext h hc) (N b k:Nat) (S0:Nat) (E:List Nat) (hN:N=h.size) (X:List Nat) (fb:eH X N b hc S0 E d q facts az us) (inv:de d k facts az us) (gw:d.ab.Nodup) (k0:d.ab.length<=16) (cR:bc 1 hc) (ha:a.aY=true) (hk:k<=700) (hb:b < 50000) (K:aI)
 (hK:∀ h' E2 gq,Ext h h'->aM E hc h'->(∀ B∈E2,B∈E\/hc.size<=B)->eH X N (b+4) h' S0 E2 d q (qi facts s (eN d q s a (facts s))) (oK az s (eN d q s a (facts s))) gq->de d (k+1) (qi facts s (eN d q s a (facts s))) (oK az s (eN d q s a (facts s))) gq->K (.tuple #[.bool (eN d q s a (facts s)).isSome,.int .i64 (jn d q s a (facts s))]) h'):Ok prog aG ov 25 [.pointer (some ⟨S0,0,none⟩),.string s,a.val] hc K:=by
 have ku:∀ x,us x < 1000000000:=λx=>by
  have h1:=inv.De x
  have h2:d.ab.length*k<=16*700:=HG k0 hk
  omega
 have hl:=inv.len s
 have hv:=inv.BN s
 have stay:eN d q s a (facts s)=none->∀ h',Ext h h'->aM [] hc h'->K (.tuple #[.bool (eN d q s a (facts s)).isSome,.int .i64 (jn d q s a (facts s))]) h':=λe h' z f=>by
  refine hK h' E us z (f.mono (λ_ h=>nomatch h)) (λB hB=>.inl hB) ?_ ?_
  .rw [e,BU,zY]
   exact (fb.cT f).more (by omega)
  .rw [e,BU,zY]
   exact inv.more (by omega)
 refine zt9 d q s a facts az us h hc z N b S0 E hN X fb cR (by omega) (by omega) (λx hx=>inv.aY hx) ha (by omega) (inv.sort s) hb ku (λhe=>zjC he) (by have:=zrl a (facts s);omega) K (λhe h' z f=>?_) (λhe hh h' z f=>?_) (λhe hh hq h' z f=>?_) (λhe hh hq h' cs E2 z f hE wy FN bY pY=>?_)
 .have e1:eN d q s a (facts s)=none:=aA he
  have e2:jn d q s a (facts s)=fG d s a:=aA he
  have:=stay e1 h' z f
  rw [e1,e2] at this
  exact this
 .have e1:eN d q s a (facts s)=none:=by unfold eN;rw [aB he,aB hh]
  have e2:jn d q s a (facts s)=0:=by unfold jn;rw [aB he,aB hh]
  have:=stay e1 h' z f
  rw [e1,e2] at this
  exact this
 .have e1:eN d q s a (facts s)=none:=by unfold eN;rw [aB he,aA (by rw [hh];decide),aA (by omega)]
  have e2:jn d q s a (facts s)=12:=by unfold jn;rw [aB he,aA (by rw [hh];decide),aA (by omega)]
  have:=stay e1 h' z f
  rw [e1,e2] at this
  exact this
 .have e1:eN d q s a (facts s)=some (cz a (facts s)):=by unfold eN;rw [aB he,aA (by rw [hh];decide),aB hq]
  have e2:jn d q s a (facts s)=0:=by unfold jn;rw [aB he,aA (by rw [hh];decide),aB hq]
  have gu:=hK h' E2 (ja us cs) z f hE
  rw [e1,e2,zmc,zme] at gu
  exact gu pY (inv.Zi gw he hh (zCQ bY))
theorem zrg (d:aq) (q:Int) (s:au) (a:aj) (facts:au->aN) (az us:au->Nat) (h hc:Heap) (z:Ext h hc) (N b k:Nat) (S0:Nat) (E:List Nat) (hN:N=h.size) (X:List Nat) (fb:eH X N b hc S0 E d q facts az us) (inv:de d k facts az us) (gw:d.ab.Nodup) (k0:d.ab.length<=16) (cR:bc 1 hc) (ha:a.aY=true) (hk:k<=700) (hb:b < 50000) (K:aI)
 (hK:∀ h' E2 gq,Ext h h'->aM E hc h'->(∀ B∈E2,B∈E\/hc.size<=B)->eH X N (b+4) h' S0 E2 d q (qi facts s (fM d s a (facts s))) (oK az s (fM d s a (facts s))) gq->de d (k+1) (qi facts s (fM d s a (facts s))) (oK az s (fM d s a (facts s))) gq->K (.tuple #[.bool (fM d s a (facts s)).isSome,.int .i64 (fG d s a)]) h'):Ok prog aG ov 26 [.pointer (some ⟨S0,0,none⟩),.string s,a.val] hc K:=by
 have ku:∀ x,us x < 1000000000:=λx=>by
  have h1:=inv.De x
  have h2:d.ab.length*k<=16*700:=HG k0 hk
  omega
 have hl:=inv.len s
 have hv:=inv.BN s
 have stay:fM d s a (facts s)=none->∀ h',Ext h h'->aM [] hc h'->K (.tuple #[.bool (fM d s a (facts s)).isSome,.int .i64 (fG d s a)]) h':=λe h' z f=>by
  refine hK h' E us z (f.mono (λ_ h=>nomatch h)) (λB hB=>.inl hB) ?_ ?_
  .rw [e,BU,zY]
   exact (fb.cT f).more (by omega)
  .rw [e,BU,zY]
   exact inv.more (by omega)
 refine zrf d q s a facts az us h hc z N b S0 E hN X fb cR (by omega) (by omega) (λx hx=>inv.aY hx) ha (by omega) (inv.sort s) hb ku (λhe hh x hx=>inv.pos he hh (jH.2 hx)) K (λhe h' z f=>?_) (λhe hh h' z f=>?_) (λhe hh h' cs E2 z f hE wy FN bY pY=>?_)
 .have e1:fM d s a (facts s)=none:=aA he
  have:=stay e1 h' z f
  rw [e1] at this
  exact this
 .have e1:fM d s a (facts s)=none:=by unfold fM;rw [aB he,aA (by rw [hh];decide)]
  have:=stay e1 h' z f
  rw [e1,he] at this
  exact this
 .have e1:fM d s a (facts s)=some (eR a (facts s)):=by unfold fM;rw [aB he,aB hh]
  have gu:=hK h' E2 (jY us cs) z f hE
  rw [e1,he,zmc,zme] at gu
  exact gu (pY.more (by omega)) (inv.UM gw he hh (zDy bY))
end Go.Proofs.YtmamldleclamjaaGreatDoor
