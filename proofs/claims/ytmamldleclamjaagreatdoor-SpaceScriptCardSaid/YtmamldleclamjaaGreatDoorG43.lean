/- Walks: the document's space: made, asserted, retracted. Written out by fill2.py. No condition. -/
import Derived.Test.YtmamldleclamjaaGreatDoorG42
set_option linter.unusedSimpArgs false
set_option linter.unusedVariables false
set_option maxRecDepth 100000
set_option maxHeartbeats 0
noncomputable section
namespace Go.Proofs.YtmamldleclamjaaGreatDoor
open Go.Am Tryz
variable {s:au}
theorem kN.kill {h0 h:Heap} {u:TypeId} {v:ah} {s:aN} {D:List Nat} (f:kN h0 h u v s) (aS:s≠[]) (hs:s.length<=100000) (hD:∀ B∈D,B < h0.size):Sl aK.atom (aD D h) v s:=by
 rcases f with ⟨e,_⟩|⟨A,e1,e2,e3,e4⟩
 .exact absurd e aS
 .have hA:A ∉ D:=λhm=>by have:=hD A hm;omega
  exact (kN.own (h0:=h0) (u:=u) (.inr ⟨A,e1,⟨by rw [fX];exact e2.lt,by rw [nN hA];exact e2.get⟩,e3,e4⟩) hs).sl
section
variable {N S2 NB:Nat} {h hc h2:Heap} {X:List Nat} {d:aq} {q:Int} {facts:au->aN} {az:au->Nat}
theorem gC.cY (f:gC N (aD X hc) S2 NB d q facts az) (fr:aM [] hc h2):gC N (aD X h2) S2 NB d q facts az:=f.inc (fr.kill X).all
theorem gC.beside {E E2:List Nat} (f:gC N (aD E hc) S2 NB d q facts az) (fr:aM E hc h2) (hE:∀ B∈E2,B∈E\/hc.size<=B):gC N (aD E2 h2) S2 NB d q facts az:=f.inc (fr.inc hE)
theorem gC.turn {p0 p1 p2 p5 p6 nv w:ah} {b:Int} {rows:List j4} {i:Nat} {x:j4} {l:aN} (gw:d.ab.Nodup)
 (e1:Holds (aD X hc) S2 (.row (za p0 p1 p2 p5 p6 q b nv) 78 false)) (e2:fx (aD [NB] (aD X hc)) p0 p1 p2 p5 p6 d) (e4:rows.map j4.aR=d.ab)
 (e5:∀ x∈rows,x.n=az x.aR/\Sl aK.atom (aD [NB] (aD X hc)) x.v (facts x.aR)) (e6:S2≠NB) (e7:N<=S2) (e8:N<=NB) (e9:NB < hc.size)
 (hx:rows[i]? = some x) (hw:x.aR=s) (fr:aM [NB] hc h2) (uU:NB ∉ X) (o:cN 3 j4.cells h2 80 NB nv (rows.set i ⟨s,w,az s+1⟩)) (sw:Sl aK.atom (aD (NB::X) h2) w l) :
 gC N (aD X h2) S2 NB d q (qi facts s (some l)) (oK az s (some l)):=by
 have fk:=fr.kill X
 have ik:bH (aD [NB] (aD X hc)) (aD [NB] (aD X h2)):=fk.inc (λB hB=>.inl hB)
 have iK:=(dH.1 hx).1
 have mq:(rows.set i ⟨s,w,az s+1⟩).map j4.aR=d.ab:=by
  rw [List.map_set,<- e4]
  refine sq λj=>?_
  rw [rE]
  by_cases dp:i=j
  .subst dp
   rw [aB rfl,aB (by rw [nA];exact iK),lS,hx,j2,hw]
  .rw [aA dp]
 refine ⟨p0,p1,p2,p5,p6,b,nv,rows.set i ⟨s,w,az s+1⟩,e1.cT fk (by simpa using e6),e2.mono ik,o.hold (λ_ q=>q.iU uU),mq,λy hy=>?_,e6,e7,e8,by rw [fX];exact dJ e9 fr.size⟩
 obtain ⟨j,hj⟩:=List.mem_iff_getElem?.1 hy
 rw [rE] at hj
 by_cases dp:i=j
 .rw [aB dp,aB iK] at hj
  cases hj
  exact ⟨by rw [zmd];rfl,by rw [zmb];exact sw⟩
 .rw [aA dp] at hj
  have aS:¬ s=y.aR:=λe=>by
   have h1:(rows.map j4.aR)[i]? = some s:=by rw [lS,hx,j2,hw]
   have h2:(rows.map j4.aR)[j]? = some s:=by rw [lS,hj,j2,e]
   rw [e4] at h1 h2
   have h3:=(dH.1 h1).1
   exact dp ((List.getElem?_inj h3 gw).1 (h1.trans h2.symm))
  have hm:=e5 y (fW hj)
  exact ⟨by rw [znn aS];exact hm.1,by rw [zs4 aS];exact hm.2.mono ik⟩
end
theorem zDA:di aG 53=some 1:=by kernel_rfl
theorem zxX:di aG 51=some 1:=by kernel_rfl
theorem zAA:di aG 76=some 1:=by kernel_rfl
theorem zAy:uB aG 76 76=true:=by kernel_rfl
theorem zCW (a0 a1 a2 a5 a6) (n0 c0 n1 c1 n2 c2 n5 c5 n6 c6:Nat) (q b:Int):qg aG 78 [(0,hU (.slice a0 n0 c0) (.slice a1 n1 c1) (.slice a2 n2 c2) (.slice a5 n5 c5) (.slice a6 n6 c6) q b)]=some (.agg ⟨za (.slice a0 n0 c0) (.slice a1 n1 c1) (.slice a2 n2 c2) (.slice a5 n5 c5) (.slice a6 n6 c6) q b (.slice none 0 0)⟩):=by kernel_rfl
theorem zDN (s:au):qg aG 80 [(0,.string s)]=some (.agg ⟨[.string s,.slice none 0 0,.int .u64 0]⟩):=by kernel_rfl
theorem zyW {l:List au} (h:bh l s=true):s∈l:=by rw [<- DO] at h;exact kT.1 h
theorem zoH {d:aq} {a:aj} (h:fG d s a=0):s∈d.ab:=by
 cases hh:bh d.ab s
 .rw [zwl hh] at h;exact absurd h (by decide)
 .exact zyW hh
theorem zzC {a:aj} {l:aN} (h:bL l a=false):(cz a l).length=l.length+1:=by
 rw [(I8 h).length_eq];rfl
theorem zt8 (d:aq) (q:Int) (s:au) (a:aj) (facts:au->aN) (az:au->Nat) (h hc:Heap) (z:Ext h hc) (N S2 NB:Nat) (hN:N=h.size) (X:List Nat) (xz:∀ B∈X,B < hc.size) (sd:gC N (aD X hc) S2 NB d q facts az) (uU:NB ∉ X) (gw:d.ab.Nodup) (vu:eW (facts s)=facts s) (gv:(facts s).length<=800) (aW:∀ x∈facts s,x.aY=true) (ha:a.aY=true) (hv:az s < 1000000000) (K:aI)
 (hK:∀ h',Ext h h'->aM [NB] hc h'->gC N (aD X h') S2 NB d q (qi facts s (eN d q s a (facts s))) (oK az s (eN d q s a (facts s)))->K (.tuple #[.bool (eN d q s a (facts s)).isSome,.int .i64 (jn d q s a (facts s))]) h'):Ok prog aG ov 37 [.pointer (some ⟨S2,0,none⟩),.string s,a.val] hc K:=by
 subst hN
 obtain ⟨p0,p1,p2,p5,p6,b,nv,rows,e1,e2,e3,e4,e5,e6,e7,e8,e9⟩:=id sd
 rw [fX] at e9
 have ik:=nu X hc
 have g1:=e1.mono ik
 have g2:=(e2.mono (nu [NB] _)).mono ik
 have g3:=cN.qZ e3 ik
 have bt:=g2.one q b
 have je:∀ (h:Heap) (K:aI),aH (some nv) h K=K nv h:=λ_ _=>rfl
 have yA:=z.size
 rw [ao hc]
 refine Ok.aw 61 (bu N37) ?_
 simp only [aa,seval,lr,gI]
 with_reducible first|refine dL (by simp only [lr]) z.aC ?_
 simp only [aa,seval,lr,g1.lay,↓EG,gO,fY,↓eP,ef,dy]
 refine zsC d s a p0 p1 p2 p5 p6 q b _ bt (g2.lay _ _) _ (λh' x=>?_)
 have q0:=Holds.top (i:=0) x rfl
 have fr:aM [] hc h':=(aM.refl [] hc).over x
 replace g1:=g1.over x
 replace g3:=g3.over x
 (((with_reducible refine cW ?_ ?_ ?_);(· exact (by (simp only [cV]);have:=z.size;omega));(· exact x));replace z:=z.an x;rw [ao h'])
 simp only [aa,seval,lr]
 ((with_reducible refine ⟨z.cK.lay _ _,?_⟩);(intro _ h' zz x _);(simp only [b9,bG] at x);replace q0:=q0.over x;replace fr:=fr.over x;replace g1:=g1.over x;replace g3:=g3.over x;(replace z:=zz);(clear zz);rw [ao h'])
 simp only [aa,seval,lr]
 refine iS (λaS=>?_) (λheq=>?_)
 .have hl:eN d q s a (facts s)=none:=aA aS
  have he:jn d q s a (facts s)=fG d s a:=aA aS
  rw [hl,he,BU,zY] at hK
  simp only [aa,seval,lr]
  exact hK _ z.aC ((fr.mono (λ_ h=>nomatch h)).trans (aM.lay _ _ _ []) (λ_ h=>nomatch h)) (sd.cY (fr.trans (aM.lay _ _ _ []) (λ_ h=>nomatch h)))
 simp only [aa,seval,lr]
 with_reducible first|refine dL (by simp only [lr]) z.aC ?_
 simp only [aa,seval,lr,g1.lay,vU,je]
 refine TL rows s p0 p1 p2 p5 p6 nv q b S2 NB _ (g1.on _ _) (g3.lay _ _) _ (λi r hr hw h' x=>?_) (λkZ h' x=>?_)
 rotate_left
 .exfalso
  have hm:=zoH heq
  rw [<- e4] at hm
  obtain ⟨y,hy,e⟩:=nD.1 hm
  exact kZ y hy e
 (((with_reducible refine cW ?_ ?_ ?_);(· exact (by (simp only [cV]);have:=z.size;omega));(· exact x));replace z:=z.an x;replace q0:=q0.over x;replace fr:=fr.over x;replace g1:=g1.over x;replace g3:=g3.over x;rw [ao h'])
 obtain rfl:=hw
 obtain ⟨lM,jV⟩:=e5 r (fW hr)
 have rT:Sl aK.atom hc r.v (facts r.aR):=(jV.mono (nu [NB] _)).mono ik
 have iK:=(dH.1 hr).1
 have gr:=g3.ix (kd:=.i64) (i:=i) wY D0 iK
 have nI:∀ (h:Heap) (K:aI),aH (some r.v) h K=K r.v h:=λ_ _=>rfl
 have XT:=λ(hh:Heap)=>rT.bn bF hh
 simp only [aa,seval,lr,gr]
 ((with_reducible refine ⟨z.cK.lay _ _,?_⟩);(intro _ h' zz x _);(simp only [b9,bG] at x);replace q0:=q0.over x;replace fr:=fr.over x;replace g1:=g1.over x;replace g3:=g3.over x;(replace z:=zz);(clear zz);rw [ao h'])
 simp only [syms,seval,lr]
 have c1:=g3.fE (j:=1) hr (by omega) rfl
 with_reducible first|refine dL (by simp only [lr]) z.aC ?_
 simp only [aa,seval,lr,c1,nI,q0.lay,↓eP,ef,dy]
 refine Qb (facts r.aR) a r.v _ ((rT.mono fr.all).lay _ _) (by omega) aW ha _ (λh' x=>?_)
 clear c1
 (((with_reducible refine cW ?_ ?_ ?_);(· exact (by (simp only [cV]);have:=z.size;omega));(· exact x));replace z:=z.an x;replace q0:=q0.over x;replace fr:=fr.over x;replace g1:=g1.over x;replace g3:=g3.over x;rw [ao h'])
 simp only [dx,seval,lr]
 ((with_reducible refine ⟨z.cK.lay _ _,?_⟩);(intro _ h' zz x _);(simp only [b9,bG] at x);replace q0:=q0.over x;replace fr:=fr.over x;replace g1:=g1.over x;replace g3:=g3.over x;(replace z:=zz);(clear zz);rw [ao h'])
 cases hh:bL (facts r.aR) a
 rotate_left
 .have hl:eN d q r.aR a (facts r.aR)=none:=by unfold eN;rw [aB heq,aB hh]
  have he:jn d q r.aR a (facts r.aR)=0:=by unfold jn;rw [aB heq,aB hh]
  rw [hl,he,BU,zY] at hK
  simp only [aa,seval,lr]
  exact hK _ z.aC ((fr.mono (λ_ h=>nomatch h)).trans (aM.lay _ _ _ []) (λ_ h=>nomatch h)) (sd.cY (fr.trans (aM.lay _ _ _ []) (λ_ h=>nomatch h)))
 simp only [aa,seval,lr]
 have k0:=zzC hh
 have c1:=g3.fE (j:=1) hr (by omega) rfl
 with_reducible first|refine dL (by simp only [lr]) z.aC ?_
 simp only [aa,seval,lr,c1,nI,XT,g1.lay,zC2]
 clear c1
 refine bq (λkW=>?_) (λjc=>?_)
 .simp only [dx,seval,lr]
  ((with_reducible refine ⟨z.cK.lay _ _,?_⟩);(intro _ h' zz x _);(simp only [b9,bG] at x);replace q0:=q0.over x;replace fr:=fr.over x;replace g1:=g1.over x;replace g3:=g3.over x;(replace z:=zz);(clear zz);rw [ao h'])
  have hl:eN d q r.aR a (facts r.aR)=none:=by unfold eN;rw [aB heq,aA (by rw [hh];decide),aA (by rw [k0];omega)]
  have he:jn d q r.aR a (facts r.aR)=12:=by unfold jn;rw [aB heq,aA (by rw [hh];decide),aA (by rw [k0];omega)]
  rw [hl,he,BU,zY] at hK
  simp only [aa,seval,lr]
  exact hK _ z.aC ((fr.mono (λ_ h=>nomatch h)).trans (aM.lay _ _ _ []) (λ_ h=>nomatch h)) (sd.cY (fr.trans (aM.lay _ _ _ []) (λ_ h=>nomatch h)))
 have hl:eN d q r.aR a (facts r.aR)=some (cz a (facts r.aR)):=by unfold eN;rw [aB heq,aA (by rw [hh];decide),aB (by rw [k0];omega)]
 have he:jn d q r.aR a (facts r.aR)=0:=by unfold jn;rw [aB heq,aA (by rw [hh];decide),aB (by rw [k0];omega)]
 rw [hl,he] at hK
 simp only [dx,seval,lr]
 ((with_reducible refine ⟨z.cK.lay _ _,?_⟩);(intro _ h' zz x _);(simp only [b9,bG] at x);replace q0:=q0.over x;replace fr:=fr.over x;replace g1:=g1.over x;replace g3:=g3.over x;(replace z:=zz);(clear zz);rw [ao h'])
 simp only [aa,seval,lr]
 have c1:=g3.fE (j:=1) hr (by omega) rfl
 with_reducible first|refine dL (by simp only [lr]) z.aC ?_
 simp only [aa,seval,lr,c1,nI,q0.lay,↓eP,ef,dy]
 have Mz:=fr.size
 refine zBU (facts r.aR) a r.v _ ((rT.mono fr.all).lay _ _) (by omega) aW ha _ (λh' w x ho=>?_)
 clear c1
 rw [vu] at ho
 have yv:Sl aK.atom (aD (NB::X) h') w (cz a (facts r.aR)):=kN.kill ho (zxE _ _) (by omega) (λB hB=>by
  rw [bd]
  rcases cJ.1 hB with rfl|hB
  .omega
  .have:=xz B hB;omega)
 (((with_reducible refine cW ?_ ?_ ?_);(· exact (by (simp only [cV]);have:=z.size;omega));(· exact x));replace z:=z.an x;replace q0:=q0.over x;replace fr:=fr.over x;replace g1:=g1.over x;replace g3:=g3.over x;rw [ao h'])
 obtain ⟨wa,wn,wc,rfl⟩:=nq yv
 rw [hh]
 simp only [aa,seval,lr]
 have Xw:=fr.size
 refine cN.store (off:=1) (y:=(⟨r.aR,.slice wa wn wc,r.n⟩:j4)) Ji g3 hr zxX (by omega) rfl rfl rfl (by rfl) (λh3 g4 c4=>?_)
 have z3:=z.cw c4 e8 (by omega)
 have pO:=c4.size
 rw [bd] at pO
 refine zS (by kernel_rfl) z3.low (by rw [bd];exact pO) ?_
 have jk:aM [NB] hc h3:=(fr.mono (D':=[NB]) (λ_ h=>nomatch h)).ji c4 (.inl (by simp))
 have pF:aM [NB] h' h3:=(aM.refl [NB] h').ji c4 (.inl (by simp))
 clear z fr g3 g1 q0
 have z:=z3
 rw [ao h3]
 simp only [dx,seval,lr]
 ((with_reducible refine ⟨z.cK.lay _ _,?_⟩);(intro _ h' zz x _);(simp only [b9,bG] at x);replace g4:=g4.over x;replace jk:=jk.over x;replace pF:=pF.over x;(replace z:=zz);(clear zz);rw [ao h'])
 have yo:(rows.set i (⟨r.aR,.slice wa wn wc,r.n⟩:j4))[i]? = some ⟨r.aR,.slice wa wn wc,r.n⟩:=by rw [rE,aB rfl,aB iK]
 have c2:=g4.fE (j:=2) yo (by omega) rfl
 have YJ:IntKind.u64.wrap ((r.n:Int)+1)=((r.n+1:Nat):Int):=ZS (by rw [lM];exact hv)
 simp only [aa,seval,lr,c2,YJ]
 refine cN.store (off:=2) (y:=(⟨r.aR,.slice wa wn wc,r.n+1⟩:j4)) Ji g4 yo zDA (by omega) rfl rfl rfl (by rfl) (λh5 g5 c5=>?_)
 have Ic:=jk.size
 have z5:=z.cw c5 e8 (by omega)
 have kR:aM [NB] hc h5:=jk.ji c5 (.inl (by simp))
 have EO:aM [NB] _ h5:=pF.ji c5 (.inl (by simp))
 rw [List.set_set,lM] at g5
 clear z g4 jk pF c2
 have z:=z5
 rw [ao h5]
 simp only [aa,seval,lr]
 have nE:=kR.trans (aM.lay h5 [] h5.low []) (λ_ h=>nomatch h)
 have EP:=EO.trans (aM.lay h5 [] h5.low []) (λ_ h=>nomatch h)
 exact hK _ z.aC nE (gC.turn gw e1 e2 e4 e5 e6 e7 e8 e9 hr rfl nE uU (g5.lay _ _) (yv.mono ((EP.mono (D':=NB::X) (by simp)).inc (λB hB=>.inl hB))))
theorem zre (d:aq) (q:Int) (s:au) (a:aj) (facts:au->aN) (az:au->Nat) (h hc:Heap) (z:Ext h hc) (N S2 NB:Nat) (hN:N=h.size) (X:List Nat) (xz:∀ B∈X,B < hc.size) (sd:gC N (aD X hc) S2 NB d q facts az) (uU:NB ∉ X) (gw:d.ab.Nodup) (vu:eW (facts s)=facts s) (gv:(facts s).length<=800) (aW:∀ x∈facts s,x.aY=true) (ha:a.aY=true) (hv:az s < 1000000000) (K:aI)
 (hK:∀ h',Ext h h'->aM [NB] hc h'->gC N (aD X h') S2 NB d q (qi facts s (fM d s a (facts s))) (oK az s (fM d s a (facts s)))->K (.tuple #[.bool (fM d s a (facts s)).isSome,.int .i64 (fG d s a)]) h'):Ok prog aG ov 38 [.pointer (some ⟨S2,0,none⟩),.string s,a.val] hc K:=by
 subst hN
 obtain ⟨p0,p1,p2,p5,p6,b,nv,rows,e1,e2,e3,e4,e5,e6,e7,e8,e9⟩:=id sd
 rw [fX] at e9
 have ik:=nu X hc
 have g1:=e1.mono ik
 have g2:=(e2.mono (nu [NB] _)).mono ik
 have g3:=cN.qZ e3 ik
 have bt:=g2.one q b
 have je:∀ (h:Heap) (K:aI),aH (some nv) h K=K nv h:=λ_ _=>rfl
 have yA:=z.size
 rw [ao hc]
 refine Ok.aw 51 (bu N38) ?_
 simp only [aa,seval,mG,gI]
 with_reducible first|refine dL (by simp only [mG]) z.aC ?_
 simp only [aa,seval,mG,g1.lay,↓EG,gO,fY,↓eP,ef,dy]
 refine zsC d s a p0 p1 p2 p5 p6 q b _ bt (g2.lay _ _) _ (λh' x=>?_)
 have q0:=Holds.top (i:=0) x rfl
 have fr:aM [] hc h':=(aM.refl [] hc).over x
 replace g1:=g1.over x
 replace g3:=g3.over x
 (((with_reducible refine cW ?_ ?_ ?_);(· exact (by (simp only [cV]);have:=z.size;omega));(· exact x));replace z:=z.an x;rw [ao h'])
 simp only [aa,seval,mG]
 ((with_reducible refine ⟨z.cK.lay _ _,?_⟩);(intro _ h' zz x _);(simp only [b9,bG] at x);replace q0:=q0.over x;replace fr:=fr.over x;replace g1:=g1.over x;replace g3:=g3.over x;(replace z:=zz);(clear zz);rw [ao h'])
 simp only [aa,seval,mG]
 refine iS (λaS=>?_) (λheq=>?_)
 .have hl:fM d s a (facts s)=none:=aA aS
  rw [hl,BU,zY] at hK
  simp only [aa,seval,mG]
  exact hK _ z.aC ((fr.mono (λ_ h=>nomatch h)).trans (aM.lay _ _ _ []) (λ_ h=>nomatch h)) (sd.cY (fr.trans (aM.lay _ _ _ []) (λ_ h=>nomatch h)))
 simp only [aa,seval,mG]
 with_reducible first|refine dL (by simp only [mG]) z.aC ?_
 simp only [aa,seval,mG,g1.lay,vU,je]
 refine TL rows s p0 p1 p2 p5 p6 nv q b S2 NB _ (g1.on _ _) (g3.lay _ _) _ (λi r hr hw h' x=>?_) (λkZ h' x=>?_)
 rotate_left
 .exfalso
  have hm:=zoH heq
  rw [<- e4] at hm
  obtain ⟨y,hy,e⟩:=nD.1 hm
  exact kZ y hy e
 (((with_reducible refine cW ?_ ?_ ?_);(· exact (by (simp only [cV]);have:=z.size;omega));(· exact x));replace z:=z.an x;replace q0:=q0.over x;replace fr:=fr.over x;replace g1:=g1.over x;replace g3:=g3.over x;rw [ao h'])
 obtain rfl:=hw
 obtain ⟨lM,jV⟩:=e5 r (fW hr)
 have rT:Sl aK.atom hc r.v (facts r.aR):=(jV.mono (nu [NB] _)).mono ik
 have iK:=(dH.1 hr).1
 have gr:=g3.ix (kd:=.i64) (i:=i) wY D0 iK
 have nI:∀ (h:Heap) (K:aI),aH (some r.v) h K=K r.v h:=λ_ _=>rfl
 simp only [aa,seval,mG,gr]
 ((with_reducible refine ⟨z.cK.lay _ _,?_⟩);(intro _ h' zz x _);(simp only [b9,bG] at x);replace q0:=q0.over x;replace fr:=fr.over x;replace g1:=g1.over x;replace g3:=g3.over x;(replace z:=zz);(clear zz);rw [ao h'])
 simp only [syms,seval,mG]
 have c1:=g3.fE (j:=1) hr (by omega) rfl
 with_reducible first|refine dL (by simp only [mG]) z.aC ?_
 simp only [aa,seval,mG,c1,nI,q0.lay,↓eP,ef,dy]
 refine Qb (facts r.aR) a r.v _ ((rT.mono fr.all).lay _ _) (by omega) aW ha _ (λh' x=>?_)
 clear c1
 (((with_reducible refine cW ?_ ?_ ?_);(· exact (by (simp only [cV]);have:=z.size;omega));(· exact x));replace z:=z.an x;replace q0:=q0.over x;replace fr:=fr.over x;replace g1:=g1.over x;replace g3:=g3.over x;rw [ao h'])
 simp only [aa,seval,mG]
 cases hh:bL (facts r.aR) a
 .have hl:fM d r.aR a (facts r.aR)=none:=by unfold fM;rw [aB heq,aA (by rw [hh];decide)]
  rw [hl,heq,BU,zY] at hK
  (with_reducible apply ct);(· rfl)
  simp only [dx,seval,mG]
  ((with_reducible refine ⟨z.cK.lay _ _,?_⟩);(intro _ h' zz x _);(simp only [b9,bG] at x);replace q0:=q0.over x;replace fr:=fr.over x;replace g1:=g1.over x;replace g3:=g3.over x;(replace z:=zz);(clear zz);rw [ao h'])
  simp only [aa,seval,mG]
  exact hK _ z.aC ((fr.mono (λ_ h=>nomatch h)).trans (aM.lay _ _ _ []) (λ_ h=>nomatch h)) (sd.cY (fr.trans (aM.lay _ _ _ []) (λ_ h=>nomatch h)))
 have hl:fM d r.aR a (facts r.aR)=some (eR a (facts r.aR)):=by unfold fM;rw [aB heq,aB hh]
 rw [hl,heq] at hK
 (with_reducible apply ct);(· rfl)
 simp only [dx,seval,mG]
 ((with_reducible refine ⟨z.cK.lay _ _,?_⟩);(intro _ h' zz x _);(simp only [b9,bG] at x);replace q0:=q0.over x;replace fr:=fr.over x;replace g1:=g1.over x;replace g3:=g3.over x;(replace z:=zz);(clear zz);rw [ao h'])
 simp only [aa,seval,mG]
 have c1:=g3.fE (j:=1) hr (by omega) rfl
 with_reducible first|refine dL (by simp only [mG]) z.aC ?_
 simp only [aa,seval,mG,c1,nI,q0.lay,↓eP,ef,dy]
 have Mz:=fr.size
 refine zux (facts r.aR) a r.v _ ((rT.mono fr.all).lay _ _) (by omega) aW ha _ (λh' w A x ho=>?_)
 clear c1
 rw [vu] at ho
 have yv:Sl aK.atom (aD (NB::X) h') w (eR a (facts r.aR)):=ho.aD (λ_ _ _ _ q=>q) (by decide) (λB hB=>by
  rw [bd]
  rcases cJ.1 hB with rfl|hB
  .omega
  .have:=xz B hB;omega)
 (((with_reducible refine cW ?_ ?_ ?_);(· exact (by (simp only [cV]);have:=z.size;omega));(· exact x));replace z:=z.an x;replace q0:=q0.over x;replace fr:=fr.over x;replace g1:=g1.over x;replace g3:=g3.over x;rw [ao h'])
 obtain ⟨wa,wn,wc,rfl⟩:=nq yv
 rw [hh]
 simp only [aa,seval,mG]
 have Xw:=fr.size
 refine cN.store (off:=1) (y:=(⟨r.aR,.slice wa wn wc,r.n⟩:j4)) Ji g3 hr zxX (by omega) rfl rfl rfl (by rfl) (λh3 g4 c4=>?_)
 have z3:=z.cw c4 e8 (by omega)
 have pO:=c4.size
 rw [bd] at pO
 refine zS (by kernel_rfl) z3.low (by rw [bd];exact pO) ?_
 have jk:aM [NB] hc h3:=(fr.mono (D':=[NB]) (λ_ h=>nomatch h)).ji c4 (.inl (by simp))
 have pF:aM [NB] h' h3:=(aM.refl [NB] h').ji c4 (.inl (by simp))
 clear z fr g3 g1 q0
 have z:=z3
 rw [ao h3]
 simp only [dx,seval,mG]
 ((with_reducible refine ⟨z.cK.lay _ _,?_⟩);(intro _ h' zz x _);(simp only [b9,bG] at x);replace g4:=g4.over x;replace jk:=jk.over x;replace pF:=pF.over x;(replace z:=zz);(clear zz);rw [ao h'])
 have yo:(rows.set i (⟨r.aR,.slice wa wn wc,r.n⟩:j4))[i]? = some ⟨r.aR,.slice wa wn wc,r.n⟩:=by rw [rE,aB rfl,aB iK]
 have c2:=g4.fE (j:=2) yo (by omega) rfl
 have YJ:IntKind.u64.wrap ((r.n:Int)+1)=((r.n+1:Nat):Int):=ZS (by rw [lM];exact hv)
 simp only [aa,seval,mG,c2,YJ]
 refine cN.store (off:=2) (y:=(⟨r.aR,.slice wa wn wc,r.n+1⟩:j4)) Ji g4 yo zDA (by omega) rfl rfl rfl (by rfl) (λh5 g5 c5=>?_)
 have Ic:=jk.size
 have z5:=z.cw c5 e8 (by omega)
 have kR:aM [NB] hc h5:=jk.ji c5 (.inl (by simp))
 have EO:aM [NB] _ h5:=pF.ji c5 (.inl (by simp))
 rw [List.set_set,lM] at g5
 clear z g4 jk pF c2
 have z:=z5
 rw [ao h5]
 simp only [aa,seval,mG]
 have nE:=kR.trans (aM.lay h5 [] h5.low []) (λ_ h=>nomatch h)
 have EP:=EO.trans (aM.lay h5 [] h5.low []) (λ_ h=>nomatch h)
 exact hK _ z.aC nE (gC.turn gw e1 e2 e4 e5 e6 e7 e8 e9 hr rfl nE uU (g5.lay _ _) (yv.mono ((EP.mono (D':=NB::X) (by simp)).inc (λB hB=>.inl hB))))
def N14:=bB f14
def OP:=PLift.up (by have c:=bD N14 f14;simp only [aL,f14,seval] at c;exact nd c <| nd @qH <| nd @DN <| nd @QE <| nd @tk <| nd @k8 <| nd @ra <| @Vd)
theorem Lh:type_of% OP.down:=OP.down
def N20:=bB f20
def Pn:=PLift.up (by have c:=bD N20 f20;simp only [aL,f20,seval] at c;exact nd c <| nd @vV <| nd @iM <| nd @b8 <| nd @gH <| nd @gl <| @Vj)
theorem Ey:type_of% Pn.down:=Pn.down
def N16:=bB f16
def O5:=PLift.up (by have c:=bD N16 f16;simp only [aL,f16,seval] at c;exact nd c <| nd @DN <| nd @zwi <| nd @tk <| nd @yE <| nd @ra <| @Vf)
theorem Q4:type_of% O5.down:=O5.down
def N18:=bB f18
def Pk:=PLift.up (by have c:=bD N18 f18;simp only [aL,f18,seval] at c;exact nd c <| nd @gl <| @Vh)
theorem c18:type_of% Pk.down:=Pk.down
def N22:=bB f22
def x22:=PLift.up (by have c:=bD N22 f22;simp only [aL,f22,seval] at c;exact nd c <| nd @DN <| nd @QE <| nd @kx <| nd @iM <| nd @tk <| nd @b8 <| nd @k8 <| nd @ra <| nd @gH <| nd @ky <| nd @gl <| nd @Gu <| @Vl)
theorem tK:type_of% x22.down:=x22.down
def N10:=bB f10
def NV:=PLift.up (by have c:=bD N10 f10;simp only [aL,f10,seval] at c;exact nd c <| nd @Uv <| nd @qH <| nd @K8 <| nd @zwh <| nd @DN <| nd @QE <| nd @tk <| nd @eV <| nd @k8 <| nd @ra <| nd @Y0 <| nd @Gu <| @U9)
theorem uM:type_of% NV.down:=NV.down
def N11:=bB f11
def Od:=PLift.up (by have c:=bD N11 f11;simp only [aL,f11,seval] at c;exact nd c <| nd @zC6 <| nd @DL <| nd @Jt <| nd @nj <| nd @b8 <| nd @gH <| @Va)
theorem Cn:type_of% Od.down:=Od.down
def N3:=bB f3
def x3:=PLift.up (by have c:=bD N3 f3;simp only [aL,f3,seval] at c;exact nd c <| nd @DL <| nd @Jt <| nd @Nq <| nd @eV <| nd @b8 <| nd @YY <| nd @gH <| nd @Nv <| nd @BG <| @fi3)
theorem c3:type_of% x3.down:=x3.down
theorem S6 (aR:au) (d:aq) (q:Int) (facts:au->aN) (az:au->Nat) (h:Heap) (N S2 NB:Nat) (sd:gC N h S2 NB d q facts az) (dN:aR ∉ d.ab->facts aR=[]) (gv:(facts aR).length<=100000) (K:aI)
 (hk:∀ h' w A,Ext h h'->Ow aK.atom h h' 47 A w (facts aR)->K w h'):Ok prog aG ov 14 [.pointer (some ⟨S2,0,none⟩),.string aR] h K:=by
 obtain ⟨p0,p1,p2,p5,p6,b,nv,rows,e1,e2,e3,e4,e5,e6,e7,e8,e9⟩:=id sd
 have je:∀ (h:Heap) (K:aI),aH (some nv) h K=K nv h:=λ_ _=>rfl
 rw [ao h]
 have z:=Ext.refl h
 refine Ok.aw 19 (bu N14) ?_
 simp only [aa,seval,Lh]
 refine TL rows aR p0 p1 p2 p5 p6 nv q b S2 NB _ (e1.on _ _) (e3.lay _ _) _ (λi r hr hw h' x=>?_) (λkZ h' x=>?_)
 .subst hw
  obtain ⟨lM,jV⟩:=e5 r (fW hr)
  have rT:Sl aK.atom h' r.v (facts r.aR):=(jV.mono (nu [NB] _)).mono x.inc.kB
  (replace z:=z.an x;replace e1:=e1.over x;replace e3:=e3.over x;rw [ao h'])
  have iK:=(dH.1 hr).1
  have gr:=e3.ix (kd:=.i64) (i:=i) wY D0 iK
  have c1:=e3.fE (j:=1) hr (by omega) rfl
  have nI:∀ (h:Heap) (K:aI),aH (some r.v) h K=K r.v h:=λ_ _=>rfl
  simp only [aa,seval,Lh]
  refine bq (λaW=>?_) (λkW=>?_)
  .exfalso;omega
  simp only [aa,seval,Lh,e1.lay,vU,je,gr,c1,nI,ly,ZV]
  have hz:=z.size
  have f0:Ow aK.atom h (h'.lay [ba.row [] 47 false] h'.low) 47 (h'.size+1) (.slice (some ⟨h'.size+0,0,none⟩) 0 0) [] :=
   .inl ⟨by omega,rfl,.inr ⟨h'.size+0,0,rfl,by omega,by rw [bd];simp,[],47,false,by rw [iB];rfl⟩⟩
  obtain ⟨news,hs,mI⟩:=vT (A:=h'.size+1) (r:=aK.atom) (by decide) (rT.lay [.row [] 47 false] h'.low) (λcs y hr=>hr)
  obtain ⟨w,h3,A',a1,a2,a3,a4,a5⟩:=uy (t:=51) bF r6 rfl (by decide) (by rw [bd];omega) f0 hs mI (by simp only [dK];omega) (by simp only [dK];omega)
  rw [a1]
  have z3:=z.cw a3 (by omega) (by omega)
  rw [pk] at a2
  rw [ao h3]
  simp only [aa,seval,Lh]
  exact hk _ _ A' z3.aC (a2.lay _ _)
 .have ta:aR ∉ d.ab:=λhm=>by
   rw [<- e4] at hm
   obtain ⟨y,hy,e⟩:=nD.1 hm
   exact kZ y hy e
  (replace z:=z.an x;replace e1:=e1.over x;replace e3:=e3.over x;rw [ao h'])
  simp only [aa,seval,Lh]
  rw [dN ta] at hk
  exact hk _ _ _ z.aC (Ow.nil (bo _))
theorem zj4 (aR:au) (d:aq) (q:Int) (facts:au->aN) (az:au->Nat) (h:Heap) (N S2 NB:Nat) (sd:gC N h S2 NB d q facts az) (dN:aR ∉ d.ab->az aR=0) (K:aI)
 (hk:∀ h',Ext h h'->K (.int .u64 (az aR:Int)) h'):Ok prog aG ov 16 [.pointer (some ⟨S2,0,none⟩),.string aR] h K:=by
 obtain ⟨p0,p1,p2,p5,p6,b,nv,rows,e1,e2,e3,e4,e5,e6,e7,e8,e9⟩:=id sd
 have je:∀ (h:Heap) (K:aI),aH (some nv) h K=K nv h:=λ_ _=>rfl
 rw [ao h]
 have z:=Ext.refl h
 refine Ok.aw 17 (bu N16) ?_
 simp only [aa,seval,Q4]
 refine TL rows aR p0 p1 p2 p5 p6 nv q b S2 NB _ (e1.on _ _) (e3.lay _ _) _ (λi r hr hw h' x=>?_) (λkZ h' x=>?_)
 .subst hw
  have lM:=(e5 r (fW hr)).1
  (replace z:=z.an x;replace e1:=e1.over x;replace e3:=e3.over x;rw [ao h'])
  have iK:=(dH.1 hr).1
  have gr:=e3.ix (kd:=.i64) (i:=i) wY D0 iK
  have c2:=e3.fE (j:=2) hr (by omega) rfl
  rw [<- lM] at hk
  simp only [aa,seval,Q4]
  refine bq (λaW=>?_) (λkW=>?_)
  .exfalso;omega
  simp only [aa,seval,Q4,e1.lay,vU,je,gr,c2]
  exact hk _ z.aC
 .have ta:aR ∉ d.ab:=λhm=>by
   rw [<- e4] at hm
   obtain ⟨y,hy,e⟩:=nD.1 hm
   exact kZ y hy e
  (replace z:=z.an x;replace e1:=e1.over x;replace e3:=e3.over x;rw [ao h'])
  simp only [aa,seval,Q4]
  rw [dN ta] at hk
  exact hk _ z.aC
theorem zw4 (aR:au) (d:aq) (q:Int) (facts:au->aN) (az:au->Nat) (h:Heap) (N S2 NB:Nat) (sd:gC N h S2 NB d q facts az) (dN:aR ∉ d.ab->facts aR=[]) (gv:(facts aR).length<=100000) (K:aI)
 (hk:∀ h',Ext h h'->K (.int .i64 (facts aR).length) h'):Ok prog aG ov 18 [.pointer (some ⟨S2,0,none⟩),.string aR] h K:=by
 rw [ao h]
 have z:=Ext.refl h
 refine Ok.aw 7 (bu N18) ?_
 simp only [aa,seval,c18]
 refine S6 aR d q facts az _ N S2 NB (sd.lay _ _) dN gv _ (λh' w A x o=>?_)
 have qo:=λ(hh:Heap)=>(o.sl (by decide)).bn bF hh
 (replace z:=z.an x;rw [ao h'])
 simp only [aa,seval,c18,qo]
 exact hk _ z.aC
theorem zBW (a:aj) (d:aq) (q:Int) (facts:au->aN) (az:au->Nat) (h:Heap) (N S2 NB:Nat) (sd:gC N h S2 NB d q facts az) (dN:a.says ∉ d.ab->facts a.says=[]) (gv:(facts a.says).length<=100000) (K:aI)
 (hk:∀ h',Ext h h'->K (.bool (decide (a∈facts a.says))) h'):Ok prog aG ov 20 [.pointer (some ⟨S2,0,none⟩),a.val] h K:=by
 rw [ao h]
 have z:=Ext.refl h
 refine Ok.aw 21 (bu N20) ?_
 simp only [aa,seval,Ey,gI,zvI]
 refine S6 a.says d q facts az _ N S2 NB (sd.lay _ _) dN gv _ (λh' w A x o=>?_)
 have q0:=Holds.top (i:=0) x rfl
 have hl:=o.sl (by decide)
 have qo:=λ(hh:Heap)=>hl.bn bF hh
 (replace z:=z.an x;rw [ao h'])
 obtain ⟨l,s7⟩:∃ l,l=facts a.says:=⟨_,rfl⟩
 rw [<- s7] at hl qo hk gv
 simp only [aa,seval,Ey]
 obtain ⟨I1,aX⟩:∃ I:Nat->Env->Heap->Prop,I=(λn e h'=>∃ (i:Nat) (h1:Heap),h'=h1.lay [] h1.low/\Ext h h1/\(n=l.length - i/\i<=l.length/\(∀ x∈l.take i,decide (a=x)=false)/\Holds h1 (h.size+0) (.row a.cells 47 false)/\Sl aK.atom h1 w l)/\∃ J:Nat->ah,e=(jr J 0 3 (.pointer (some ⟨h.size+0,0,none⟩)::J 4::w::.int .i64 i::jr J 7 16 ([])))):=⟨_,rfl⟩
 refine du I1 _ (by rw [aX];exact ⟨0,_,rfl,z,⟨rfl,by omega,by simp,q0,hl⟩,bm⟩) ?_
 intro n e h' aP
 rw [aX] at aP
 obtain ⟨i,bx,rfl,z,hinv,J,rfl⟩:=aP
 clear q0 hl
 obtain ⟨rfl,hi,aE,q0,hl⟩:=hinv
 have hw:=ei i (by omega)
 simp only [aa,seval,Ey,qo]
 refine bq (λaW=>?_) (λaW=>?_)
 rotate_left
 .simp only [aa,seval,Ey]
  rw [gA (by omega)] at aE
  rw [oL (λhm=>by have:=aE a hm;simp at this)] at hk
  exact hk _ z.aC
 obtain ⟨r,hr,bT⟩:=fo (l:=l) (i:=i) (by omega)
 simp only [aa,seval,Ey]
 repeat' ((first|with_reducible refine dL (by simp only [Ey]) z.aC ?_|((with_reducible apply bq) <;> intro _)|with_reducible refine oG hl bF bN (by omega) hr (λp hp=>?_)|with_reducible refine mw hp fD bN ?_|((with_reducible refine ⟨z.cK.lay _ _,?_⟩);(intro _ h' zz x _);(simp only [b9,bG] at x);replace q0:=q0.over x;replace hl:=hl.over x;(replace z:=zz);(clear zz);rw [ao h'])) <;> simp only [aa,seval,Ey,q0.lay,↓eP,ef,zn8,dy])
 .have hx:a=r:=by first|assumption|exact Eq.symm (by assumption)
  rw [pn (by rw [hx];exact fW bT)] at hk
  exact hk _ z.aC
 .have hx:¬ a=r:=by first|assumption|exact λe=>(by assumption:¬ r=a) e.symm
  rw [hw]
  (rw [aX];with_reducible refine cy (m:=_) ?_ ⟨i+1,_,rfl,z,⟨rfl,by omega,oE (i:=i) (P:=λx:aj=>decide (a=x)=false) bT aE (by simpa using hx),q0,hl⟩,bm⟩;omega)
end Go.Proofs.YtmamldleclamjaaGreatDoor
namespace Go.Proofs.YtmamldleclamjaaGreatDoor
open Go.Am
def Al (n m:Int):Int:=if m < 1 then 0 else if n.tmod m < 0 then n.tmod m+m else n.tmod m
theorem zzB (n m:Int) (hm:1<=m):0<=Al n m/\Al n m < m:=by
 unfold Al
 rw [aA (by omega)]
 have h1:=Int.tmod_lt_of_pos n (show 0 < m by omega)
 have h2:=Int.lt_tmod_of_pos n (show 0 < m by omega)
 split <;> omega
end Go.Proofs.YtmamldleclamjaaGreatDoor
namespace Go.Proofs.YtmamldleclamjaaGreatDoor
open Go.Am Tryz
theorem zB4 (n m:Int) (h:Heap) (K:aI) (hm:m<=4611686018427387904) (hk:K (.int .i64 (Al n m)) h):Ok prog aG ov 36 [.int .i64 n,.int .i64 m] h K:=by
 refine Ok.aw 15 (bu N36) ?_
 simp only [aa,seval,HR]
 refine bq (λc=>?_) (λc=>?_)
 .simp only [aa,seval,HR]
  have:Al n m=0:=by unfold Al;rw [aB c]
  rw [this] at hk
  exact hk
 have hb:=zzB n m (by omega)
 have hd:Al n m=if n.tmod m < 0 then n.tmod m+m else n.tmod m:=by unfold Al;rw [aA c]
 simp only [aa,seval,HR]
 rw [zA6 (by omega)]
 simp only [aa,seval,HR]
 refine bq (λc2=>?_) (λc2=>?_)
 .rw [aB c2] at hd
  rw [hd] at hk hb
  simp only [aa,seval,HR]
  rw [wrap_i64 (by omega) (by omega)]
  exact hk
 .rw [aA c2] at hd
  rw [hd] at hk
  simp only [aa,seval,HR]
  exact hk
def N6:=bB f6
def x6:=PLift.up (by have c:=bD N6 f6;simp only [aL,f6,seval] at c;exact nd c <| nd @DL <| nd @Jt <| nd @Nq <| nd @b8 <| nd @gH <| nd @Nv <| nd @BG <| @fi6)
theorem c6:type_of% x6.down:=x6.down
theorem zsQ (k:Int):(Al k 2=0)↔k.tmod 2=0:=by
 unfold Al
 rw [aA (by omega)]
 have h1:=Int.tmod_lt_of_pos k (show (0:Int) < 2 by omega)
 have h2:=Int.lt_tmod_of_pos k (show (0:Int) < 2 by omega)
 split <;> omega
theorem zpk (l:List dM) (v:ah) (h:Heap) (hl:Sl aK.act h v l) (K:aI)
 (sL:l.length<=60->(∀ c∈l,c.s.size<=300/\c.a.aY=true)->∀ h',Ext h h'->K (.bool true) h') (kS:∀ h',Ext h h'->K (.bool false) h'):Ok prog aG ov 6 [v] h K:=by
 rw [ao h]
 have z:=Ext.refl h
 have cU:=λ(hh:Heap)=>hl.bn mh hh
 refine Ok.aw 28 (bu N6) ?_
 simp only [aa,seval,c6]
 obtain ⟨I1,aX⟩:∃ I:Nat->Env->Heap->Prop,I=(λn e h'=>∃ (i:Nat) (h1:Heap),h'=h1.lay [] h1.low/\Ext h h1/\(n=l.length - i/\i<=l.length/\(∀ c∈l.take i,c.s.size<=300/\c.a.aY=true))/\∃ J:Nat->ah,e=(v::jr J 1 2 (.int .i64 i::jr J 4 25 ([])))):=⟨_,rfl⟩
 refine du I1 _ (by rw [aX];exact ⟨0,_,rfl,z,⟨rfl,by omega,by simp⟩,bm⟩) ?_
 intro n e h' aP
 rw [aX] at aP
 obtain ⟨i,bx,rfl,z,hinv,J,rfl⟩:=aP
 obtain ⟨rfl,hi,aE⟩:=hinv
 have hle:=hl.le
 simp only [aa,seval,c6,cU]
 refine bq (λaW=>?_) (λkW=>?_)
 .obtain ⟨r,hr,bT⟩:=fo (l:=l) (i:=i) (by omega)
  have gk:IntKind.i64.wrap ((i:Int)+1)=((i+1:Nat):Int):=by unfold maxLen at hle;rw [wrap_i64 (by omega) (by omega)];omega
  simp only [aa,seval,c6]
  repeat' ((first|((with_reducible apply bq) <;> intro _)|with_reducible refine DW (hl.mono z.inc) mh oB (by omega) hr (λp hp=>?_)|with_reducible refine QF hp DL (λqq hq=>?_)|with_reducible refine iY hq kJ ?_|with_reducible refine zwo hp Jt (λqq hq=>?_)|with_reducible refine mw hq fD bN ?_|((with_reducible refine Tf _ _ _ (λIh h' x=>?_) (λIh h' x=>?_)) <;> (replace z:=z.an x;rw [ao h']))|((with_reducible apply ct);(· rfl))) <;> simp only [aa,seval,c6])
  all_goals first
   |exact kS _ z.aC
   |(rw [gk]
     (rw [aX];with_reducible refine cy (m:=_) ?_ ⟨i+1,_,rfl,z,⟨rfl,by omega,oE (i:=i) (P:=λc:dM=>c.s.size<=300/\c.a.aY=true) bT aE ⟨by omega,Ih⟩⟩,bm⟩;omega))
 .rw [gA (by omega)] at aE
  simp only [aa,seval,c6,cU]
  refine bq (λhle=>?_) (λsS=>?_)
  .simp only [aa,seval,c6]
   exact sL (by omega) aE _ z.aC
  .simp only [aa,seval,c6]
   exact kS _ z.aC
theorem Ue (c:dM):c.cells[0]? = some (.int .i64 c.k):=rfl
theorem Az (c:dM):c.cells[1]? = some (.string c.s):=rfl
theorem AA (c:dM):cut c.cells 2 11=some c.a.cells:=rfl
end Go.Proofs.YtmamldleclamjaaGreatDoor
