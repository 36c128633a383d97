/- The code of some functions, node by node, for simp. Written by a program (mkcode.py). No condition. -/
import Derived.Test.YtmamldleclamjaaGreatDoorG47
import Derived.Test.YtmamldleclamjaaGreatDoorZR1
import Derived.Test.YtmamldleclamjaaGreatDoorG46
set_option linter.unusedSimpArgs false
set_option linter.unusedVariables false
set_option maxRecDepth 100000
set_option maxHeartbeats 0
namespace Go.Proofs.YtmamldleclamjaaGreatDoor
open Go.Am Tryz
noncomputable def N9:=bB f9
noncomputable def x9:=PLift.up (by have c:=bD N9 f9;simp only [aL,f9,seval] at c;exact nd c <| nd @El <| nd @K5 <| nd @TU <| nd @zwk <| nd @Ju <| nd @zAo <| nd @zAp <| nd @iM <| nd @eV <| nd @b8 <| nd @k8 <| nd @yE <| nd @Gs <| nd @tm <| nd @gl <| @fi9)
theorem c9:type_of% x9.down:=x9.down
theorem zAK (us:au->Nat) (cs:List au) (x:au):ja us cs x<=us x+1:=by
 unfold ja
 split <;> omega
theorem ztH (d:aq) (q:Int) (aR:au) (l:aN) (vv:Nat) (F:au->aN) (V us:au->Nat) (h hc:Heap) (z:Ext h hc) (X E:List Nat) (b C0 S0 P5 BA:Nat) (fb:eH X h.size b hc C0 E d q F V us) (sa:Option Addr) (sn sc:Nat) (hs:Sl aK.atom h (.slice sa sn sc) l) (hl:l.length<=1000) (hv:vv < 1000000000)
 (mj:∀ a∈l,∀ x,wQ a x->x.size≠0/\x.size<=255) (hb:b+4*l.length < 60000) (ku:∀ x,us x+l.length < 1000000000) (q5:Holds hc P5 (.row [.slice sa sn sc,.int .u64 (vv:Int)] 88 false)) (Q:Ex->Env->Heap->Prop) {e:Env}
 (he:∃ J:Nat->ah,e=(.pointer (some ⟨S0,0,none⟩)::jr J 1 2 (.pointer (some ⟨C0,0,none⟩)::.string aR::.pointer (some ⟨P5,0,none⟩)::jr J 6 13 (.chan (some BA)::jr J 20 31 ([])))))
 (hk:∀ e' h' E3 BM,(∃ J:Nat->ah,e'=(.pointer (some ⟨S0,0,none⟩)::jr J 1 2 (.pointer (some ⟨C0,0,none⟩)::jr J 4 15 (.chan (some BA)::jr J 20 31 ([])))))->Ext h h'->eH X h.size (b+4*l.length) h' C0 E3 d q (ln F aR l) (fU V aR vv) BM->(∀ x,BM x<=us x+l.length)->Q .normal e' h'):W prog aG ov none (N9 26) e (hc.lay [] hc.low) Q:=by
 obtain ⟨J,rfl⟩:=he
 obtain ⟨⟨T0,D,NM,v0,v1,nv,rfl,x1,x2,x3,x4,x5,g6,x7,g8,g9,g10,g11⟩,jR,Fa⟩:=fb
 have ux:=aM.gZ X hc
 have AY:=x1.alive (by simp)
 have uU:NM ∉ X:=jR _ (by simp)
 have g1:=x1.cT ux AY
 have g2:=x2.cT ux (λB hB=>jR B (eQ _ hB))
 have g3:=x3.hold (λb q=>q.cT ux uU)
 have rU:=z.size
 have X3:P5≠NM:=λe5=>by
  obtain ⟨es,Lt,m1,_⟩:=g3
  have:=m1.get.symm.trans (e5 ▸ q5.get)
  cases this
 have H3:∀ B∈NM::D,B < hc.size:=λB hB=>by
  rcases cJ.1 hB with rfl|hB
  .exact g3.lt
  .exact (g2.lo B hB).2
 have tg:∀ (h:Heap) (K:aI),aH (some (.slice sa sn sc)) h K=K (.slice sa sn sc) h:=λ_ _=>rfl
 have fr:aM [] hc hc:=aM.refl [] hc
 simp only [aa,seval,c9]
 with_reducible first|refine dL (by simp only [c9]) z.aC ?_
 simp only [aa,seval,c9,kE,GI,GJ,g1.lay,DZ,q5.lay,tg]
 refine zlS l _ _ ((hs.mono z.inc).lay _ _) (by omega) _ (λh' w A x o=>?_)
 ((first|((with_reducible refine cW ?_ ?_ ?_);(· exact (by (try simp only [cV]);have:=z.size;omega));(· first|exact x|simpa only [Y1] using x))|skip);replace z:=z.rf x (by (try simp only [cV]);omega);(try replace g1:=g1.over x);(try replace q5:=q5.over x);(try replace fr:=fr.over x);rw [ao h'])
 obtain ⟨wa,wn,wc,rfl⟩:=nq (o.sl (by decide))
 have RW:∀ (h:Heap) (K:aI),aH (some (.slice wa wn wc)) h K=K (.slice wa wn wc) h:=λ_ _=>rfl
 simp only [aa,seval,c9,kE,GI,GJ,RW,vE,g1.lay,DZ,q5.lay,Zw,zCU,Pz]
 have gm:=g3.hold (λb q=>q.cT fr (by simp))
 refine zs7 gm qM zg (λh3 m3 c3=>?_)
 have hz:=z.size
 have E8:h.size<=NM:=by omega
 have Xz:=g3.lt
 have hfs:=fr.size
 refine nM (A:=NM) (by kernel_rfl) (by rw [bd];omega) (by omega) (by simpa only [b9,bd,bG,dY,dK,i0] using c3) ?_
 have z3:=(z.lk [] (h'.size+0) (by omega)).step c3 E8
 have f3:aM [NM] h' h3:=(aM.refl [NM] h').ji c3 (.inl (by simp))
 have WZ:C0≠NM:=λe=>g8 (by rw [e];simp)
 have k1:=o.aD (D:=(NM::D)++X) (λ_ _ _ _ q=>q) (by decide) (λB hB=>by
  rw [bd]
  rcases iA.1 hB with hB|hB
  .have:=H3 B hB;omega
  .have:=Fa B hB;omega)
 rw [Dk] at k1
 have q6:=q5.bK c3 X3
 clear z q5
 have z:=z3
 rw [ao h3]
 simp only [aa,seval,c9]
 ((with_reducible refine ⟨z.cK.lay _ _,?_⟩);(intro _ h4 zz x _);(try simp only [b9,bG] at x))
 replace f3:=f3.over x
 replace m3:=m3.over x
 replace q6:=q6.over x
 clear z
 have z:=zz
 have f4:aM [NM] h' h4:=f3
 have f5:aM [NM] hc h4:=fr.mono (D':=[NM]) (λ_ h=>nomatch h) |>.trans f4 (λB hB=>.inl hB)
 have vx:∀ B∈[NM],B∈NM::D:=λB hB=>by rw [fH.1 hB];simp
 have i1:bH (aD (NM::D) (aD X hc)) (aD (NM::D) (aD X h4)):=((f5.kill X).mono vx).inc (λB hB=>.inl hB)
 have i2:bH (aD (NM::D) (aD X h')) (aD (NM::D) (aD X h4)):=((f4.kill X).mono vx).inc (λB hB=>.inl hB)
 have pY:eH X h.size b h4 C0 (NM::D) d q (ln F aR l) (fU V aR vv) us:=⟨⟨T0,D,NM,v0,v1,gp nv aR (.agg #[.slice wa wn wc,.int .u64 (vv:Int)]),rfl,x1.cT (f5.kill X) (by simpa using WZ),x2.cT (f5.kill X) (λB hB hm=>g9 (by rw [<- fH.1 hm];exact hB)),m3.hold (λ_ q=>q.iU uU),x4.mono i1,x5.mono i1,λw hw=>by
  rw [G3] at hw
  by_cases mM:w=aR
  .rw [aB mM] at hw;cases hw
  .rw [aA mM] at hw
   unfold ln
   rw [aA mM,tC mM]
   exact g6 w hw,λw y hw=>by
  rw [G3] at hw
  by_cases mM:w=aR
  .rw [aB mM] at hw
   cases hw
   subst mM
   unfold ln
   rw [aB rfl,wM]
   exact ⟨_,rfl,k1.mono i2⟩
  .rw [aA mM] at hw
   unfold ln
   rw [aA mM,tC mM]
   exact (x7 w y hw).imp λv hv=>⟨hv.1,hv.2.mono i1⟩,g8,g9,g10,g11⟩,jR,λB hB=>dJ (Fa B hB) f5.size⟩
 rw [ao h4]
 have td:Sl aK.atom h4 (.slice sa sn sc) l:=hs.mono z.inc
 have cU:=λ(hh:Heap)=>td.bn bF hh
 simp only [aa,seval,c9,q6.lay,tg,cU,GI]
 obtain ⟨I1,aX⟩:∃ I:Nat->Env->Heap->Prop,I=(λn e h'=>∃ (i:Nat) (E2:List Nat) (gq:au->Nat) (h1:Heap),h'=h1.lay [] h1.low/\Ext h h1/\(n=l.length - i/\i<=l.length/\eH X h.size (b+4*i) h1 C0 E2 d q (ln F aR l) (fU V aR vv) gq/\(∀ x,gq x<=us x+i))/\∃ J:Nat->ah,e=(.pointer (some ⟨S0,0,none⟩)::jr J 1 2 (.pointer (some ⟨C0,0,none⟩)::jr J 4 15 (.chan (some BA)::jr J 20 17 (.slice sa sn sc::.int .i64 l.length::.int .i64 i::jr J 40 11 ([])))))):=⟨_,rfl⟩
 refine du I1 _ (by rw [aX];exact ⟨0,NM::D,us,_,rfl,z,⟨rfl,i6 _,pY,λ_=>bo _⟩,bm⟩) ?_
 intro n e h' aP
 rw [aX] at aP
 obtain ⟨i,E2,gq,bx,rfl,z,hinv,J,rfl⟩:=aP
 obtain ⟨rfl,hi,Sd,hu⟩:=hinv
 have gr:Sl aK.atom bx (.slice sa sn sc) l:=hs.mono z.inc
 obtain ⟨⟨T1,D1,Q2,w0,w1,nw,rfl,y1,y2,e3,e4,e5,e6,e7,e8,e9,Lx,Ly⟩,LU,L7⟩:=id Sd
 have ux1:=aM.gZ X bx
 have zt:∀ B∈D1,B ∉ X:=λB hB=>LU B (eQ _ hB)
 have e1:=y1.cT ux1 (y1.alive (by simp))
 have e2:=y2.cT ux1 zt
 have EN:aM [] bx bx:=aM.refl [] bx
 clear q6
 simp only [aa,seval,c9,tg]
 refine bq (λaW=>?_) (λkW=>?_)
 rotate_left
 .have iK:i=l.length:=by omega
  subst iK
  simp only [aa,seval,c9]
  exact hk _ _ _ gq (mv (by kernel_rfl)) z.aC (Sd.lay _ _) hu
 have gk:=ei i (by omega)
 simp only [aa,seval,c9,tg]
 refine YU gr bF bN (by omega) (by omega) (λa p ha hp=>?_)
 simp only [aa,seval,c9,tg]
 refine mw hp fD bN ?_
 simp only [aa,seval,c9,vE]
 refine zuY bN rfl ?_
 simp only [aa,seval,c9]
 with_reducible first|refine dL (by simp only [c9]) z.aC ?_
 simp only [aa,seval,c9,GJ,e1.lay,↓ZP,gI,↓eP,ef,dy,vE]
 refine zsH a h _ z.aC D1 T1 (b+4*i) gq (e2.lay _ _) (by omega) (mj a (fW ha)) (λx=>by have:=hu x;have:=ku x;omega) _ (λh5 cs D2 z5 kR wy gw bY tx uT=>?_)
 have ud:=kR.size
 rw [bd] at ud
 refine zS (by kernel_rfl) z5.low (by rw [bd];exact ud) ?_
 have nE:aM D1 bx h5:=(aM.lay bx _ _ D1).trans kR (λB hB=>.inl hB)
 clear z
 have z:=z5
 rw [ao h5]
 simp only [aa,seval,c9]
 ((with_reducible refine ⟨z.cK.lay _ _,?_⟩);(intro _ h6 zz x _);(try simp only [b9,bG] at x))
 replace nE:=nE.over x
 replace tx:=tx.over x
 clear z
 have z:=zz
 rw [ao h6]
 simp only [aa,seval,c9]
 rw [gk]
 have tR:∀ B∈D2,B∈D1\/bx.size<=B:=λB hB=>(uT B hB).imp id (λe=>by rw [bd] at e;omega)
 have Xp:=nE.size
 have qO:∀ B∈D2,B ∉ X:=λB hB hx=>by
  rcases tR B hB with e|e
  .exact zt B e hx
  .have:=L7 B hx;omega
 have GD:eH X h.size (b+4*(i+1)) h6 C0 (Q2::D2) d q (ln F aR l) (fU V aR vv) (ja gq cs):=by
  rw [show b+4*(i+1)=b+4*i+4 by omega]
  refine ⟨lT.turn y1 e3 e4 e5 e6 e7 e8 e9 Lx Ly (nE.kill X) (tx.cT (aM.dead X _) qO) (λB hB=>by rw [fX];exact tR B hB),λB hB=>?_,λB hB=>dJ (L7 B hB) Xp⟩
  rcases cJ.1 hB with rfl|hB
  .exact LU _ (by simp)
  .exact qO B hB
 (rw [aX];with_reducible refine cy (m:=_) ?_ ⟨i+1,Q2::D2,ja gq cs,_,rfl,z,⟨rfl,by omega,GD,λx=>by have h1:=hu x;have h2:=zAK gq cs x;omega⟩,bm⟩;omega)
theorem SD.Rl {P:Program} {ρ0:cn} {h0 h h2:Heap} {w0:World} {c:Code} {e:Env} {G:Option It} {Q:Ex->Env->Heap->Option It->Prop} (hh:h=h2) (s:SD P ρ0 h0 w0 c e h2 G Q):SD P ρ0 h0 w0 c e h G Q:=by
 subst hh
 exact s
def mx (A:Array Oper) (n:Nat):Oper:=(A.toList[n]?).getD default
def En:ah->Nat
 | .slice (some a) _ _=>a.block
 |_=>0
theorem zsW {Z:Type} {r:aK Z} (gg:∀ h h' cs x,r.R h cs x->r.R h' cs x) {h:Heap} {v:ah} {l:List Z} (f:Sl r h v l) {G:Nat} (hG:En v≠G):Sl r (aD [G] h) v l:=by
 rcases f with f|⟨A,o,c,row,u,ro,rfl,e2,e3,e4,e5,e6⟩
 .exact .inl f
 .refine .inr ⟨A,o,c,row,u,ro,rfl,e2,e3,by rw [fX];exact e4,?_,λi x hx=>(e6 i x hx).imp λcs hc=>⟨hc.1,gg _ _ _ _ hc.2⟩⟩
  rw [nN (show A ∉ [G] from λhm=>hG (fH.1 hm))]
  exact e5
theorem zB8 (a b x y z:Nat) (h1:x≠y) (h2:x≠z) (h3:y≠z):∃ g,(g=x\/g=y\/g=z)/\a≠g/\b≠g:=by
 by_cases hx:a≠x/\b≠x
 .exact ⟨x,.inl rfl,hx⟩
 .by_cases hy:a≠y/\b≠y
  .exact ⟨y,.inr (.inl rfl),hy⟩
  .exact ⟨z,.inr (.inr rfl),by omega,by omega⟩
theorem zw1 (d:aq) (q:Int) (facts:au->aN) (az us:au->Nat) (h:Heap) (cR:bc 1 h) (N b k S0:Nat) (E:List Nat) (hN:1 < N) (Y:List Nat) (hYN:∀ B∈Y,N<=B) (fb:eH Y N b h S0 E d q facts az us) (inv:de d k facts az us) (k0:d.ab.length<=16) (hk:k<=700) (K:aI)
 (hK:∀ h' C0 E2 b2 gq,Ext h h'->eH (E++Y) 0 b2 h' C0 E2 d q facts az gq->K (.pointer (some ⟨C0,0,none⟩)) h'):zn prog aG.gs 9 [.pointer (some ⟨S0,0,none⟩)] h K:=by
 obtain ⟨T0,D,NM,v0,v1,nv,rfl,y1,g2,y3,y4,y5,g6,y7,g8,g9,g10,g11⟩:=id fb.1
 obtain ⟨XX,H6⟩:∃ XX,XX=(NM::D)++Y:=⟨_,rfl⟩
 rw [<- H6] at hK
 have g1:=y1.mono (nu Y h)
 obtain ⟨es,Lt,m1,m2,m3,m4,m5⟩:=y3
 replace m1:=m1.cT (aM.gZ Y h) (m1.alive (λe=>by cases e))
 have g4:Sl aK.str (aD XX h) v0 d.ab:=by rw [H6,Dk];exact y4
 have g5:Sl aK.pred (aD XX h) v1 d.bJ:=by rw [H6,Dk];exact y5
 have g7:∀ aR x,dq nv aR=some x->∃ s,x=.agg #[s,.int .u64 (az aR:Int)]/\Sl aK.atom (aD XX h) s (facts aR):=by rw [H6,Dk];exact y7
 have WX:=y1.alive (λe=>by cases e)
 have AV:∀ B∈XX,N<=B/\B < h.size:=λB hB=>by
  rw [H6] at hB
  rcases iA.1 hB with hB|hB
  .rcases cJ.1 hB with rfl|hB
   .exact ⟨g11,m1.lt⟩
   .have:=g2.lo B hB
    rw [fX] at this
    exact this
  .exact ⟨hYN B hB,fb.2.2 B hB⟩
 clear y1 y4 y5 y7 g2
 obtain ⟨G0,WJ,hGa,hGb⟩:=zB8 (En v0) (En v1) 0 1 S0 (by decide) (by omega) (by omega)
 have anR:=cR.lt
 have W0:=g1.lt
 have hGl:G0 < h.size:=by omega
 have WK:G0 ∉ XX:=λhm=>by
  have h1:=AV _ hm
  rcases WJ with e|e|e
  .omega
  .omega
  .rw [e,H6] at hm
   exact (iA.1 hm).elim g8 WX
 have s0:=zsW (λ_ _ _ _ h=>h) g4 hGa
 have s1:=zsW (λ_ _ _ _ h=>h) g5 hGb
 refine zn.enter mixed vS zDn zCs (bu N9) (λρ0 w0 B=>?_)
 obtain ⟨J,hJ⟩:∃ J:Nat->ah,(([.pointer (some ⟨S0,0,none⟩)]:List ah)++List.replicate (f9.ntmps - ([.pointer (some ⟨S0,0,none⟩)]:List ah).length) undef)=(.pointer (some ⟨S0,0,none⟩)::jr J 1 50 ([])):=mv (by kernel_rfl)
 rw [hJ]
 have z:=Ext.refl h
 refine SD.Rl (ao h) ?_
 refine SD.lg B (c1:=(N9 1)) (c2:=(N9 2)) (by kernel_rfl) (by kernel_rfl) ?_
 simp only [aa,seval,c9,mC,nt]
 refine SD.lg B (c1:=(N9 3)) (c2:=(N9 10)) (by kernel_rfl) (by kernel_rfl) ?_
 simp only [aa,seval,c9,sK,mC,nt]
 have sI:∀ h2,aM [] h h2->bH (aD [G0] (aD XX h)) (aD [G0] (aD XX h2)):=λh2 f=>((f.mono (D':=[G0]) (λ_ h=>nomatch h)).kill XX).inc (λB hB=>.inl hB)
 refine SD.lg B (c1:=(N9 11)) (c2:=(N9 12)) (by kernel_rfl) (by kernel_rfl) ?_
 simp only [aa,seval,c9,g1.lay,↓zC1,gO,fY]
 refine zzn d v0 v1 q _ G0 (by rw [bd];omega) XX (λB hB=>by rw [bd];have:=(AV B hB).2;omega) WK (s0.mono (sI _ (aM.lay _ _ _ _))) (s1.mono (sI _ (aM.lay _ _ _ _))) _ (λh' C0 x rU pP=>?_)
 rw [bd] at pP
 ((first|((with_reducible refine cW ?_ ?_ ?_);(· exact (by (try simp only [cV]);have:=z.size;omega));(· first|exact x|simpa only [Y1] using x))|skip);replace z:=z.rf x (by (try simp only [cV]);omega);(try replace g1:=g1.over x);rw [ao h'])
 simp only [aa,seval,c9,NT,mC,nt]
 refine SD.seq (c1:=(N9 13)) (c2:=(N9 44)) (by kernel_rfl) ?_
 refine SD.seq (c1:=(N9 14)) (c2:=(N9 15)) (by kernel_rfl) ?_
 refine SD.region (id:=4) (ops:=en (N9 14)) (by kernel_rfl) ?_
 refine SL.op B (l:=lR (en (N9 14)) 1) (o:=mx (en (N9 14)) 0) (op:=.move (.tmp 0)) (d:=some 15) (v:=.pointer (some ⟨S0,0,none⟩)) (by kernel_rfl) (by kernel_rfl) (by kernel_rfl) (by kernel_rfl) (by kernel_rfl) (λ_ _ _=>rfl) ?_
 refine SL.op B (l:=lR (en (N9 14)) 2) (o:=mx (en (N9 14)) 1) (op:=.nilCheck (.tmp 15)) (d:=some 16) (v:=.pointer (some ⟨S0,0,none⟩)) (by kernel_rfl) (by kernel_rfl) (by kernel_rfl) (by kernel_rfl) (by kernel_rfl) (λ_ _ _=>rfl) ?_
 refine SL.op B (l:=lR (en (N9 14)) 3) (o:=mx (en (N9 14)) 2) (op:=.fieldAddr 86 (.tmp 16) 2) (d:=some 17) (v:=.pointer (some ⟨S0,0+8,none⟩)) (by kernel_rfl) (by kernel_rfl) (by kernel_rfl) (by kernel_rfl) (by kernel_rfl) (λ_ _ _=>rfl) ?_
 refine SL.op B (l:=lR (en (N9 14)) 4) (o:=mx (en (N9 14)) 3) (op:=.load 84 (.tmp 17)) (d:=some 18) (v:=.map (some NM)) (by kernel_rfl) (by kernel_rfl) (by kernel_rfl) (by kernel_rfl) (by kernel_rfl) (λ_ _ _=>by
  rw [zB9]
  show (ic aG 84 (.pointer (some ⟨S0,0+8,none⟩)) _).map _=_
  rw [tm,g1.lay]
  rfl) ?_
 have vj:∀ hh:Heap,Ext h hh->(hh.lay [] hh.low).get NM=some (.map es Lt):=λhh zz=>by
  rw [uo _ _ _ (dJ m1.lt zz.size),zz.get NM m1.lt]
  exact m1.get
 refine SL.range vS (l:=[]) (o:=mx (en (N9 14)) 4) (t:=84) (x:=.tmp 18) (d:=some 19) (by kernel_rfl) (by kernel_rfl) (by kernel_rfl) (by kernel_rfl) qM rfl (vj _ z) (λBA=>?_)
 refine SL.nil ?_
 rw [nt]
 refine SD.block (id:=0) (c:=(N9 16)) (by kernel_rfl) ?_
 obtain ⟨bQ,qU⟩:∃ bQ:List au->Nat,bQ=λL=>(L.map λw=>(facts w).length).sum:=⟨_,rfl⟩
 have Xb:∀ L:List au,L.Nodup->bQ L<=11200:=λL hL=>by
  simp only [qU]
  have h1:=inv.sum hL
  have h2:d.ab.length*k<=16*700:=HG k0 hk
  omega
 have Fh:∀ (w:au) L,bQ (w::L)=(facts w).length+bQ L:=λw L=>by simp only [qU,lA,Au]
 have pJ:bQ []=0:=by rw [qU];rfl
 obtain ⟨Iv,E7⟩:∃ Iv:Nat->Env->Heap->Option It->Prop,Iv=λm e' hh G=>∃ (L:List au) (seen:List Nat) (b2:Nat) (gq:au->Nat) (h1:Heap),hh=h1.lay [] h1.low/\(∃ J:Nat->ah,e'=(.pointer (some ⟨S0,0,none⟩)::jr J 1 2 (.pointer (some ⟨C0,0,none⟩)::jr J 4 15 (.chan (some BA)::jr J 20 31 ([])))))/\G=some ⟨BA,NM,Lt,seen⟩/\m=TY es seen/\Ext h h1/\Ck es nv seen L/\(∀ x,gq x<=bQ L)/\b2<=4*bQ L /\
  ((L=[]/\qF XX h.size h1 C0 d q/\(∃ E,eH XX 0 0 h1 C0 E d q (λ_=>[]) (λ_=>0) (λ_=>0)))\/∃ E2,eH XX h.size b2 h1 C0 E2 d q (tD [] L facts) (tD 0 L az) gq):=⟨_,rfl⟩
 refine SD.loop (c:=(N9 17)) (by kernel_rfl) Iv (n:=TY es []) (by
  rw [E7]
  exact ⟨[],[],0,λ_=>0,h',rfl,mv (by kernel_rfl),rfl,rfl,z,.start m2 m3 m4,λ_=>i6 _,i6 _,.inl ⟨rfl,by simpa using pP,rU⟩⟩) (λm e' hh G aP=>?_)
 clear rU pP x g1
 rw [E7] at aP
 obtain ⟨L,seen,b2,gq,h1,rfl,⟨J,rfl⟩,rfl,rfl,z,Ng,Yu,nF,M7⟩:=aP
 refine SD.seq (c1:=(N9 18)) (c2:=(N9 19)) (by kernel_rfl) ?_
 refine SD.region (id:=5) (ops:=en (N9 18)) (by kernel_rfl) ?_
 refine SL.next (g:=⟨BA,NM,Lt,seen⟩) (l:=lR (en (N9 18)) 1) (o:=mx (en (N9 18)) 0) (x:=.tmp 19) (d:=some 20) (by kernel_rfl) (by kernel_rfl) (by kernel_rfl) (by kernel_rfl) rfl (vj _ z) m5 (λy hy hys=>?_) (λaE=>?_)
 .refine SL.op B (l:=[]) (o:=mx (en (N9 18)) 1) (op:=.extract (.tmp 20) 0) (d:=some 21) (v:=.bool true) (by kernel_rfl) (by kernel_rfl) (by kernel_rfl) (by kernel_rfl) (by kernel_rfl) (λ_ _ _=>rfl) ?_
  refine SL.nil ?_
  rw [nt]
  refine SD.seq (c1:=(N9 20)) (c2:=(N9 23)) (by kernel_rfl) ?_
  refine SD.cond (c:=.tmp 21) (c1:=(N9 21)) (c2:=(N9 22)) (by kernel_rfl) (show ze (.bool true) _ _ from ⟨λ_=>?_,λh=>by cases h⟩)
  refine SD.Da B (by kernel_rfl) ?_
  simp only [aa,seval,c9,mC,nt]
  refine SD.block (id:=1) (c:=(N9 24)) (by kernel_rfl) ?_
  refine SD.seq (c1:=(N9 25)) (c2:=(N9 26)) (by kernel_rfl) ?_
  refine SD.region (id:=6) (ops:=en (N9 25)) (by kernel_rfl) ?_
  obtain ⟨w,gV,tY,hwL,mK⟩:=Ng.step hy hys
  obtain ⟨sv,dS,nH⟩:=g7 w _ tY
  obtain ⟨sa,sn,vC,rfl⟩:=nq nH
  refine SL.entry (g:=⟨BA,NM,Lt,seen++[y.born]⟩) (l:=lR (en (N9 25)) 1) (o:=mx (en (N9 25)) 0) (x:=.tmp 19) (d:=some 22) (by kernel_rfl) (by kernel_rfl) (by kernel_rfl) (by kernel_rfl) rfl (vj _ z) m4 hy rfl ?_
  rw [gV,dS]
  refine SL.rest B ?_
  simp only [aa,seval,c9]
  refine zkL (i:=0) rfl NQ rfl rfl rfl rfl ?_
  simp only [nR]
  simp only [aa,seval,c9,zAR,nt]
  have A8:(facts w).length+bQ L<=11200:=by rw [<- Fh];exact Xb _ mK.nodup
  obtain ⟨lu,RF⟩:∃ lu,lu=h1.lay [ba.row [.slice sa sn vC,.int .u64 (az w:Int)] 88 false] (min h1.low (h1.size+0)):=⟨_,rfl⟩
  rw [<- RF]
  have q5:Holds lu (h1.size+0) (.row [.slice sa sn vC,.int .u64 (az w:Int)] 88 false):=by rw [RF];exact ⟨by rw [bd];simp,by rw [iB];rfl⟩
  have f2:aM [] h1 lu:=by rw [RF];exact aM.lay _ _ _ _
  have hz:=z.size
  have z2:Ext h lu:=by rw [RF];exact z.aC
  obtain ⟨E3,b3,BM,Sd,CF,hu3⟩:∃ E3 b3 BM,eH XX h.size b3 lu C0 E3 d q (tD [] L facts) (tD 0 L az) BM/\b3<=4*bQ L/\∀ x,BM x<=bQ L:=by
   rcases M7 with ⟨rfl,pP,_⟩|⟨E2,sp⟩
   .obtain ⟨E,sp⟩:=pP lu (h1.size+0) f2 (by omega) q5.lt
    rw [zkn,zkn]
    exact ⟨E,0,_,sp,i6 _,λ_=>i6 _⟩
   .exact ⟨E2,b2,gq,sp.cT f2,nF,Yu⟩
  have an5:=inv.BN w
  have hlen:=inv.len w
  refine SD.Rl (ao lu) ?_
  refine SD.Da B (by kernel_rfl) ?_
  refine ztH d q w (facts w) (az w) (tD [] L facts) (tD 0 L az) BM h lu z2 XX E3 b3 C0 S0 (h1.size+0) BA Sd sa sn vC (nH.mono (nu _ _)) (by omega) (by omega) (λa ha x hx=>zjC (inv.ok w a ha) x hx) (by omega) (λx=>by have:=hu3 x;omega) q5 _ (mv (by kernel_rfl)) (λe' h' E4 Dd rN z' gz hu4=>?_)
  rw [mC,zgx]
  refine zh1 (zwJ hy hys) ?_
  rw [E7]
  refine ⟨w::L,seen++[y.born],b3+4*(facts w).length,Dd,h',ao h',rN,rfl,rfl,z',mK,λx=>?_,?_,.inr ⟨E4,?_⟩⟩
  rotate_right
  .rw [zlX,zlX]
   exact gz
  .have:=hu4 x
   have:=hu3 x
   rw [Fh]
   omega
  .rw [Fh]
   omega
 .refine SL.op B (l:=[]) (o:=mx (en (N9 18)) 1) (op:=.extract (.tmp 20) 0) (d:=some 21) (v:=.bool false) (by kernel_rfl) (by kernel_rfl) (by kernel_rfl) (by kernel_rfl) (by kernel_rfl) (λ_ _ _=>rfl) ?_
  refine SL.nil ?_
  rw [nt]
  refine SD.seq (c1:=(N9 20)) (c2:=(N9 23)) (by kernel_rfl) ?_
  refine SD.cond (c:=.tmp 21) (c1:=(N9 21)) (c2:=(N9 22)) (by kernel_rfl) (show ze (.bool false) _ _ from ⟨λh=>(by cases h),λ_=>?_⟩)
  refine SD.Da B (by kernel_rfl) ?_
  simp only [aa,seval,c9,mC,zma,zlN,zji,nt]
  refine SD.lg B (c1:=(N9 45)) (c2:=(N9 46)) (by kernel_rfl) (by kernel_rfl) ?_
  simp only [aa,seval,c9,mC,nt]
  refine SD.Da B (by kernel_rfl) ?_
  simp only [aa,seval,c9,mC]
  have dN:∀ w,w ∉ L->facts w=[]/\az w=0:=λw hw=>by
   cases hl:dq nv w with
   |none=>exact g6 w hl
   |some x=>exact absurd (Ng.all aE hl) hw
  have hF:tD [] L facts=facts:=zpy λw hw=>(dN w hw).1
  have hV:tD 0 L az=az:=zpy λw hw=>(dN w hw).2
  have fin:∃ E2 b2 gq,eH XX 0 b2 (h1.lay [] h1.low) C0 E2 d q facts az gq:=by
   rcases M7 with ⟨rfl,_,E,sp⟩|⟨E2,sp⟩
   .rw [zkn] at hF hV
    rw [hF,hV] at sp
    exact ⟨E,0,_,sp.lay _ _⟩
   .rw [hF,hV] at sp
    exact ⟨E2,b2,gq,sp.zero.lay _ _⟩
  obtain ⟨E2,b3,BM,sp⟩:=fin
  exact ⟨.inl trivial,_,rfl,hK _ C0 E2 b3 BM z.aC sp⟩
theorem Y4 (b:Bool):cm prog aG .neq 4 (.bool b) (.bool b)=some (.bool false):=by cases b <;> kernel_rfl
theorem UP:cm prog aG .eql 33 (.pointer none) (.pointer none)=some (.bool true):=by kernel_rfl
section
variable {E:List Nat} {N S2 NB:Nat} {h h1 h2:Heap} {bs:List ba} {w:Nat} {d:aq} {q:Int} {facts:au->aN} {az:au->Nat}
def Ax (E:List Nat) (N:Nat) (h:Heap) (S2 NB:Nat) (d:aq) (q:Int) (facts:au->aN) (az:au->Nat):Prop:=gC N (aD E h) S2 NB d q facts az
theorem Ax.over (f:Ax E N h1 S2 NB d q facts az) (x:Ext (h1.lay bs w) h2):Ax E N h2 S2 NB d q facts az:=gC.cY f ((aM.refl [] h1).over x)
theorem Ax.lay (f:Ax E N h1 S2 NB d q facts az) (bs:List ba) (w:Nat):Ax E N (h1.lay bs w) S2 NB d q facts az:=gC.cY f (aM.lay h1 bs w [])
theorem Ax.un (f:Ax E N h S2 NB d q facts az):gC N h S2 NB d q facts az:=gC.inc f (nu _ _)
end
theorem zlc (d0:aq) (l:List dM) (aR:au) (v lv:ah) (h:Heap) (cR:bc 1 h) (hx:KV h v d0) (hl:Sl aK.act h lv l):zn prog aG.gs 3 [v,lv,.string aR] h λv h'=>v=.bool true/\Ext h h':=by
 obtain ⟨p0,p1,p2,p5,p6,q,b,rfl,zD⟩:=hx
 obtain ⟨d,hd,hq,hb⟩:∃ d:aq,fx h p0 p1 p2 p5 p6 d/\d.dV=q/\d.cP=b:=⟨{ d0 with dV:=q,cP:=b },⟨zD.s0,zD.s1,zD.s2,zD.s5,zD.s6⟩,rfl,rfl⟩
 clear zD
 have bt:=hd.one q b
 have s7:=λ(hh:Heap)=>hl.bn mh hh
 refine zn.enter mixed vS zDn zCq (bu N3) (λρ0 w0 B=>?_)
 obtain ⟨J,hJ⟩:∃ J:Nat->ah,(([hU p0 p1 p2 p5 p6 q b,lv,.string aR]:List ah)++List.replicate (f3.ntmps - ([hU p0 p1 p2 p5 p6 q b,lv,.string aR]:List ah).length) undef)=(hU p0 p1 p2 p5 p6 q b::lv::.string aR::jr J 3 153 ([])):=mv (by kernel_rfl)
 rw [hJ]
 have z:=Ext.refl h
 refine SD.Rl (ao h) ?_
 refine SD.lg B (c1:=(N3 1)) (c2:=(N3 2)) (by kernel_rfl) (by kernel_rfl) ?_
 simp only [aa,seval,c3,kG,mC,nt]
 refine SD.lg B (c1:=(N3 3)) (c2:=(N3 10)) (by kernel_rfl) (by kernel_rfl) ?_
 simp only [aa,seval,c3]
 refine Ok.over (g:=JR 1) rfl (zz2 (cR.lay _ _)) ?_
 repeat' (first|simp only [aa,seval,c3,mC,nt]|((with_reducible apply ct);(· rfl)))
 refine SD.lg B (c1:=(N3 11)) (c2:=(N3 18)) (by kernel_rfl) (by kernel_rfl) ?_
 simp only [aa,seval,c3,↓iR,gO,fY]
 refine zj1 d _ _ _ _ _ _ _ _ (hd.lay _ _) _ (λb0 b1 b2 b3 b4 b5 b6 b7 h' x=>?_) (λh' x=>?_)
 rotate_left
 ·(replace z:=z.an x;rw [ao h'])
  simp only [aa,seval,c3]
  repeat' (((with_reducible apply ct);(· rfl)) <;> simp only [aa,seval,c3,mC,SW])
  exact ⟨.inl trivial,_,rfl,rfl,z.aC⟩
 have qP:=Holds.top (i:=0) x rfl
 (replace z:=z.an x;rw [ao h'])
 obtain ⟨P0,hP0⟩:∃ P0,P0=h.size+0:=⟨_,rfl⟩
 rw [<- hP0] at qP
 rw [<- hP0]
 repeat' (first|simp only [aa,seval,c3]|((with_reducible apply ct);(· rfl)))
 refine zpk l _ _ ((hl.mono z.inc).lay _ _) _ (λani aW h' x=>?_) (λh' x=>?_)
 rotate_left
 ·(replace z:=z.an x;( replace qP:=qP.over x );rw [ao h'])
  simp only [aa,seval,c3]
  repeat' (((with_reducible apply ct);(· rfl)) <;> simp only [aa,seval,c3,mC,SW])
  exact ⟨.inl trivial,_,rfl,rfl,z.aC⟩
 (replace z:=z.an x;replace qP:=qP.over x;rw [ao h'])
 simp only [aa,seval,c3]
 repeat' ((first|((with_reducible apply bq) <;> intro _)|((with_reducible apply ct);(· rfl))) <;> simp only [aa,seval,c3,mC,nt,SW])
 .exact ⟨.inl trivial,_,rfl,rfl,z.aC⟩
 refine SD.lg B (c1:=(N3 19)) (c2:=(N3 20)) (by kernel_rfl) (by kernel_rfl) ?_
 simp only [aa,seval,c3,qP.lay,↓iR,gO,fY]
 have hPN:Ef d:=⟨by omega,by omega,by omega,λr hr=>by have:=b5 r hr;omega,by omega,λg hg=>by have:=b7 g hg;omega⟩
 refine zB2 d _ _ _ _ _ q b _ ((cR.ext z).lay _ _) bt ((hd.mono z.inc).lay _ _) hq hb hPN (by omega) (by omega) [] (λ_ h=>nomatch h) _ (λaS h' x=>?_) (λheq h' S0 E0 x fb=>?_)
 ·(replace z:=z.an x;( replace qP:=qP.over x );rw [ao h'])
  simp only [aa,seval,c3,mC,nt]
  refine SD.lg B (c1:=(N3 21)) (c2:=(N3 22)) (by kernel_rfl) (by kernel_rfl) ?_
  simp only [aa,seval,c3,qP.lay,↓iR,gO,fY]
  refine zxc d _ _ _ _ _ q b _ bt ((hd.mono z.inc).lay _ _) hq hb (by omega) [] (λ_ h=>nomatch h) ((hd.mono z.inc).lay _ _) _ (λ_ h' x=>?_) (λhe=>absurd he aS)
  (replace z:=z.an x;replace qP:=qP.over x;rw [ao h'])
  simp only [aa,seval,c3,mC,nt]
  refine SD.lg B (c1:=(N3 23)) (c2:=(N3 30)) (by kernel_rfl) (by kernel_rfl) ?_
  simp only [aa,seval,c3]
  refine iS (λhe=>absurd rfl he) (λ_=>?_)
  simp only [aa,seval,c3]
  refine iS (λ_=>?_) (λhe=>absurd he aS)
  simp only [aa,seval,c3,UP,mC,SW]
  exact ⟨.inl trivial,_,rfl,rfl,z.aC⟩
 replace fb:=fb.down (N2:=h.size) (by rw [bd];have:=z.size;omega)
 have Np:=de.empty d
 obtain ⟨gw,k0⟩:=zjm heq
 have ob:=fb.lt.2
 (replace z:=z.an x;replace qP:=qP.over x;rw [ao h'])
 simp only [aa,seval,c3,mC,nt]
 refine SD.lg B (c1:=(N3 21)) (c2:=(N3 22)) (by kernel_rfl) (by kernel_rfl) ?_
 simp only [aa,seval,c3,qP.lay,↓iR,gO,fY]
 refine zxc d _ _ _ _ _ q b _ bt ((hd.mono z.inc).lay _ _) hq hb (by omega) E0 (λB hB=>by rw [bd];have:=(ob B hB).2;omega) (hd.mono (zjH (z.inc.trans (bH.lay _ _ _)) (λB hB=>(ob B hB).1))) _ (λaS=>absurd heq aS) (λ_ h' S2 NB x sd=>?_)
 have Rw:=sd.nb
 rw [fX] at Rw
 have WS:h.size<=NB:=by have h1:=Rw.1;rw [bd] at h1;have:=z.size;omega
 have NN:=(fb.lay [] _).fresh (X:=[NB]) (x.cT []) (λB hB=>by rw [fH.1 hB];exact Rw)
 clear fb
 replace sd:=sd.down (N2:=h.size) (by rw [bd];have:=z.size;omega)
 (replace z:=z.an x;replace qP:=qP.over x;rw [ao h'])
 simp only [aa,seval,c3,mC,nt]
 refine SD.lg B (c1:=(N3 23)) (c2:=(N3 30)) (by kernel_rfl) (by kernel_rfl) ?_
 simp only [aa,seval,c3,mC,nt]
 refine SD.seq (c1:=(N3 31)) (c2:=(N3 63)) (by kernel_rfl) ?_
 refine SD.lg B (c1:=(N3 32)) (c2:=(N3 33)) (by kernel_rfl) (by kernel_rfl) ?_
 simp only [aa,seval,c3,mC,nt]
 refine SD.block (id:=0) (c:=(N3 34)) (by kernel_rfl) ?_
 have nH:=cR.lt
 obtain ⟨Iv,E7⟩:∃ Iv:Nat->Env->Heap->Option It->Prop,Iv=λm e' hh G=>∃ (i:Nat) (E:List Nat) (facts:au->aN) (az us:au->Nat) (h1:Heap),hh=h1.lay [] h1.low/\(∃ J:Nat->ah,e'=(J 0::lv::.string aR::jr J 3 4 (.pointer (some ⟨S0,0,none⟩)::J 8::.pointer (some ⟨S2,0,none⟩)::J 10::.int .i64 i::jr J 12 144 ([]))))/\G=none/\m=l.length - i/\i<=l.length/\Ext h h1/\eH [NB] h.size (4*i) h1 S0 E d q facts az us/\gC h.size (aD E h1) S2 NB d q facts az/\de d i facts az us/\xd d az:=⟨_,rfl⟩
 refine SD.loop (c:=(N3 35)) (by kernel_rfl) Iv (n:=l.length - 0) (by
  rw [E7]
  exact ⟨0,E0,_,_,_,h',rfl,mv (by kernel_rfl),rfl,rfl,i6 _,z,NN,sd,Np,λ_ _=>rfl⟩) (λm e' hh G aP=>?_)
 clear NN sd Np qP x z Rw
 rw [E7] at aP
 obtain ⟨i,E,facts,az,us,h1,rfl,⟨J,rfl⟩,rfl,rfl,hi,z,fb,sd,inv,out⟩:=aP
 have gk:=ei i (by omega)
 have hz:=z.size
 refine SD.lg B (c1:=(N3 36)) (c2:=(N3 41)) (by kernel_rfl) (by kernel_rfl) ?_
 simp only [aa,seval,c3,s7]
 refine bq (λML=>?_) (λkW=>?_)
 rotate_left
 .simp only [aa,seval,c3,mC,zma,zlN,zji,nt]
  refine SD.Da B (by kernel_rfl) ?_
  simp only [aa,seval,c3,mC]
  exact ⟨.inl trivial,_,rfl,rfl,z.aC⟩
 obtain ⟨r,hr,bT⟩:=fo (l:=l) (i:=i) (by omega)
 have Ir:=(aW r (fW bT)).2
 simp only [aa,seval,c3,mC,nt]
 refine SD.seq (c1:=(N3 42)) (c2:=(N3 62)) (by kernel_rfl) ?_
 refine SD.block (id:=1) (c:=(N3 43)) (by kernel_rfl) ?_
 refine SD.seq (c1:=(N3 44)) (c2:=(N3 45)) (by kernel_rfl) ?_
 refine SD.region (id:=12) (ops:=en (N3 44)) (by kernel_rfl) ?_
 refine SL.op B (l:=lR (en (N3 44)) 1) (o:=mx (en (N3 44)) 0) (op:=.move (.tmp 7)) (d:=some 59) (v:=.pointer (some ⟨S0,0,none⟩)) (by kernel_rfl) (by kernel_rfl) (by kernel_rfl) (by kernel_rfl) (by kernel_rfl) (λ_ _ _=>rfl) ?_
 refine SL.call (l:=lR (en (N3 44)) 2) (o:=mx (en (N3 44)) 1) (f:=.func 9) (args:=#[.tmp 59]) (ats:=#[33]) (d:=some 60) (gf:=9) B (by kernel_rfl) (by kernel_rfl) (by kernel_rfl) (by kernel_rfl) rfl ?_
 have WQ:=sd.nb
 rw [fX] at WQ
 refine zw1 d q facts az us _ ((cR.ext z).lay _ _) h.size _ i S0 E nH [NB] (λB hB=>by rw [fH.1 hB];exact WS) (fb.lay _ _) inv (by omega) (by omega) _ (λh2 C0 E2 b2 gq x2 Se=>?_)
 refine SL.op B (l:=[]) (o:=mx (en (N3 44)) 2) (op:=.assign (.tmp 60)) (d:=some 12) (v:=.pointer (some ⟨C0,0,none⟩)) (by kernel_rfl) (by kernel_rfl) (by kernel_rfl) (by kernel_rfl) (by kernel_rfl) (λ_ _ _=>rfl) ?_
 refine SL.nil ?_
 rw [nt]
 replace fb:=fb.over x2
 replace sd:=sd.cY ((aM.refl [] h1).over x2)
 replace z:=z.an x2
 clear x2
 have AV:=λB hB=>(fb.lt.2 B hB).2
 have gv:=λw=>inv.len w
 refine SD.Rl (ao h2) ?_
 refine SD.Da B (by kernel_rfl) ?_
 simp only [aa,seval,c3]
 refine zw0 d q facts az _ h.size S2 NB E (sd.cY (aM.lay _ _ _ _)) (λB hB=>by rw [bd];have:=AV B hB;omega) (by omega) (λw=>by have:=gv w;omega) _ (λh' S3 me x sd3=>?_)
 replace fb:=fb.over x
 replace sd:=sd.cY ((aM.refl [] h2).over x)
 replace Se:=Se.over x
 (replace z:=z.an x;rw [ao h'])
 clear x
 have amj:=λB hB=>(fb.lt.2 B hB).2
 simp only [aa,seval,c3]
 with_reducible first|refine dL (by simp only [c3]) z.aC ?_
 simp only [aa,seval,c3]
 repeat' ((first|with_reducible refine DW (hl.mono z.inc) mh oB (by omega) hr (λp hp=>?_)|with_reducible refine zFg hp KZ oB ?_) <;> simp only [aa,seval,c3])
 refine zBV d q r facts az us h _ z.aC h.size (4*i) i S0 S2 NB E rfl (fb.lay _ _) (sd.cY (aM.lay _ _ _ _)) inv gw k0 ((cR.ext z).lay _ _) Ir (by omega) (by omega) _ (λh4 E4 Dd z4 f4 hE4 gz Sb q8=>?_)
 have td:=f4.size
 rw [bd] at td
 refine zS (by kernel_rfl) z4.low (by rw [bd];exact td) ?_
 have f34:aM (NB::E) h' h4:=(aM.lay h' [] _ (NB::E)).trans f4 (λB hB=>.inl hB)
 have yN:=Se.by (f34.mono (D':=E++[NB]) (λB hB=>by
  rcases cJ.1 hB with rfl|hB
  .exact Jn _ (by simp)
  .exact Jl _ hB))
 have yM:gC 0 h4 S3 me d q facts az:=(sd3.inc (f34.inc (λB hB=>.inl hB))).inc (nu _ _)
 have Gx:xd d (oK az r.s (gX d q r (facts r.s))):=out.turn
 obtain ⟨ey,Ic⟩:∃ F,F=qi facts r.s (gX d q r (facts r.s)):=⟨_,rfl⟩
 obtain ⟨iX,hv4⟩:∃ F,F=oK az r.s (gX d q r (facts r.s)):=⟨_,rfl⟩
 rw [<- Ic] at gz Sb q8
 rw [<- hv4] at gz Sb q8 Gx
 have hZ:Ax E4 h.size h4 S2 NB d q ey iX:=Sb
 have FF:=λw=>q8.len w
 have M1:=gv r.s
 clear z fb sd Se sd3 f4 f34 Sb Ic hv4 hp
 have z:=z4
 rw [ao h4]
 simp only [aa,seval,c3]
 (with_reducible apply ct);(· rfl)
 simp only [aa,seval,c3]
 repeat' ((first|with_reducible refine DW (hl.mono z.inc) mh oB (by omega) hr (λp hp=>?_)|with_reducible refine QF hp DL (λqq hq=>?_)|with_reducible refine iY hq kJ ?_) <;> simp only [aa,seval,c3])
 refine zpf r.s d q facts az gq _ _ _ C0 E2 (yN.lay _ _).un (by omega) _ (λh' w1 A1 x o1=>?_)
 have s1:=o1.sl (by decide)
 (((with_reducible refine cW ?_ ?_ ?_);(· exact (by (simp only [cV]);have:=z.size;omega));(· exact x));replace z:=z.an x;replace gz:=gz.over x;replace yN:=yN.over x;replace yM:=yM.over x;replace hZ:=hZ.over x;rw [ao h'])
 repeat' (first|simp only [aa,seval,c3]|with_reducible refine DW (hl.mono z.inc) mh oB (by omega) hr (λp hp=>?_)|with_reducible refine QF hp DL (λqq hq=>?_)|with_reducible refine iY hq kJ ?_)
 refine S6 r.s d q facts az _ 0 S3 me (yM.lay _ _) inv.out (by omega) _ (λh' w2 A2 x o2=>?_)
 have s2:=o2.sl (by decide)
 (((with_reducible refine cW ?_ ?_ ?_);(· exact (by (simp only [cV]);have:=z.size;omega));(· exact x));replace z:=z.an x;replace gz:=gz.over x;replace yN:=yN.over x;replace yM:=yM.over x;replace hZ:=hZ.over x;replace s1:=s1.over x;rw [ao h'])
 simp only [aa,seval,c3]
 refine zh5 (facts r.s) (facts r.s) w1 w2 _ (s1.lay _ _) (s2.lay _ _) (by omega) (by omega) _ (λh' x=>?_)
 rw [pn rfl]
 clear s1 s2 o1 o2
 (((with_reducible refine cW ?_ ?_ ?_);(· exact (by (simp only [cV]);have:=z.size;omega));(· exact x));replace z:=z.an x;replace gz:=gz.over x;replace yN:=yN.over x;replace yM:=yM.over x;replace hZ:=hZ.over x;rw [ao h'])
 simp only [aa,seval,c3]
 (with_reducible apply ct);(· rfl)
 repeat' (first|simp only [aa,seval,c3]|with_reducible refine DW (hl.mono z.inc) mh oB (by omega) hr (λp hp=>?_)|with_reducible refine QF hp DL (λqq hq=>?_)|with_reducible refine iY hq kJ ?_)
 refine zj5 r.s d q facts az gq _ _ _ C0 E2 (yN.lay _ _).un _ (λh' x=>?_)
 (((with_reducible refine cW ?_ ?_ ?_);(· exact (by (simp only [cV]);have:=z.size;omega));(· exact x));replace z:=z.an x;replace gz:=gz.over x;replace yN:=yN.over x;replace yM:=yM.over x;replace hZ:=hZ.over x;rw [ao h'])
 repeat' (first|simp only [aa,seval,c3]|with_reducible refine DW (hl.mono z.inc) mh oB (by omega) hr (λp hp=>?_)|with_reducible refine QF hp DL (λqq hq=>?_)|with_reducible refine iY hq kJ ?_)
 refine zj4 r.s d q facts az _ 0 S3 me (yM.lay _ _) (out _) _ (λh' x=>?_)
 clear yN yM
 (((with_reducible refine cW ?_ ?_ ?_);(· exact (by (simp only [cV]);have:=z.size;omega));(· exact x));replace z:=z.an x;replace gz:=gz.over x;replace hZ:=hZ.over x;rw [ao h'])
 simp only [aa,seval,c3]
 refine iS (λhe=>absurd rfl he) (λ_=>?_)
 simp only [aa,seval,c3]
 ((with_reducible refine ⟨z.cK.lay _ _,?_⟩);(intro _ h' zz x _);(simp only [b9,bG] at x);replace gz:=gz.over x;replace hZ:=hZ.over x;(replace z:=zz);(clear zz);rw [ao h'])
 simp only [aa,seval,c3]
 with_reducible first|refine dL (by simp only [c3]) z.aC ?_
 simp only [aa,seval,c3]
 have hw4:=FF aR
 have ha4:=FF r.a.says
 refine zpf aR d q ey iX Dd _ _ _ S0 E4 (gz.lay _ _).un (by omega) _ (λh' w3 A3 x o3=>?_)
 have s3:=o3.sl (by decide)
 (((with_reducible refine cW ?_ ?_ ?_);(· exact (by (simp only [cV]);have:=z.size;omega));(· exact x));replace z:=z.an x;replace gz:=gz.over x;replace hZ:=hZ.over x;rw [ao h'])
 simp only [aa,seval,c3]
 refine S6 aR d q ey iX _ h.size S2 NB (hZ.un.lay _ _) q8.out (by omega) _ (λh' w4 A4 x o4=>?_)
 have s4:=o4.sl (by decide)
 (((with_reducible refine cW ?_ ?_ ?_);(· exact (by (simp only [cV]);have:=z.size;omega));(· exact x));replace z:=z.an x;replace gz:=gz.over x;replace hZ:=hZ.over x;replace s3:=s3.over x;rw [ao h'])
 simp only [aa,seval,c3]
 refine zh5 (ey aR) (ey aR) w3 w4 _ (s3.lay _ _) (s4.lay _ _) (by omega) (by omega) _ (λh' x=>?_)
 rw [pn rfl]
 clear s3 s4 o3 o4
 (((with_reducible refine cW ?_ ?_ ?_);(· exact (by (simp only [cV]);have:=z.size;omega));(· exact x));replace z:=z.an x;replace gz:=gz.over x;replace hZ:=hZ.over x;rw [ao h'])
 simp only [aa,seval,c3]
 (with_reducible apply ct);(· rfl)
 simp only [aa,seval,c3]
 refine zj5 aR d q ey iX Dd _ _ _ S0 E4 (gz.lay _ _).un _ (λh' x=>?_)
 (((with_reducible refine cW ?_ ?_ ?_);(· exact (by (simp only [cV]);have:=z.size;omega));(· exact x));replace z:=z.an x;replace gz:=gz.over x;replace hZ:=hZ.over x;rw [ao h'])
 simp only [aa,seval,c3]
 refine zj4 aR d q ey iX _ h.size S2 NB (hZ.un.lay _ _) (Gx _) _ (λh' x=>?_)
 (((with_reducible refine cW ?_ ?_ ?_);(· exact (by (simp only [cV]);have:=z.size;omega));(· exact x));replace z:=z.an x;replace gz:=gz.over x;replace hZ:=hZ.over x;rw [ao h'])
 simp only [aa,seval,c3]
 refine iS (λhe=>absurd rfl he) (λ_=>?_)
 simp only [aa,seval,c3]
 refine zw5 aR d q ey iX Dd _ _ _ S0 E4 (gz.lay _ _).un _ (λh' x=>?_)
 (((with_reducible refine cW ?_ ?_ ?_);(· exact (by (simp only [cV]);have:=z.size;omega));(· exact x));replace z:=z.an x;replace gz:=gz.over x;replace hZ:=hZ.over x;rw [ao h'])
 simp only [aa,seval,c3]
 refine zw4 aR d q ey iX _ h.size S2 NB (hZ.un.lay _ _) q8.out (by omega) _ (λh' x=>?_)
 (((with_reducible refine cW ?_ ?_ ?_);(· exact (by (simp only [cV]);have:=z.size;omega));(· exact x));replace z:=z.an x;replace gz:=gz.over x;replace hZ:=hZ.over x;rw [ao h'])
 simp only [aa,seval,c3]
 refine iS (λhe=>absurd rfl he) (λ_=>?_)
 simp only [aa,seval,c3]
 repeat' ((first|with_reducible refine DW (hl.mono z.inc) mh oB (by omega) hr (λp hp=>?_)|with_reducible refine zwo hp Jt (λqq hq=>?_)|with_reducible refine mw hq fD bN ?_) <;> simp only [aa,seval,c3])
 obtain ⟨hh,tX⟩:∃ hh,hh=decide (r.a∈ey r.a.says):=⟨_,rfl⟩
 have o7:∀ (b:Bool) (h:Heap) (K:aI),aH (some (.bool b)) h K=K (.bool b) h:=λ_ _ _=>rfl
 refine zBY r.a d q ey iX Dd _ _ _ S0 E4 (gz.lay _ _).un (by omega) _ (λh' x=>?_)
 rw [<- tX]
 (((with_reducible refine cW ?_ ?_ ?_);(· exact (by (simp only [cV]);have:=z.size;omega));(· exact x));replace z:=z.an x;replace gz:=gz.over x;replace hZ:=hZ.over x;rw [ao h'])
 repeat' (first|simp only [aa,seval,c3]|with_reducible refine DW (hl.mono z.inc) mh oB (by omega) hr (λp hp=>?_)|with_reducible refine zwo hp Jt (λqq hq=>?_)|with_reducible refine mw hq fD bN ?_)
 refine zBW r.a d q ey iX _ h.size S2 NB (hZ.un.lay _ _) q8.out (by omega) _ (λh' x=>?_)
 rw [<- tX]
 (((with_reducible refine cW ?_ ?_ ?_);(· exact (by (simp only [cV]);have:=z.size;omega));(· exact x));replace z:=z.an x;replace gz:=gz.over x;replace hZ:=hZ.over x;rw [ao h'])
 simp only [aa,seval,c3,o7,Y4]
 refine zxr d q ey iX Dd _ _ _ S0 E4 (gz.lay _ _).un _ (λh' n1 x c1 _=>?_)
 (((with_reducible refine cW ?_ ?_ ?_);(· exact (by (simp only [cV]);have:=z.size;omega));(· exact x));replace z:=z.an x;replace gz:=gz.over x;replace hZ:=hZ.over x;rw [ao h'])
 simp only [aa,seval,c3]
 refine zxq d q ey iX _ h.size S2 NB (hZ.un.lay _ _) (by omega) (λw=>by have:=FF w;omega) _ (λh' tl x Fc wC=>?_)
 have FL:n1=tl.length:=c1.same (m:=tl.length) ⟨tl,Fc.nodup,λt=>by rw [wC t,q8.use,zyb],rfl⟩ (λt=>Iff.rfl)
 subst FL
 (((with_reducible refine cW ?_ ?_ ?_);(· exact (by (simp only [cV]);have:=z.size;omega));(· exact x));replace z:=z.an x;replace gz:=gz.over x;replace hZ:=hZ.over x;rw [ao h'])
 simp only [aa,seval,c3]
 refine iS (λhe=>absurd rfl he) (λ_=>?_)
 simp only [aa,seval,c3]
 ((with_reducible refine ⟨z.cK.lay _ _,?_⟩);(intro _ h' zz x _);(simp only [b9,bG] at x);replace gz:=gz.over x;replace hZ:=hZ.over x;(replace z:=zz);(clear zz);rw [ao h'])
 simp only [aa,seval,c3,mC,zgx,nt]
 refine SD.Da B (by kernel_rfl) ?_
 simp only [aa,seval,c3,mC]
 rw [gk]
 refine zh1 (m':=l.length - (i+1)) (by omega) ?_
 rw [E7]
 exact ⟨i+1,E4,ey,iX,Dd,h',rfl,mv (by kernel_rfl),rfl,rfl,by omega,z,gz,hZ,q8,Gx⟩
end Go.Proofs.YtmamldleclamjaaGreatDoor
