/- The code of some functions, node by node, for simp. Written by a program (mkcode.py). No condition. -/
import Derived.Test.YtiapegieocgmfaaGreatDoorG37
set_option linter.unusedSimpArgs false
set_option linter.unusedVariables false
set_option maxRecDepth 100000
set_option maxHeartbeats 0
namespace Go.Proofs.YtiapegieocgmfaaGreatDoor
open Go.Am Tryz
noncomputable def N8:=bA f8
noncomputable def x8:=PLift.up (by have c:=bB N8 f8;simp only [aN,f8,seval] at c;exact nd c <| nd @EX <| nd @Lk <| nd @zv3 <| nd @zv4 <| nd @Ub <| nd @zz2 <| nd @zz3 <| nd @j4 <| nd @dZ <| nd @mI <| nd @cq <| nd @za <| nd @GX <| nd @zb <| nd @je <| @fi8)
theorem c8:type_of% x8.down:=x8.down
theorem zAo (us:au->Nat) (cs:List au) (x:au):jc us cs x<=us x+1:=by
 unfold jc
 split <;> omega
theorem ztA (d:aq) (q:Int) (who:au) (l:aS) (vv:Nat) (F:au->aS) (V us:au->Nat) (h hc:Heap) (z:Ext h hc) (X E:List Nat) (b C0 S0 P5 B1:Nat) (dz:eC X h.size b hc C0 E d q F V us) (sa:Option Addr) (sn sc:Nat) (hs:Sl aM.atom h (.slice sa sn sc) l) (hl:l.length<=1000) (hv:vv < 1000000000)
 (lS:∀ a∈l,∀ x,xg a x->x.size≠0/\x.size<=255) (hb:b+4*l.length < 60000) (kD:∀ x,us x+l.length < 1000000000) (q5:Holds hc P5 (.row [.slice sa sn sc,.int .u64 (vv:Int)] 83 false)) (Q:Ex->Env->Heap->Prop) {e:Env}
 (he:∃ J:Nat->ab,e=(.pointer (some ⟨S0,0,none⟩)::jr J 1 2 (.pointer (some ⟨C0,0,none⟩)::.string who::.pointer (some ⟨P5,0,none⟩)::jr J 6 13 (.chan (some B1)::jr J 20 31 ([])))))
 (hk:∀ e' h' E3 tq,(∃ J:Nat->ab,e'=(.pointer (some ⟨S0,0,none⟩)::jr J 1 2 (.pointer (some ⟨C0,0,none⟩)::jr J 4 15 (.chan (some B1)::jr J 20 31 ([])))))->Ext h h'->eC X h.size (b+4*l.length) h' C0 E3 d q (ly F who l) (fP V who vv) tq->(∀ x,tq x<=us x+l.length)->Q .normal e' h'):W prog aD ov none (N8 26) e (hc.lay [] hc.low) Q:=by
 obtain ⟨J,rfl⟩:=he
 obtain ⟨⟨T0,D,NM,v0,v1,nv,rfl,x1,x2,x3,x4,x5,g6,x7,g8,g9,g10,g11⟩,jV,FO⟩:=dz
 have ux:=aL.iR X hc
 have Br:=x1.alive (by simp)
 have uZ:NM ∉ X:=jV _ (by simp)
 have g1:=x1.bN ux Br
 have g2:=x2.bN ux (λB hB=>jV B (fB _ hB))
 have g3:=x3.hold (λb q=>q.bN ux uZ)
 have rn:=z.size
 have Yf:P5≠NM:=λe5=>by
  obtain ⟨es,LO,m1,_⟩:=g3
  have:=m1.get.symm.trans (e5 ▸ q5.get)
  cases this
 have Mm:∀ B∈NM::D,B < hc.size:=λB hB=>by
  rcases dh.1 hB with rfl|hB
  .exact g3.lt
  .exact (g2.lo B hB).2
 have tf:∀ (h:Heap) (K:aF),aC (some (.slice sa sn sc)) h K=K (.slice sa sn sc) h:=λ_ _=>rfl
 have fr:aL [] hc hc:=aL.refl [] hc
 simp only [aa,seval,c8]
 with_reducible first|refine dL (by simp only [c8]) z.aA ?_
 simp only [aa,seval,c8,mN,bO,dm,g1.lay,J5,q5.lay,tf]
 refine zlC l _ _ ((hs.mono z.inc).lay _ _) (by omega) _ (λh' w A x o=>?_)
 ((first|((with_reducible refine cU ?_ ?_ ?_);(· exact (by (try simp only [ck]);have:=z.size;omega));(· first|exact x|simpa only [oN] using x))|skip);replace z:=z.ec x (by (try simp only [ck]);omega);(try replace g1:=g1.over x);(try replace q5:=q5.over x);(try replace fr:=fr.over x);rw [ao h'])
 obtain ⟨wa,wn,wc,rfl⟩:=rG (o.sl (by decide))
 have IL:∀ (h:Heap) (K:aF),aC (some (.slice wa wn wc)) h K=K (.slice wa wn wc) h:=λ_ _=>rfl
 simp only [aa,seval,c8,mN,bO,dm,IL,j6,g1.lay,J5,q5.lay,Oh,zCe,PW]
 have gm:=g3.hold (λb q=>q.bN fr (by simp))
 refine zs1 gm uV CJ (λh3 m3 c3=>?_)
 have hz:=z.size
 have FJ:h.size<=NM:=by omega
 have XL:=g3.lt
 have hfs:=fr.size
 refine og (A:=NM) (by kernel_rfl) (by rw [bc];omega) (by omega) (by simpa only [bM,bc,bu,dn,dN,iU] using c3) ?_
 have z3:=(z.kN [] (h'.size+0) (by omega)).step c3 FJ
 have f3:aL [NM] h' h3:=(aL.refl [NM] h').iL c3 (.inl (by simp))
 have Xa:C0≠NM:=λe=>g8 (by rw [e];simp)
 have k1:=o.aG (D:=(NM::D)++X) (λ_ _ _ _ q=>q) (by decide) (λB hB=>by
  rw [bc]
  rcases mj.1 hB with hB|hB
  .have:=Mm B hB;omega
  .have:=FO B hB;omega)
 rw [SM] at k1
 have q6:=q5.br c3 Yf
 clear z q5
 have z:=z3
 rw [ao h3]
 simp only [aa,seval,c8]
 ((with_reducible refine ⟨z.cn.lay _ _,?_⟩);(intro _ h4 zz x _);(try simp only [bM,bu] at x))
 replace f3:=f3.over x
 replace m3:=m3.over x
 replace q6:=q6.over x
 clear z
 have z:=zz
 have f4:aL [NM] h' h4:=f3
 have f5:aL [NM] hc h4:=fr.mono (D':=[NM]) (λ_ h=>nomatch h) |>.trans f4 (λB hB=>.inl hB)
 have vD:∀ B∈[NM],B∈NM::D:=λB hB=>by rw [hU.1 hB];simp
 have i1:bL (aG (NM::D) (aG X hc)) (aG (NM::D) (aG X h4)):=((f5.kill X).mono vD).inc (λB hB=>.inl hB)
 have i2:bL (aG (NM::D) (aG X h')) (aG (NM::D) (aG X h4)):=((f4.kill X).mono vD).inc (λB hB=>.inl hB)
 have mK:eC X h.size b h4 C0 (NM::D) d q (ly F who l) (fP V who vv) us:=⟨⟨T0,D,NM,v0,v1,fZ nv who (.agg #[.slice wa wn wc,.int .u64 (vv:Int)]),rfl,x1.bN (f5.kill X) (by simpa using Xa),x2.bN (f5.kill X) (λB hB hm=>g9 (by rw [<- hU.1 hm];exact hB)),m3.hold (λ_ q=>q.kg uZ),x4.mono i1,x5.mono i1,λw hw=>by
  rw [Hu] at hw
  by_cases mY:w=who
  .rw [aE mY] at hw;cases hw
  .rw [az mY] at hw
   unfold ly
   rw [az mY,tF mY]
   exact g6 w hw,λw y hw=>by
  rw [Hu] at hw
  by_cases mY:w=who
  .rw [aE mY] at hw
   cases hw
   subst mY
   unfold ly
   rw [aE rfl,wW]
   exact ⟨_,rfl,k1.mono i2⟩
  .rw [az mY] at hw
   unfold ly
   rw [az mY,tF mY]
   exact (x7 w y hw).imp λv hv=>⟨hv.1,hv.2.mono i1⟩,g8,g9,g10,g11⟩,jV,λB hB=>dB (FO B hB) f5.size⟩
 rw [ao h4]
 have td:Sl aM.atom h4 (.slice sa sn sc) l:=hs.mono z.inc
 have df:=λ(hh:Heap)=>td.bo bJ hh
 simp only [aa,seval,c8,q6.lay,tf,df,bO]
 obtain ⟨I1,aU⟩:∃ I:Nat->Env->Heap->Prop,I=(λn e h'=>∃ (i:Nat) (E2:List Nat) (gd:au->Nat) (h1:Heap),h'=h1.lay [] h1.low/\Ext h h1/\(n=l.length - i/\i<=l.length/\eC X h.size (b+4*i) h1 C0 E2 d q (ly F who l) (fP V who vv) gd/\(∀ x,gd x<=us x+i))/\∃ J:Nat->ab,e=(.pointer (some ⟨S0,0,none⟩)::jr J 1 2 (.pointer (some ⟨C0,0,none⟩)::jr J 4 15 (.chan (some B1)::jr J 20 17 (.slice sa sn sc::.int .i64 l.length::.int .i64 i::jr J 40 11 ([])))))):=⟨_,rfl⟩
 refine dA I1 _ (by rw [aU];exact ⟨0,NM::D,us,_,rfl,z,⟨rfl,lE _,mK,λ_=>bj _⟩,bl⟩) ?_
 intro n e h' aO
 rw [aU] at aO
 obtain ⟨i,E2,gd,bC,rfl,z,hinv,J,rfl⟩:=aO
 obtain ⟨rfl,hi,wT,hu⟩:=hinv
 have ij:Sl aM.atom bC (.slice sa sn sc) l:=hs.mono z.inc
 obtain ⟨⟨T1,D1,Rz,w0,w1,nw,rfl,y1,y2,e3,e4,e5,e6,e7,e8,e9,LU,LV⟩,Mf,Mq⟩:=id wT
 have ux1:=aL.iR X bC
 have zV:∀ B∈D1,B ∉ X:=λB hB=>Mf B (fB _ hB)
 have e1:=y1.bN ux1 (y1.alive (by simp))
 have e2:=y2.bN ux1 zV
 have o7:aL [] bC bC:=aL.refl [] bC
 clear q6
 simp only [aa,seval,c8,tf]
 refine bn (λaT=>?_) (λka=>?_)
 rotate_left
 .have iX:i=l.length:=by omega
  subst iX
  simp only [aa,seval,c8]
  exact hk _ _ _ gd (oM (by kernel_rfl)) z.aA (wT.lay _ _) hu
 have fH:=ei i (by omega)
 simp only [aa,seval,c8,tf]
 refine Y1 ij bJ bH (by omega) (by omega) (λa p ha hp=>?_)
 simp only [aa,seval,c8,tf]
 refine ma hp eP bH ?_
 simp only [aa,seval,c8,j6]
 refine zuM bH rfl ?_
 simp only [aa,seval,c8]
 with_reducible first|refine dL (by simp only [c8]) z.aA ?_
 simp only [aa,seval,c8,dm,e1.lay,↓ZV,eE,↓eY,eJ,dX,j6]
 refine zsE a h _ z.aA D1 T1 (b+4*i) gd (e2.lay _ _) (by omega) (lS a (ic ha)) (λx=>by have:=hu x;have:=kD x;omega) _ (λh5 cs D2 z5 mz yA iG b8 tm uY=>?_)
 have yR:=mz.size
 rw [bc] at yR
 refine vT (by kernel_rfl) z5.low (by rw [bc];exact yR) ?_
 have nW:aL D1 bC h5:=(aL.lay bC _ _ D1).trans mz (λB hB=>.inl hB)
 clear z
 have z:=z5
 rw [ao h5]
 simp only [aa,seval,c8]
 ((with_reducible refine ⟨z.cn.lay _ _,?_⟩);(intro _ h6 zz x _);(try simp only [bM,bu] at x))
 replace nW:=nW.over x
 replace tm:=tm.over x
 clear z
 have z:=zz
 rw [ao h6]
 simp only [aa,seval,c8]
 rw [fH]
 have rW:∀ B∈D2,B∈D1\/bC.size<=B:=λB hB=>(uY B hB).imp id (λe=>by rw [bc] at e;omega)
 have XA:=nW.size
 have qY:∀ B∈D2,B ∉ X:=λB hB hx=>by
  rcases rW B hB with e|e
  .exact zV B e hx
  .have:=Mq B hx;omega
 have zj:eC X h.size (b+4*(i+1)) h6 C0 (Rz::D2) d q (ly F who l) (fP V who vv) (jc gd cs):=by
  rw [show b+4*(i+1)=b+4*i+4 by omega]
  refine ⟨nV.turn y1 e3 e4 e5 e6 e7 e8 e9 LU LV (nW.kill X) (tm.bN (aL.dead X _) qY) (λB hB=>by rw [iC];exact rW B hB),λB hB=>?_,λB hB=>dB (Mq B hB) XA⟩
  rcases dh.1 hB with rfl|hB
  .exact Mf _ (by simp)
  .exact qY B hB
 (rw [aU];with_reducible refine cy (m:=_) ?_ ⟨i+1,Rz::D2,jc gd cs,_,rfl,z,⟨rfl,by omega,zj,λx=>by have h1:=hu x;have h2:=zAo gd cs x;omega⟩,bl⟩;omega)
theorem SD.RP {P:Program} {ρ0:cm} {h0 h h2:Heap} {w0:World} {c:Code} {e:Env} {G:Option It} {Q:Ex->Env->Heap->Option It->Prop} (hh:h=h2) (s:SD P ρ0 h0 w0 c e h2 G Q):SD P ρ0 h0 w0 c e h G Q:=by
 subst hh
 exact s
def mJ (A:Array Oper) (n:Nat):Oper:=(A.toList[n]?).getD default
def EZ:ab->Nat
 | .slice (some a) _ _=>a.block
 |_=>0
theorem zsT {Z:Type} {r:aM Z} (fU:∀ h h' cs x,r.R h cs x->r.R h' cs x) {h:Heap} {v:ab} {l:List Z} (f:Sl r h v l) {G:Nat} (hG:EZ v≠G):Sl r (aG [G] h) v l:=by
 rcases f with f|⟨A,o,c,row,u,ro,rfl,e2,e3,e4,e5,e6⟩
 .exact .inl f
 .refine .inr ⟨A,o,c,row,u,ro,rfl,e2,e3,by rw [iC];exact e4,?_,λi x hx=>(e6 i x hx).imp λcs hc=>⟨hc.1,fU _ _ _ _ hc.2⟩⟩
  rw [oS (show A ∉ [G] from λhm=>hG (hU.1 hm))]
  exact e5
theorem zBu (a b x y z:Nat) (h1:x≠y) (h2:x≠z) (h3:y≠z):∃ g,(g=x\/g=y\/g=z)/\a≠g/\b≠g:=by
 by_cases hx:a≠x/\b≠x
 .exact ⟨x,.inl rfl,hx⟩
 .by_cases hy:a≠y/\b≠y
  .exact ⟨y,.inr (.inl rfl),hy⟩
  .exact ⟨z,.inr (.inr rfl),by omega,by omega⟩
theorem zwF (d:aq) (q:Int) (facts:au->aS) (aI us:au->Nat) (h:Heap) (cG:bd 1 h) (N b k S0:Nat) (E:List Nat) (hN:1 < N) (dz:nV N b h S0 E d q facts aI us) (inv:cZ d k facts aI us) (mn:d.ah.length<=16) (hk:k<=700) (K:aF)
 (hK:∀ h' C0 E2 b2 gd,Ext h h'->eC E 0 b2 h' C0 E2 d q facts aI gd->K (.pointer (some ⟨C0,0,none⟩)) h'):zP prog aD.gs 8 [.pointer (some ⟨S0,0,none⟩)] h K:=by
 have aT:=dz
 obtain ⟨T0,D,NM,v0,v1,nv,rfl,g1,g2,⟨es,LO,m1,m2,m3,m4,m5⟩,g4,g5,g6,g7,g8,g9,g10,g11⟩:=id dz
 have WS:∀ B∈NM::D,N<=B/\B < h.size:=λB hB=>by
  rcases dh.1 hB with rfl|hB
  .exact ⟨g11,m1.lt⟩
  .exact g2.lo B hB
 obtain ⟨G0,WU,hGa,hGb⟩:=zBu (EZ v0) (EZ v1) 0 1 S0 (by decide) (by omega) (by omega)
 have ank:=cG.lt
 have Xb:=g1.lt
 have hGl:G0 < h.size:=by omega
 have WV:G0 ∉ NM::D:=λhm=>by
  have h1:=WS _ hm
  rcases WU with e|e|e
  .omega
  .omega
  .rw [e] at hm;exact g8 hm
 have s0:=zsT (λ_ _ _ _ h=>h) g4 hGa
 have s1:=zsT (λ_ _ _ _ h=>h) g5 hGb
 refine zP.enter mixed tB zCI zBK (bq N8) (λρ0 w0 B=>?_)
 obtain ⟨J,hJ⟩:∃ J:Nat->ab,(([.pointer (some ⟨S0,0,none⟩)]:List ab)++List.replicate (f8.ntmps - ([.pointer (some ⟨S0,0,none⟩)]:List ab).length) undef)=(.pointer (some ⟨S0,0,none⟩)::jr J 1 50 ([])):=oM (by kernel_rfl)
 rw [hJ]
 have z:=Ext.refl h
 refine SD.RP (ao h) ?_
 refine SD.oP B (c1:=(N8 1)) (c2:=(N8 2)) (by kernel_rfl) (by kernel_rfl) ?_
 simp only [aa,seval,c8,qn,rE]
 refine SD.oP B (c1:=(N8 3)) (c2:=(N8 10)) (by kernel_rfl) (by kernel_rfl) ?_
 simp only [aa,seval,c8,xR,qn,rE]
 have sI:∀ h2,aL [] h h2->bL (aG [G0] (aG (NM::D) h)) (aG [G0] (aG (NM::D) h2)):=λh2 f=>((f.mono (D':=[G0]) (λ_ h=>nomatch h)).kill (NM::D)).inc (λB hB=>.inl hB)
 refine SD.oP B (c1:=(N8 11)) (c2:=(N8 12)) (by kernel_rfl) (by kernel_rfl) ?_
 simp only [aa,seval,c8,g1.lay,↓zCl,eV,eI]
 refine zyW d v0 v1 q _ G0 (by rw [bc];omega) (NM::D) (λB hB=>by rw [bc];have:=(WS B hB).2;omega) WV (s0.mono (sI _ (aL.lay _ _ _ _))) (s1.mono (sI _ (aL.lay _ _ _ _))) _ (λh' C0 x rn qa=>?_)
 rw [bc] at qa
 ((first|((with_reducible refine cU ?_ ?_ ?_);(· exact (by (try simp only [ck]);have:=z.size;omega));(· first|exact x|simpa only [oN] using x))|skip);replace z:=z.ec x (by (try simp only [ck]);omega);(try replace g1:=g1.over x);rw [ao h'])
 simp only [aa,seval,c8,cd,qn,rE]
 refine SD.seq (c1:=(N8 13)) (c2:=(N8 44)) (by kernel_rfl) ?_
 refine SD.seq (c1:=(N8 14)) (c2:=(N8 15)) (by kernel_rfl) ?_
 refine SD.region (id:=4) (ops:=ek (N8 14)) (by kernel_rfl) ?_
 refine SL.op B (l:=mh (ek (N8 14)) 1) (o:=mJ (ek (N8 14)) 0) (op:=.move (.tmp 0)) (d:=some 15) (v:=.pointer (some ⟨S0,0,none⟩)) (by kernel_rfl) (by kernel_rfl) (by kernel_rfl) (by kernel_rfl) (by kernel_rfl) (λ_ _ _=>rfl) ?_
 refine SL.op B (l:=mh (ek (N8 14)) 2) (o:=mJ (ek (N8 14)) 1) (op:=.nilCheck (.tmp 15)) (d:=some 16) (v:=.pointer (some ⟨S0,0,none⟩)) (by kernel_rfl) (by kernel_rfl) (by kernel_rfl) (by kernel_rfl) (by kernel_rfl) (λ_ _ _=>rfl) ?_
 refine SL.op B (l:=mh (ek (N8 14)) 3) (o:=mJ (ek (N8 14)) 2) (op:=.fieldAddr 81 (.tmp 16) 2) (d:=some 17) (v:=.pointer (some ⟨S0,0+8,none⟩)) (by kernel_rfl) (by kernel_rfl) (by kernel_rfl) (by kernel_rfl) (by kernel_rfl) (λ_ _ _=>rfl) ?_
 refine SL.op B (l:=mh (ek (N8 14)) 4) (o:=mJ (ek (N8 14)) 3) (op:=.load 79 (.tmp 17)) (d:=some 18) (v:=.map (some NM)) (by kernel_rfl) (by kernel_rfl) (by kernel_rfl) (by kernel_rfl) (by kernel_rfl) (λ_ _ _=>by
  rw [zBv]
  show (iD aD 79 (.pointer (some ⟨S0,0+8,none⟩)) _).map _=_
  rw [zb,g1.lay]
  rfl) ?_
 have uj:∀ hh:Heap,Ext h hh->(hh.lay [] hh.low).get NM=some (.map es LO):=λhh zz=>by
  rw [uz _ _ _ (dB m1.lt zz.size),zz.get NM m1.lt]
  exact m1.get
 refine SL.range tB (l:=[]) (o:=mJ (ek (N8 14)) 4) (t:=79) (x:=.tmp 18) (d:=some 19) (by kernel_rfl) (by kernel_rfl) (by kernel_rfl) (by kernel_rfl) uV rfl (uj _ z) (λB1=>?_)
 refine SL.nil ?_
 rw [rE]
 refine SD.block (id:=0) (c:=(N8 16)) (by kernel_rfl) ?_
 obtain ⟨cO,ra⟩:∃ cO:List au->Nat,cO=λL=>(L.map λw=>(facts w).length).sum:=⟨_,rfl⟩
 have Xo:∀ L:List au,L.Nodup->cO L<=11200:=λL hL=>by
  simp only [ra]
  have h1:=inv.sum hL
  have h2:d.ah.length*k<=16*700:=EE mn hk
  omega
 have MI:∀ (w:au) L,cO (w::L)=(facts w).length+cO L:=λw L=>by simp only [ra,lD,CQ]
 have ye:cO []=0:=by rw [ra];rfl
 obtain ⟨Iv,WX⟩:∃ Iv:Nat->Env->Heap->Option It->Prop,Iv=λm e' hh G=>∃ (L:List au) (seen:List Nat) (b2:Nat) (gd:au->Nat) (h1:Heap),hh=h1.lay [] h1.low/\(∃ J:Nat->ab,e'=(.pointer (some ⟨S0,0,none⟩)::jr J 1 2 (.pointer (some ⟨C0,0,none⟩)::jr J 4 15 (.chan (some B1)::jr J 20 31 ([])))))/\G=some ⟨B1,NM,LO,seen⟩/\m=Uf es seen/\Ext h h1/\CW es nv seen L/\(∀ x,gd x<=cO L)/\b2<=4*cO L /\
  ((L=[]/\qR (NM::D) h.size h1 C0 d q/\(∃ E,eC (NM::D) 0 0 h1 C0 E d q (λ_=>[]) (λ_=>0) (λ_=>0)))\/∃ E2,eC (NM::D) h.size b2 h1 C0 E2 d q (tJ [] L facts) (tJ 0 L aI) gd):=⟨_,rfl⟩
 refine SD.loop (c:=(N8 17)) (by kernel_rfl) Iv (n:=Uf es []) (by
  rw [WX]
  exact ⟨[],[],0,λ_=>0,h',rfl,oM (by kernel_rfl),rfl,rfl,z,.start m2 m3 m4,λ_=>lE _,lE _,.inl ⟨rfl,by simpa using qa,rn⟩⟩) (λm e' hh G aO=>?_)
 clear rn qa x g1
 rw [WX] at aO
 obtain ⟨L,seen,b2,gd,h1,rfl,⟨J,rfl⟩,rfl,rfl,z,NI,YC,qA,Nx⟩:=aO
 refine SD.seq (c1:=(N8 18)) (c2:=(N8 19)) (by kernel_rfl) ?_
 refine SD.region (id:=5) (ops:=ek (N8 18)) (by kernel_rfl) ?_
 refine SL.next (g:=⟨B1,NM,LO,seen⟩) (l:=mh (ek (N8 18)) 1) (o:=mJ (ek (N8 18)) 0) (x:=.tmp 19) (d:=some 20) (by kernel_rfl) (by kernel_rfl) (by kernel_rfl) (by kernel_rfl) rfl (uj _ z) m5 (λy hy hys=>?_) (λaH=>?_)
 .refine SL.op B (l:=[]) (o:=mJ (ek (N8 18)) 1) (op:=.extract (.tmp 20) 0) (d:=some 21) (v:=.bool true) (by kernel_rfl) (by kernel_rfl) (by kernel_rfl) (by kernel_rfl) (by kernel_rfl) (λ_ _ _=>rfl) ?_
  refine SL.nil ?_
  rw [rE]
  refine SD.seq (c1:=(N8 20)) (c2:=(N8 23)) (by kernel_rfl) ?_
  refine SD.cond (c:=.tmp 21) (c1:=(N8 21)) (c2:=(N8 22)) (by kernel_rfl) (show zJ (.bool true) _ _ from ⟨λ_=>?_,λh=>by cases h⟩)
  refine SD.IY B (by kernel_rfl) ?_
  simp only [aa,seval,c8,qn,rE]
  refine SD.block (id:=1) (c:=(N8 24)) (by kernel_rfl) ?_
  refine SD.seq (c1:=(N8 25)) (c2:=(N8 26)) (by kernel_rfl) ?_
  refine SD.region (id:=6) (ops:=ek (N8 25)) (by kernel_rfl) ?_
  obtain ⟨w,gU,ue,hwL,jB⟩:=NI.step hy hys
  obtain ⟨sv,ez,oa⟩:=g7 w _ ue
  obtain ⟨sa,sn,Ao,rfl⟩:=rG oa
  refine SL.entry (g:=⟨B1,NM,LO,seen++[y.born]⟩) (l:=mh (ek (N8 25)) 1) (o:=mJ (ek (N8 25)) 0) (x:=.tmp 19) (d:=some 22) (by kernel_rfl) (by kernel_rfl) (by kernel_rfl) (by kernel_rfl) rfl (uj _ z) m4 hy rfl ?_
  rw [gU,ez]
  refine SL.rest B ?_
  simp only [aa,seval,c8]
  refine zpL (i:=0) rfl Og rfl rfl rfl rfl ?_
  simp only [oV]
  simp only [aa,seval,c8,zAu,rE]
  have lI:(facts w).length+cO L<=11200:=by rw [<- MI];exact Xo _ jB.nodup
  obtain ⟨lH,Sb⟩:∃ lH,lH=h1.lay [ba.row [.slice sa sn Ao,.int .u64 (aI w:Int)] 83 false] (min h1.low (h1.size+0)):=⟨_,rfl⟩
  rw [<- Sb]
  have q5:Holds lH (h1.size+0) (.row [.slice sa sn Ao,.int .u64 (aI w:Int)] 83 false):=by rw [Sb];exact ⟨by rw [bc];simp,by rw [iB];rfl⟩
  have f2:aL [] h1 lH:=by rw [Sb];exact aL.lay _ _ _ _
  have hz:=z.size
  have z2:Ext h lH:=by rw [Sb];exact z.aA
  obtain ⟨E3,b3,tq,wT,R2,hu3⟩:∃ E3 b3 tq,eC (NM::D) h.size b3 lH C0 E3 d q (tJ [] L facts) (tJ 0 L aI) tq/\b3<=4*cO L/\∀ x,tq x<=cO L:=by
   rcases Nx with ⟨rfl,qa,_⟩|⟨E2,sp⟩
   .obtain ⟨E,sp⟩:=qa lH (h1.size+0) f2 (by omega) q5.lt
    rw [zjP,zjP]
    exact ⟨E,0,_,sp,lE _,λ_=>lE _⟩
   .exact ⟨E2,b2,gd,sp.bN f2,qA,YC⟩
  have anv:=inv.Ap w
  have hlen:=inv.len w
  refine SD.RP (ao lH) ?_
  refine SD.IY B (by kernel_rfl) ?_
  refine ztA d q w (facts w) (aI w) (tJ [] L facts) (tJ 0 L aI) tq h lH z2 (NM::D) E3 b3 C0 S0 (h1.size+0) B1 wT sa sn Ao (oa.mono (rH _ _)) (by omega) (by omega) (λa ha x hx=>zi9 (inv.ok w a ha) x hx) (by omega) (λx=>by have:=hu3 x;omega) q5 _ (oM (by kernel_rfl)) (λe' h' E4 Oj ub z' sp4 hu4=>?_)
  rw [qn,zms]
  refine zoV (zwp hy hys) ?_
  rw [WX]
  refine ⟨w::L,seen++[y.born],b3+4*(facts w).length,Oj,h',ao h',ub,rfl,rfl,z',jB,λx=>?_,?_,.inr ⟨E4,?_⟩⟩
  rotate_right
  .rw [zlJ,zlJ]
   exact sp4
  .have:=hu4 x
   have:=hu3 x
   rw [MI]
   omega
  .rw [MI]
   omega
 .refine SL.op B (l:=[]) (o:=mJ (ek (N8 18)) 1) (op:=.extract (.tmp 20) 0) (d:=some 21) (v:=.bool false) (by kernel_rfl) (by kernel_rfl) (by kernel_rfl) (by kernel_rfl) (by kernel_rfl) (λ_ _ _=>rfl) ?_
  refine SL.nil ?_
  rw [rE]
  refine SD.seq (c1:=(N8 20)) (c2:=(N8 23)) (by kernel_rfl) ?_
  refine SD.cond (c:=.tmp 21) (c1:=(N8 21)) (c2:=(N8 22)) (by kernel_rfl) (show zJ (.bool false) _ _ from ⟨λh=>(by cases h),λ_=>?_⟩)
  refine SD.IY B (by kernel_rfl) ?_
  simp only [aa,seval,c8,qn,zuY,ztT,zqr,rE]
  refine SD.oP B (c1:=(N8 45)) (c2:=(N8 46)) (by kernel_rfl) (by kernel_rfl) ?_
  simp only [aa,seval,c8,qn,rE]
  refine SD.IY B (by kernel_rfl) ?_
  simp only [aa,seval,c8,qn]
  have eT:∀ w,w ∉ L->facts w=[]/\aI w=0:=λw hw=>by
   cases hl:dE nv w with
   |none=>exact g6 w hl
   |some x=>exact absurd (NI.all aH hl) hw
  have hF:tJ [] L facts=facts:=zpr λw hw=>(eT w hw).1
  have hV:tJ 0 L aI=aI:=zpr λw hw=>(eT w hw).2
  have fin:∃ E2 b2 gd,eC (NM::D) 0 b2 (h1.lay [] h1.low) C0 E2 d q facts aI gd:=by
   rcases Nx with ⟨rfl,_,E,sp⟩|⟨E2,sp⟩
   .rw [zjP] at hF hV
    rw [hF,hV] at sp
    exact ⟨E,0,_,sp.lay _ _⟩
   .rw [hF,hV] at sp
    exact ⟨E2,b2,gd,sp.zero.lay _ _⟩
  obtain ⟨E2,b3,tq,sp⟩:=fin
  exact ⟨.inl trivial,_,rfl,hK _ C0 E2 b3 tq z.aA sp⟩
end Go.Proofs.YtiapegieocgmfaaGreatDoor
