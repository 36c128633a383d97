/- The code of some functions, node by node, for simp. Written by a program (mkcode.py). No condition. -/
import Derived.Test.YtiapegieocgmfaaGreatDoorG40
set_option linter.unusedSimpArgs false
set_option linter.unusedVariables false
set_option maxRecDepth 100000
set_option maxHeartbeats 0
namespace Go.Proofs.YtiapegieocgmfaaGreatDoor
open Go.Am Tryz
noncomputable def N31:=bA f31
noncomputable def x31:=PLift.up (by have c:=bB N31 f31;simp only [aN,f31,seval] at c;exact nd c <| nd @Y0 <| nd @mI <| nd @Zd <| @VE)
theorem Bg:type_of% x31.down:=x31.down
theorem zyY (ls:List (aS)) (v:ab) (h:Heap) (hl:Sl aM.atoms h v ls) (hn:ls.length<=100) (Nh:ls.flatten.length<=9000) (aT:∀ x∈ls.flatten,x.aW=true) (K:aF)
 (hk:∀ h' w,Ext h h'->dG h h' 47 w (eo ls.flatten)->K w h'):Ok prog aD ov 31 [v] h K:=by
 rw [ao h]
 have z:=Ext.refl h
 refine Ok.aw 17 (bq N31) ?_
 simp only [aa,seval,Bg]
 repeat' ((with_reducible refine HE hl xQ ?_) <;> simp only [aa,seval,Bg])
 obtain ⟨I1,aU⟩:∃ I:Nat->Env->Heap->Prop,I=(λn e h'=>∃ (i:Nat) (w:ab) (A:Nat) (h1:Heap),h'=h1.lay [] h1.low/\Ext h h1/\(n=ls.length - i/\i<=ls.length/\Ow aM.atom h h1 47 A w (ls.take i).flatten)/\∃ J:Nat->ab,e=(jr J 0 3 (w::jr J 4 2 (v::.int .i64 ls.length::.int .i64 i::jr J 9 9 ([]))))):=⟨_,rfl⟩
 refine dA I1 _ (by rw [aU];exact ⟨0,.slice none 0 0,h.size,_,rfl,z,⟨rfl,by omega,Ow.nil (bj _)⟩,bl⟩) ?_
 intro n e h' aO
 rw [aU] at aO
 obtain ⟨i,w,A,bC,rfl,z,hinv,J,rfl⟩:=aO
 obtain ⟨rfl,hi,ho⟩:=hinv
 have hw:=ei i (by omega)
 have hz:=z.size
 have bR:∀ (h:Heap) (K:aF),aC (some w) h K=K w h:=λ_ _=>rfl
 simp only [aa,seval,Bg,bR]
 refine bn (λjw=>?_) (λjw=>?_)
 rotate_left
 .rw [gE (by omega)] at ho
  repeat' (simp only [aa,seval,Bg,bR])
  refine zpb ls.flatten w _ ((ho.sl (by decide)).lay _ _) (by omega) aT _ (λh' w x ho=>?_)
  replace ho:=ho.down (h0:=h) (by rw [bc];omega)
  (replace z:=z.an x;rw [ao h'])
  have bR:∀ (h:Heap) (K:aF),aC (some w) h K=K w h:=λ_ _=>rfl
  repeat' (simp only [aa,seval,Bg,bR])
  exact hk _ _ z.aA (ho.lay _ _)
 obtain ⟨r,hr,cw⟩:=eW (l:=ls) (i:=i) (by omega)
 simp only [aa,seval,Bg,bR]
 repeat' ((first|with_reducible refine zCv (hl.mono z.inc) xQ ZI (by omega) hr (λp b hsb hp=>?_)|with_reducible refine gj hp sH ?_) <;> simp only [aa,seval,Bg,bR])
 have r7:∀ (h:Heap) (K:aF),aC (some b) h K=K b h:=λ_ _=>rfl
 simp only [aa,seval,Bg,bR,r7,mr,xp]
 have ud:(ls.take (i+1)).flatten=(ls.take i).flatten++r:=by rw [oW,cw,List.flatten_append];simp
 have hle:(ls.take i).flatten.length+r.length<=9000:=by
  have h1:ls.flatten.length=(ls.take (i+1)).flatten.length+(ls.drop (i+1)).flatten.length:=by rw [<- dy,<- List.flatten_append,qv]
  rw [ud,dy] at h1
  omega
 obtain ⟨news,hs,nI⟩:=uF (A:=A) (r:=aM.atom) (by decide) (hsb.lay [] bC.low) (λcs y hr=>hr)
 have cW:=ho.fresh
 refine Ea (r:=aM.atom) bJ tD rfl (by decide) hz ho hs nI (by omega) (by omega) (λw' h2 A' o2 c2 Ix=>?_)
 replace z:=z.aA.step c2 (by omega)
 rw [<- ud] at o2
 rw [ao h2]
 have GH:∀ (h:Heap) (K:aF),aC (some w') h K=K w' h:=λ_ _=>rfl
 repeat' (simp only [aa,seval,Bg,GH])
 rw [hw]
 (rw [aU];with_reducible refine cy (m:=_) ?_ ⟨i+1,w',A',_,rfl,z,⟨rfl,by omega,o2⟩,bl⟩;omega)
theorem cC.Ce {h:Heap} {u:TypeId} {A:Nat} {lw:ab} {me:List ab} {ls:List (aS)} (f:cC 1 (λv:ab=>[v]) h u A lw me) (hl:me.length=ls.length) (hv:∀ (j:Nat) v l,me[j]? = some v->ls[j]? = some l->Sl aM.atom h v l):Sl aM.atoms h lw ls:=by
 rcases f with ⟨rfl,rfl⟩|⟨q,row,rfl,e2,e3,e4,e5,e6⟩
 .have:ls=[]:=Tt (by simpa using hl.symm)
  subst this
  exact .nil
 .obtain ⟨c1,c2,c3⟩:=ziO (k:=1) (q:=q) (by decide) e5
  have hM:(1000000000:Nat)<=maxLen:=by decide
  refine .inr ⟨A,0,G*1+q,row,u,false,by rw [hl],by omega,.inr ⟨c3,c2,by omega⟩,e2.lt,e2.get,λi x hx=>?_⟩
  have hi:=(dP.1 hx).1
  obtain ⟨v,hZ⟩:∃ v,me[i]? = some v:=⟨_,gF (by omega)⟩
  exact ⟨[v],by rw [jo];exact e6 i v hZ,v,rfl,hv i v x hZ hx⟩
theorem iy (a) (n c:Nat) (h:Heap) (K:aF):aC (some (.slice a n c)) h K=K (.slice a n c) h:=rfl
theorem zDq:aD.desc 86=some (.slice 38):=by kernel_rfl
theorem zC1:dg aD 86=some 1:=by kernel_rfl
theorem zCU:su aD 86 86=true:=by kernel_rfl
theorem Qp {Z:Type} {n:Nat}:∀ {ls:List (List Z)},(∀ l∈ls,l.length<=n)->ls.flatten.length<=ls.length*n
 | [],_=>by simp
 |l::r,h=>by
  have ih:=Qp (ls:=r) (λx hx=>h x (fB _ hx))
  have h1:=h l jm
  rw [List.flatten_cons,dy,dn,qx]
  omega
def JA (h:Heap) (X L:Nat) (ms:List au) (facts:au->aS) (i:Nat) (h2:Heap):Prop :=
 ∃ A lw me,cC 1 (λv:ab=>[v]) h2 38 A lw me/\Holds h2 X (.row [lw] 86 false)/\me.length=i/\(∀ (j:Nat) v m,me[j]? = some v->ms[j]? = some m->Sl aM.atom (aG [L,X,A] h2) v (facts m))/\A≠X/\A≠L/\h.size<=A/\A < h2.size
theorem JA.bN {h h1 h2:Heap} {X L i:Nat} {ms:List au} {facts:au->aS} (f:JA h X L ms facts i h1) (fr:aL [L] h1 h2) (hX:X≠L):JA h X L ms facts i h2:=by
 obtain ⟨A,lw,me,e1,e2,e3,e4,e5,e6,e7,e8⟩:=f
 exact ⟨A,lw,me,e1.bN fr (by simpa using e6),e2.bN fr (by simpa using hX),e3,λj v m h1 h2=>(e4 j v m h1 h2).mono ((fr.mono (D':=[L,X,A]) (by simp)).inc (λB hB=>.inl hB)),e5,e6,e7,dB e8 fr.size⟩
theorem zfr (d:aq) (who:au) (p0 p1 p2 p5 p6:ab) (q b:Int) (h:Heap) (bf:(du p0 p1 p2 p5 p6 q b).all Am.one=true) (hd:dR h p0 p1 p2 p5 p6 d) (pq:d.ah.length<=1000) (lI:d.aR.length<=1000) (fT:zt d.ah d.aR) (lk:∀ c∈d.aR,c.reads.length<=40)
 (X:List Nat) (N bb S0:Nat) (E:List Nat) (dd:aq) (qq:Int) (facts:au->aS) (aI us:au->Nat) (ZC:eC X N bb h S0 E dd qq facts aI us) (iF:∀ w,(facts w).length<=100) (aT:∀ w,∀ x∈facts w,x.aW=true) (K:aF)
 (hk:∀ h' w,Ext h h'->dG h h' 47 w (eo ((gl d who).map facts).flatten)->K w h'):Ok prog aD ov 9 [fI p0 p1 p2 p5 p6 q b,.pointer (some ⟨S0,0,none⟩),.string who] h K:=by
 have qc:=Tw (who:=who) lk
 have ud:((gl d who).map facts).flatten.length<=4100:=by
  have:=Qp (n:=100) (ls:=(gl d who).map facts) (λl hl=>by obtain ⟨w,_,rfl⟩:=oY.1 hl;exact iF w)
  rw [gi] at this
  omega
 have F0:∀ x∈((gl d who).map facts).flatten,x.aW=true:=λx hx=>by
  obtain ⟨l,hl,vI⟩:=List.mem_flatten.1 hx
  obtain ⟨w,_,rfl⟩:=oY.1 hl
  exact aT w x vI
 rw [ao h]
 have z:=Ext.refl h
 refine Ok.aw 20 (bq N9) ?_
 simp only [aa,seval,c9,gZ,↓fA,eV,eI,dm,cd]
 refine zyR p0 p1 p2 p5 p6 q b who _ _ rfl _ (λh' X1 X2 X3 x hX1 hX2 hX3 q1 q2 q3=>?_)
 have qX:=Holds.top (i:=1) x rfl
 (replace z:=z.an x;rw [ao h'])
 obtain ⟨P,hP⟩:∃ P,P=h.size+0:=⟨_,rfl⟩
 obtain ⟨XX,Mp⟩:∃ XX,XX=h.size+1:=⟨_,rfl⟩
 rw [<- Mp] at qX
 rw [<- Mp]
 have Dd:=qX.lt
 simp only [aa,seval,c9]
 rw [<- ao h']
 obtain ⟨L,hL⟩:∃ L,L=h'.size:=⟨_,rfl⟩
 have Bt:XX≠L:=by omega
 have oK:=z.size
 have W5:P < h'.size:=by omega
 refine zri d who p0 p1 p2 p5 p6 q b X1 X2 X3 _ h z bf (hd.mono z.inc) pq lI fT lk q1 q2 q3 (JA h XX L (gl d who) facts) (λi h1 h2 hj fr=>hj.bN (by rw [hL];exact fr) Bt) ⟨P,.slice none 0 0,[],cC.nil,qX,rfl,λj v m h1=>by simp at h1,by omega,by omega,by omega,W5⟩ (λm v h1 h2=>∃ A,Ow aM.atom h1 h2 47 A v (facts m)) (λm hh K' zz kB=>?_) (λi m v g1 g2 hm zz hj fr hR WZ=>?_) (λh3 zz hj=>?_)
 .rw [vV]
  exact zwK m dd qq facts aI us hh N bb S0 E (ZC.bN (zz.bN [])).un (by have:=iF m;omega) K' (λh2 w A x o=>kB w h2 x ⟨A,o⟩)
 .obtain ⟨Av,o⟩:=hR
  obtain ⟨va,vn,vc,rfl⟩:=rG (o.sl (by decide))
  rw [ao g2]
  simp only [aa,seval,c9,iy]
  refine ⟨(Ext.refl _),λH bk Iw zH qL yc=>?_⟩
  rw [<- hL] at WZ qL Iw
  have o7:aL [L] g1 H:=(fr.mono (D':=[L]) (λ_ h=>nomatch h)).trans Iw (λB hB=>.inl hB)
  obtain ⟨A,lw,me,u1,u2,u3,u4,u5,u6,u7,u8⟩:=hj
  have e1:=u1.bN o7 (by simpa using u6)
  have e2:=u2.bN o7 (by simpa using Bt)
  have e4:∀ (j:Nat) v m,me[j]? = some v->(gl d who)[j]? = some m->Sl aM.atom (aG [L,XX,A] H) v (facts m):=λj v m h1 h2=>(u4 j v m h1 h2).mono ((o7.mono (D':=[L,XX,A]) (by simp)).inc (λB hB=>.inl hB))
  have jW:Sl aM.atom (aG [L,XX,A] H) (.slice va vn vc) (facts m):=(o.aG (D:=[L,XX,A]) (λ_ _ _ _ q=>q) (by decide) (λB hB=>by
   simp only [dh,tL,or_false] at hB
   have:=u2.lt
   rcases hB with rfl|rfl|rfl <;> omega)).mono ((Iw.mono (D':=[L,XX,A]) (by simp)).inc (λB hB=>.inl hB))
  have WM:A < H.size:=dB u8 o7.size
  have hLH:=qL.lt
  have iX:=(dP.1 hm).1
  obtain ⟨la,lb,lc,rfl⟩:=e1.shape
  clear u1 u2 u4 o zz z
  have z:=zH
  have hzH:=z.size
  rw [ao H]
  simp only [aa,seval,c9,e2.lay,iy,mr,zCU]
  refine cC.app (k:=1) (cell:=λv:ab=>[v]) (x:=Value.slice va vn vc) (j:=0) (λ_=>rfl) rfl (by decide) zDq zlS e1 rfl (by omega) (by omega) (λv3 h3 A3 f3 wG DK rX=>?_)
  have c3:=rX WM
  have z3:=z.cM c3 u7 (by omega)
  have kf:=c3.size
  rw [bc] at kf
  simp only [dn,dN] at kf
  have G6:=e2.br c3 (Ne.symm u5)
  have Ob:=qL.br c3 (Ne.symm u6)
  have xT:A3≠XX:=λe=>by
   rcases f3 with ⟨_,h0⟩|⟨qq,row,_,vA,_⟩
   .simp at h0
   .have:=vA.get.symm.trans (e ▸ G6.get)
    simp only [dO,ba.row.injEq] at this
    exact absurd this.2.1 (by decide)
  have FA:A3≠L:=λe=>by
   rcases f3 with ⟨_,h0⟩|⟨qq,row,_,vA,_⟩
   .simp at h0
   .exact yc _ _ _ (Option.some.inj (Ob.get.symm.trans (e ▸ vA.get)))
  have Bq:h.size<=A3/\(A3=A\/H.size<=A3):=by
   rcases wG with ⟨e,_⟩|e
   .exact ⟨by omega,.inl e⟩
   .rw [bc] at e
    exact ⟨by omega,.inr (by omega)⟩
  have Y4:dv [9,90] H h3:=by
   by_cases jz:Value.slice la lb lc=.slice none 0 0
   .exact dv.bN (D:=[]) ((aL.refl [] H).over (DK jz)) (λ_ h=>nomatch h)
   .refine dv.bN (D:=[A]) ((aL.refl [A] H).iL c3 (.inl (by simp))) (λB hB cs e ro he=>?_)
    rw [hU.1 hB] at he
    rcases e1 with ⟨h0,_⟩|⟨qq,row,_,vA,_⟩
    .exact absurd h0 jz
    .have:=vA.get.symm.trans he
     simp only [dO,ba.row.injEq] at this
     rw [<- this.2.1]
     decide
  have fL:aL [L,XX,A] H h3:=(aL.refl [L,XX,A] H).iL c3 (.inl (by simp))
  obtain ⟨xa,xn,xc,rfl⟩:=f3.shape
  clear z DK rX
  have z:=z3
  rw [ao h3]
  simp only [aa,seval,c9,iy]
  refine Hl (o:=0) G6 zC1 rfl rfl (by show 0+1<=1;decide) rfl (λh4 G7 c4=>?_)
  replace G7:Holds h4 XX (.row [.slice xa xn xc] 86 false):=G7
  have z4:=z.cM c4 (by omega) (by omega)
  have f4:=f3.br c4 xT
  have Zt:=Ob.br c4 (Ne.symm Bt)
  have td:=c4.size
  rw [bc] at td
  have RR:aL [XX] h3 h4:=(aL.refl [XX] h3).iL c4 (.inl (by simp))
  have jU:aL [L,XX,A] H h4:=fL.trans RR (λB hB=>.inl (by rw [hU.1 hB];simp))
  have Y5:dv [9,90] H h4:=Y4.trans (dv.bN RR (λB hB cs e ro he=>by
   rw [hU.1 hB,G6.get] at he
   simp only [dO,ba.row.injEq] at he
   rw [<- he.2.1]
   decide))
  have rW:∀ B∈[L,XX,A3],B∈[L,XX,A]\/H.size<=B:=λB hB=>by
   simp only [dh,tL,or_false] at hB ⊢
   rcases hB with rfl|rfl|rfl
   .exact .inl (.inl rfl)
   .exact .inl (.inr (.inl rfl))
   .exact Bq.2.imp (λe=>.inr (.inr e)) id
  have MF:∀ {v:ab} {l:aS},Sl aM.atom (aG [L,XX,A] H) v l->Sl aM.atom (aG [L,XX,A3] h4) v l:=λs=>s.mono (jU.inc rW)
  have hj:JA h XX L (gl d who) facts (i+1) h4:=⟨A3,_,_,f4,G7,by rw [dy,u3];rfl,λj v m' h1 h2=>by
   rw [xw] at h1
   split at h1
   .exact MF (e4 j v m' h1 h2)
   .have hj0:=(dP.1 h1).1
    simp only [zK] at hj0
    have kQ:j=i:=by omega
    subst kQ
    rw [u3,EF,AK] at h1
    cases h1
    rw [hm] at h2
    cases h2
    exact MF jW,xT,FA,Bq.1,dB (f3.lt (by simp)) (by omega)⟩
  rw [ao h4]
  simp only [aa,seval,c9]
  have fl:aL [] h4 (h4.lay [] h4.low):=aL.lay _ _ _ _
  exact ⟨z4.aA,hL ▸ Zt.on _ _,hj.bN (fl.mono (λ_ h=>nomatch h)) Bt,Y5.trans (dv.bN fl (λ_ h=>nomatch h))⟩
 .obtain ⟨A,lw,me,e1,e2,e3,e4,e5,e6,e7,e8⟩:=hj
  obtain ⟨la,lb,lc,rfl⟩:=e1.shape
  have oa:Sl aM.atoms h3 (.slice la lb lc) ((gl d who).map facts):=cC.Ce e1 (by rw [gi];exact e3) (λj v l h1 h2=>by
   rw [lC] at h2
   cases h5:(gl d who)[j]? with
   |none=>rw [h5] at h2;cases h2
   |some m =>
    rw [h5] at h2
    cases h2
    exact (e4 j v m h1 h5).mono (rH _ _))
  clear z
  have z:=zz
  have Al:=z.size
  rw [ao h3]
  simp only [aa,seval,c9,e2.lay,iy]
  refine zyY ((gl d who).map facts) _ _ (oa.lay _ _) (by rw [gi];omega) (by omega) F0 _ (λh' w x ho=>?_)
  replace ho:=ho.down (h0:=h) (by rw [bc];omega)
  (replace z:=z.an x;rw [ao h'])
  have iZ:∀ (h:Heap) (K:aF),aC (some w) h K=K w h:=λ_ _=>rfl
  simp only [aa,seval,c9,iZ]
  exact hk _ _ z.aA (ho.lay _ _)
theorem zDp:aD.desc 40=some (.slice 49):=by kernel_rfl
theorem zC0:dg aD 40=some 1:=by kernel_rfl
theorem zCT:su aD 40 40=true:=by kernel_rfl
def ED (n:Nat):List ab:=[.int .u64 n]
def JU (h:Heap) (X L:Nat) (ms:List au) (aI:au->Nat) (i:Nat) (h2:Heap):Prop :=
 ∃ A lw,cC 1 ED h2 49 A lw ((ms.take i).map aI)/\Holds h2 X (.row [lw] 40 false)/\A≠X/\A≠L/\h.size<=A/\A < h2.size
theorem JU.bN {h h1 h2:Heap} {X L i:Nat} {ms:List au} {aI:au->Nat} (f:JU h X L ms aI i h1) (fr:aL [L] h1 h2) (hX:X≠L):JU h X L ms aI i h2:=by
 obtain ⟨A,lw,e1,e2,e5,e6,e7,e8⟩:=f
 exact ⟨A,lw,e1.bN fr (by simpa using e6),e2.bN fr (by simpa using hX),e5,e6,e7,dB e8 fr.size⟩
theorem zfs (d:aq) (who:au) (p0 p1 p2 p5 p6:ab) (q b:Int) (h:Heap) (bf:(du p0 p1 p2 p5 p6 q b).all Am.one=true) (hd:dR h p0 p1 p2 p5 p6 d) (pq:d.ah.length<=1000) (lI:d.aR.length<=1000) (fT:zt d.ah d.aR) (lk:∀ c∈d.aR,c.reads.length<=40)
 (X:List Nat) (N bb S0:Nat) (E:List Nat) (dd:aq) (qq:Int) (facts:au->aS) (aI us:au->Nat) (ZC:eC X N bb h S0 E dd qq facts aI us) (K:aF)
 (hk:∀ h' w A,Ext h h'->cC 1 ED h' 49 A w ((gl d who).map aI)->h.size<=A->K w h'):Ok prog aD ov 10 [fI p0 p1 p2 p5 p6 q b,.pointer (some ⟨S0,0,none⟩),.string who] h K:=by
 have qc:=Tw (who:=who) lk
 rw [ao h]
 have z:=Ext.refl h
 refine Ok.aw 21 (bq N10) ?_
 simp only [aa,seval,E5,gZ,↓fA,eV,eI,dm,cd,xR]
 refine zyS p0 p1 p2 p5 p6 q b who _ _ rfl _ (λh' X1 X2 X3 x hX1 hX2 hX3 q1 q2 q3=>?_)
 have qX:=Holds.top (i:=1) x rfl
 (replace z:=z.an x;rw [ao h'])
 obtain ⟨P,hP⟩:∃ P,P=h.size+0:=⟨_,rfl⟩
 obtain ⟨XX,Mp⟩:∃ XX,XX=h.size+1:=⟨_,rfl⟩
 rw [<- Mp] at qX
 rw [<- Mp]
 have Dd:=qX.lt
 simp only [aa,seval,E5]
 rw [<- ao h']
 obtain ⟨L,hL⟩:∃ L,L=h'.size:=⟨_,rfl⟩
 have Bt:XX≠L:=by omega
 have oK:=z.size
 have W5:P < h'.size:=by omega
 refine zrj d who p0 p1 p2 p5 p6 q b X1 X2 X3 _ h z bf (hd.mono z.inc) pq lI fT lk q1 q2 q3 (JU h XX L (gl d who) aI) (λi h1 h2 hj fr=>hj.bN (by rw [hL];exact fr) Bt) ⟨P,.slice none 0 0,by rw [xB];exact cC.nil,qX,by omega,by omega,by omega,W5⟩ (λm v h1 h2=>v=.int .u64 (aI m:Int)) (λm hh K' zz kB=>?_) (λi m v g1 g2 hm zz hj fr hR WZ=>?_) (λh3 zz hj=>?_)
 .rw [vV]
  exact zre m dd qq facts aI us hh N bb S0 E (ZC.bN (zz.bN [])).un K' (λh2 x=>kB _ h2 x rfl)
 .subst hR
  rw [ao g2]
  simp only [aa,seval,E5,bO]
  refine ⟨(Ext.refl _),λH bk Iw zH qL yc=>?_⟩
  rw [<- hL] at WZ qL Iw
  have o7:aL [L] g1 H:=(fr.mono (D':=[L]) (λ_ h=>nomatch h)).trans Iw (λB hB=>.inl hB)
  obtain ⟨A,lw,u1,u2,u5,u6,u7,u8⟩:=hj
  have e1:=u1.bN o7 (by simpa using u6)
  have e2:=u2.bN o7 (by simpa using Bt)
  have WM:A < H.size:=dB u8 o7.size
  have hLH:=qL.lt
  have iX:=(dP.1 hm).1
  have yX:((gl d who).take i).length=i:=by rw [gh];omega
  obtain ⟨la,lb,lc,rfl⟩:=e1.shape
  clear u1 u2 zz z
  have z:=zH
  have hzH:=z.size
  rw [ao H]
  simp only [aa,seval,E5,e2.lay,iy,bO,mr,zCT]
  refine cC.app (k:=1) (cell:=ED) (x:=aI m) (j:=0) (λ_=>rfl) rfl (by decide) zDp zlT e1 rfl (by rw [gi];omega) (by rw [gi];omega) (λv3 h3 A3 f3 wG DK rX=>?_)
  have c3:=rX WM
  have z3:=z.cM c3 u7 (by omega)
  have kf:=c3.size
  rw [bc] at kf
  simp only [dn,dN] at kf
  have G6:=e2.br c3 (Ne.symm u5)
  have Ob:=qL.br c3 (Ne.symm u6)
  have xT:A3≠XX:=λe=>by
   rcases f3 with ⟨_,h0⟩|⟨qq,row,_,vA,_⟩
   .simp at h0
   .have:=vA.get.symm.trans (e ▸ G6.get)
    simp only [dO,ba.row.injEq] at this
    exact absurd this.2.1 (by decide)
  have FA:A3≠L:=λe=>by
   rcases f3 with ⟨_,h0⟩|⟨qq,row,_,vA,_⟩
   .simp at h0
   .exact yc _ _ _ (Option.some.inj (Ob.get.symm.trans (e ▸ vA.get)))
  have Bq:h.size<=A3:=by
   rcases wG with ⟨e,_⟩|e
   .omega
   .rw [bc] at e
    omega
  have Y4:dv [9,95] H h3:=by
   by_cases jz:Value.slice la lb lc=.slice none 0 0
   .exact dv.bN (D:=[]) ((aL.refl [] H).over (DK jz)) (λ_ h=>nomatch h)
   .refine dv.bN (D:=[A]) ((aL.refl [A] H).iL c3 (.inl (by simp))) (λB hB cs e ro he=>?_)
    rw [hU.1 hB] at he
    rcases e1 with ⟨h0,_⟩|⟨qq,row,_,vA,_⟩
    .exact absurd h0 jz
    .have:=vA.get.symm.trans he
     simp only [dO,ba.row.injEq] at this
     rw [<- this.2.1]
     decide
  obtain ⟨xa,xn,xc,rfl⟩:=f3.shape
  clear z DK rX
  have z:=z3
  rw [ao h3]
  simp only [aa,seval,E5,iy]
  refine Hl (o:=0) G6 zC0 rfl rfl (by show 0+1<=1;decide) rfl (λh4 G7 c4=>?_)
  replace G7:Holds h4 XX (.row [.slice xa xn xc] 40 false):=G7
  have z4:=z.cM c4 (by omega) (by omega)
  have f4:=f3.br c4 xT
  have Zt:=Ob.br c4 (Ne.symm Bt)
  have td:=c4.size
  rw [bc] at td
  have RR:aL [XX] h3 h4:=(aL.refl [XX] h3).iL c4 (.inl (by simp))
  have Y5:dv [9,95] H h4:=Y4.trans (dv.bN RR (λB hB cs e ro he=>by
   rw [hU.1 hB,G6.get] at he
   simp only [dO,ba.row.injEq] at he
   rw [<- he.2.1]
   decide))
  have cQ:((gl d who).take (i+1)).map aI=((gl d who).take i).map aI++[aI m]:=by rw [oW,hm,zL];rfl
  rw [<- cQ] at f4
  have hj:JU h XX L (gl d who) aI (i+1) h4:=⟨A3,_,f4,G7,xT,FA,Bq,dB (f3.lt (by simp)) (by omega)⟩
  rw [ao h4]
  simp only [aa,seval,E5]
  have fl:aL [] h4 (h4.lay [] h4.low):=aL.lay _ _ _ _
  exact ⟨z4.aA,hL ▸ Zt.on _ _,hj.bN (fl.mono (λ_ h=>nomatch h)) Bt,Y5.trans (dv.bN fl (λ_ h=>nomatch h))⟩
 .obtain ⟨A,lw,e1,e2,e5,e6,e7,e8⟩:=hj
  obtain ⟨la,lb,lc,rfl⟩:=e1.shape
  rw [gE (bj _)] at e1
  clear z
  have z:=zz
  have Al:=z.size
  rw [ao h3]
  simp only [aa,seval,E5,e2.lay,iy]
  exact hk _ _ A z.aA (e1.lay _ _) e7
theorem zm3 (c:Int) (h:Heap) (K:aF) (h1:(97<=c/\c<=122)->K (.bool true) h) (h2:¬ (97<=c/\c<=122)->K (.bool false) h):Ok prog aD ov 163 [.int .u8 c] h K:=by
 refine Ok.aw 8 (bq KN) ?_
 simp only [aa,seval,LA]
 repeat' (refine bn (λc=>?_) (λc=>?_) <;> simp only [aa,seval,LA])
 all_goals first|exact h1 (by omega)|exact h2 (by omega)
theorem zsz (c:Int) (h:Heap) (K:aF) (h1:(65<=c/\c<=90)->K (.bool true) h) (h2:¬ (65<=c/\c<=90)->K (.bool false) h):Ok prog aD ov 192 [.int .u8 c] h K:=by
 refine Ok.aw 8 (bq K4) ?_
 simp only [aa,seval,LG]
 repeat' (refine bn (λc=>?_) (λc=>?_) <;> simp only [aa,seval,LG])
 all_goals first|exact h1 (by omega)|exact h2 (by omega)
theorem zsx (c:Int) (h:Heap) (K:aF) (h1:(48<=c/\c<=57)->K (.bool true) h) (h2:¬ (48<=c/\c<=57)->K (.bool false) h):Ok prog aD ov 190 [.int .u8 c] h K:=by
 refine Ok.aw 8 (bq K1) ?_
 simp only [aa,seval,LF]
 repeat' (refine bn (λc=>?_) (λc=>?_) <;> simp only [aa,seval,LF])
 all_goals first|exact h1 (by omega)|exact h2 (by omega)
theorem zq3 (s:au) (h:Heap) (K:aF) (h1:AD s->∀ h',Ext h h'->K (.bool true) h') (h2:∀ h',Ext h h'->K (.bool false) h'):Ok prog aD ov 179 [.string s] h K:=by
 rw [ao h]
 have z:=Ext.refl h
 refine Ok.aw 40 (bq KV) ?_
 simp only [aa,seval,oz]
 refine bn (λc=>?_) (λc1=>?_)
 .simp only [aa,seval,oz]
  exact h2 _ z.aA
 simp only [aa,seval,oz]
 refine bn (λc=>?_) (λc2=>?_)
 .simp only [aa,seval,oz]
  exact h2 _ z.aA
 simp only [aa,seval,oz]
 refine Hs underlying9 rfl rfl (by omega) (by omega) ?_
 simp only [aa,seval,oz]
 refine lK (λc=>?_) (λc=>?_)
 .simp only [aa,seval,oz]
  exact h2 _ z.aA
 repeat' (simp only [aa,seval,oz])
 obtain ⟨I1,aU⟩:∃ I:Nat->Env->Heap->Prop,I=(λn e h'=>∃ (i:Nat) (h1:Heap),h'=h1.lay [] h1.low/\Ext h h1/\(n=s.size - i/\i<=s.size/\∀ j,j < i->rR (mf s j))/\∃ J:Nat->ab,e=(.string s::jr J 1 2 (.int .i64 i::jr J 4 37 ([])))):=⟨_,rfl⟩
 refine dA I1 _ (by rw [aU];exact ⟨0,_,rfl,z,⟨rfl,by omega,λj hj=>by omega⟩,bl⟩) ?_
 intro n e h' aO
 rw [aU] at aO
 obtain ⟨i,bC,rfl,z,hinv,J,rfl⟩:=aO
 obtain ⟨rfl,hi,aH⟩:=hinv
 have hw:=ei i (by omega)
 simp only [aa,seval,oz,hw]
 repeat' ((first|((with_reducible first|apply bn|apply gg) <;> intro _)|with_reducible refine zm3 _ _ _ (λ_=>?_) (λ_=>?_)|with_reducible refine zsx _ _ _ (λ_=>?_) (λ_=>?_)|((with_reducible apply Hs);(· exact underlying9);(· rfl);(· rfl);(· omega);(· omega))|((with_reducible apply bX);(· rfl))) <;> simp only [aa,seval,oz,hw])
 all_goals first
  |with_reducible exact h2 _ z.aA
  |(with_reducible refine h1 ?_ _ z.aA
    exact ⟨by omega,λj hj=>aH j (by omega)⟩)
  |(have yJ:∀ j,j < i+1->rR (mf s j):=by
     intro j hj
     by_cases kQ:j < i
     .exact aH j kQ
     .have:j=i:=by omega
      subst this
      unfold rR
      omega
    (rw [aU];with_reducible refine cy (m:=_) ?_ ⟨i+1,_,rfl,z,⟨rfl,by omega,yJ⟩,bl⟩;omega))
theorem zrd (s:au) (h:Heap) (K:aF) (h1:TW s->∀ h',Ext h h'->K (.bool true) h') (h2:∀ h',Ext h h'->K (.bool false) h'):Ok prog aD ov 181 [.string s] h K:=by
 rw [ao h]
 have z:=Ext.refl h
 refine Ok.aw 48 (bq KX) ?_
 simp only [aa,seval,oA]
 refine bn (λc=>?_) (λc1=>?_)
 .simp only [aa,seval,oA]
  exact h2 _ z.aA
 simp only [aa,seval,oA]
 refine bn (λc=>?_) (λc2=>?_)
 .simp only [aa,seval,oA]
  exact h2 _ z.aA
 simp only [aa,seval,oA]
 refine Hs underlying9 rfl rfl (by omega) (by omega) ?_
 simp only [aa,seval,oA]
 refine zsz _ _ _ (λcg=>?_) (λcg=>?_)
 rotate_left
 .repeat' (first|simp only [aa,seval,oA]|((with_reducible apply bX);(· rfl)))
  exact h2 _ z.aA
 repeat' (first|simp only [aa,seval,oA]|((with_reducible apply bX);(· rfl)))
 obtain ⟨I1,aU⟩:∃ I:Nat->Env->Heap->Prop,I=(λn e h'=>∃ (i:Nat) (h1:Heap),h'=h1.lay [] h1.low/\Ext h h1/\(n=s.size - i/\i<=s.size/\∀ j,j < i->mc (mf s j))/\∃ J:Nat->ab,e=(.string s::jr J 1 2 (.int .i64 i::jr J 4 45 ([])))):=⟨_,rfl⟩
 refine dA I1 _ (by rw [aU];exact ⟨0,_,rfl,z,⟨rfl,by omega,λj hj=>by omega⟩,bl⟩) ?_
 intro n e h' aO
 rw [aU] at aO
 obtain ⟨i,bC,rfl,z,hinv,J,rfl⟩:=aO
 obtain ⟨rfl,hi,aH⟩:=hinv
 have hw:=ei i (by omega)
 simp only [aa,seval,oA,hw]
 repeat' ((first|((with_reducible first|apply bn|apply gg) <;> intro _)|with_reducible refine zm3 _ _ _ (λ_=>?_) (λ_=>?_)|with_reducible refine zsx _ _ _ (λ_=>?_) (λ_=>?_)|with_reducible refine zsz _ _ _ (λ_=>?_) (λ_=>?_)|((with_reducible apply Hs);(· exact underlying9);(· rfl);(· rfl);(· omega);(· omega))|((with_reducible apply bX);(· rfl))) <;> simp only [aa,seval,oA,hw])
 all_goals first
  |with_reducible exact h2 _ z.aA
  |(with_reducible refine h1 ?_ _ z.aA
    exact ⟨by omega,by simpa using cg,λj hj=>aH j (by omega)⟩)
  |(have yJ:∀ j,j < i+1->mc (mf s j):=by
     intro j hj
     by_cases kQ:j < i
     .exact aH j kQ
     .have:j=i:=by omega
      subst this
      unfold mc
      omega
    (rw [aU];with_reducible refine cy (m:=_) ?_ ⟨i+1,_,rfl,z,⟨rfl,by omega,yJ⟩,bl⟩;omega))
theorem zra (s:au) (h:Heap) (K:aF) (hk:∀ b h',Ext h h'->K (.bool b) h'):Ok prog aD ov 180 [.string s] h K:=by
 rw [ao h]
 have z:=Ext.refl h
 refine Ok.aw 17 (bq KW) ?_
 simp only [aa,seval,Fb,Fe]
 refine Ok.aw 2 (bq K3) ?_
 simp only [aa,seval,Fb,Fe]
 repeat' ((first|((with_reducible apply bn) <;> intro _)|with_reducible refine Qv ?_) <;> simp only [aa,seval,Fb,Fe])
 all_goals exact hk _ _ z.aA
theorem zsw (s:au) (h:Heap) (K:aF) (h1:AD s->∀ h',Ext h h'->K (.bool true) h') (h2:∀ h',Ext h h'->K (.bool false) h'):Ok prog aD ov 162 [.string s] h K:=by
 rw [ao h]
 have z:=Ext.refl h
 refine Ok.aw 9 (bq KM) ?_
 simp only [aa,seval,Bd]
 refine zq3 _ _ _ (λhs h' x=>?_) (λh' x=>?_)
 ·(replace z:=z.an x;rw [ao h'])
  simp only [aa,seval,Bd]
  refine zra _ _ _ (λb h' x=>?_)
  (replace z:=z.an x;rw [ao h'])
  cases b
  all_goals
   repeat' (first|simp only [aa,seval,Bd]|((with_reducible apply bX);(· rfl)))
   first
    |with_reducible exact h1 hs _ z.aA
    |with_reducible exact h2 _ z.aA
 ·(replace z:=z.an x;rw [ao h'])
  simp only [aa,seval,Bd]
  exact h2 _ z.aA
theorem zfp (s:au) (h:Heap) (K:aF) (h1:AD s->∀ h',Ext h h'->K (.bool true) h') (h2:∀ h',Ext h h'->K (.bool false) h'):Ok prog aD ov 126 [.string s] h K:=by
 rw [ao h]
 have z:=Ext.refl h
 refine Ok.aw 9 (bq Kk) ?_
 simp only [aa,seval,A8]
 refine zsw _ _ _ (λhs h' x=>?_) (λh' x=>?_)
 ·(replace z:=z.an x;rw [ao h'])
  have:=hs.1
  simp only [aa,seval,A8]
  repeat' ((first|with_reducible refine zm3 _ _ _ (λ_=>?_) (λ_=>?_)|((with_reducible apply Hs);(· exact underlying9);(· rfl);(· rfl);(· omega);(· omega))) <;> simp only [aa,seval,A8])
  all_goals first
   |with_reducible exact h1 hs _ z.aA
   |with_reducible exact h2 _ z.aA
 ·(replace z:=z.an x;rw [ao h'])
  simp only [aa,seval,A8]
  exact h2 _ z.aA
theorem zhZ (s:au) (h:Heap) (K:aF) (h1:AD s->∀ h',Ext h h'->K (.bool true) h') (h2:∀ h',Ext h h'->K (.bool false) h'):Ok prog aD ov 127 [.string s] h K:=by
 rw [ao h]
 have z:=Ext.refl h
 refine Ok.aw 4 (bq Kl) ?_
 simp only [aa,seval,Ls]
 refine zfp _ _ _ (λhs h' x=>?_) (λh' x=>?_)
 all_goals
  (replace z:=z.an x;rw [ao h'])
  simp only [aa,seval,Ls]
  first
   |with_reducible exact h1 hs _ z.aA
   |with_reducible exact h2 _ z.aA
end Go.Proofs.YtiapegieocgmfaaGreatDoor
