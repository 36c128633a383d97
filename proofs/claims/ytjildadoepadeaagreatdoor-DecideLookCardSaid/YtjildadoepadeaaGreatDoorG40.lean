/- The code of some functions, node by node, for simp. Written by a program (mkcode.py). No condition. -/
import Derived.Test.YtjildadoepadeaaGreatDoorG35
import Derived.Test.YtjildadoepadeaaGreatDoorG39
set_option linter.unusedSimpArgs false
set_option linter.unusedVariables false
set_option maxRecDepth 100000
set_option maxHeartbeats 0
noncomputable section
namespace Go.Proofs.YtjildadoepadeaaGreatDoor
open Go.Am Tryz
def O7:=bq f46
def QY:=PLift.up (by have c:=bw O7 f46;simp only [aJ,f46,seval] at c;exact nd c <| nd @zyM <| nd @zyP <| nd @zyR <| @Kb)
theorem nc:type_of% QY.down:=QY.down
def OX:=bq f22
def QO:=PLift.up (by have c:=bw OX f22;simp only [aJ,f22,seval] at c;exact nd c <| nd @wS <| nd @zxz <| nd @ui <| @J1)
theorem zG:type_of% QO.down:=QO.down
def O8:=bq f47
def QZ:=PLift.up (by have c:=bw O8 f47;simp only [aJ,f47,seval] at c;exact nd c <| nd @dM <| @Kc)
theorem GV:type_of% QZ.down:=QZ.down
def O9:=bq f48
def Q0:=PLift.up (by have c:=bw O9 f48;simp only [aJ,f48,seval] at c;exact nd c <| nd @Uu <| nd @dM <| nd @eO <| @Kd)
theorem JA:type_of% Q0.down:=Q0.down
def Pb:=bq f50
def Q2:=PLift.up (by have c:=bw Pb f50;simp only [aJ,f50,seval] at c;exact nd c <| nd @zw3 <| nd @eO <| @Kf)
theorem CO:type_of% Q2.down:=Q2.down
def Pd:=bq f52
def Q4:=PLift.up (by have c:=bw Pd f52;simp only [aJ,f52,seval] at c;exact nd c <| nd @Gr <| nd @Gs <| nd @Uu <| nd @dM <| nd @jy <| nd @cP <| nd @eO <| @Kh)
theorem CP:type_of% Q4.down:=Q4.down
def O0:=bq f25
def QR:=PLift.up (by have c:=bw O0 f25;simp only [aJ,f25,seval] at c;exact nd c <| nd @dM <| nd @cP <| @J4)
theorem PF:type_of% QR.down:=QR.down
def O1:=bq f26
def QS:=PLift.up (by have c:=bw O1 f26;simp only [aJ,f26,seval] at c;exact nd c <| nd @sb <| nd @dM <| nd @cP <| nd @eO <| @J5)
theorem uX:type_of% QS.down:=QS.down
def N4:=bq f4
def x4:=PLift.up (by have c:=bw N4 f4;simp only [aJ,f4,seval] at c;exact nd c <| nd @wS <| nd @Gr <| nd @Gs <| nd @dM <| nd @jy <| nd @cP <| nd @ui <| nd @ou <| @Ve)
theorem c4:type_of% x4.down:=x4.down
theorem Xe (k:Int) (a:ae):(fw k a)[0]? = some (.int .i64 k):=rfl
theorem QD (k:Int) (a:ae):cut (fw k a) 1 11=some a.cells:=rfl
theorem zub (d:aD) (p0 p1 p2 p5 p6:ai) (q b:Int) (A:Nat) (h:Heap) (bJ:aI 1 h) (aY:(cN p0 p1 p2 p5 p6 q b).all Am.one=true) (hd:dP h p0 p1 p2 p5 p6 d) (hq:d.cB=q) (hb:d.bO=b) (hn:qm d) (q0:Holds h A (.row (cN p0 p1 p2 p5 p6 q b) 29 false)) (K:aF)
 (ea:kp d=0->∀ h',Ext h h'->K (.int .i64 0) h') (gR:¬ kp d=0->∀ h',Ext h h'->K (.int .i64 2) h'):Ok prog az ov 47 [.pointer (some ⟨A,0,none⟩)] h K:=by
 rw [ak h]
 have z:=Ext.refl h
 refine Ok.au 4 (br O8) ?_
 simp only [aa,seval,GV,q0.lay,↓eI,eH,ef]
 refine zsv d _ _ _ _ _ _ _ _ (bJ.lay _ _) aY (hd.lay _ _) hq hb hn _ (λh' x=>?_)
 (replace z:=z.aj x;rw [ak h'])
 simp only [aa,seval,GV]
 refine gD (λaV=>?_) (λheq=>?_)
 .simp only [aa,seval,GV]
  exact gR aV _ z.ao
 .simp only [aa,seval,GV]
  exact ea heq _ z.ao
theorem zuc (d:aD) (s t:aA) (p0 p1 p2 p5 p6:ai) (q b:Int) (A B:Nat) (h:Heap) (hd:dP h p0 p1 p2 p5 p6 d) (hs:d.ah.length<=1000) (q0:Holds h A (.row (cN p0 p1 p2 p5 p6 q b) 29 false)) (q1:Holds h B (.row [.string s,.string t] 60 false)) (K:aF)
 (ea:aM d.ah s=true->∀ h',Ext h h'->K (.int .i64 0) h') (gR:aM d.ah s=false->∀ h',Ext h h'->K (.int .i64 6) h'):Ok prog az ov 48 [.pointer (some ⟨A,0,none⟩),.pointer (some ⟨B,0,none⟩)] h K:=by
 rw [ak h]
 have z:=Ext.refl h
 refine Ok.au 6 (br O9) ?_
 simp only [aa,seval,JA,q0.lay,q1.lay,↓eI,eH,ef]
 refine Aj d.ah s _ _ _ _ _ _ _ _ (hd.s0.lay _ _) hs _ (λh' x=>?_)
 (replace z:=z.aj x;rw [ak h'])
 cases hh:aM d.ah s
 .repeat' (first|simp only [aa,seval,JA]|((with_reducible apply bK);(· rfl)))
  exact gR hh _ z.ao
 .repeat' (first|simp only [aa,seval,JA]|((with_reducible apply bK);(· rfl)))
  exact ea hh _ z.ao
theorem zud (s t:aA) (ht:t.size<=100000) (k0:Int) (a0:ae) (B C:Nat) (h hc:Heap) (bJ:aI 1 hc) (z:Ext h hc) (hC:h.size<=C) (KN:B≠C) (q1:Holds hc B (.row [.string s,.string t] 60 false)) (q2:Holds hc C (.row (fw k0 a0) 53 false)) (K:aF)
 (ea:∀ (k:Nat) (a:ae),eM t=some (k,a)->∀ h',Ext h h'->Sm C hc h'->Holds h' C (.row (fw k a) 53 false)->K (.int .i64 0) h')
 (dZ:eM t=none->∀ h' c,c≠0->Ext h h'->Sm C hc h'->Holds h' C (.row (fw 0 aw) 53 false)->K (.int .i64 c) h'):Ok prog az ov 50 [.pointer (some ⟨B,0,none⟩),.pointer (some ⟨C,0,none⟩)] hc K:=by
 have cg:=Sm.refl C hc
 rw [ak hc]
 refine Ok.au 8 (br Pb) ?_
 simp only [aa,seval,CO,q1.lay]
 refine Zx t ht _ (bJ.lay _ _) _ (λk a hr h' x=>?_) (λhr h' c G6 x=>?_)
 ·(replace z:=z.aj x;( replace q1:=q1.over x );( replace q2:=q2.over x );( replace cg:=cg.over x );rw [ak h'])
  repeat' (simp only [aa,seval,CO,gZ])
  refine dD (o:=0) q2 jB (mG _ _) rfl (bg 12) rfl (λh9 sM c=>?_)
  replace sM:Holds h9 C (.row (fw k a) 53 false):=sM
  replace cg:=cg.cj c
  replace z:=z.cX c hC (by omega)
  rw [ak h9]
  simp only [aa,seval,CO]
  exact ea k a hr _ z.ao (cg.lay _ _) (sM.on _ _)
 ·(replace z:=z.aj x;( replace q1:=q1.over x );( replace q2:=q2.over x );( replace cg:=cg.over x );rw [ak h'])
  repeat' (simp only [aa,seval,CO,gZ])
  refine dD (o:=0) q2 jB (mG _ _) rfl (bg 12) rfl (λh9 sM c2=>?_)
  replace sM:Holds h9 C (.row (fw 0 aw) 53 false):=sM
  replace cg:=cg.cj c2
  replace z:=z.cX c2 hC (by omega)
  rw [ak h9]
  simp only [aa,seval,CO]
  exact dZ hr _ c G6 z.ao (cg.lay _ _) (sM.on _ _)
theorem zua (d:aD) (a:ae) (p0 p1 p2 p5 p6:ai) (q b:Int) (h:Heap) (bJ:aI 1 h) (aY:(cN p0 p1 p2 p5 p6 q b).all Am.one=true) (h0:Sl aQ.str h p0 d.ah) (h1:Sl aQ.pred h p1 d.bo) (hs:d.ah.length<=1000) (K:aF) (hk:∀ h',Ext h h'->K (.int .i64 (ek d a)) h'):Ok prog az ov 53 [fS p0 p1 p2 p5 p6 q b,a.val] h K:=by
 rw [ak h]
 have z:=Ext.refl h
 refine Ok.au 6 (br Pe) ?_
 simp only [aa,seval,PH,iE,↓eI,eH,ef,e9,↓eZ,dO,dx]
 refine Ig d a _ _ _ _ _ _ _ _ (bJ.lay _ _) aY (h0.lay _ _) (h1.lay _ _) hs _ (λh' x=>?_)
 (replace z:=z.aj x;rw [ak h'])
 simp only [aa,seval,PH]
 exact hk _ z.ao
def zt (d:aD) (s:aA) (k:Int) (a:ae):Int:=if k=3 then ek d a else kq d s a
theorem zue (d:aD) (s t:aA) (k:Int) (a:ae) (p0 p1 p2 p5 p6:ai) (q b:Int) (A B C:Nat) (h:Heap) (bJ:aI 1 h) (aY:(cN p0 p1 p2 p5 p6 q b).all Am.one=true) (hd:dP h p0 p1 p2 p5 p6 d) (hs:d.ah.length<=1000) (q0:Holds h A (.row (cN p0 p1 p2 p5 p6 q b) 29 false)) (q1:Holds h B (.row [.string s,.string t] 60 false)) (q2:Holds h C (.row (fw k a) 53 false)) (K:aF)
 (hk:∀ h',Ext h h'->K (.int .i64 (zt d s k a)) h'):Ok prog az ov 52 [.pointer (some ⟨C,0,none⟩),.pointer (some ⟨A,0,none⟩),.pointer (some ⟨B,0,none⟩)] h K:=by
 rw [ak h]
 have z:=Ext.refl h
 refine Ok.au 14 (br Pd) ?_
 simp only [aa,seval,CP,q2.lay,Xe]
 refine sj (λh3=>?_) (λh3=>?_)
 .simp only [aa,seval,CP,q0.lay,q2.lay,↓QD,↓eI,eH,ef,dO,dx]
  refine zua d a _ _ _ _ _ _ _ _ (bJ.lay _ _) aY (hd.s0.lay _ _) (hd.s1.lay _ _) hs _ (λh' x=>?_)
  (replace z:=z.aj x;replace q0:=q0.over x;replace q1:=q1.over x;replace q2:=q2.over x;rw [ak h'])
  simp only [aa,seval,CP]
  have rh:zt d s k a=ek d a:=aC h3
  rw [rh] at hk
  exact hk _ z.ao
 .simp only [aa,seval,CP,q0.lay,q1.lay,q2.lay,↓QD,↓eI,eH,ef,dO,dx]
  refine zt6 d s a _ _ _ _ _ _ _ _ (bJ.lay _ _) aY (hd.s0.lay _ _) (hd.s1.lay _ _) hs _ (λh' x=>?_)
  (replace z:=z.aj x;replace q0:=q0.over x;replace q1:=q1.over x;replace q2:=q2.over x;rw [ak h'])
  simp only [aa,seval,CP]
  have rh:zt d s k a=kq d s a:=ay h3
  rw [rh] at hk
  exact hk _ z.ao
def OJ (d:aD) (s t:aA) (e k:Int) (a:ae):Prop :=
 (¬ kp d=0/\e=2)\/(kp d=0/\aM d.ah s=false/\e=6)\/(kp d=0/\aM d.ah s=true/\eM t=none/\e≠0) \/
  (kp d=0/\aM d.ah s=true/\(∃ m:Nat,k=m/\eM t=some (m,a))/\e=zt d s k a)
theorem zxj {h:Heap} {D c:Nat} {u:TypeId} {ro:Bool} {l:List ai} (hb:Holds h D (.row l u ro)) (h1:l.all Am.one=true) (hc:c=l.length) (hl:l.length<=100):Sl aQ.xk h (.slice (some ⟨D,0,none⟩) l.length c) l:=by
 refine .inr ⟨D,0,c,l,u,ro,rfl,by unfold maxLen;omega,.inl ⟨by unfold G;omega,by omega⟩,hb.lt,hb.get,λj x hx=>⟨[x],?_,rfl,fD.1 h1 x (ig hx)⟩⟩
 have hj:=fB.1 hx
 have re:=hj.1
 show cut l (0+j*1) 1=some [x]
 unfold cut
 rw [aC (by omega),jX,uS,F5 hj.1,hj.2]
 rfl
theorem zsy (d:aD) (s t:aA) (ht:t.size<=100000) (p0 p1 p2 p5 p6:ai) (q b:Int) (A B C D:Nat) (h hc:Heap) (bJ:aI 1 h) (aY:(cN p0 p1 p2 p5 p6 q b).all Am.one=true) (hd:dP h p0 p1 p2 p5 p6 d) (hq:d.cB=q) (hb:d.bO=b) (hn:qm d) (z:Ext h hc) (hC:h.size<=C) (ft:A≠C) (KN:B≠C) (va:D≠C)
 (q0:Holds hc A (.row (cN p0 p1 p2 p5 p6 q b) 29 false)) (q1:Holds hc B (.row [.string s,.string t] 60 false)) (q2:Holds hc C (.row (fw 0 aw) 53 false))
 (q3:Holds hc D (.row [.func (.func 47) ⟨[]⟩ ⟨[.pointer (some ⟨A,0,none⟩)]⟩,.func (.func 48) ⟨[]⟩ ⟨[.pointer (some ⟨A,0,none⟩),.pointer (some ⟨B,0,none⟩)]⟩,.func (.func 50) ⟨[]⟩ ⟨[.pointer (some ⟨B,0,none⟩),.pointer (some ⟨C,0,none⟩)]⟩,.func (.func 52) ⟨[]⟩ ⟨[.pointer (some ⟨C,0,none⟩),.pointer (some ⟨A,0,none⟩),.pointer (some ⟨B,0,none⟩)]⟩] 102 false)) (K:aF)
 (hk:∀ h' e k a,OJ d s t e k a->Ext h h'->Sm C hc h'->Holds h' C (.row (fw k a) 53 false)->K (.int .i64 e) h'):Ok prog az ov 46 [.slice (some ⟨D,0,none⟩) 4 4] hc K:=by
 have cg:=Sm.refl C hc
 rw [ak hc]
 obtain ⟨iR,pQ⟩:∃ iR:List ai,iR=[.func (.func 47) ⟨[]⟩ ⟨[.pointer (some ⟨A,0,none⟩)]⟩,.func (.func 48) ⟨[]⟩ ⟨[.pointer (some ⟨A,0,none⟩),.pointer (some ⟨B,0,none⟩)]⟩,.func (.func 50) ⟨[]⟩ ⟨[.pointer (some ⟨B,0,none⟩),.pointer (some ⟨C,0,none⟩)]⟩,.func (.func 52) ⟨[]⟩ ⟨[.pointer (some ⟨C,0,none⟩),.pointer (some ⟨A,0,none⟩),.pointer (some ⟨B,0,none⟩)]⟩]:=⟨_,rfl⟩
 rw [<- pQ] at q3
 have sG:iR.length=4:=by rw [pQ];rfl
 have Lc:iR.all Am.one=true:=by rw [pQ];rfl
 obtain ⟨sv,tW⟩:∃ sv,sv=Value.slice (some ⟨D,0,none⟩) 4 4:=⟨_,rfl⟩
 rw [<- tW]
 have Xf:∀ h2,Holds h2 D (.row iR 102 false)->Sl aQ.xk h2 sv iR:=λh2 hh=>by
  have:=zxj (c:=4) hh Lc sG.symm (by omega)
  rw [sG] at this
  rw [tW];exact this
 have V5:∀ hh:Heap,bE az 104 sv hh=some (.int .i64 4):=λhh=>by rw [tW];exact r5 GK
 refine Ok.au 17 (br O7) ?_
 simp only [aa,seval,nc,V5]
 obtain ⟨I1,aU⟩:∃ I:Nat->Env->Heap->Prop,I=(λn e h'=>∃ (i:Nat) (k:Int) (a:ae) (h1:Heap),h'=h1.lay [] h1.low/\Ext h h1/\(n=4 - i/\i<=4/\Holds h1 A (.row (cN p0 p1 p2 p5 p6 q b) 29 false)/\Holds h1 B (.row [.string s,.string t] 60 false)/\Holds h1 C (.row (fw k a) 53 false)/\Holds h1 D (.row iR 102 false)/\Sm C hc h1/\(1<=i->kp d=0)/\(2<=i->aM d.ah s=true)/\(3<=i->∃ m:Nat,k=m/\eM t=some (m,a))/\(4<=i->zt d s k a=0))/\∃ J:Nat->ai,e=(jr J 0 6 (sv::.int .i64 4::.int .i64 i::jr J 9 9 ([])))):=⟨_,rfl⟩
 refine dK I1 _ (by rw [aU];exact ⟨0,0,aw,_,rfl,z,⟨rfl,by omega,q0,q1,q2,q3,cg,by omega,by omega,by omega,by omega⟩,bx⟩) ?_
 intro n e h' aR
 rw [aU] at aR
 obtain ⟨i,k,a,b8,rfl,z,hinv,J,rfl⟩:=aR
 clear q0 q1 q2 q3 cg
 obtain ⟨rfl,hi,q0,q1,q2,q3,cg,i1,i2,i3,i4⟩:=hinv
 have hw:=ec i (by omega)
 simp only [aa,seval,nc]
 refine bp (λaS=>?_) (λaS=>?_)
 rotate_left
 .have he:i=4:=by omega
  subst he
  simp only [aa,seval,nc]
  exact hk _ 0 k a (.inr (.inr (.inr ⟨i1 (by omega),i2 (by omega),i3 (by omega),(i4 (by omega)).symm⟩))) z.ao (cg.lay _ _) (q2.on _ _)
 obtain ⟨fv,hf,pP⟩:=fx (l:=iR) (i:=i) (by omega)
 have sf:=Xf _ q3
 simp only [aa,seval,nc]
 repeat' ((first|with_reducible refine NX sf GK zy2 (by omega) hf (λp hp=>?_)|with_reducible refine iF hp UQ ?_) <;> simp only [aa,seval,nc])
 clear hp
 have qS:i=0\/i=1\/i=2\/i=3:=by omega
 rcases qS with rfl|rfl|rfl|rfl
 .obtain rfl:fv=.func (.func 47) ⟨[]⟩ ⟨[.pointer (some ⟨A,0,none⟩)]⟩:=by rw [pQ] at pP;exact (Option.some.inj pP).symm
  rw [oz]
  refine zub d _ _ _ _ _ q b A _ ((bJ.ext z).lay _ _) aY ((hd.mono z.inc).lay _ _) hq hb hn (q0.on _ _) _ (λg h' x=>?_) (λg h' x=>?_)
  ·(replace z:=z.aj x;( replace q0:=q0.over x );( replace q1:=q1.over x );( replace q2:=q2.over x );( replace q3:=q3.over x );( replace cg:=cg.over x );rw [ak h'])
   simp only [aa,seval,nc]
   (rw [aU];with_reducible refine db (m:=_) ?_ ⟨1,k,a,_,rfl,z,⟨rfl,by omega,q0,q1,q2,q3,cg,λ_=>g,by omega,by omega,by omega⟩,bx⟩;omega)
  ·(replace z:=z.aj x;( replace q0:=q0.over x );( replace q1:=q1.over x );( replace q2:=q2.over x );( replace q3:=q3.over x );( replace cg:=cg.over x );rw [ak h'])
   simp only [aa,seval,nc]
   exact hk _ 2 k a (.inl ⟨g,rfl⟩) z.ao (cg.lay _ _) (q2.on _ _)
 .obtain rfl:fv=.func (.func 48) ⟨[]⟩ ⟨[.pointer (some ⟨A,0,none⟩),.pointer (some ⟨B,0,none⟩)]⟩:=by rw [pQ] at pP;exact (Option.some.inj pP).symm
  rw [oz]
  refine zuc d s t _ _ _ _ _ q b A B _ ((hd.mono z.inc).lay _ _) hn.p (q0.on _ _) (q1.on _ _) _ (λg h' x=>?_) (λg h' x=>?_)
  ·(replace z:=z.aj x;( replace q0:=q0.over x );( replace q1:=q1.over x );( replace q2:=q2.over x );( replace q3:=q3.over x );( replace cg:=cg.over x );rw [ak h'])
   simp only [aa,seval,nc]
   (rw [aU];with_reducible refine db (m:=_) ?_ ⟨2,k,a,_,rfl,z,⟨rfl,by omega,q0,q1,q2,q3,cg,λ_=>i1 (by omega),λ_=>g,by omega,by omega⟩,bx⟩;omega)
  ·(replace z:=z.aj x;( replace q0:=q0.over x );( replace q1:=q1.over x );( replace q2:=q2.over x );( replace q3:=q3.over x );( replace cg:=cg.over x );rw [ak h'])
   simp only [aa,seval,nc]
   exact hk _ 6 k a (.inr (.inl ⟨i1 (by omega),g,rfl⟩)) z.ao (cg.lay _ _) (q2.on _ _)
 .obtain rfl:fv=.func (.func 50) ⟨[]⟩ ⟨[.pointer (some ⟨B,0,none⟩),.pointer (some ⟨C,0,none⟩)]⟩:=by rw [pQ] at pP;exact (Option.some.inj pP).symm
  rw [oz]
  refine zud s t ht k a B C h _ ((bJ.ext z).lay _ _) z.ao hC KN (q1.on _ _) (q2.on _ _) _ (λk2 a2 g h' z2 s2 sM=>?_) (λg h' c G6 z2 s2 sM=>?_)
  all_goals
   replace q0:=q0.lL s2 ft
   replace q1:=q1.lL s2 KN
   replace q3:=q3.lL s2 va
   replace cg:=cg.iV s2
   clear z q2 sf
   have z:=z2
   have q2:=sM
   rw [ak h']
  .simp only [aa,seval,nc]
   (rw [aU];with_reducible refine db (m:=_) ?_ ⟨3,k2,a2,_,rfl,z,⟨rfl,by omega,q0,q1,q2,q3,cg,λ_=>i1 (by omega),λ_=>i2 (by omega),λ_=>⟨k2,rfl,g⟩,by omega⟩,bx⟩;omega)
  .simp only [aa,seval,nc]
   refine gD (λ_=>?_) (λheq=>absurd heq G6)
   simp only [aa,seval,nc]
   exact hk _ c 0 aw (.inr (.inr (.inl ⟨i1 (by omega),i2 (by omega),g,G6⟩))) z.ao (cg.lay _ _) (q2.on _ _)
 .obtain rfl:fv=.func (.func 52) ⟨[]⟩ ⟨[.pointer (some ⟨C,0,none⟩),.pointer (some ⟨A,0,none⟩),.pointer (some ⟨B,0,none⟩)]⟩:=by rw [pQ] at pP;exact (Option.some.inj pP).symm
  rw [oz]
  refine zue d s t k a _ _ _ _ _ q b A B C _ ((bJ.ext z).lay _ _) aY ((hd.mono z.inc).lay _ _) hn.p (q0.on _ _) (q1.on _ _) (q2.on _ _) _ (λh' x=>?_)
  (replace z:=z.aj x;replace q0:=q0.over x;replace q1:=q1.over x;replace q2:=q2.over x;replace q3:=q3.over x;replace cg:=cg.over x;rw [ak h'])
  simp only [aa,seval,nc]
  refine gD (λaV=>?_) (λheq=>?_)
  .simp only [aa,seval,nc]
   exact hk _ _ k a (.inr (.inr (.inr ⟨i1 (by omega),i2 (by omega),i3 (by omega),rfl⟩))) z.ao (cg.lay _ _) (q2.on _ _)
  .simp only [aa,seval,nc]
   (rw [aU];with_reducible refine db (m:=_) ?_ ⟨4,k,a,_,rfl,z,⟨rfl,by omega,q0,q1,q2,q3,cg,λ_=>i1 (by omega),λ_=>i2 (by omega),λ_=>i3 (by omega),λ_=>heq⟩,bx⟩;omega)
theorem zuf (d:aD) (s t:aA) (ht:t.size<=100000) (p0 p1 p2 p5 p6:ai) (q b:Int) (h:Heap) (bJ:aI 1 h) (aY:(cN p0 p1 p2 p5 p6 q b).all Am.one=true) (hd:dP h p0 p1 p2 p5 p6 d) (hq:d.cB=q) (hb:d.bO=b) (hn:qm d) (K:aF)
 (dZ:∀ e,e≠0->(∃ k a,OJ d s t e k a)->∀ h',Ext h h'->K (.tuple #[jI 0 aw,.int .i64 e]) h') (ea:∀ k a,OJ d s t 0 k a->∀ h',Ext h h'->K (.tuple #[jI k a,.int .i64 0]) h'):Ok prog az ov 22 [fS p0 p1 p2 p5 p6 q b,(eK.mk s t).val] h K:=by
 rw [ak h]
 have z:=Ext.refl h
 refine Ok.au 17 (br OX) ?_
 simp only [aa,seval,zG,iE,zpQ]
 refine zsy d s t ht _ _ _ _ _ q b (h.size+0) (h.size+1) (h.size+3) (h.size+4) h _ bJ aY hd hq hb hn z.ao (by omega) (by omega) (by omega) (by omega) ⟨by rw [cF];simp,by rw [iL];rfl⟩ ⟨by rw [cF];simp,by rw [iL];rfl⟩ ⟨by rw [cF];simp,by rw [iL];rfl⟩ ⟨by rw [cF];simp,by rw [iL];rfl⟩ _ (λh2 e k a hr z2 s2 q2=>?_)
 have qE:Holds h2 (h.size+2) (.row (fw 0 aw) 53 false):=Holds.sm (h:=h.lay _ _) ⟨by rw [cF];simp,by rw [iL];rfl⟩ s2 (by omega)
 obtain ⟨C,hC⟩:∃ C,C=h.size+3:=⟨_,rfl⟩
 obtain ⟨E,hE⟩:∃ E,E=h.size+2:=⟨_,rfl⟩
 rw [<- hC] at q2 ⊢
 rw [<- hE] at qE ⊢
 clear z
 have z:=z2
 rw [ak h2]
 simp only [aa,seval,zG]
 refine gD (λaV=>?_) (λheq=>?_)
 .repeat' ( simp only [aa,seval,zG,uD,gZ])
  refine dD (o:=0) qE jB (mG _ _) rfl (bg 12) rfl (λh9 yG c=>?_)
  replace yG:Holds h9 E (.row (fw 0 aw) 53 false):=yG
  replace z:=z.cX c (by omega) (by omega)
  rw [ak h9]
  simp only [aa,seval,zG,yG.lay,↓mK,mI,gZ]
  exact dZ e aV ⟨k,a,hr⟩ _ z.ao
 .subst heq
  repeat' (simp only [aa,seval,zG,q2.lay,↓mK,mI,gZ])
  refine dD (o:=0) qE jB (mG _ _) rfl (bg 12) rfl (λh9 yG c=>?_)
  replace yG:Holds h9 E (.row (fw k a) 53 false):=yG
  replace z:=z.cX c (by omega) (by omega)
  rw [ak h9]
  simp only [aa,seval,zG,yG.lay,↓mK,mI,gZ]
  exact ea k a hr _ z.ao
end Go.Proofs.YtjildadoepadeaaGreatDoor
