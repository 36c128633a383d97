/- Walks: what is gone through of a policy, all bounds. Written out by fill2.py. No condition. -/
import Derived.Test.YtjildadoepadeaaGreatDoorG40
import Derived.Test.YtjildadoepadeaaGreatDoorG44
import Derived.Test.YtjildadoepadeaaGreatDoorG47
set_option linter.unusedSimpArgs false
set_option linter.unusedVariables false
set_option maxRecDepth 100000
set_option maxHeartbeats 0
namespace Go.Proofs.YtjildadoepadeaaGreatDoor
open Go.Am Tryz
variable {a:ae} {s:aA} {d:aD}
theorem XF (d:aD) (p0 p1 p2 p5 p6:ai) (q b:Int) (h:Heap) (hd:dP h p0 p1 p2 p5 p6 d) (K:aF) (ea:d.ah.length<=70->d.bo.length<=70->d.aN.length<=70->(∀ c∈d.aN,c.reads.length<=40)->d.rules.length<=70->(∀ r∈d.rules,r.body.length<=9)->d.aP.length<=70->(∀ g∈d.aP,g.body.length<=9)->∀ h',Ext h h'->K (.bool true) h') (gR:∀ h',Ext h h'->K (.bool false) h'):Ok prog az ov 19 [fS p0 p1 p2 p5 p6 q b] h K:=by
 rw [ak h]
 have z:=Ext.refl h
 have D6:∀ (h:Heap) (K:aF),aE (some p0) h K=K p0 h:=λ_ _=>rfl
 have pY:∀ (h:Heap) (K:aF),aE (some p1) h K=K p1 h:=λ_ _=>rfl
 have o7:∀ (h:Heap) (K:aF),aE (some p2) h K=K p2 h:=λ_ _=>rfl
 have pc:∀ (h:Heap) (K:aF),aE (some p5) h K=K p5 h:=λ_ _=>rfl
 have pZ:∀ (h:Heap) (K:aF),aE (some p6) h K=K p6 h:=λ_ _=>rfl
 have oX:=λ(hh:Heap)=>hd.s1.bE iu hh
 have kH:=λ(hh:Heap)=>hd.s2.bE jg hh
 have sI:=λ(hh:Heap)=>hd.s5.bE jh hh
 have rm:=λ(hh:Heap)=>hd.s6.bE j3 hh
 refine Ok.au 134 (br OU) ?_
 repeat' (simp only [aa,seval,iQ,iE,kh,D6])
 refine RV d.ah p0 70 6000 _ (hd.s0.lay _ _) _ (λe0 h' x=>?_) (λh' x=>?_)
 rotate_left
 .have q0:=Holds.top (i:=0) x rfl
  (replace z:=z.aj x;rw [ak h'])
  repeat' (first|simp only [aa,seval,iQ]|((with_reducible apply bK);(· rfl)))
  exact gR _ z.ao
 have q0:=Holds.top (i:=0) x rfl
 (replace z:=z.aj x;rw [ak h'])
 obtain ⟨A0,dA⟩:∃ A0,A0=h.size+0:=⟨_,rfl⟩
 rw [<- dA] at q0
 rw [<- dA]
 repeat' (first|simp only [aa,seval,iQ,q0.lay,iW,mz,ki,lu,pY,o7,pc,pZ,oX,kH,sI,rm]|((with_reducible apply bp) <;> intro _)|((with_reducible apply bK);(· rfl)))
 iterate 4 (· exact gR _ z.ao)
 have e1:d.bo.length<=70:=by omega
 have e2:d.aN.length<=70:=by omega
 have e5:d.rules.length<=70:=by omega
 have e6:d.aP.length<=70:=by omega
 obtain ⟨I1,aU⟩:∃ I:Nat->Env->Heap->Prop,I=(λn e h'=>∃ (i:Nat) (h1:Heap),h'=h1.lay [] h1.low/\Ext h h1/\(n=d.bo.length - i/\i<=d.bo.length/\Holds h1 A0 (.row (cN p0 p1 p2 p5 p6 q b) 29 false))/\∃ J:Nat->ai,e=(J 0::.pointer (some ⟨A0,0,none⟩)::J 2::.int .i64 i::jr J 4 131 ([]))):=⟨_,rfl⟩
 refine dK I1 _ (by rw [aU];exact ⟨0,_,rfl,z,⟨rfl,by omega,q0⟩,bx⟩) ?_
 intro n e h' aR
 rw [aU] at aR
 obtain ⟨i,b8,rfl,z,hinv,J,rfl⟩:=aR
 clear q0
 obtain ⟨rfl,hi,q0⟩:=hinv
 have hw:=ec i (by omega)
 simp only [aa,seval,iQ,q0.lay,iW,pY,oX]
 refine bp (λaS=>?_) (λaS=>?_)
 .obtain ⟨r,hr,bz⟩:=fx (l:=d.bo) (i:=i) (by omega)
  repeat' (first|simp only [aa,seval,iQ,q0.lay,iW,pY]|((with_reducible apply bp) <;> intro _)|with_reducible refine Gv (hd.s1.mono z.inc) iu iX (by omega) hr (λp hp=>?_)|with_reducible refine qz hp ze (λq hq=>?_)|with_reducible refine iF hq lG ?_)
  .exact gR _ z.ao
  rw [hw]
  (rw [aU];with_reducible refine db (m:=_) ?_ ⟨i+1,_,rfl,z,⟨rfl,by omega,q0⟩,bx⟩;omega)
 clear hi aS hw
 simp only [aa,seval,iQ]
 obtain ⟨I2,fV⟩:∃ I:Nat->Env->Heap->Prop,I=(λn e h'=>∃ (i:Nat) (h1:Heap),h'=h1.lay [] h1.low/\Ext h h1/\(n=d.aN.length - i/\i<=d.aN.length/\(∀ c∈d.aN.take i,c.reads.length<=40)/\Holds h1 A0 (.row (cN p0 p1 p2 p5 p6 q b) 29 false))/\∃ J:Nat->ai,e=(J 0::.pointer (some ⟨A0,0,none⟩)::jr J 2 2 (.int .i64 i::jr J 5 130 ([])))):=⟨_,rfl⟩
 refine dK I2 _ (by rw [fV];exact ⟨0,_,rfl,z,⟨rfl,by omega,by simp,q0⟩,bx⟩) ?_
 intro n e h' aR
 rw [fV] at aR
 obtain ⟨i,b8,rfl,z,hinv,J,rfl⟩:=aR
 clear q0
 obtain ⟨rfl,hi,aq,q0⟩:=hinv
 have hw:=ec i (by omega)
 simp only [aa,seval,iQ,q0.lay,mz,o7,kH]
 refine bp (λaS=>?_) (λaS=>?_)
 .obtain ⟨r,hr,bz⟩:=fx (l:=d.aN) (i:=i) (by omega)
  repeat' (first|simp only [aa,seval,iQ,q0.lay,mz,o7]|((with_reducible apply bp) <;> intro _)|with_reducible refine AZ (hd.s2.mono z.inc) jg km (by omega) hr (λp b hb hp=>?_)|with_reducible refine qz hp wo (λq hq=>?_)|with_reducible refine iF hq lG ?_|with_reducible refine CX hp IK (λq hq=>?_)|with_reducible refine iF hq Cr ?_)
  .exact gR _ z.ao
  refine RV r.reads _ 40 3000 _ (hb.lay _ _) _ (λer h' x=>?_) (λh' x=>?_)
  rotate_left
  ·(replace z:=z.aj x;( replace q0:=q0.over x );rw [ak h'])
   repeat' (first|simp only [aa,seval,iQ]|((with_reducible apply bK);(· rfl)))
   exact gR _ z.ao
  (replace z:=z.aj x;replace q0:=q0.over x;rw [ak h'])
  repeat' (first|simp only [aa,seval,iQ]|((with_reducible apply bK);(· rfl)))
  rw [hw]
  (rw [fV];with_reducible refine db (m:=_) ?_ ⟨i+1,_,rfl,z,⟨rfl,by omega,mS (i:=i) (P:=λc:ba=>c.reads.length<=40) bz aq (by omega),q0⟩,bx⟩;omega)
 rw [i9 (by omega)] at aq
 clear hi aS hw
 simp only [aa,seval,iQ]
 obtain ⟨I3,tD⟩:∃ I:Nat->Env->Heap->Prop,I=(λn e h'=>∃ (i:Nat) (h1:Heap),h'=h1.lay [] h1.low/\Ext h h1/\(n=d.rules.length - i/\i<=d.rules.length/\(∀ r∈d.rules.take i,r.body.length<=9)/\Holds h1 A0 (.row (cN p0 p1 p2 p5 p6 q b) 29 false))/\∃ J:Nat->ai,e=(J 0::.pointer (some ⟨A0,0,none⟩)::jr J 2 3 (.int .i64 i::jr J 6 129 ([])))):=⟨_,rfl⟩
 refine dK I3 _ (by rw [tD];exact ⟨0,_,rfl,z,⟨rfl,by omega,by simp,q0⟩,bx⟩) ?_
 intro n e h' aR
 rw [tD] at aR
 obtain ⟨i,b8,rfl,z,hinv,J,rfl⟩:=aR
 clear q0
 obtain ⟨rfl,hi,qI,q0⟩:=hinv
 have hw:=ec i (by omega)
 simp only [aa,seval,iQ,q0.lay,ki,pc,sI]
 refine bp (λaS=>?_) (λaS=>?_)
 .obtain ⟨r,hr,bz⟩:=fx (l:=d.rules) (i:=i) (by omega)
  repeat' (first|simp only [aa,seval,iQ,q0.lay,ki,pc]|with_reducible refine Gx (hd.s5.mono z.inc) jh mC (by omega) hr (λp b hb hp=>?_)|with_reducible refine xh hp zf (λq hq=>?_)|with_reducible refine vJ hq kV dv ?_)
  refine Ih r.head _ _ (λzX h' x=>?_) (λzX h' x=>?_)
  rotate_left
  ·(replace z:=z.aj x;( replace q0:=q0.over x );rw [ak h'])
   repeat' (first|simp only [aa,seval,iQ]|((with_reducible apply bK);(· rfl)))
   exact gR _ z.ao
  (replace z:=z.aj x;replace q0:=q0.over x;rw [ak h'])
  repeat' (first|simp only [aa,seval,iQ,q0.lay,ki,pc]|with_reducible refine Gx (hd.s5.mono z.inc) jh mC (by omega) hr (λp b hb hp=>?_)|with_reducible refine xi hp zg (λq hq=>?_)|with_reducible refine iF hq qn ?_|((with_reducible apply bK);(· rfl)))
  refine TA r.body _ 9 _ (Sl.mono (by assumption) (dz.lay _ _ _)) _ (λVx _ h' x=>?_) (λh' x=>?_)
  rotate_left
  ·(replace z:=z.aj x;( replace q0:=q0.over x );rw [ak h'])
   repeat' (first|simp only [aa,seval,iQ]|((with_reducible apply bK);(· rfl)))
   exact gR _ z.ao
  (replace z:=z.aj x;replace q0:=q0.over x;rw [ak h'])
  repeat' (first|simp only [aa,seval,iQ]|((with_reducible apply bK);(· rfl)))
  rw [hw]
  (rw [tD];with_reducible refine db (m:=_) ?_ ⟨i+1,_,rfl,z,⟨rfl,by omega,mS (i:=i) (P:=λr:bA=>r.body.length<=9) bz qI (by omega),q0⟩,bx⟩;omega)
 rw [i9 (by omega)] at qI
 clear hi aS hw
 simp only [aa,seval,iQ]
 obtain ⟨I4,KR⟩:∃ I:Nat->Env->Heap->Prop,I=(λn e h'=>∃ (i:Nat) (h1:Heap),h'=h1.lay [] h1.low/\Ext h h1/\(n=d.aP.length - i/\i<=d.aP.length/\(∀ g∈d.aP.take i,g.body.length<=9)/\Holds h1 A0 (.row (cN p0 p1 p2 p5 p6 q b) 29 false))/\∃ J:Nat->ai,e=(J 0::.pointer (some ⟨A0,0,none⟩)::jr J 2 4 (.int .i64 i::jr J 7 128 ([])))):=⟨_,rfl⟩
 refine dK I4 _ (by rw [KR];exact ⟨0,_,rfl,z,⟨rfl,by omega,by simp,q0⟩,bx⟩) ?_
 intro n e h' aR
 rw [KR] at aR
 obtain ⟨i,b8,rfl,z,hinv,J,rfl⟩:=aR
 clear q0
 obtain ⟨rfl,hi,qH,q0⟩:=hinv
 have hw:=ec i (by omega)
 simp only [aa,seval,iQ,q0.lay,lu,pZ,rm]
 refine bp (λaS=>?_) (λaS=>?_)
 rotate_left
 .rw [i9 (by omega)] at qH
  repeat' (simp only [aa,seval,iQ])
  exact ea (by omega) e1 e2 aq e5 qI e6 qH _ z.ao
 obtain ⟨r,hr,bz⟩:=fx (l:=d.aP) (i:=i) (by omega)
 repeat' (first|simp only [aa,seval,iQ,q0.lay,lu,pZ]|((with_reducible apply bp) <;> intro _)|with_reducible refine IU (hd.s6.mono z.inc) j3 lz (by omega) hr (λp b hb hp=>?_)|with_reducible refine JS hp IL (λq hq=>?_)|with_reducible refine iF hq lG ?_|with_reducible refine JT hp Gu (λq hq=>?_)|with_reducible refine vJ hq kV dv ?_)
 .exact gR _ z.ao
 refine Ih r.head _ _ (λzX h' x=>?_) (λzX h' x=>?_)
 rotate_left
 ·(replace z:=z.aj x;( replace q0:=q0.over x );rw [ak h'])
  repeat' (first|simp only [aa,seval,iQ]|((with_reducible apply bK);(· rfl)))
  exact gR _ z.ao
 (replace z:=z.aj x;replace q0:=q0.over x;rw [ak h'])
 repeat' (first|simp only [aa,seval,iQ,q0.lay,lu,pZ]|with_reducible refine IU (hd.s6.mono z.inc) j3 lz (by omega) hr (λp b hb hp=>?_)|with_reducible refine JU hp IM (λq hq=>?_)|with_reducible refine iF hq qn ?_|((with_reducible apply bK);(· rfl)))
 refine TA r.body _ 9 _ (Sl.mono (by assumption) (dz.lay _ _ _)) _ (λVx _ h' x=>?_) (λh' x=>?_)
 rotate_left
 ·(replace z:=z.aj x;( replace q0:=q0.over x );rw [ak h'])
  repeat' (first|simp only [aa,seval,iQ]|((with_reducible apply bK);(· rfl)))
  exact gR _ z.ao
 (replace z:=z.aj x;replace q0:=q0.over x;rw [ak h'])
 repeat' (first|simp only [aa,seval,iQ]|((with_reducible apply bK);(· rfl)))
 rw [hw]
 (rw [KR];with_reducible refine db (m:=_) ?_ ⟨i+1,_,rfl,z,⟨rfl,by omega,mS (i:=i) (P:=λg:dg=>g.body.length<=9) bz qH (by omega),q0⟩,bx⟩;omega)
theorem zv6 (h:aM d.ah s=false):kq d s a=6:=by unfold kq;rw [dN,h];rfl
theorem zv7 (h:aM d.ah s=true) (h1:¬ ek d a=0):kq d s a=ek d a:=by unfold kq;rw [dN,h,aC (by rfl),dN,ay h1]
theorem zv8 (h:aM d.ah s=true) (h1:ek d a=0) (h2:a.ground=false):kq d s a=10:=by unfold kq AU;rw [dN,h,aC (by rfl),dN,aC h1,dN,h2];rfl
theorem zwa (h:aM d.ah s=true) (h1:ek d a=0) (h2:a.ground=true) (h3:¬ a.says=s):kq d s a=11:=by unfold kq AU;rw [dN,h,aC (by rfl),dN,aC h1,dN,h2,aC (by rfl),dN,pK h3];rfl
theorem zv9 (h:aM d.ah s=true) (h1:ek d a=0) (h2:a.ground=true) (h3:a.says=s):kq d s a=0:=by unfold kq AU;rw [dN,h,aC (by rfl),dN,aC h1,dN,h2,aC (by rfl),dN,wE h3];rfl
theorem zt5 (d:aD) (s:aA) (a:ae) (p0 p1 p2 p5 p6:ai) (q b:Int) (h:Heap) (aY:(cN p0 p1 p2 p5 p6 q b).all Am.one=true) (hd:dP h p0 p1 p2 p5 p6 d) (K:aF) (hk:∀ h',Ext h h'->K (.int .i64 (kq d s a)) h'):Ok prog az ov 26 [fS p0 p1 p2 p5 p6 q b,.string s,a.val] h K:=by
 rw [ak h]
 have z:=Ext.refl h
 refine Ok.au 25 (br O1) ?_
 simp only [aa,seval,uX,iE,e9,↓eI,eH,ef]
 refine uF d.ah s _ _ _ _ _ _ _ _ (hd.s0.lay _ _) _ (λh' x=>?_)
 have q0:=Holds.top (i:=0) x rfl
 have e0:=Holds.top (i:=1) x rfl
 (replace z:=z.aj x;rw [ak h'])
 rw [uJ]
 cases hh:aM d.ah s
 .rw [zv6 hh] at hk
  repeat' (first|simp only [aa,seval,uX]|((with_reducible apply bK);(· rfl)))
  exact hk _ z.ao
 repeat' (first|simp only [aa,seval,uX,q0.lay,e0.lay,↓eI,eH,ef,↓eZ,dO,dx]|((with_reducible apply bK);(· rfl)))
 refine H0 d a _ _ _ _ _ _ _ _ aY ((hd.mono z.inc).lay _ _) _ (λh' x=>?_)
 (replace z:=z.aj x;replace q0:=q0.over x;replace e0:=e0.over x;rw [ak h'])
 simp only [aa,seval,uX]
 refine gD (λhc=>?_) (λh0=>?_)
 .rw [zv7 hh hc] at hk
  simp only [aa,seval,uX]
  exact hk _ z.ao
 simp only [aa,seval,uX,e0.lay,↓eZ,dO,dx]
 refine zqs a _ _ (λh' x=>?_)
 (replace z:=z.aj x;replace q0:=q0.over x;replace e0:=e0.over x;rw [ak h'])
 cases hg:a.ground
 .rw [zv8 hh h0 hg] at hk
  repeat' (first|simp only [aa,seval,uX]|((with_reducible apply bK);(· rfl)))
  exact hk _ z.ao
 repeat' (first|simp only [aa,seval,uX,e0.lay,Iu]|((with_reducible apply bp) <;> intro _)|((with_reducible apply bK);(· rfl)))
 .rw [zwa hh h0 hg (by assumption)] at hk
  exact hk _ z.ao
 .rw [zv9 hh h0 hg (by first|assumption|exact Decidable.not_not.1 (by assumption))] at hk
  exact hk _ z.ao
theorem zt9 (d:aD) (a:ae) (p0 p1 p2 p5 p6:ai) (q b:Int) (h:Heap) (aY:(cN p0 p1 p2 p5 p6 q b).all Am.one=true) (hd:dP h p0 p1 p2 p5 p6 d) (K:aF) (hk:∀ h',Ext h h'->K (.int .i64 (ek d a)) h'):Ok prog az ov 25 [fS p0 p1 p2 p5 p6 q b,a.val] h K:=by
 rw [ak h]
 have z:=Ext.refl h
 refine Ok.au 6 (br O0) ?_
 simp only [aa,seval,PF,iE,↓eI,eH,ef,e9,↓eZ,dO,dx]
 refine H0 d a _ _ _ _ _ _ _ _ aY (hd.lay _ _) _ (λh' x=>?_)
 (replace z:=z.aj x;rw [ak h'])
 simp only [aa,seval,PF]
 exact hk _ z.ao
theorem TY (x y:aA):mJ az 60 [(0,.string x),(1,.string y)]=some (⟨x,y⟩:eK).val:=by kernel_rfl
theorem Zm (k:Int) (a:ae) (h:Heap) (K:aF)
 (hk:∀ h' s e,Ext h h'->s.size<=4096->(e=0->∃ m:Nat,k=m/\eM s=some (m,a))->K (.tuple #[.string s,.int .i64 e]) h'):Ok prog az ov 21 [jI k a] h K :=
 Zn k a h K (λm e h1 h3 hv hs h' x=>hk _ _ _ x hs (λ_=>⟨m,e,zxg hv h1 h3 hs⟩)) (λh' c hc x=>hk _ _ _ x (by decide) (λe=>absurd e hc))
theorem It (k:Int) (a:ae):bD prog az .eql 53 (jI k a) (jI k a)=some (.bool true):=by
 have h1:bD prog az .eql 53 (jI k a) (jI k a)=(if (k == k)=true then (JE a a).bind (λc=>if c=true then some true else some false) else some false).map λb=>.bool b:=by kernel_rfl
 rw [h1,ztE];simp
theorem YL (d0:aD) (rk:Int) (ra:ae) (s PD:aA) (v rv:ai) (h:Heap) (bJ:aI 1 h) (hx:Cq h v d0) (DV:rv=jI rk ra) (K:aF)
 (hk:∀ h',Ext h h'->K (.bool true) h'):Ok prog az ov 4 [v,rv,.string s,.string PD] h K:=by
 subst DV
 obtain ⟨p0,p1,p2,p5,p6,q,b,rfl,zS⟩:=hx
 obtain ⟨d,hd,hq,hb⟩:∃ d:aD,dP h p0 p1 p2 p5 p6 d/\d.cB=q/\d.bO=b:=⟨{ d0 with cB:=q,bO:=b },⟨zS.s0,zS.s1,zS.s2,zS.s5,zS.s6⟩,rfl,rfl⟩
 clear zS
 have aY:=hd.one q b
 rw [ak h]
 have z:=Ext.refl h
 have xH:cut (fw rk ra) 1 11=some ra.cells:=rfl
 have kE:(fw rk ra)[0]? = some (.int .i64 rk):=rfl
 refine Ok.au 100 (br N4) ?_
 simp only [aa,seval,c4,iE,mG]
 refine Ok.over (g:=zy 1) rfl (zuH (bJ.lay _ _)) ?_
 repeat' (first|simp only [aa,seval,c4,↓eI,eH,ef]|((with_reducible apply bK);(· rfl)))
 refine XF d _ _ _ _ _ _ _ _ (hd.lay _ _) _ (λb0 b1 b2 b3 b4 b5 b6 b7 h' x=>?_) (λh' x=>?_)
 rotate_left
 ·(replace z:=z.aj x;rw [ak h'])
  repeat' (first|simp only [aa,seval,c4]|((with_reducible apply bK);(· rfl)))
  exact hk _ z.ao
 have qP:=Holds.top (i:=0) x rfl
 have qR:=Holds.top (i:=1) x rfl
 (replace z:=z.aj x;rw [ak h'])
 obtain ⟨P0,G1⟩:∃ P0,P0=h.size+0:=⟨_,rfl⟩
 obtain ⟨R0,PZ⟩:∃ R0,R0=h.size+1:=⟨_,rfl⟩
 rw [<- G1] at qP
 rw [<- PZ] at qR
 rw [<- G1,<- PZ]
 repeat' (first|simp only [aa,seval,c4,qR.lay,↓xH,dO,dx]|((with_reducible apply bK);(· rfl)))
 refine Ih ra _ _ (λaS h' x=>?_) (λaS h' x=>?_)
 rotate_left
 ·(replace z:=z.aj x;( replace qP:=qP.over x );( replace qR:=qR.over x );rw [ak h'])
  repeat' (first|simp only [aa,seval,c4]|((with_reducible apply bK);(· rfl)))
  exact hk _ z.ao
 (replace z:=z.aj x;replace qP:=qP.over x;replace qR:=qR.over x;rw [ak h'])
 repeat' (first|simp only [aa,seval,c4,qR.lay,↓mK,mI,gZ]|((with_reducible apply bp) <;> intro _)|((with_reducible apply bK);(· rfl)))
 all_goals try exact hk _ z.ao
 have Vq:qm d:=⟨by omega,by omega,by omega,λr hr=>by have:=b5 r hr;omega,by omega,λg hg=>by have:=b7 g hg;omega⟩
 refine Zm rk ra _ _ (λh' sr er x mn yh=>?_)
 (replace z:=z.aj x;replace qP:=qP.over x;replace qR:=qR.over x;rw [ak h'])
 simp only [aa,seval,c4]
 refine gD (λaV=>?_) (λheq=>?_)
 focus
  obtain ⟨py,vz⟩:∃ py,py=PD:=⟨_,rfl⟩
  have hp:py.size<=100000/\(er=0->∃ m:Nat,rk=m/\eM py=some (m,ra)):=⟨by rw [vz];omega,λe=>absurd e aV⟩
  rw [<- vz]
  clear vz yh mn aV
  repeat' (simp only [aa,seval,c4,qP.lay,↓eI,eH,ef,TY,Tx])
 rotate_left
 focus
  obtain ⟨py,vz⟩:∃ py,py=sr:=⟨_,rfl⟩
  have hp:py.size<=100000/\(er=0->∃ m:Nat,rk=m/\eM py=some (m,ra)):=⟨by rw [vz];omega,λe=>by rw [vz];exact yh e⟩
  rw [<- vz]
  clear vz yh mn heq
  repeat' (simp only [aa,seval,c4,qP.lay,↓eI,eH,ef,TY,Tx])
 all_goals
  refine zuf d s py hp.1 _ _ _ _ _ q b _ ((bJ.ext z).lay _ _) aY ((hd.mono z.inc).lay _ _) hq hb Vq _ (λe aV hr h' x=>?_) (λk a hr h' x=>?_)
  .obtain ⟨k,a,hr⟩:=hr
   (replace z:=z.aj x;replace qP:=qP.over x;replace qR:=qR.over x;rw [ak h'])
   repeat' (simp only [aa,seval,c4,i7,jM,iZ,pn,mG,Bd,A4,A9,gZ,qP.lay,↓eI,eH,ef])
   refine SP d _ _ _ _ _ _ _ _ aY ((hd.mono z.inc).lay _ _) hq hb (by omega) _ (λh' x=>?_)
   have qX:=Holds.top (i:=0) x rfl
   (replace z:=z.aj x;replace qP:=qP.over x;replace qR:=qR.over x;rw [ak h'])
   simp only [aa,seval,c4]
   refine gD (λhc=>?_) (λhc=>?_)
   .have he:e=2:=by
     rcases hr with g|g|g|g
     .exact g.2
     all_goals exact absurd g.1 hc
    subst he
    repeat' (simp only [aa,seval,c4,qX.lay,↓mK,mI,gZ,uD,It])
    exact hk _ z.ao
   .simp only [aa,seval,c4,qP.lay,↓eI,eH,ef]
    refine uF d.ah s _ _ _ _ _ _ _ _ ((hd.s0.mono z.inc).lay _ _) _ (λh' x=>?_)
    (replace z:=z.aj x;replace qP:=qP.over x;replace qR:=qR.over x;replace qX:=qX.over x;rw [ak h'])
    rw [uJ]
    cases hh:aM d.ah s
    .have he:e=6:=by
      rcases hr with g|g|g|g
      .exact absurd hc g.1
      .exact g.2.2
      all_goals exact absurd (hh.symm.trans g.2.1) (by decide)
     subst he
     repeat' (first|simp only [aa,seval,c4,qX.lay,↓mK,mI,gZ,uD,It]|((with_reducible apply bK);(· rfl)))
     exact hk _ z.ao
    .have LH:(e == 0)=false:=by simpa using aV
     repeat' (first|simp only [aa,seval,c4,LH]|((with_reducible apply gD) <;> intro _)|((with_reducible apply bK);(· rfl)))
     .simp only [aa,seval,c4,qX.lay,↓mK,mI,gZ,uD,It]
      exact hk _ z.ao
     .obtain ⟨m,hm,pX⟩:=hp.2 (by assumption)
      have Dl:e=zt d s rk ra:=by
       rcases hr with g|g|g|g
       .exact absurd hc g.1
       .exact absurd (hh.symm.trans g.2.1) (by decide)
       .have g3:=g.2.2.1
        rw [pX] at g3
        cases g3
       .obtain ⟨m',hY,bz⟩:=g.2.2.1
        rw [pX] at bz
        cases bz
        rw [g.2.2.2,hY,hm]
      simp only [aa,seval,c4,qR.lay,kE]
      refine sj (λh3=>?_) (λh3=>?_)
      .have rh:e=ek d ra:=by rw [Dl];exact aC h3
       simp only [aa,seval,c4,qP.lay,↓eI,eH,ef,qR.lay,↓xH,dO,dx]
       refine zt9 d ra _ _ _ _ _ _ _ _ aY ((hd.mono z.inc).lay _ _) _ (λh' x=>?_)
       (replace z:=z.aj x;replace qP:=qP.over x;replace qR:=qR.over x;replace qX:=qX.over x;rw [ak h'])
       simp only [aa,seval,c4,rh]
       exact hk _ z.ao
      .have rh:e=kq d s ra:=by rw [Dl];exact ay h3
       simp only [aa,seval,c4,qP.lay,↓eI,eH,ef,qR.lay,↓xH,dO,dx]
       refine zt5 d s ra _ _ _ _ _ _ _ _ aY ((hd.mono z.inc).lay _ _) _ (λh' x=>?_)
       (replace z:=z.aj x;replace qP:=qP.over x;replace qR:=qR.over x;replace qX:=qX.over x;rw [ak h'])
       simp only [aa,seval,c4,rh]
       exact hk _ z.ao
  ·(replace z:=z.aj x;( replace qP:=qP.over x );( replace qR:=qR.over x );rw [ak h'])
   obtain ⟨hc,hh,⟨m',hY,tV⟩,_⟩:kp d=0/\aM d.ah s=true/\(∃ m:Nat,k=m/\eM py=some (m,a))/\(0:Int)=zt d s k a:=by
    rcases hr with g|g|g|g
    .exact absurd g.2 (by decide)
    .exact absurd g.2.2 (by decide)
    .exact absurd rfl g.2.2.2
    .exact g
   repeat' (simp only [aa,seval,c4,i7,jM,iZ,pn,mG,Bd,A4,A9,gZ,qP.lay,↓eI,eH,ef])
   refine SP d _ _ _ _ _ _ _ _ aY ((hd.mono z.inc).lay _ _) hq hb (by omega) _ (λh' x=>?_)
   have qX:=Holds.top (i:=0) x rfl
   (replace z:=z.aj x;replace qP:=qP.over x;replace qR:=qR.over x;rw [ak h'])
   rw [hc]
   simp only [aa,seval,c4,bne_self_eq_false,qP.lay,↓eI,eH,ef]
   refine uF d.ah s _ _ _ _ _ _ _ _ ((hd.s0.mono z.inc).lay _ _) _ (λh' x=>?_)
   (replace z:=z.aj x;replace qP:=qP.over x;replace qR:=qR.over x;replace qX:=qX.over x;rw [ak h'])
   rw [uJ,hh]
   repeat' (first|simp only [aa,seval,c4]|((with_reducible apply gD) <;> intro _)|((with_reducible apply bK);(· rfl)))
   .exact hk _ z.ao
   .obtain ⟨m,hm,pX⟩:=hp.2 (by assumption)
    rw [tV] at pX
    cases pX
    subst hm hY
    repeat' (simp only [aa,seval,c4,qX.lay,qR.lay,↓mK,mI,gZ,It])
    exact hk _ z.ao
end Go.Proofs.YtjildadoepadeaaGreatDoor
