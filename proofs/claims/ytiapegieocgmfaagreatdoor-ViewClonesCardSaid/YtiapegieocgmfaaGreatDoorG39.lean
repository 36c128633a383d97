/- The code of some functions, node by node, for simp. Written by a program (mkcode.py). No condition. -/
import Derived.Lib.RowBridge
import Derived.Test.YtiapegieocgmfaaGreatDoorG37
set_option linter.unusedSimpArgs false
set_option linter.unusedVariables false
set_option maxRecDepth 100000
set_option maxHeartbeats 0
noncomputable section
namespace Go.Proofs.YtiapegieocgmfaaGreatDoor
open Go.Am Tryz
def N39:=bA f39
def x39:=PLift.up (by have c:=bB N39 f39;simp only [aN,f39,seval] at c;exact nd c <| nd @y9 <| nd @B6 <| nd @B7 <| @VM)
theorem Il:type_of% x39.down:=x39.down
def N40:=bA f40
def x40:=PLift.up (by have c:=bB N40 f40;simp only [aN,f40,seval] at c;exact nd c <| nd @CB <| nd @gA <| @VN)
theorem LK:type_of% x40.down:=x40.down
def N17:=bA f17
def Pm:=PLift.up (by have c:=bB N17 f17;simp only [aN,f17,seval] at c;exact nd c <| nd @sL <| nd @T6 <| nd @JQ <| nd @y9 <| nd @mH <| nd @B3 <| nd @dZ <| nd @gA <| @Vq)
theorem wy:type_of% Pm.down:=Pm.down
end Go.Proofs.YtiapegieocgmfaaGreatDoor
namespace Go.Am
open Go.Proofs
structure oo (h:Heap) (p0 p1 p2 p5 p6:ab) (d:aq):Prop where
 s0:Sl aM.str h p0 d.ah
 s2:Sl aM.clear h p2 d.aR
theorem oo.mono {h h':Heap} {p0 p1 p2 p5 p6:ab} {d:aq} (f:oo h p0 p1 p2 p5 p6 d) (i:bL h h'):oo h' p0 p1 p2 p5 p6 d:=⟨f.s0.mono i,f.s2.mono i⟩
theorem oo.lay {h:Heap} {p0 p1 p2 p5 p6:ab} {d:aq} (f:oo h p0 p1 p2 p5 p6 d) (bs:List ba) (w:Nat):oo (h.lay bs w) p0 p1 p2 p5 p6 d:=f.mono (bL.lay h bs w)
theorem oo.over {h1 h2:Heap} {bs:List ba} {w:Nat} {p0 p1 p2 p5 p6:ab} {d:aq} (f:oo h1 p0 p1 p2 p5 p6 d) (x:Ext (h1.lay bs w) h2):oo h2 p0 p1 p2 p5 p6 d:=f.mono x.inc.kJ
theorem dR.k {h:Heap} {p0 p1 p2 p5 p6:ab} {d:aq} (f:dR h p0 p1 p2 p5 p6 d):oo h p0 p1 p2 p5 p6 d:=⟨f.s0,f.s2⟩
end Go.Am
namespace Go.Proofs.YtiapegieocgmfaaGreatDoor
open Go.Am Tryz
theorem zwM (l:List au) (v:ab) (a:au) (h:Heap) (hl:Sl aM.str h v l) (hs:l.length<=1000) (K:aF)
 (hk:∀ h',Ext h h'->K (.int .i64 (kE (λx=>decide (a=x)) l)) h'):Ok prog aD ov 105 [v,.string a] h K:=by
 rw [ao h]
 have z:=Ext.refl h
 refine Ok.aw 17 (bq EK) ?_
 simp only [aa,seval,pJ]
 repeat' ((with_reducible refine HE hl dr ?_) <;> simp only [aa,seval,pJ])
 obtain ⟨I1,aU⟩:∃ I:Nat->Env->Heap->Prop,I=(λn e h'=>∃ (i:Nat) (h1:Heap),h'=h1.lay [] h1.low/\Ext h h1/\(n=l.length - i/\i<=l.length/\(∀ x∈l.take i,decide (a=x)=false))/\∃ J:Nat->ab,e=(v::.string a::jr J 2 5 (.int .i64 l.length::.int .i64 i::jr J 9 10 ([])))):=⟨_,rfl⟩
 refine dA I1 _ (by rw [aU];exact ⟨0,_,rfl,z,⟨rfl,by omega,by simp⟩,bl⟩) ?_
 intro n e h' aO
 rw [aU] at aO
 obtain ⟨i,bC,rfl,z,hinv,J,rfl⟩:=aO
 obtain ⟨rfl,hi,aH⟩:=hinv
 have hw:=ei i (by omega)
 simp only [aa,seval,pJ]
 refine bn (λaT=>?_) (λaT=>?_)
 rotate_left
 .simp only [aa,seval,pJ]
  rw [gE (by omega)] at aH
  have:=Jp aH
  rw [this] at hk
  exact hk _ z.aA
 obtain ⟨r,hr,cw⟩:=eW (l:=l) (i:=i) (by omega)
 repeat' (first|simp only [aa,seval,pJ]|((with_reducible apply bn) <;> intro _)|with_reducible refine rK (hl.mono z.inc) dr px (by omega) hr (λp hp=>?_)|with_reducible refine gj hp j9 ?_)
 .have hx:a=r:=by assumption
  have:=Jj (p:=λx=>decide (a=x)) cw aH (uN hx)
  rw [this] at hk
  exact hk _ z.aA
 .have hx:¬ a=r:=by assumption
  rw [hw]
  (rw [aU];with_reducible refine cy (m:=_) ?_ ⟨i+1,_,rfl,z,⟨rfl,by omega,qH (i:=i) (P:=λx:au=>decide (a=x)=false) cw aH (tM hx)⟩,bl⟩;omega)
theorem zyv (l:List au) (a:au):decide (kE (λx=>decide (a=x)) l >= 0)=iM l a:=by
 rw [TR]
 unfold iM
 congr 1
 funext x
 exact decide_eq_decide.2 ⟨Eq.symm,Eq.symm⟩
theorem zo4 (l:List au) (v:ab) (a:au) (h:Heap) (hl:Sl aM.str h v l) (hs:l.length<=1000) (K:aF)
 (hk:∀ h',Ext h h'->K (.bool (iM l a)) h'):Ok prog aD ov 65 [v,.string a] h K:=by
 refine Ok.aw 7 (bq Uw) ?_
 simp only [aa,seval,Ip]
 refine zwM l v a h hl hs _ (λh' x=>?_)
 simp only [aa,seval,Ip,zyv]
 refine Ru (λhh=>?_) (λhh=>?_)
 all_goals
  simp only [aa,seval,Ip]
  rw [hh] at hk
  exact hk _ x
theorem zm1 (l:List au) (who:au) (p0 p1 p2 p5 p6:ab) (q b:Int) (h:Heap) (hl:Sl aM.str h p0 l) (hs:l.length<=1000) (K:aF) (hk:∀ h',Ext h h'->K (.bool (iM l who)) h'):Ok prog aD ov 38 [fI p0 p1 p2 p5 p6 q b,.string who] h K:=by
 rw [ao h]
 have z:=Ext.refl h
 have bR:∀ (h:Heap) (K:aF),aC (some p0) h K=K p0 h:=λ_ _=>rfl
 refine Ok.aw 7 (bq Uu) ?_
 repeat' (simp only [aa,seval,RE,gZ,eM,bR])
 refine zo4 l _ who _ (hl.lay _ _) hs _ (λh' x=>?_)
 (replace z:=z.an x;rw [ao h'])
 repeat' (simp only [aa,seval,RE])
 exact hk _ z.aA
theorem zkL (l:List bz) (v fv:ab) (pr:bz->Bool) (h:Heap) (hl:Sl aM.clear h v l) (hs:l.length<=1000) (BK:∀ (x:bz) (b:ab) (hc:Heap) (K:aF),Ext h hc->(∀ h',Ext hc h'->K (.bool (pr x)) h')->oU prog aD ov [.agg ⟨[.string x.who,b]⟩] hc K fv) (K:aF)
 (hk:∀ h',Ext h h'->K (.int .i64 (kE pr l)) h'):Ok prog aD ov 39 [v,fv] h K:=by
 rw [ao h]
 have z:=Ext.refl h
 refine Ok.aw 17 (bq N39) ?_
 simp only [aa,seval,Il]
 repeat' ((with_reducible refine HE hl jT ?_) <;> simp only [aa,seval,Il])
 obtain ⟨I1,aU⟩:∃ I:Nat->Env->Heap->Prop,I=(λn e h'=>∃ (i:Nat) (h1:Heap),h'=h1.lay [] h1.low/\Ext h h1/\(n=l.length - i/\i<=l.length/\∀ x∈l.take i,pr x=false)/\∃ J:Nat->ab,e=(v::fv::jr J 2 5 (.int .i64 l.length::.int .i64 i::jr J 9 10 ([])))):=⟨_,rfl⟩
 refine dA I1 _ (by rw [aU];exact ⟨0,_,rfl,z,⟨rfl,by omega,by simp⟩,bl⟩) ?_
 intro n e h' aO
 rw [aU] at aO
 obtain ⟨i,bC,rfl,z,hinv,J,rfl⟩:=aO
 obtain ⟨rfl,hi,aH⟩:=hinv
 have hw:=ei i (by omega)
 repeat' (first|simp only [aa,seval,Il]|((with_reducible apply bn) <;> intro _))
 rotate_left
 .rw [gE (by omega)] at aH
  have:=Jp aH
  rw [this] at hk
  exact hk _ z.aA
 obtain ⟨r,hr,cw⟩:=eW (l:=l) (i:=i) (by assumption)
 repeat' ((first|with_reducible refine CD (hl.mono z.inc) jT kM (by omega) hr (λp b hb hp=>?_)|with_reducible refine GY hp xF kM ?_) <;> simp only [aa,seval,Il])
 refine BK _ _ _ _ z.aA (λh' x=>?_)
 (replace z:=z.an x;rw [ao h'])
 cases hx:pr r
 rotate_left
 .simp only [aa,seval,Il]
  have:=Jj cw aH hx
  rw [this] at hk
  exact hk _ z.aA
 .simp only [aa,seval,Il]
  rw [hw]
  (rw [aU];with_reducible refine cy (m:=_) ?_ ⟨i+1,_,rfl,z,⟨rfl,by omega,qH (i:=i) (P:=λx:bz=>pr x=false) cw aH hx⟩,bl⟩;omega)
theorem zq8 (who:au) (x:bz) (b:ab) (A:Nat) (h:Heap) (q0:Holds h A (.row [.string who] 9 false)) (K:aF)
 (hk:∀ h',Ext h h'->K (.bool (decide (x.who=who))) h'):Ok prog aD ov 40 [.agg ⟨[.string x.who,b]⟩,.pointer (some ⟨A,0,none⟩)] h K:=by
 rw [ao h]
 have z:=Ext.refl h
 refine Ok.aw 6 (bq N40) ?_
 simp only [aa,seval,LK]
 repeat' ((first|((with_reducible first|apply bn|apply lK|apply gg|apply rJ|apply vZ) <;> intro _)|with_reducible refine CD (hl.mono z.inc) jT kM (by omega) hr (λp b hb hp=>?_)|with_reducible refine GY hp xF kM ?_) <;> simp only [aa,seval,LK,q0.lay])
 simp only [aa,seval,LK,q0.lay]
 refine bn (λhh=>?_) (λhh=>?_)
 .simp only [aa,seval,LK]
  rw [uN hh] at hk
  exact hk _ z.aA
 .simp only [aa,seval,LK]
  rw [tM hh] at hk
  exact hk _ z.aA
theorem ZF:su aD 22 22=true:=by kernel_rfl
def sF (h h':Heap) (e:TypeId) (w:ab) (l:List au):Prop:=(w=.slice none 0 0/\l=[])\/∃ A,h.size<=A/\l.length<=1000/\fD h' A e w l
theorem sF.sl {h h':Heap} {e:TypeId} {w:ab} {l:List au} (f:sF h h' e w l):Sl aM.str h' w l:=by
 rcases f with ⟨rfl,rfl⟩|⟨A,_,hn,f⟩
 .exact .nil
 .exact f.sl hn
def gl (d:aq) (who:au):List au:=if iM d.ah who=true then v7 d who else []
theorem Tw {d:aq} {who:au} (h:∀ c∈d.aR,c.reads.length<=40):(gl d who).length<=41:=by
 unfold gl
 split
 .rw [PT]
  have:=zpn (who:=who) h
  omega
 .simp
theorem zlE (d:aq) (who:au) (p0 p1 p2 p5 p6:ab) (q b:Int) (h:Heap) (bf:(du p0 p1 p2 p5 p6 q b).all Am.one=true) (hd:dR h p0 p1 p2 p5 p6 d) (pq:d.ah.length<=1000) (lI:d.aR.length<=1000) (fT:zt d.ah d.aR) (lk:∀ c∈d.aR,c.reads.length<=40) (K:aF)
 (hk:∀ w h',Ext h h'->sF h h' 9 w (gl d who)->K w h'):Ok prog aD ov 17 [fI p0 p1 p2 p5 p6 q b,.string who] h K:=by
 rw [ao h]
 have z:=Ext.refl h
 have jB:∀ (h:Heap) (K:aF),aC (some p2) h K=K p2 h:=λ_ _=>rfl
 refine Ok.aw 29 (bq N17) ?_
 repeat' (simp only [aa,seval,wy,gZ,↓fA,eV,eI])
 refine zm1 d.ah who _ _ _ _ _ _ _ _ (hd.s0.lay _ _) pq _ (λh' x=>?_)
 have q0:=Holds.top (i:=0) x rfl
 have e0:=Holds.top (i:=1) x rfl
 (replace z:=z.an x;rw [ao h'])
 cases hh:iM d.ah who
 .repeat' (first|simp only [aa,seval,wy,kW]|((with_reducible apply bX);(· rfl)))
  refine hk _ _ z.aA ?_
  unfold gl
  rw [hh]
  exact .inl ⟨rfl,rfl⟩
 have iZ:gl d who=v7 d who:=by unfold gl;rw [hh];rfl
 rw [iZ] at hk
 have rn:=z.size
 repeat' (first|simp only [aa,seval,wy,fQ,q0.lay,e0.lay,fN,jB]|((with_reducible apply bX);(· rfl)))
 refine zkL d.aR _ _ (λc=>decide (c.who=who)) _ ((hd.s2.mono z.inc).lay _ _) lI (λx b hc K' xe kB=>?_) _ (λh' x=>?_)
 .rw [vV]
  exact zq8 who x b _ hc (e0.over xe) K' kB
 have b0:=Holds.top (i:=0) x rfl
 (replace z:=z.an x;replace q0:=q0.over x;replace e0:=e0.over x;rw [ao h'])
 have nZ:=zpn (who:=who) lk
 rcases zuz d.aR who with ⟨i,c,ij,wL,XQ⟩|⟨ij,XQ⟩
 .rw [ij]
  obtain ⟨c',hc,yd⟩:=eW (l:=d.aR) (i:=i) (by have:=(dP.1 wL).1;omega)
  cases wL.symm.trans yd
  repeat' (first|simp only [aa,seval,wy,q0.lay,fN,jB]|((with_reducible apply bn) <;> intro _))
  rotate_left
  .exfalso;omega
  repeat' ((first|with_reducible refine CD (hd.s2.mono z.inc) jT kM (by omega) hc (λp b hb hp=>?_)|with_reducible refine Fq hp JQ (λq hq=>?_)|with_reducible refine gj hq ER ?_) <;> simp only [aa,seval,wy,q0.lay,fN,jB])
  have dt:c.reads.length<=900:=by have:=lk c (ic wL);omega
  simp only [aa,seval,wy,mr,ZF]
  obtain ⟨wv,h2,A',e1,e2,e3,e4⟩:=zAs (T:=aD) (t:=22) dr D9 (by decide) (b0.on [] h'.low) (Sl.lay (by assumption) [] h'.low) dt
  rw [e1,ao h2]
  rw [<- XQ] at e2
  have z2:=z.an e3
  have mG:=z.size
  have hA:h.size<=A':=by
   rcases e4 with e4|e4
   .omega
   .rw [e4,bc];omega
  clear e1 e3 e4
  rw [ao h2] at e2
  replace z2:=z2.kN [] h2.low (by omega)
  repeat' (simp only [aa,seval,wy])
  obtain ⟨h3,s1,s2,s3⟩:=zjX e2 (by simp) (by simp only [dn];omega)
  have z3:=z2.step s3 hA
  refine Ok.over (g:=HW) rfl s1 ?_
  rw [ao h3]
  rw [ao h3] at s2 z3
  repeat' (simp only [aa,seval,wy])
  obtain ⟨h4,c1,c2,c3⟩:=ziU s2 (by have:=PT d who;intro e;unfold v7 at this;rw [e] at this;simp at this;omega) (by rw [PY,dn];omega) (zea fT)
  have z4:=z3.step c3 hA
  refine Ok.over (g:=HP) rfl c1 ?_
  rw [ao h4]
  rw [ao h4] at c2 z4
  simp only [aa,seval,wy]
  exact hk _ _ z4 (.inr ⟨_,by omega,by rw [PT];omega,c2⟩)
 .rw [ij]
  have e2:=(show ∀ {N:Nat},Holds h' N (.row [.string who] 9 false)->fD h' N 9 (.slice (some ⟨N,0,none⟩) 1 1) (who::wh d.aR who) from λq=>by rw [XQ];exact ⟨1,rfl,.inl ⟨by have:=wj;omega,bj _⟩,q⟩) b0
  have z2:=z.kN [] h'.low (by omega)
  rw [ao h'] at e2
  repeat' (simp only [aa,seval,wy])
  obtain ⟨h3,s1,s2,s3⟩:=zjX e2 (by simp) (by simp only [dn];omega)
  have z3:=z2.step s3 (by omega)
  refine Ok.over (g:=HW) rfl s1 ?_
  rw [ao h3]
  rw [ao h3] at s2 z3
  repeat' (simp only [aa,seval,wy])
  obtain ⟨h4,c1,c2,c3⟩:=ziU s2 (by have:=PT d who;intro e;unfold v7 at this;rw [e] at this;simp at this;omega) (by rw [PY,dn];omega) (zea fT)
  have z4:=z3.step c3 (by omega)
  refine Ok.over (g:=HP) rfl c1 ?_
  rw [ao h4]
  rw [ao h4] at c2 z4
  simp only [aa,seval,wy]
  exact hk _ _ z4 (.inr ⟨_,by omega,by rw [PT];omega,c2⟩)
def N29:=bA f29
def x29:=PLift.up (by have c:=bB N29 f29;simp only [aN,f29,seval] at c;exact nd c <| @VC)
theorem c29:type_of% x29.down:=x29.down
def N55:=bA f55
def x55:=PLift.up (by have c:=bB N55 f55;simp only [aN,f55,seval] at c;exact nd c <| nd @kF <| nd @dZ <| nd @gA <| nd @Y9 <| nd @kG <| nd @V0 <| @WI)
theorem Bi:type_of% x55.down:=x55.down
def N32:=bA f32
def x32:=PLift.up (by have c:=bB N32 f32;simp only [aN,f32,seval] at c;exact nd c <| @VF)
theorem c32:type_of% x32.down:=x32.down
def N57:=bA f57
def x57:=PLift.up (by have c:=bB N57 f57;simp only [aN,f57,seval] at c;exact nd c <| nd @kF <| nd @dZ <| nd @gA <| nd @Za <| nd @kG <| nd @V2 <| @WJ)
theorem Bj:type_of% x57.down:=x57.down
def N9:=bA f9
def x9:=PLift.up (by have c:=bB N9 f9;simp only [aN,f9,seval] at c;exact nd c <| nd @US <| nd @U4 <| nd @dZ <| nd @Y8 <| @fi9)
theorem c9:type_of% x9.down:=x9.down
def N10:=bA f10
def On:=PLift.up (by have c:=bB N10 f10;simp only [aN,f10,seval] at c;exact nd c <| nd @UP <| nd @U3 <| nd @dZ <| nd @Y6 <| @Vk)
theorem E5:type_of% On.down:=On.down
def N12:=bA f12
def OB:=PLift.up (by have c:=bB N12 f12;simp only [aN,f12,seval] at c;exact nd c <| nd @YZ <| nd @za <| nd @Zc <| @Vm)
theorem wx:type_of% OB.down:=OB.down
theorem zrc (d:aq) (q:Int) (s:au) (a:ak) (facts:au->aS) (aI us:au->Nat) (h hc:Heap) (z:Ext h hc) (N b:Nat) (S0:Nat) (E:List Nat) (hN:N=h.size) (X:List Nat) (dz:eC X N b hc S0 E d q facts aI us) (cG:bd 1 hc) (Np:d.ah.length<=1000) (iF:(facts s).length<=800) (aT:∀ x∈facts s,x.aW=true) (ha:a.aW=true) (hv:aI s < 1000000000) (BP:eo (facts s)=facts s) (hb:b < 50000) (kD:∀ x,us x < 1000000000)
 (lj:jk d s a=0->bE (facts s) a=true->∀ x,xg a x->0 < us x)
 (K:aF)
 (yv:jk d s a≠0->∀ h',Ext h h'->aL [] hc h'->K (.tuple #[.bool false,.int .i64 (jk d s a)]) h')
 (gz:jk d s a=0->bE (facts s) a=false->∀ h',Ext h h'->aL [] hc h'->K (.tuple #[.bool false,.int .i64 0]) h')
 (yw:jk d s a=0->bE (facts s) a=true->∀ h' cs E2,Ext h h'->aL E hc h'->(∀ B∈E2,B∈E\/hc.size<=B)->cs.length<=4->cs.Nodup->(∀ x,x∈cs↔xg a x)->eC X N b h' S0 E2 d q (ly facts s (eQ a (facts s))) (fP aI s (aI s+1)) (j5 us cs)->K (.tuple #[.bool true,.int .i64 0]) h'):Ok prog aD ov 15 [.pointer (some ⟨S0,0,none⟩),.string s,a.val] hc K:=by
 subst hN
 have FO:=dz.2.2
 obtain ⟨⟨T0,D,NM,v0,v1,nv,rfl,x1,g2,g3,_⟩,_⟩:=id dz
 have g1:=x1.bN (aL.iR X hc) (x1.alive (by simp))
 have F9:=dz.lt
 rw [ao hc]
 refine Ok.aw 23 (bq N15) ?_
 simp only [aa,seval,CY,NU,g1.lay,zCP,bO,dm,eE,↓eY,eJ,dX]
 refine zlz d q s a 1000 _ (λl=>bE l a) (λl=>eQ a (eo l)) facts aI us h _ z.aA h.size b S0 (NM::D) rfl X (dz.lay _ _) (cG.lay _ _) Np iF aT hv (by rw [BP];exact gn (CI _ _) (by omega)) (λh2 v K2 gV hk=>?_) _ (λhe h' z2 fr=>?_) (λhe rZ h' z2 fr=>?_) (λhe rZ um h' z2 fr=>?_) (λhe rZ um h' z2 fr mK=>?_)
 .rw [r9]
  refine zum (facts s) a v h2 gV (by omega) aT ha K2 (λh' w x hw ho=>hk h' w x hw (λhi=>ho hi))
 .rw [ao h']
  simp only [aa,seval,CY,jg,gB,bO]
  exact yv he _ z2.aA (((aL.lay hc _ _ []).trans fr (λ_ h=>nomatch h)).trans (aL.lay _ _ _ []) (λ_ h=>nomatch h))
 .rw [ao h']
  simp only [aa,seval,CY,jg,gB,bO]
  exact gz he rZ _ z2.aA (((aL.lay hc _ _ []).trans fr (λ_ h=>nomatch h)).trans (aL.lay _ _ _ []) (λ_ h=>nomatch h))
 .exfalso
  have h1:((eQ a (eo (facts s))).length:Int)<=800:=by rw [BP];exact Int.ofNat_le.2 (gn (CI _ _) iF)
  omega
 .simp only [BP] at mK
  have lS:=lj he rZ
  obtain ⟨⟨T1,D1,Rz,w0,w1,nw,Md,y1,y2,e3,e4,e5,e6,e7,e8,e9,LU,LV⟩,jV,xW⟩:=mK
  simp only [List.cons.injEq] at Md
  obtain ⟨rfl,rfl⟩:=Md
  have ux:=aL.iR X h'
  have zV:∀ B∈D,B ∉ X:=λB hB=>jV B (fB _ hB)
  have e1:=y1.bN ux (y1.alive (by simp))
  have e2:=y2.bN ux zV
  have q0:Holds h' (hc.size+0) (.row a.cells 47 false):=(Holds.mk (by rw [bc];simp) (by rw [iB];rfl):Holds (hc.lay [.row a.cells 47 false] hc.low) (hc.size+0) (.row a.cells 47 false)).bN fr (by
   intro hm
   rcases dh.1 hm with e|hm
   .have:=(F9.2 _ (jm)).2;omega
   .have:=(F9.2 _ (fB _ hm)).2;omega)
  have L6:aL (NM::D) hc h':=(aL.lay hc _ _ _).trans fr (λB hB=>.inl hB)
  rw [ao h']
  have z:=z2
  simp only [aa,seval,CY,jg,gB,bO]
  with_reducible first|refine dL (by simp only [CY]) z.aA ?_
  simp only [aa,seval,CY,dm,e1.lay,↓ZV,q0.lay,eE,↓eY,eJ,dX,j6]
  refine zyP a h _ z.aA D T1 b us (e2.lay _ _) (by omega) lS kD _ (λh5 cs D2 z5 mz yA iG b8 tm uY=>?_)
  have yR:=mz.size
  rw [bc] at yR
  refine vT (by kernel_rfl) z5.low (by rw [bc];exact yR) ?_
  have nW:aL D h' h5:=(aL.lay h' [] _ D).trans mz (λB hB=>.inl hB)
  clear z
  have z:=z5
  rw [ao h5]
  simp only [aa,seval,CY]
  ((with_reducible refine ⟨z.cn.lay _ _,?_⟩);(intro _ h6 zz x _);(simp only [bM,bu] at x))
  replace nW:=nW.over x
  replace tm:=tm.over x
  clear z
  have z:=zz
  rw [ao h6]
  simp only [aa,seval,CY,jg,gB,bO]
  have wF:aL D h' (h6.lay [] h6.low):=nW.trans (aL.lay _ _ _ []) (λ_ h=>nomatch h)
  have rW:∀ B∈D2,B∈D\/h'.size<=B:=λB hB=>(uY B hB).imp id (λe=>by rw [bc] at e;simpa using e)
  have XA:=L6.size
  have qY:∀ B∈D2,B ∉ X:=λB hB hx=>by
   rcases rW B hB with e|e
   .exact zV B e hx
   .have:=xW B hx;omega
  refine yw he rZ _ cs (NM::D2) z.aA (L6.trans wF (λB hB=>.inl (fB _ hB))) (λB hB=>?_) yA iG b8 ⟨nV.turn y1 e3 e4 e5 e6 e7 e8 e9 LU LV (wF.kill X) ((tm.lay _ _).bN (aL.dead X _) qY) (λB hB=>by rw [iC];exact rW B hB),λB hB=>?_,λB hB=>dB (xW B hB) wF.size⟩
  .rcases dh.1 hB with rfl|hB
   .exact .inl (by simp)
   .exact (rW B hB).imp (fB _) (λe=>by omega)
  .rcases dh.1 hB with rfl|hB
   .exact jV _ (by simp)
   .exact qY B hB
def EI (us:au->Nat) (n:Nat):Prop:=∃ keys:List au,keys.Nodup/\(∀ t,t∈keys↔0 < us t)/\n=keys.length
theorem EI.same {us vs:au->Nat} {n m:Nat} (f:EI us n) (g:EI vs m) (h:∀ t,0 < us t↔0 < vs t):n=m:=by
 obtain ⟨k1,n1,m1,rfl⟩:=f
 obtain ⟨k2,n2,m2,rfl⟩:=g
 exact ((List.perm_ext_iff_of_nodup n1 n2).2 λt=>by rw [m1,m2];exact h t).length_eq
theorem nV.name {N b:Nat} {h:Heap} {S0:Nat} {E:List Nat} {d:aq} {q:Int} {facts:au->aS} {aI us:au->Nat} {nv:List (au × ab)} (g6:∀ who,dE nv who=none->facts who=[]/\aI who=0) (g7:∀ who x,dE nv who=some x->∃ s,x=.agg #[s,.int .u64 (aI who:Int)]/\Sl aM.atom (aG E h) s (facts who)) (s:au):∃ sa sn sc,(dE nv s).getD (.agg #[.slice none 0 0,.int .u64 0])=.agg #[.slice sa sn sc,.int .u64 (aI s:Int)]/\Sl aM.atom (aG E h) (.slice sa sn sc) (facts s):=by
 cases hl:dE nv s with
 |none =>
  obtain ⟨e1,e2⟩:=g6 s hl
  rw [e1,e2]
  exact ⟨_,_,_,rfl,.nil⟩
 |some x =>
  obtain ⟨v,rfl,f⟩:=g7 s x hl
  obtain ⟨sa,sn,sc,rfl⟩:=rG f
  exact ⟨sa,sn,sc,rfl,f⟩
theorem zwK (who:au) (d:aq) (q:Int) (facts:au->aS) (aI us:au->Nat) (h:Heap) (N b:Nat) (S0:Nat) (E:List Nat) (dz:nV N b h S0 E d q facts aI us) (iF:(facts who).length<=100000) (K:aF)
 (hk:∀ h' w A,Ext h h'->Ow aM.atom h h' 47 A w (facts who)->K w h'):Ok prog aD ov 30 [.pointer (some ⟨S0,0,none⟩),.string who] h K:=by
 obtain ⟨T0,D,NM,v0,v1,nv,rfl,g1,g2,g3,g4,g5,g6,g7,g8,g9,g10,g11⟩:=id dz
 obtain ⟨sa,sn,Ao,ez,oa⟩:=nV.name (N:=N) (b:=b) (S0:=S0) (d:=d) (q:=q) (us:=us) g6 g7 who
 have z:=Ext.refl h
 rw [ao h]
 refine Ok.aw 13 (bq N30) ?_
 simp only [aa,seval,U7,xR,mN,g1.lay,J5,D6]
 refine Qa g3 uV CJ Ia ?_
 simp only [ez,gM,if_false]
 simp only [aa,seval,U7,j6]
 have hA:Sl aM.atom h (.slice sa sn Ao) (facts who):=oa.mono (rH _ _)
 refine zlC (facts who) _ _ (hA.lay _ _) iF _ (λh' w A x o=>?_)
 replace o:=o.down (h0:=h) (by rw [bc];omega)
 (replace z:=z.an x;rw [ao h'])
 have iZ:∀ (h:Heap) (K:aF),aC (some w) h K=K w h:=λ_ _=>rfl
 simp only [aa,seval,U7,iZ]
 exact hk _ _ _ z.aA (o.lay _ _)
theorem zre (who:au) (d:aq) (q:Int) (facts:au->aS) (aI us:au->Nat) (h:Heap) (N b:Nat) (S0:Nat) (E:List Nat) (dz:nV N b h S0 E d q facts aI us) (K:aF)
 (hk:∀ h',Ext h h'->K (.int .u64 (aI who:Int)) h'):Ok prog aD ov 33 [.pointer (some ⟨S0,0,none⟩),.string who] h K:=by
 obtain ⟨T0,D,NM,v0,v1,nv,rfl,g1,g2,g3,g4,g5,g6,g7,g8,g9,g10,g11⟩:=id dz
 obtain ⟨sa,sn,Ao,ez,oa⟩:=nV.name (N:=N) (b:=b) (S0:=S0) (d:=d) (q:=q) (us:=us) g6 g7 who
 have z:=Ext.refl h
 rw [ao h]
 refine Ok.aw 12 (bq N33) ?_
 simp only [aa,seval,c33,xR,mN,g1.lay,J5,D6]
 refine Qa g3 uV CJ Ia ?_
 simp only [ez,gM,if_false]
 simp only [aa,seval,c33,j6,bO]
 exact hk _ z.aA
section
variable {X:List Nat} {N b b2 k:Nat} {h h2:Heap} {S0:Nat} {E:List Nat} {d:aq} {q:Int} {facts:au->aS} {aI us:au->Nat} {s:au} {a:ak} {l:aS} {cs:List au}
theorem eC.more (s:eC X N b h S0 E d q facts aI us) (hb:b<=b2):eC X N b2 h S0 E d q facts aI us:=by
 obtain ⟨⟨T0,D,NM,v0,v1,nv,e,g1,g2,g3⟩,s2⟩:=s
 exact ⟨⟨T0,D,NM,v0,v1,nv,e,g1,g2.le hb,g3⟩,s2⟩
theorem dY.down {N2 b T0:Nat} {D:List Nat} (t:dY N b h D T0 us) (hN:N2<=N):dY N2 b h D T0 us:=by
 obtain ⟨FI,FE,FM,free,aY,kv,e,⟨a1,a2,a3,lo,hi⟩,p⟩:=t
 exact ⟨FI,FE,FM,free,aY,kv,e,⟨a1,a2,a3,⟨by omega,by omega,by omega,by omega⟩,hi⟩,p⟩
theorem eC.down {N2:Nat} (s:eC X N b h S0 E d q facts aI us) (hN:N2<=N):eC X N2 b h S0 E d q facts aI us:=by
 obtain ⟨⟨T0,D,NM,v0,v1,nv,e,g1,g2,g3,g4,g5,g6,g7,g8,g9,g10,g11⟩,s2⟩:=s
 exact ⟨⟨T0,D,NM,v0,v1,nv,e,g1,g2.down hN,g3,g4,g5,g6,g7,g8,g9,by omega,by omega⟩,s2⟩
theorem eC.fresh (s:eC [] N b h S0 E d q facts aI us) (f:aL [] h h2) (hX:∀ B∈X,h.size<=B/\B < h2.size):eC X N b h2 S0 E d q facts aI us:=by
 have hl:=s.lt
 obtain ⟨⟨T0,D,NM,v0,v1,nv,rfl,g1,g2,g3,g4,g5,g6,g7,g8⟩,_⟩:=s
 have jV:∀ B∈NM::D,B ∉ X:=λB hB hx=>by
  have h1:=(hl.2 B hB).2
  have h2:=(hX B hx).1
  omega
 have u:aL X h (aG X h2):=(f.mono (D':=X) (λ_ h=>nomatch h)).trans (aL.dead X h2) (λB hB=>.inl hB)
 have hi:bL (aG (NM::D) h) (aG (NM::D) (aG X h2)):=by
  refine ⟨by rw [iC,iC,iC];exact f.size,λB hB hd=>?_⟩
  rw [iC] at hB
  have hE:B ∉ NM::D:=λhh=>hd (Ar hh hB)
  have hx:B ∉ X:=λhh=>by have:=(hX B hh).1;omega
  rw [oS hE,oS hE]
  exact u.get B hB hx
 exact ⟨⟨T0,D,NM,v0,v1,nv,rfl,g1.bN u (λhx=>by have:=(hX _ hx).1;have:=hl.1;omega),g2.bN u (λB hB=>jV B (fB _ hB)),g3.hold (λb q=>q.bN u (jV _ (by simp))),g4.mono hi,g5.mono hi,g6,λwho x hx=>(g7 who x hx).imp λs hs=>⟨hs.1,hs.2.mono hi⟩,g8⟩,jV,λB hB=>(hX B hB).2⟩
theorem zl0:xq facts s (some l)=ly facts s l:=rfl
theorem zl1:xr aI s (some l)=fP aI s (aI s+1):=rfl
theorem zB9 (h:∀ x,x∈cs↔xg a x) (t:au):jc us cs t=us t+(if tg a t then 1 else 0):=by
 unfold jc
 by_cases ht:tg a t=true
 .rw [aE ht,aE ((h t).2 (lp.1 ht))]
 .rw [az ht,az (λhm=>ht (lp.2 ((h t).1 hm)))]
  rfl
theorem zCV (h:∀ x,x∈cs↔xg a x) (t:au):j5 us cs t=us t - (if tg a t then 1 else 0):=by
 unfold j5
 by_cases ht:tg a t=true
 .rw [aE ht,aE ((h t).2 (lp.1 ht))]
 .rw [az ht,az (λhm=>ht (lp.2 ((h t).1 hm)))]
  rfl
end
theorem zly (d:aq) (q:Int) (s:au) (a:ak) (facts:au->aS) (aI us:au->Nat) (h hc:Heap) (z:Ext h hc) (N b k:Nat) (S0:Nat) (E:List Nat) (hN:N=h.size) (X:List Nat) (dz:eC X N b hc S0 E d q facts aI us) (inv:cZ d k facts aI us) (iG:d.ah.Nodup) (mn:d.ah.length<=16) (cG:bd 1 hc) (ha:a.aW=true) (hk:k<=700) (hb:b < 50000) (K:aF)
 (hK:∀ h' E2 gd,Ext h h'->aL E hc h'->(∀ B∈E2,B∈E\/hc.size<=B)->eC X N (b+4) h' S0 E2 d q (xq facts s (jC d q s a (facts s))) (xr aI s (jC d q s a (facts s))) gd->cZ d (k+1) (xq facts s (jC d q s a (facts s))) (xr aI s (jC d q s a (facts s))) gd->K (.tuple #[.bool (jC d q s a (facts s)).isSome,.int .i64 (pQ d q s a (facts s))]) h'):Ok prog aD ov 14 [.pointer (some ⟨S0,0,none⟩),.string s,a.val] hc K:=by
 have kD:∀ x,us x < 1000000000:=λx=>by
  have h1:=inv.DQ x
  have h2:d.ah.length*k<=16*700:=EE mn hk
  omega
 have hl:=inv.len s
 have hv:=inv.Ap s
 have stay:jC d q s a (facts s)=none->∀ h',Ext h h'->aL [] hc h'->K (.tuple #[.bool (jC d q s a (facts s)).isSome,.int .i64 (pQ d q s a (facts s))]) h':=λe h' z f=>by
  refine hK h' E us z (f.mono (λ_ h=>nomatch h)) (λB hB=>.inl hB) ?_ ?_
  .rw [e,Tj,Tk]
   exact (dz.bN f).more (by omega)
  .rw [e,Tj,Tk]
   exact inv.more (by omega)
 refine zt1 d q s a facts aI us h hc z N b S0 E hN X dz cG (by omega) (by omega) (λx hx=>inv.aW hx) ha (by omega) (inv.sort s) hb kD (λhe=>zi9 he) (by have:=TO a (facts s);omega) K (λhe h' z f=>?_) (λhe hh h' z f=>?_) (λhe hh hq h' z f=>?_) (λhe hh hq h' cs E2 z f hE yA Gn b8 mK=>?_)
 .have e1:jC d q s a (facts s)=none:=az he
  have e2:pQ d q s a (facts s)=jk d s a:=az he
  have:=stay e1 h' z f
  rw [e1,e2] at this
  exact this
 .have e1:jC d q s a (facts s)=none:=by unfold jC;rw [aE he,aE hh]
  have e2:pQ d q s a (facts s)=0:=by unfold pQ;rw [aE he,aE hh]
  have:=stay e1 h' z f
  rw [e1,e2] at this
  exact this
 .have e1:jC d q s a (facts s)=none:=by unfold jC;rw [aE he,az (by rw [hh];decide),az (by omega)]
  have e2:pQ d q s a (facts s)=12:=by unfold pQ;rw [aE he,az (by rw [hh];decide),az (by omega)]
  have:=stay e1 h' z f
  rw [e1,e2] at this
  exact this
 .have e1:jC d q s a (facts s)=some (cD a (facts s)):=by unfold jC;rw [aE he,az (by rw [hh];decide),aE hq]
  have e2:pQ d q s a (facts s)=0:=by unfold pQ;rw [aE he,az (by rw [hh];decide),aE hq]
  have gz:=hK h' E2 (jc us cs) z f hE
  rw [e1,e2,zl0,zl1] at gz
  exact gz mK (inv.Zr iG he hh (zB9 b8))
theorem zjv (d:aq) (q:Int) (s:au) (a:ak) (facts:au->aS) (aI us:au->Nat) (h hc:Heap) (z:Ext h hc) (N b k:Nat) (S0:Nat) (E:List Nat) (hN:N=h.size) (X:List Nat) (dz:eC X N b hc S0 E d q facts aI us) (inv:cZ d k facts aI us) (iG:d.ah.Nodup) (mn:d.ah.length<=16) (cG:bd 1 hc) (ha:a.aW=true) (hk:k<=700) (hb:b < 50000) (K:aF)
 (hK:∀ h' E2 gd,Ext h h'->aL E hc h'->(∀ B∈E2,B∈E\/hc.size<=B)->eC X N (b+4) h' S0 E2 d q (xq facts s (kH d s a (facts s))) (xr aI s (kH d s a (facts s))) gd->cZ d (k+1) (xq facts s (kH d s a (facts s))) (xr aI s (kH d s a (facts s))) gd->K (.tuple #[.bool (kH d s a (facts s)).isSome,.int .i64 (jk d s a)]) h'):Ok prog aD ov 15 [.pointer (some ⟨S0,0,none⟩),.string s,a.val] hc K:=by
 have kD:∀ x,us x < 1000000000:=λx=>by
  have h1:=inv.DQ x
  have h2:d.ah.length*k<=16*700:=EE mn hk
  omega
 have hl:=inv.len s
 have hv:=inv.Ap s
 have stay:kH d s a (facts s)=none->∀ h',Ext h h'->aL [] hc h'->K (.tuple #[.bool (kH d s a (facts s)).isSome,.int .i64 (jk d s a)]) h':=λe h' z f=>by
  refine hK h' E us z (f.mono (λ_ h=>nomatch h)) (λB hB=>.inl hB) ?_ ?_
  .rw [e,Tj,Tk]
   exact (dz.bN f).more (by omega)
  .rw [e,Tj,Tk]
   exact inv.more (by omega)
 refine zrc d q s a facts aI us h hc z N b S0 E hN X dz cG (by omega) (by omega) (λx hx=>inv.aW hx) ha (by omega) (inv.sort s) hb kD (λhe hh x hx=>inv.pos he hh (lp.2 hx)) K (λhe h' z f=>?_) (λhe hh h' z f=>?_) (λhe hh h' cs E2 z f hE yA Gn b8 mK=>?_)
 .have e1:kH d s a (facts s)=none:=az he
  have:=stay e1 h' z f
  rw [e1] at this
  exact this
 .have e1:kH d s a (facts s)=none:=by unfold kH;rw [aE he,az (by rw [hh];decide)]
  have:=stay e1 h' z f
  rw [e1,he] at this
  exact this
 .have e1:kH d s a (facts s)=some (eQ a (facts s)):=by unfold kH;rw [aE he,aE hh]
  have gz:=hK h' E2 (j5 us cs) z f hE
  rw [e1,he,zl0,zl1] at gz
  exact gz (mK.more (by omega)) (inv.U9 iG he hh (zCV b8))
end Go.Proofs.YtiapegieocgmfaaGreatDoor
