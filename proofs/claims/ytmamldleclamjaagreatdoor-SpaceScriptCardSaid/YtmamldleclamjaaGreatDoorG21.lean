/- The code of some functions, node by node, for simp. Written by a program (mkcode.py). No condition. -/
import Derived.Test.YtmamldleclamjaaGreatDoorG20
set_option linter.unusedSimpArgs false
set_option linter.unusedVariables false
set_option maxRecDepth 100000
set_option maxHeartbeats 0
noncomputable section
namespace Go.Proofs.YtmamldleclamjaaGreatDoor
open Go.Am Tryz
def N28:=bB f28
def x28:=PLift.up (by have c:=bD N28 f28;simp only [aL,f28,seval] at c;exact nd c <| nd @Hr <| nd @vV <| nd @Hs <| nd @B6 <| nd @tj <| nd @gH <| nd @BG <| @Vp)
theorem c28:type_of% x28.down:=x28.down
def N29:=bB f29
def x29:=PLift.up (by have c:=bD N29 f29;simp only [aL,f29,seval] at c;exact nd c <| nd @iM <| nd @b8 <| nd @gl <| @Vq)
theorem Q6:type_of% x29.down:=x29.down
def N36:=bB f36
def x36:=PLift.up (by have c:=bD N36 f36;simp only [aL,f36,seval] at c;exact nd c <| @Vx)
theorem HR:type_of% x36.down:=x36.down
theorem Tf (a:aj) (h:Heap) (K:aI) (h1:a.aY=true->∀ h',Ext h h'->K (.bool true) h') (h2:a.aY=false->∀ h',Ext h h'->K (.bool false) h'):Ok prog aG ov 28 [a.val] h K:=by
 rw [ao h]
 have z:=Ext.refl h
 unfold aj.val aj.cells
 refine Ok.aw 29 (bu N28) ?_
 simp only [aa,seval,c28]
 repeat' ((first|((with_reducible apply bq) <;> intro _)|with_reducible refine P6 ?_) <;> simp only [aa,seval,c28])
 all_goals first
  |with_reducible exact h2 (by simp [aj.aY];omega) _ z.aC
  |with_reducible exact h1 (by simp [aj.aY];omega) _ z.aC
theorem zpl (l:aN) (v:ah) (m:Int) (h:Heap) (hl:Sl aK.atom h v l) (K:aI) (h1:(l.length:Int)<=m->(∀ a∈l,a.aY=true)->∀ h',Ext h h'->K (.bool true) h') (h2:∀ h',Ext h h'->K (.bool false) h'):Ok prog aG ov 29 [v,.int .i64 m] h K:=by
 rw [ao h]
 have z:=Ext.refl h
 have hle:=hl.le
 refine Ok.aw 20 (bu N29) ?_
 simp only [aa,seval,Q6]
 repeat' ((first|((with_reducible apply bq) <;> intro _)|with_reducible refine Qe hl bF ?_) <;> simp only [aa,seval,Q6])
 .exact h2 _ z.aC
 refine zCN (λe h'=>∃ (i:Nat) (h1:Heap) (x1 x2 x3 x4 x6 x7 x8 x9 NV Od On OD OP OY O5 Pd Pk Pm Pn Ps:ah),h'=h1.lay [] h1.low/\Ext h h1/\i<=l.length/\(∀ a∈l.take i,a.aY=true)/\e=[v,x1,x2,x3,x4,.int .i64 i,x6,x7,x8,x9,NV,Od,On,OD,OP,OY,O5,Pd,Pk,Pm,Pn,Ps]) (λe _=>match e.get 5 with | .int _ i=>l.length - i.toNat|_=>0) ?_ ?_
 .exact ⟨0,h,_,_,_,_,_,_,_,_,_,_,_,_,_,_,_,_,_,_,_,_,rfl,z,by omega,by simp,rfl⟩
 rintro e h' ⟨i,bx,x1,x2,x3,x4,x6,x7,x8,x9,NV,Od,On,OD,OP,OY,O5,Pd,Pk,Pm,Pn,Ps,rfl,z,hi,aE,rfl⟩
 have hw:i < l.length->IntKind.i64.wrap ((i:Int)+1)=((i+1:Nat):Int):=λhh=>by unfold maxLen at hle;rw [wrap_i64 (by omega) (by omega)];omega
 simp only [aa,seval,Q6]
 repeat' ((first|((with_reducible apply bq) <;> intro _)|with_reducible refine Qe hl bF ?_|with_reducible refine YU (hl.mono z.inc) bF bN (by omega) (by omega) (λa p ha hp=>?_)|with_reducible refine mw hp fD bN ?_|((with_reducible refine Tf _ _ _ (λIj h' x=>?_) (λIj h' x=>?_)) <;> (replace z:=z.an x;rw [ao h']))|((with_reducible apply ct);(· rfl))) <;> simp only [aa,seval,Q6])
 all_goals first
  |with_reducible exact h2 _ z.aC
  |with_reducible exact h1 (by omega) (by rw [gA (by omega)] at aE;exact aE) _ z.aC
  |(rw [hw (by omega)]
    with_reducible refine zo5 ?_ ?_
    .exact ⟨i+1,h',_,_,_,_,_,_,_,_,_,_,_,_,_,_,_,_,_,_,_,_,rfl,z,by omega,oE ha aE Ij,rfl⟩
    .show l.length - ((i+1:Nat):Int).toNat < l.length - (i:Int).toNat
     omega)
def N27:=bB f27
def x27:=PLift.up (by have c:=bD N27 f27;simp only [aL,f27,seval] at c;exact nd c <| nd @kx <| nd @gH <| nd @ky <| nd @BG <| @Vo)
theorem Q5:type_of% x27.down:=x27.down
def N5:=bB f5
def x5:=PLift.up (by have c:=bD N5 f5;simp only [aL,f5,seval] at c;exact nd c <| nd @Hq <| nd @Jr <| nd @zwg <| nd @TP <| nd @TQ <| nd @Ht <| nd @DM <| nd @TR <| nd @Hi <| nd @Hj <| nd @TS <| nd @QD <| nd @TT <| nd @yD <| nd @Gj <| nd @Gk <| nd @Gl <| nd @ni <| nd @vB <| nd @Gm <| nd @BC <| nd @BD <| nd @b8 <| nd @k8 <| nd @gH <| nd @yF <| nd @Gt <| nd @BE <| nd @BF <| nd @BG <| @fi5)
theorem c5:type_of% x5.down:=x5.down
def N62:=bB f62
def x62:=PLift.up (by have c:=bD N62 f62;simp only [aL,f62,seval] at c;exact nd c <| nd @Hq <| nd @kx <| nd @ni <| nd @gH <| nd @ky <| @VX)
theorem Rb:type_of% x62.down:=x62.down
def N43:=bB f43
def x43:=PLift.up (by have c:=bD N43 f43;simp only [aL,f43,seval] at c;exact nd c <| nd @uK <| nd @kx <| nd @gH <| nd @ky <| @VE)
theorem tM:type_of% x43.down:=x43.down
theorem zgS (l:List au) (v:ah) (n0 m:Int) (h:Heap) (hl:Sl aK.str h v l) (K:aI) (sL:(l.length:Int)<=n0->∀ h',Ext h h'->K (.bool true) h') (kS:∀ h',Ext h h'->K (.bool false) h'):Ok prog aG ov 27 [v,.int .i64 n0,.int .i64 m] h K:=by
 rw [ao h]
 have z:=Ext.refl h
 have hle:=hl.le
 have cU:=λ(hh:Heap)=>hl.bn cG hh
 refine Ok.aw 26 (bu N27) ?_
 repeat' (first|simp only [aa,seval,Q5,cU]|((with_reducible apply bq) <;> intro _))
 .exact kS _ z.aC
 obtain ⟨I1,aX⟩:∃ I:Nat->Env->Heap->Prop,I=(λn e h'=>∃ (i:Nat) (s:Int) (h1:Heap),h'=h1.lay [] h1.low/\Ext h h1/\(n=l.length - i/\i<=l.length)/\∃ J:Nat->ah,e=(v::.int .i64 n0::.int .i64 m::jr J 3 4 (.int .i64 s::.int .i64 i::jr J 9 20 ([])))):=⟨_,rfl⟩
 refine du I1 _ (by rw [aX];exact ⟨0,0,_,rfl,z,⟨rfl,by omega⟩,bm⟩) ?_
 intro n e h' aP
 rw [aX] at aP
 obtain ⟨i,s,bx,rfl,z,hinv,J,rfl⟩:=aP
 obtain ⟨rfl,hi⟩:=hinv
 have hw:i < l.length->IntKind.i64.wrap ((i:Int)+1)=((i+1:Nat):Int):=λhh=>by unfold maxLen at hle;rw [wrap_i64 (by omega) (by omega)];omega
 simp only [aa,seval,Q5,cU]
 refine bq (λaW=>?_) (λaW=>?_)
 rotate_left
 .repeat' ( simp only [aa,seval,Q5])
  exact sL (by omega) _ z.aC
 obtain ⟨r,hr,bT⟩:=fo (l:=l) (i:=i) (by omega)
 repeat' (first|simp only [aa,seval,Q5]|((with_reducible apply bq) <;> intro _)|with_reducible refine qz (hl.mono z.inc) cG nK (by omega) hr (λp hp=>?_)|with_reducible refine iY hp kJ ?_)
 .exact kS _ z.aC
 .rw [hw (by omega)]
  (rw [aX];with_reducible refine cy (m:=_) ?_ ⟨i+1,IntKind.i64.wrap (s+r.size),_,rfl,z,⟨rfl,by omega⟩,bm⟩;omega)
def qR (l:List au) (x:au):Bool:=l.any (λy=>decide (y=x))
theorem kT {l:List au} {x:au}:qR l x=true↔x∈l:=by
 unfold qR
 rw [tF]
 exact ⟨λ⟨y,h1,h2⟩=>of_decide_eq_true h2 ▸ h1,λh=>⟨x,h,pn rfl⟩⟩
theorem Hf (l:List au) (aR:au) (p0 p1 p2 p5 p6:ah) (q b:Int) (h:Heap) (hl:Sl aK.str h p0 l) (K:aI) (hk:∀ h',Ext h h'->K (.bool (qR l aR)) h'):Ok prog aG ov 62 [hU p0 p1 p2 p5 p6 q b,.string aR] h K:=by
 rw [ao h]
 have z:=Ext.refl h
 have hle:=hl.le
 have el:∀ (h:Heap) (K:aI),aH (some p0) h K=K p0 h:=λ_ _=>rfl
 have cU:=λ(hh:Heap)=>hl.bn cG hh
 refine Ok.aw 18 (bu N62) ?_
 repeat' (simp only [aa,seval,Rb,kG])
 refine lZ (λh' x hq=>?_)
 have q0:=hq 0 _ rfl
 clear hq
 (replace z:=z.an x;rw [ao h'])
 obtain ⟨A0,ep⟩:∃ A0,A0=h.size+0:=⟨_,rfl⟩
 rw [<- ep] at q0
 rw [<- ep]
 obtain ⟨I1,aX⟩:∃ I:Nat->Env->Heap->Prop,I=(λn e h'=>∃ (i:Nat) (h1:Heap),h'=h1.lay [] h1.low/\Ext h h1/\(n=l.length - i/\i<=l.length/\(∀ x∈l.take i,decide (x=aR)=false)/\Holds h1 A0 (.row (dW p0 p1 p2 p5 p6 q b) 28 false))/\∃ J:Nat->ah,e=(J 0::.string aR::.pointer (some ⟨A0,0,none⟩)::jr J 3 2 (.int .i64 i::jr J 6 14 ([])))):=⟨_,rfl⟩
 refine du I1 _ (by rw [aX];exact ⟨0,_,rfl,z,⟨rfl,by omega,by simp,q0⟩,bm⟩) ?_
 intro n e h' aP
 rw [aX] at aP
 obtain ⟨i,bx,rfl,z,hinv,J,rfl⟩:=aP
 clear q0
 obtain ⟨rfl,hi,aE,q0⟩:=hinv
 have hw:i < l.length->IntKind.i64.wrap ((i:Int)+1)=((i+1:Nat):Int):=λhh=>by unfold maxLen at hle;rw [wrap_i64 (by omega) (by omega)];omega
 simp only [aa,seval,Rb,q0.lay,lO,el,cU]
 refine bq (λaW=>?_) (λaW=>?_)
 rotate_left
 .rw [gA (by omega)] at aE
  have hf:qR l aR=false:=by unfold qR;rw [Aq];intro x hx;rw [aE x hx];decide
  rw [hf] at hk
  repeat' (simp only [aa,seval,Rb])
  exact hk _ z.aC
 obtain ⟨r,hr,bT⟩:=fo (l:=l) (i:=i) (by omega)
 repeat' (first|simp only [aa,seval,Rb,q0.lay,lO,el]|((with_reducible apply bq) <;> intro _)|with_reducible refine qz (hl.mono z.inc) cG nK (by omega) hr (λp hp=>?_)|with_reducible refine iY hp kJ ?_)
 .have he:r=aR:=by assumption
  rw [show qR l aR=true from kT.2 (he ▸ fW bT)] at hk
  exact hk _ z.aC
 .have aS:¬ r=aR:=by assumption
  rw [hw (by omega)]
  (rw [aX];with_reducible refine cy (m:=_) ?_ ⟨i+1,_,rfl,z,⟨rfl,by omega,oE (i:=i) (P:=λx:au=>decide (x=aR)=false) bT aE (oL aS),q0⟩,bm⟩;omega)
def JY:=bB f106
def N4:=PLift.up (by have c:=bD JY f106;simp only [aL,f106,seval] at c;exact nd c <| nd @b8 <| @zD2)
theorem AD:type_of% N4.down:=N4.down
def Kr:=bB f135
def OK:=PLift.up (by have c:=bD Kr f135;simp only [aL,f135,seval] at c;exact nd c <| @zEt)
theorem Et:type_of% OK.down:=OK.down
def KE:=bB f154
def O3:=PLift.up (by have c:=bD KE f154;simp only [aL,f154,seval] at c;exact nd c <| nd @T6 <| nd @q9 <| nd @TZ <| @zEK)
theorem uP:type_of% O3.down:=O3.down
def Ks:=bB f136
def OL:=PLift.up (by have c:=bD Ks f136;simp only [aL,f136,seval] at c;exact nd c <| nd @Js <| nd @Gn <| @zEu)
theorem Lg:type_of% OL.down:=OL.down
def Kk:=bB f129
def OC:=PLift.up (by have c:=bD Kk f129;simp only [aL,f129,seval] at c;exact nd c <| nd @DK <| nd @B6 <| nd @nj <| @zEn)
theorem AG:type_of% OC.down:=OC.down
def N40:=bB f40
def x40:=PLift.up (by have c:=bD N40 f40;simp only [aL,f40,seval] at c;exact nd c <| nd @b8 <| @VB)
theorem Q7:type_of% x40.down:=x40.down
def N69:=bB f69
def x69:=PLift.up (by have c:=bD N69 f69;simp only [aL,f69,seval] at c;exact nd c <| nd @iM <| nd @b8 <| nd @gl <| @V4)
theorem EC:type_of% x69.down:=x69.down
theorem zpj (l:List aZ) (v fv:ah) (pr:aZ->Bool) (h:Heap) (hl:Sl aK.term h v l) (hs:l.length<=1000) (FU:∀ (x:aZ) (hc:Heap) (K:aI),Ext h hc->(∀ h',Ext hc h'->K (.bool (pr x)) h')->vY prog aG ov [x.val] hc K fv) (K:aI)
 (hk:∀ h',Ext h h'->K (.int .i64 (mr pr l)) h'):Ok prog aG ov 154 [v,fv] h K:=by
 rw [ao h]
 have z:=Ext.refl h
 refine Ok.aw 17 (bu KE) ?_
 simp only [aa,seval,uP]
 repeat' ((with_reducible refine Qe hl zf ?_) <;> simp only [aa,seval,uP])
 obtain ⟨I1,aX⟩:∃ I:Nat->Env->Heap->Prop,I=(λn e h'=>∃ (i:Nat) (h1:Heap),h'=h1.lay [] h1.low/\Ext h h1/\(n=l.length - i/\i<=l.length/\∀ x∈l.take i,pr x=false)/\∃ J:Nat->ah,e=(v::fv::jr J 2 5 (.int .i64 l.length::.int .i64 i::jr J 9 10 ([])))):=⟨_,rfl⟩
 refine du I1 _ (by rw [aX];exact ⟨0,_,rfl,z,⟨rfl,by omega,by simp⟩,bm⟩) ?_
 intro n e h' aP
 rw [aX] at aP
 obtain ⟨i,bx,rfl,z,hinv,J,rfl⟩:=aP
 obtain ⟨rfl,hi,aE⟩:=hinv
 have hw:=ei i (by omega)
 repeat' (first|simp only [aa,seval,uP]|((with_reducible apply bq) <;> intro _))
 rotate_left
 .rw [gA (by omega)] at aE
  have:=Tt aE
  rw [this] at hk
  exact hk _ z.aC
 obtain ⟨r,hr,bT⟩:=fo (l:=l) (i:=i) (by assumption)
 repeat' ((first|with_reducible refine QJ (hl.mono z.inc) zf kC (by omega) hr (λp hp=>?_)|with_reducible refine Ix hp sC kC ?_) <;> simp only [aa,seval,uP])
 refine FU _ _ _ z.aC (λh' x=>?_)
 (replace z:=z.an x;rw [ao h'])
 cases hx:pr r
 rotate_left
 .simp only [aa,seval,uP]
  have:=SY bT aE hx
  rw [this] at hk
  exact hk _ z.aC
 .simp only [aa,seval,uP]
  rw [hw]
  (rw [aX];with_reducible refine cy (m:=_) ?_ ⟨i+1,_,rfl,z,⟨rfl,by omega,oE (i:=i) (P:=λx:aZ=>pr x=false) bT aE hx⟩,bm⟩;omega)
theorem zfs (l:List aZ) (v fv:ah) (pr:aZ->Bool) (h:Heap) (hl:Sl aK.term h v l) (hs:l.length<=1000) (FU:∀ (x:aZ) (hc:Heap) (K:aI),Ext h hc->(∀ h',Ext hc h'->K (.bool (pr x)) h')->vY prog aG ov [x.val] hc K fv) (K:aI)
 (hk:∀ h',Ext h h'->K (.bool (l.any pr)) h'):Ok prog aG ov 135 [v,fv] h K:=by
 refine Ok.aw 7 (bu Kr) ?_
 simp only [aa,seval,Et]
 refine zpj l v fv pr h hl hs FU _ (λh' x=>?_)
 simp only [aa,seval,Et,TB]
 refine T5 (λhh=>?_) (λhh=>?_)
 all_goals
  simp only [aa,seval,Et]
  rw [hh] at hk
  exact hk _ x
theorem zuo (x:aZ) (h:Heap) (K:aI) (hk:∀ h',Ext h h'->K (.bool x.v) h'):Ok prog aG ov 136 [x.val] h K:=by
 rw [ao h]
 unfold aZ.val aZ.cells
 refine Ok.aw 4 (bu Ks) ?_
 simp only [aa,seval,Lg]
 refine T5 (λhh=>?_) (λhh=>?_)
 all_goals
  simp only [aa,seval,Lg]
  rw [hh] at hk
  exact hk _ ((Ext.refl h).lk _ _ (by omega))
theorem Zp (A o:Nat) (k:Int) (h0:0<=k) (h4:k<=4):jL aG 45 (.pointer (some ⟨A,o,none⟩)) none (some (.int .i64 k)) none=some (.slice (some ⟨A,o,none⟩) k.toNat 4):=by
 have hG:4 < G:=by decide
 simp only [jL,EH,rq,wV,aB hG,dX]
 rw [aB ⟨h0,by omega⟩]
 simp [kC]
theorem Qf (a:aj) (h:Heap) (K:aI) (hk:∀ w h',Ext h h'->Sl aK.term h' w a.args->K w h'):Ok prog aG ov 129 [a.val] h K:=by
 rw [ao h]
 have z:=Ext.refl h
 unfold aj.val aj.cells
 refine Ok.aw 8 (bu Kk) ?_
 simp only [aa,seval,AG]
 refine zwO rfl rfl ?_
 simp only [aa,seval,AG]
 refine zwR rfl rfl ?_
 simp only [aa,seval,AG]
 rw [Zp _ _ _ (by split <;> split <;> omega) (by split <;> split <;> omega)]
 simp only [aa,seval,AG]
 have hc:(if 4 < (if a.n < 0 then 0 else a.n) then 4 else (if a.n < 0 then 0 else a.n)).toNat=a.bQ:=by
  unfold aj.bQ
  split <;> split <;> omega
 rw [hc]
 exact hk _ _ z.aC (zCh (a:=a) ⟨by rw [bd];simp,by rw [iB];rfl⟩ rfl)
theorem zw6 (a:aj) (h:Heap) (K:aI) (hk:∀ h',Ext h h'->K (.bool a.ground) h'):Ok prog aG ov 106 [a.val] h K:=by
 rw [ao h]
 have z:=Ext.refl h
 unfold aj.val aj.cells
 refine Ok.aw 6 (bu JY) ?_
 simp only [aa,seval,AD]
 refine Qf a _ _ (λw h' x ha=>?_)
 (replace z:=z.an x;rw [ao h'])
 simp only [aa,seval,AD]
 have CI:a.args.length<=1000:=by rw [wO];unfold aj.bQ;omega
 refine zfs _ _ _ (λt=>t.v) _ (ha.lay _ _) CI (λt hc K' _ hK=>by rw [rV];exact zuo t hc K' hK) _ (λh' x=>?_)
 (replace z:=z.an x;replace ha:=ha.over x;rw [ao h'])
 simp only [aa,seval,AD]
 refine ct rfl ?_
 simp only [aa,seval,AD]
 exact hk _ z.aC
theorem zph (l:aN) (v:ah) (a:aj) (h:Heap) (hl:Sl aK.atom h v l) (hs:l.length<=1000) (K:aI)
 (hk:∀ h',Ext h h'->K (.int .i64 (mr (λx=>decide (a=x)) l)) h'):Ok prog aG ov 69 [v,a.val] h K:=by
 rw [ao h]
 have z:=Ext.refl h
 refine Ok.aw 17 (bu N69) ?_
 simp only [aa,seval,EC,gI]
 repeat' ((with_reducible refine Qe hl bF ?_) <;> simp only [aa,seval,EC])
 refine lZ (λh' x hq=>?_)
 have q0:=hq 0 _ rfl
 clear hq
 (replace z:=z.an x;rw [ao h'])
 obtain ⟨I1,aX⟩:∃ I:Nat->Env->Heap->Prop,I=(λn e h'=>∃ (i:Nat) (h1:Heap),h'=h1.lay [] h1.low/\Ext h h1/\(n=l.length - i/\i<=l.length/\(∀ x∈l.take i,decide (a=x)=false)/\Holds h1 (h.size+0) (.row a.cells 47 false))/\∃ J:Nat->ah,e=(v::jr J 1 2 (.pointer (some ⟨h.size+0,0,none⟩)::jr J 4 3 (.int .i64 l.length::.int .i64 i::jr J 9 10 ([]))))):=⟨_,rfl⟩
 refine du I1 _ (by rw [aX];exact ⟨0,_,rfl,z,⟨rfl,by omega,by simp,q0⟩,bm⟩) ?_
 intro n e h' aP
 rw [aX] at aP
 obtain ⟨i,bx,rfl,z,hinv,J,rfl⟩:=aP
 obtain ⟨rfl,hi,aE,q0⟩:=hinv
 have hw:=ei i (by omega)
 simp only [aa,seval,EC]
 refine bq (λaW=>?_) (λaW=>?_)
 rotate_left
 .simp only [aa,seval,EC]
  rw [gA (by omega)] at aE
  have:=Tt aE
  rw [this] at hk
  exact hk _ z.aC
 obtain ⟨r,hr,bT⟩:=fo (l:=l) (i:=i) aW
 simp only [aa,seval,EC]
 repeat' ((first|((with_reducible apply bq) <;> intro _)|with_reducible refine oG (hl.mono z.inc) bF bN (by omega) hr (λp hp=>?_)|with_reducible refine mw hp fD bN ?_|with_reducible refine dL (by simp only [EC]) z.aC ?_|((with_reducible refine ⟨z.cK.lay _ _,?_⟩);(intro _ h' zz x _);(simp only [b9,bG] at x);replace q0:=q0.over x;(replace z:=zz);(clear zz);rw [ao h'])) <;> simp only [aa,seval,EC,q0.lay,↓eP,ef,zn8,dy])
 .have:=SY (p:=λx=>decide (a=x)) bT aE (by simpa using (by assumption:a=r))
  rw [this] at hk
  exact hk _ z.aC
 .rw [hw]
  (rw [aX];with_reducible refine cy (m:=_) ?_ ⟨i+1,_,rfl,z,⟨rfl,by omega,oE (i:=i) (P:=λx:aj=>decide (a=x)=false) bT aE (by simpa using (by assumption:¬ a=r)),q0⟩,bm⟩;omega)
theorem zjY (l:aN) (v:ah) (a:aj) (h:Heap) (hl:Sl aK.atom h v l) (hs:l.length<=1000) (K:aI)
 (hk:∀ h',Ext h h'->K (.bool (decide (a∈l))) h'):Ok prog aG ov 40 [v,a.val] h K:=by
 rw [ao h]
 have z:=Ext.refl h
 refine Ok.aw 7 (bu N40) ?_
 simp only [aa,seval,Q7,gI,↓eP,ef,dy]
 refine zph l _ a _ (hl.lay _ _) hs _ (λh' x=>?_)
 (replace z:=z.an x;rw [ao h'])
 simp only [aa,seval,Q7,zC9]
 refine bq (λhh=>?_) (λhh=>?_)
 .simp only [aa,seval,Q7]
  rw [pn hh] at hk
  exact hk _ z.aC
 .simp only [aa,seval,Q7]
  rw [oL hh] at hk
  exact hk _ z.aC
def N12:=bB f12
def On:=PLift.up (by have c:=bD N12 f12;simp only [aL,f12,seval] at c;exact nd c <| nd @iM <| nd @b8 <| nd @gl <| @Vb)
theorem Co:type_of% On.down:=On.down
def Ki:=bB f127
def OA:=PLift.up (by have c:=bD Ki f127;simp only [aL,f127,seval] at c;exact nd c <| @zEl)
theorem Le:type_of% OA.down:=OA.down
def KK:=bB f173
def Pe:=PLift.up (by have c:=bD KK f173;simp only [aL,f173,seval] at c;exact nd c <| @zET)
theorem Ll:type_of% Pe.down:=Pe.down
def KF:=bB f160
def O6:=PLift.up (by have c:=bD KF f160;simp only [aL,f160,seval] at c;exact nd c <| @zEM)
theorem Lk:type_of% O6.down:=O6.down
def KA:=bB f148
def OW:=PLift.up (by have c:=bD KA f148;simp only [aL,f148,seval] at c;exact nd c <| nd @BG <| @zEE)
theorem nV:type_of% OW.down:=OW.down
def KH:=bB f162
def O8:=PLift.up (by have c:=bD KH f162;simp only [aL,f162,seval] at c;exact nd c <| nd @BG <| @zEO)
theorem nW:type_of% O8.down:=O8.down
def KB:=bB f149
def OX:=PLift.up (by have c:=bD KB f149;simp only [aL,f149,seval] at c;exact nd c <| nd @kx <| nd @gH <| nd @ky <| @zEF)
theorem Eu:type_of% OX.down:=OX.down
def KG:=bB f161
def O7:=PLift.up (by have c:=bD KG f161;simp only [aL,f161,seval] at c;exact nd c <| nd @uK <| @zEN)
theorem UI:type_of% O7.down:=O7.down
def Kh:=bB f126
def Oz:=PLift.up (by have c:=bD Kh f126;simp only [aL,f126,seval] at c;exact nd c <| @zEk)
theorem xj:type_of% Oz.down:=Oz.down
def N90:=bB f90
def x90:=PLift.up (by have c:=bD N90 f90;simp only [aL,f90,seval] at c;exact nd c <| @Wo)
theorem HW:type_of% x90.down:=x90.down
def N91:=bB f91
def x91:=PLift.up (by have c:=bD N91 f91;simp only [aL,f91,seval] at c;exact nd c <| @Wp)
theorem UL:type_of% x91.down:=x91.down
def D9:=bB f150
def OZ:=PLift.up (by have c:=bD D9 f150;simp only [aL,f150,seval] at c;exact nd c <| nd @Js <| nd @Hr <| nd @Gn <| nd @gH <| @zEG)
theorem AL:type_of% OZ.down:=OZ.down
def Kj:=bB f128
def OB:=PLift.up (by have c:=bD Kj f128;simp only [aL,f128,seval] at c;exact nd c <| nd @vV <| nd @Hs <| nd @DK <| nd @B6 <| nd @tj <| nd @nj <| nd @q9 <| nd @gH <| @zEm)
theorem kf:type_of% OB.down:=OB.down
theorem znb (c:Int) (h:Heap) (K:aI) (h1:(97<=c/\c<=122)->K (.bool true) h) (h2:¬ (97<=c/\c<=122)->K (.bool false) h):Ok prog aG ov 127 [.int .u8 c] h K:=by
 refine Ok.aw 8 (bu Ki) ?_
 simp only [aa,seval,Le]
 repeat' (refine bq (λc=>?_) (λc=>?_) <;> simp only [aa,seval,Le])
 all_goals first|exact h1 (by omega)|exact h2 (by omega)
theorem zsD (c:Int) (h:Heap) (K:aI) (h1:(65<=c/\c<=90)->K (.bool true) h) (h2:¬ (65<=c/\c<=90)->K (.bool false) h):Ok prog aG ov 173 [.int .u8 c] h K:=by
 refine Ok.aw 8 (bu KK) ?_
 simp only [aa,seval,Ll]
 repeat' (refine bq (λc=>?_) (λc=>?_) <;> simp only [aa,seval,Ll])
 all_goals first|exact h1 (by omega)|exact h2 (by omega)
theorem zsB (c:Int) (h:Heap) (K:aI) (h1:(48<=c/\c<=57)->K (.bool true) h) (h2:¬ (48<=c/\c<=57)->K (.bool false) h):Ok prog aG ov 160 [.int .u8 c] h K:=by
 refine Ok.aw 8 (bu KF) ?_
 simp only [aa,seval,Lk]
 repeat' (refine bq (λc=>?_) (λc=>?_) <;> simp only [aa,seval,Lk])
 all_goals first|exact h1 (by omega)|exact h2 (by omega)
end Go.Proofs.YtmamldleclamjaaGreatDoor
namespace Go.Proofs.YtmamldleclamjaaGreatDoor
open Go.Am
theorem zBb:qg aG 44 []=some cf.val:=by kernel_rfl
theorem Tq (a:aj) (k:Nat) (hk:k < 4):cut a.cells (3+k*2) 2=some (a.arg k).cells:=by
 have:k=0\/k=1\/k=2\/k=3:=by omega
 rcases this with rfl|rfl|rfl|rfl <;> rfl
theorem zjb (a:aZ):Value.agg a.cells.toArray=a.val:=rfl
theorem zqz (a:aj):a.cells[0]? = some (.string a.says):=rfl
theorem zvV (a:aj):a.cells[1]? = some (.string a.pred):=rfl
theorem Tz (a:aj):a.cells[2]? = some (.int .i64 a.n):=rfl
end Go.Proofs.YtmamldleclamjaaGreatDoor
