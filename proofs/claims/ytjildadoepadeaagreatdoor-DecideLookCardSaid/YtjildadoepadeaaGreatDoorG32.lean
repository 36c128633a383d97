/- The code of some functions, node by node, for simp. Written by a program (mkcode.py). No condition. -/
import Derived.Test.YtjildadoepadeaaGreatDoorG28
set_option linter.unusedSimpArgs false
set_option linter.unusedVariables false
set_option maxRecDepth 100000
set_option maxHeartbeats 0
noncomputable section
namespace Go.Proofs.YtjildadoepadeaaGreatDoor
open Go.Am Tryz
def OV:=bq f20
def Fl:=PLift.up (by have c:=bw OV f20;simp only [aJ,f20,seval] at c;exact nd c <| nd @zc <| nd @sb <| nd @zd <| nd @ta <| nd @mw <| nd @eO <| nd @ou <| @JZ)
theorem PE:type_of% Fl.down:=Fl.down
def O4:=bq f43
def QV:=PLift.up (by have c:=bw O4 f43;simp only [aJ,f43,seval] at c;exact nd c <| nd @pj <| nd @cP <| nd @nH <| @J8)
theorem GU:type_of% QV.down:=QV.down
theorem Ih (a:ae) (h:Heap) (K:aF) (h1:a.dF=true->∀ h',Ext h h'->K (.bool true) h') (h2:a.dF=false->∀ h',Ext h h'->K (.bool false) h'):Ok prog az ov 20 [a.val] h K:=by
 rw [ak h]
 have z:=Ext.refl h
 unfold ae.val ae.cells
 refine Ok.au 29 (br OV) ?_
 simp only [aa,seval,PE]
 repeat' ((first|((with_reducible apply bp) <;> intro _)|with_reducible refine H8 ?_) <;> simp only [aa,seval,PE])
 all_goals first
  |with_reducible exact h2 (by simp [ae.dF];omega) _ z.ao
  |with_reducible exact h1 (by simp [ae.dF];omega) _ z.ao
theorem TA (l:cR) (v:ai) (m:Int) (h:Heap) (hl:Sl aQ.atom h v l) (K:aF) (h1:(l.length:Int)<=m->(∀ a∈l,a.dF=true)->∀ h',Ext h h'->K (.bool true) h') (h2:∀ h',Ext h h'->K (.bool false) h'):Ok prog az ov 43 [v,.int .i64 m] h K:=by
 rw [ak h]
 have z:=Ext.refl h
 have hle:=hl.le
 refine Ok.au 20 (br O4) ?_
 simp only [aa,seval,GU]
 repeat' ((first|((with_reducible apply bp) <;> intro _)|with_reducible refine N0 hl gw ?_) <;> simp only [aa,seval,GU])
 .exact h2 _ z.ao
 refine zwS (λe h'=>∃ (i:Nat) (h1:Heap) (x1 x2 x3 x4 x6 x7 x8 x9 QG QH QI QJ QK QL MF QM QN Fk Fl Fm:ai),h'=h1.lay [] h1.low/\Ext h h1/\i<=l.length/\(∀ a∈l.take i,a.dF=true)/\e=[v,x1,x2,x3,x4,.int .i64 i,x6,x7,x8,x9,QG,QH,QI,QJ,QK,QL,MF,QM,QN,Fk,Fl,Fm]) (λe _=>match e.get 5 with | .int _ i=>l.length - i.toNat|_=>0) ?_ ?_
 .exact ⟨0,h,_,_,_,_,_,_,_,_,_,_,_,_,_,_,_,_,_,_,_,_,rfl,z,by omega,by simp,rfl⟩
 rintro e h' ⟨i,b8,x1,x2,x3,x4,x6,x7,x8,x9,QG,QH,QI,QJ,QK,QL,MF,QM,QN,Fk,Fl,Fm,rfl,z,hi,aq,rfl⟩
 have hw:i < l.length->IntKind.i64.wrap ((i:Int)+1)=((i+1:Nat):Int):=λhh=>by unfold maxLen at hle;rw [wrap_i64 (by omega) (by omega)];omega
 simp only [aa,seval,GU]
 repeat' ((first|((with_reducible apply bp) <;> intro _)|with_reducible refine N0 hl gw ?_|with_reducible refine Qy (hl.mono z.inc) gw dv (by omega) (by omega) (λa p ha hp=>?_)|with_reducible refine vJ hp kV dv ?_|((with_reducible refine Ih _ _ _ (λzX h' x=>?_) (λzX h' x=>?_)) <;> (replace z:=z.aj x;rw [ak h']))|((with_reducible apply bK);(· rfl))) <;> simp only [aa,seval,GU])
 all_goals first
  |with_reducible exact h2 _ z.ao
  |with_reducible exact h1 (by omega) (by rw [i9 (by omega)] at aq;exact aq) _ z.ao
  |(rw [hw (by omega)]
    with_reducible refine YZ ?_ ?_
    .exact ⟨i+1,h',_,_,_,_,_,_,_,_,_,_,_,_,_,_,_,_,_,_,_,_,rfl,z,by omega,mS ha aq zX,rfl⟩
    .show l.length - ((i+1:Nat):Int).toNat < l.length - (i:Int).toNat
     omega)
def O3:=bq f42
def QU:=PLift.up (by have c:=bw O3 f42;simp only [aJ,f42,seval] at c;exact nd c <| nd @kc <| nd @eO <| nd @kg <| nd @ou <| @J7)
theorem GS:type_of% QU.down:=QU.down
def OU:=bq f19
def Fk:=PLift.up (by have c:=bw OU f19;simp only [aJ,f19,seval] at c;exact nd c <| nd @Gp <| nd @Gq <| nd @Ol <| nd @II <| nd @IJ <| nd @ze <| nd @wo <| nd @IK <| nd @zf <| nd @zg <| nd @IL <| nd @Gu <| nd @IM <| nd @rL <| nd @yv <| nd @yw <| nd @yx <| nd @lp <| nd @rM <| nd @yy <| nd @ue <| nd @uh <| nd @cP <| nd @nG <| nd @eO <| nd @rO <| nd @yB <| nd @uj <| nd @uk <| nd @ou <| @JY)
theorem iQ:type_of% Fk.down:=Fk.down
def OZ:=bq f24
def QQ:=PLift.up (by have c:=bw OZ f24;simp only [aJ,f24,seval] at c;exact nd c <| nd @Gp <| nd @kc <| nd @lp <| nd @eO <| nd @kg <| @J3)
theorem GR:type_of% QQ.down:=QQ.down
theorem RV (l:List aA) (v:ai) (n0 m:Int) (h:Heap) (hl:Sl aQ.str h v l) (K:aF) (ea:(l.length:Int)<=n0->∀ h',Ext h h'->K (.bool true) h') (gR:∀ h',Ext h h'->K (.bool false) h'):Ok prog az ov 42 [v,.int .i64 n0,.int .i64 m] h K:=by
 rw [ak h]
 have z:=Ext.refl h
 have hle:=hl.le
 have cO:=λ(hh:Heap)=>hl.bE dp hh
 refine Ok.au 26 (br O3) ?_
 repeat' (first|simp only [aa,seval,GS,cO]|((with_reducible apply bp) <;> intro _))
 .exact gR _ z.ao
 obtain ⟨I1,aU⟩:∃ I:Nat->Env->Heap->Prop,I=(λn e h'=>∃ (i:Nat) (s:Int) (h1:Heap),h'=h1.lay [] h1.low/\Ext h h1/\(n=l.length - i/\i<=l.length)/\∃ J:Nat->ai,e=(v::.int .i64 n0::.int .i64 m::jr J 3 4 (.int .i64 s::.int .i64 i::jr J 9 20 ([])))):=⟨_,rfl⟩
 refine dK I1 _ (by rw [aU];exact ⟨0,0,_,rfl,z,⟨rfl,by omega⟩,bx⟩) ?_
 intro n e h' aR
 rw [aU] at aR
 obtain ⟨i,s,b8,rfl,z,hinv,J,rfl⟩:=aR
 obtain ⟨rfl,hi⟩:=hinv
 have hw:i < l.length->IntKind.i64.wrap ((i:Int)+1)=((i+1:Nat):Int):=λhh=>by unfold maxLen at hle;rw [wrap_i64 (by omega) (by omega)];omega
 simp only [aa,seval,GS,cO]
 refine bp (λaS=>?_) (λaS=>?_)
 rotate_left
 .repeat' ( simp only [aa,seval,GS])
  exact ea (by omega) _ z.ao
 obtain ⟨r,hr,bz⟩:=fx (l:=l) (i:=i) (by omega)
 repeat' (first|simp only [aa,seval,GS]|((with_reducible apply bp) <;> intro _)|with_reducible refine sd (hl.mono z.inc) dp mD (by omega) hr (λp hp=>?_)|with_reducible refine iF hp lG ?_)
 .exact gR _ z.ao
 .rw [hw (by omega)]
  (rw [aU];with_reducible refine db (m:=_) ?_ ⟨i+1,IntKind.i64.wrap (s+r.size),_,rfl,z,⟨rfl,by omega⟩,bx⟩;omega)
def lZ (l:List aA) (x:aA):Bool:=l.any (λy=>decide (y=x))
theorem jk {l:List aA} {x:aA}:lZ l x=true↔x∈l:=by
 unfold lZ
 rw [oI]
 exact ⟨λ⟨y,h1,h2⟩=>of_decide_eq_true h2 ▸ h1,λh=>⟨x,h,wE rfl⟩⟩
theorem uF (l:List aA) (bW:aA) (p0 p1 p2 p5 p6:ai) (q b:Int) (h:Heap) (hl:Sl aQ.str h p0 l) (K:aF) (hk:∀ h',Ext h h'->K (.bool (lZ l bW)) h'):Ok prog az ov 24 [fS p0 p1 p2 p5 p6 q b,.string bW] h K:=by
 rw [ak h]
 have z:=Ext.refl h
 have hle:=hl.le
 have b9:∀ (h:Heap) (K:aF),aE (some p0) h K=K p0 h:=λ_ _=>rfl
 have cO:=λ(hh:Heap)=>hl.bE dp hh
 refine Ok.au 18 (br OZ) ?_
 repeat' (simp only [aa,seval,GR,iE])
 refine ko (λh' x hq=>?_)
 have q0:=hq 0 _ rfl
 clear hq
 (replace z:=z.aj x;rw [ak h'])
 obtain ⟨A0,dA⟩:∃ A0,A0=h.size+0:=⟨_,rfl⟩
 rw [<- dA] at q0
 rw [<- dA]
 obtain ⟨I1,aU⟩:∃ I:Nat->Env->Heap->Prop,I=(λn e h'=>∃ (i:Nat) (h1:Heap),h'=h1.lay [] h1.low/\Ext h h1/\(n=l.length - i/\i<=l.length/\(∀ x∈l.take i,decide (x=bW)=false)/\Holds h1 A0 (.row (cN p0 p1 p2 p5 p6 q b) 29 false))/\∃ J:Nat->ai,e=(J 0::.string bW::.pointer (some ⟨A0,0,none⟩)::jr J 3 2 (.int .i64 i::jr J 6 14 ([])))):=⟨_,rfl⟩
 refine dK I1 _ (by rw [aU];exact ⟨0,_,rfl,z,⟨rfl,by omega,by simp,q0⟩,bx⟩) ?_
 intro n e h' aR
 rw [aU] at aR
 obtain ⟨i,b8,rfl,z,hinv,J,rfl⟩:=aR
 clear q0
 obtain ⟨rfl,hi,aq,q0⟩:=hinv
 have hw:i < l.length->IntKind.i64.wrap ((i:Int)+1)=((i+1:Nat):Int):=λhh=>by unfold maxLen at hle;rw [wrap_i64 (by omega) (by omega)];omega
 simp only [aa,seval,GR,q0.lay,kh,b9,cO]
 refine bp (λaS=>?_) (λaS=>?_)
 rotate_left
 .rw [i9 (by omega)] at aq
  have hf:lZ l bW=false:=by unfold lZ;rw [uN];intro x hx;rw [aq x hx];decide
  rw [hf] at hk
  repeat' (simp only [aa,seval,GR])
  exact hk _ z.ao
 obtain ⟨r,hr,bz⟩:=fx (l:=l) (i:=i) (by omega)
 repeat' (first|simp only [aa,seval,GR,q0.lay,kh,b9]|((with_reducible apply bp) <;> intro _)|with_reducible refine sd (hl.mono z.inc) dp mD (by omega) hr (λp hp=>?_)|with_reducible refine iF hp lG ?_)
 .have he:r=bW:=by assumption
  rw [show lZ l bW=true from jk.2 (he ▸ ig bz)] at hk
  exact hk _ z.ao
 .have aV:¬ r=bW:=by assumption
  rw [hw (by omega)]
  (rw [aU];with_reducible refine db (m:=_) ?_ ⟨i+1,_,rfl,z,⟨rfl,by omega,mS (i:=i) (P:=λx:aA=>decide (x=bW)=false) bz aq (pK aV),q0⟩,bx⟩;omega)
def PA:=bq f97
def Rt:=PLift.up (by have c:=bw PA f97;simp only [aJ,f97,seval] at c;exact nd c <| nd @zyO <| nd @zyQ <| nd @zyT <| @KG)
theorem uZ:type_of% Rt.down:=Rt.down
def PB:=bq f98
def Ru:=PLift.up (by have c:=bw PB f98;simp only [aJ,f98,seval] at c;exact nd c <| @KH)
theorem U6:type_of% Ru.down:=Ru.down
def BN:=bq f162
def EY:=PLift.up (by have c:=bw BN f162;simp only [aJ,f162,seval] at c;exact nd c <| nd @rN <| nd @pk <| @zya)
theorem CD:type_of% EY.down:=EY.down
def Pa:=bq f49
def Q1:=PLift.up (by have c:=bw Pa f49;simp only [aJ,f49,seval] at c;exact nd c <| nd @Gp <| nd @lp <| @Ke)
theorem PG:type_of% Q1.down:=Q1.down
def BL:=bq f160
def EW:=PLift.up (by have c:=bw BL f160;simp only [aJ,f160,seval] at c;exact nd c <| nd @wT <| nd @Gq <| nd @ze <| nd @Gt <| nd @rL <| nd @rM <| nd @jy <| nd @yz <| nd @eO <| nd @rO <| @zx8)
theorem qt:type_of% EW.down:=EW.down
def Pz:=bq f96
def Rs:=PLift.up (by have c:=bw Pz f96;simp only [aJ,f96,seval] at c;exact nd c <| nd @wB <| nd @sb <| nd @zd <| nd @s9 <| nd @dM <| nd @jy <| nd @eO <| @KF)
theorem ng:type_of% Rs.down:=Rs.down
def BM:=bq f161
def EX:=PLift.up (by have c:=bw BM f161;simp only [aJ,f161,seval] at c;exact nd c <| nd @cP <| @zx9)
theorem CC:type_of% EX.down:=EX.down
def Pf:=bq f54
def Q6:=PLift.up (by have c:=bw Pf f54;simp only [aJ,f54,seval] at c;exact nd c <| nd @wB <| nd @sb <| nd @dM <| nd @cP <| nd @eO <| @Kj)
theorem n8:type_of% Q6.down:=Q6.down
def PC:=bq f99
def Rv:=PLift.up (by have c:=bw PC f99;simp only [aJ,f99,seval] at c;exact nd c <| nd @dM <| nd @cP <| @KI)
theorem PI:type_of% Rv.down:=Rv.down
def Pe:=bq f53
def Q5:=PLift.up (by have c:=bw Pe f53;simp only [aJ,f53,seval] at c;exact nd c <| nd @dM <| nd @cP <| @Ki)
theorem PH:type_of% Q5.down:=Q5.down
end Go.Proofs.YtjildadoepadeaaGreatDoor
