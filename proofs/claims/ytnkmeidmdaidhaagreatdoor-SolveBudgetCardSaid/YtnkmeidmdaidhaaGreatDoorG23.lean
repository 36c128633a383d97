/- The code of some functions, node by node, for simp. Written by a program (mkcode.py). No condition. -/
import Derived.Test.YtnkmeidmdaidhaaGreatDoorG22
set_option linter.unusedSimpArgs false
set_option linter.unusedVariables false
set_option maxRecDepth 100000
set_option maxHeartbeats 0
noncomputable section
namespace Go.Proofs.YtnkmeidmdaidhaaGreatDoor
open Go.Am Tryz
variable {t:TypeId}
def FD:=bD f126
def IM:=PLift.up (by have c:=bG FD f126;simp only [aQ,f126,seval] at c;exact nd c <| nd @uK <| nd @mW <| nd @jZ <| nd @nQ <| @zBd)
theorem oP:type_of% IM.down:=IM.down
def FG:=bD f128
def IQ:=PLift.up (by have c:=bG FG f128;simp only [aQ,f128,seval] at c;exact nd c <| @zBf)
theorem mD:type_of% IQ.down:=IQ.down
def FH:=bD f129
def IU:=PLift.up (by have c:=bG FH f129;simp only [aQ,f129,seval] at c;exact nd c <| nd @uK <| nd @mW <| nd @jZ <| nd @nP <| @zBg)
theorem Ax:type_of% IU.down:=IU.down
def Fm:=bD f102
def Iu:=PLift.up (by have c:=bG Fm f102;simp only [aQ,f102,seval] at c;exact nd c <| nd @lq <| nd @uK <| nd @JP <| nd @mW <| nd @jm <| nd @jZ <| nd @nP <| nd @nQ <| @zAV)
theorem jE:type_of% Iu.down:=Iu.down
def Wj:=bD f98
def Y7:=PLift.up (by have c:=bG Wj f98;simp only [aQ,f98,seval] at c;exact nd c <| nd @Kt <| nd @lq <| nd @JP <| nd @vY <| nd @r9 <| nd @mW <| nd @Dt <| nd @vD <| nd @jZ <| nd @nQ <| @Ps)
theorem vh:type_of% Y7.down:=Y7.down
def Wf:=bD f94
def Y3:=PLift.up (by have c:=bG Wf f94;simp only [aQ,f94,seval] at c;exact nd c <| nd @lq <| nd @vY <| nd @r9 <| nd @jm <| nd @vD <| nd @jZ <| @Po)
theorem Ga:type_of% Y3.down:=Y3.down
def Fl:=bD f101
def It:=PLift.up (by have c:=bG Fl f101;simp only [aQ,f101,seval] at c;exact nd c <| nd @uK <| nd @JP <| nd @vY <| nd @r9 <| nd @vD <| nd @jZ <| @zAU)
theorem FZ:type_of% It.down:=It.down
def Ah:=bD f103
def Iv:=PLift.up (by have c:=bG Ah f103;simp only [aQ,f103,seval] at c;exact nd c <| nd @wu <| nd @Dt <| nd @nP <| nd @nQ <| @zAW)
theorem fk:type_of% Iv.down:=Iv.down
def FI:=bD f130
def IV:=PLift.up (by have c:=bG FI f130;simp only [aQ,f130,seval] at c;exact nd c <| nd @uK <| nd @mW <| nd @jZ <| nd @nP <| @zBh)
theorem Ay:type_of% IV.down:=IV.down
def Ag:=bD f100
def Is:=PLift.up (by have c:=bG Ag f100;simp only [aQ,f100,seval] at c;exact nd c <| nd @Kt <| nd @wu <| nd @uK <| nd @JP <| nd @mW <| nd @Dt <| nd @jm <| nd @jZ <| nd @nQ <| @zAT)
theorem eI:type_of% Is.down:=Is.down
def Nq:=bD f93
def Y2:=PLift.up (by have c:=bG Nq f93;simp only [aQ,f93,seval] at c;exact nd c <| nd @Kt <| nd @lq <| nd @wu <| nd @r9 <| nd @Dt <| nd @jm <| nd @jZ <| @Pn)
theorem ic:type_of% Y2.down:=Y2.down
def FB:=bD f124
def IK:=PLift.up (by have c:=bG FB f124;simp only [aQ,f124,seval] at c;exact nd c <| nd @Kj <| nd @C6 <| nd @zV <| nd @mh <| nd @jZ <| @zBb)
theorem F6:type_of% IK.down:=IK.down
def Wi:=bD f97
def Y6:=PLift.up (by have c:=bG Wi f97;simp only [aQ,f97,seval] at c;exact nd c <| nd @lq <| nd @vY <| nd @r9 <| nd @zV <| nd @vZ <| nd @nN <| nd @jm <| nd @R9 <| nd @cj <| nd @mh <| nd @vD <| nd @jZ <| @Pr)
theorem jF:type_of% Y6.down:=Y6.down
def FC:=bD f125
def IL:=PLift.up (by have c:=bG FC f125;simp only [aQ,f125,seval] at c;exact nd c <| nd @wu <| @zBc)
theorem wz:type_of% IL.down:=IL.down
theorem J0 (a:Int):fc prog (Next.value <$> convert 3 159 (.int .i64 a))=some (Next.value (.int .u64 (IntKind.u64.wrap a))):=by rfl
theorem J1 (a:Int):fc prog (Next.value <$> convert 159 3 (.int .u64 a))=some (Next.value (.int .i64 (IntKind.i64.wrap a))):=by rfl
theorem JR {T:bx} {k kd:IntKind} {a b:Int} (hb:¬ b < 0):bZ prog T .shr t (.int k a) (.int kd b)=some (.int k (a.fdiv (2 ^ (min b.toNat k.bits)))):=by
 have h1:((T.desc t).bind λd=>Ad d (.int k a) (.int kd b))=none:=by
  cases T.desc t with
  |none=>rfl
  |some d=>cases d <;> rfl
 have h2:fc prog (binOp .shr t (.int k a) (.int kd b))=some (.int k (a.fdiv (2 ^ (min b.toNat k.bits)))):=by
  simp [binOp,Op.shift,hb,zK]
 unfold bZ
 have hf:oB .shr (.int k a) (.int kd b)=none:=rfl
 rw [hf]
 simp [h1,h2]
 exact ⟨⟨rfl,rfl⟩,rfl⟩
theorem vV {d} {s ty:TypeId} {x:Operand} {pos af g} {kk:IntKind} {a:Int} {v:ai} {e:Env} {h:Heap} {K:aL} (hs:qv aH s=false) (ht:qv aH t=false) (hx:br e x=.int kk a) (hc:fc prog (Next.value <$> convert s t (.int kk a))=some (Next.value v)) (hv:plain v=true):bU prog aH ov ⟨d,.convert s t x,ty,pos,af,g⟩ e h K=K v h:=by
 rw [zoy d ty pos af g e h K s t x hs ht]
 have hp:fB prog e ⟨d,.convert s t x,ty,pos,af,g⟩ h=some (v,h):=by
  unfold fB
  simp [Op.operands,hx,execOp]
  refine ⟨rfl,?_⟩
  rw [hc]
  simp [hv]
 rw [hp]
 rfl
theorem T3 (w:Nat) (hn:w<=1000) (fv:ai) (pr:Nat->Bool) (h:Heap) (xr:∀ (i:Nat) (hc:Heap) (K:aL),i < w->Ext h hc->(∀ h',Ext hc h'->K (.bool (pr i)) h')->uU prog aH ov [.int .i64 i] hc K fv) (K:aL)
 (hk:∀ (h':Heap) (i:Nat),Ext h h'->i<=w->(0 < i->pr (i - 1)=false)->(i < w->pr i=true)->K (.int .i64 i) h'):Ok prog aH ov 128 [.int .i64 w,fv] h K:=by
 rw [aq h]
 have z:=Ext.refl h
 refine Ok.aC 24 (bH FG) ?_
 simp only [aa,seval,mD]
 obtain ⟨I1,aY⟩:∃ I:Nat->Env->Heap->Prop,I=(λn e h'=>∃ (lo hi:Nat) (h1:Heap),h'=h1.lay [] h1.low/\Ext h h1/\(n=hi - lo/\lo<=hi/\hi<=w/\(0 < lo->pr (lo - 1)=false)/\(hi < w->pr hi=true))/\∃ J:Nat->ai,e=(.int .i64 w::fv::jr J 2 3 (.int .i64 lo::.int .i64 hi::jr J 7 19 ([])))):=⟨_,rfl⟩
 refine dV I1 _ (by rw [aY];exact ⟨0,w,_,rfl,z,⟨rfl,by omega,by omega,by omega,by omega⟩,bw⟩) ?_
 intro n e h' aT
 rw [aY] at aT
 obtain ⟨lo,hi,bW,rfl,z,hinv,J,rfl⟩:=aT
 obtain ⟨rfl,h1,h2,h3,h4⟩:=hinv
 simp only [aa,seval,mD]
 refine b9 (λaW=>?_) (λaW=>?_)
 rotate_left
 .simp only [aa,seval,mD]
  obtain rfl:lo=hi:=by omega
  exact hk _ lo z.aw h2 h3 h4
 have e1:IntKind.i64.wrap ((lo:Int)+(hi:Int))=((lo+hi:Nat):Int):=by rw [ez (by omega) (by omega)];omega
 have e2:IntKind.u64.wrap ((lo+hi:Nat):Int)=((lo+hi:Nat):Int):=by unfold IntKind.wrap;simp [IntKind.bits];omega
 have e3:IntKind.i64.wrap (((lo+hi) / 2:Nat):Int)=(((lo+hi) / 2:Nat):Int):=ez (by omega) (by omega)
 have e4:Int.fdiv ((lo+hi:Nat):Int) (2 ^ (min (1:Int).toNat (IntKind.bits .u64)))=(((lo+hi) / 2:Nat):Int):=by
  show Int.fdiv ((lo+hi:Nat):Int) 2=_
  rw [Int.fdiv_eq_ediv_of_nonneg _ (by omega)]
  omega
 repeat' (simp only [aa,seval,mD,e1])
 rw [vV rfl rfl rfl (J0 _) rfl,e2]
 repeat' (simp only [aa,seval,mD])
 rw [JR (by decide),e4]
 repeat' (simp only [aa,seval,mD])
 rw [vV rfl rfl rfl (J1 _) rfl,e3]
 repeat' (simp only [aa,seval,mD])
 refine xr ((lo+hi) / 2) _ _ (by omega) z.aw (λh' x=>?_)
 (replace z:=z.ao x;rw [aq h'])
 have e5:IntKind.i64.wrap ((((lo+hi) / 2:Nat):Int)+1)=(((lo+hi) / 2+1:Nat):Int):=by rw [ez (by omega) (by omega)];omega
 cases hx:pr ((lo+hi) / 2)
 .repeat' (first|simp only [aa,seval,mD]|((with_reducible apply cn);(· rfl)))
  rw [e5]
  (rw [aY];with_reducible refine cR (m:=_) ?_ ⟨(lo+hi) / 2+1,hi,_,rfl,z,⟨rfl,by omega,by omega,by intro _;simpa using hx,h4⟩,bw⟩;omega)
 .repeat' (first|simp only [aa,seval,mD]|((with_reducible apply cn);(· rfl)))
  (rw [aY];with_reducible refine cR (m:=_) ?_ ⟨lo,(lo+hi) / 2,_,rfl,z,⟨rfl,by omega,by omega,h3,by intro _;exact hx⟩,bw⟩;omega)
theorem zt7 {P:Program} {T:bx} {a b:bf}:bZ P T .geq t (.string a) (.string b)=some (.bool (!slt a b)):=by
 refine JS rfl ?_ rfl
 unfold Op.stringOp
 simp only [zy]
 rfl
theorem zrf (l:List av) (v:ai) (h:Heap) (hl:Sl aF.bind h v l) (hs:l.length<=1000) (K:aL)
 (hk:∀ (h':Heap) (b:Bool),Ext h h'->(b=true↔kS l l.length)->K (.bool b) h'):Ok prog aH ov 126 [v] h K:=by
 rw [aq h]
 have z:=Ext.refl h
 refine Ok.aC 25 (bH FD) ?_
 simp only [aa,seval,oP]
 repeat' ((with_reducible refine pG hl cU ?_) <;> simp only [aa,seval,oP])
 obtain ⟨I1,aY⟩:∃ I:Nat->Env->Heap->Prop,I=(λn e h'=>∃ (i:Nat) (h1:Heap),h'=h1.lay [] h1.low/\Ext h h1/\(n=l.length - i/\i<=l.length/\kS l i)/\∃ J:Nat->ai,e=(v::jr J 1 4 (.int .i64 l.length::.int .i64 i::jr J 7 19 ([])))):=⟨_,rfl⟩
 refine dV I1 _ (by rw [aY];exact ⟨0,_,rfl,z,⟨rfl,by omega,by intro k x y hk;omega⟩,bw⟩) ?_
 intro n e h' aT
 rw [aY] at aT
 obtain ⟨i,bW,rfl,z,hinv,J,rfl⟩:=aT
 obtain ⟨rfl,hi,aD⟩:=hinv
 have hw:=fe i (by omega)
 have jL:IntKind.i64.wrap ((i:Int) - 1)=(i:Int) - 1:=ez (by omega) (by omega)
 simp only [aa,seval,oP]
 refine b9 (λaW=>?_) (λaW=>?_)
 rotate_left
 .simp only [aa,seval,oP]
  obtain rfl:i=l.length:=by omega
  exact hk _ true z.aw ⟨λ_=>aD,λ_=>rfl⟩
 repeat' (first|simp only [aa,seval,oP]|((with_reducible apply b9) <;> intro _)|with_reducible refine dO (by simp only [oP]) z.aw ?_|((with_reducible refine ⟨z.cI.lay _ _,?_⟩);(intro _ h' zz x _);(simp only [bK,bu] at x);(replace z:=zz);(clear zz);rw [aq h']))
 rotate_left
 .rw [hw]
  (rw [aY];with_reducible refine cR (m:=_) ?_ ⟨i+1,_,rfl,z,⟨rfl,by omega,zkQ (by omega)⟩,bw⟩;omega)
 have HI:IntKind.i64.wrap ((i:Int) - 1)=((i - 1:Nat):Int):=by rw [jL];omega
 rw [HI]
 obtain ⟨r0,vx,Hp⟩:=ig (l:=l) (i:=i - 1) (by omega)
 obtain ⟨r1,pj,Hq⟩:=ig (l:=l) (i:=i) (by omega)
 repeat' ((first|((with_reducible apply CZ) <;> intro _)|with_reducible refine vU (hl.mono z.inc) cU kW (by omega) vx (λp hp=>?_)|with_reducible refine vU (hl.mono z.inc) cU kW (by omega) pj (λp hp=>?_)|with_reducible refine wG hp uK (λq hq=>?_)|with_reducible refine sc hq yE ?_|((with_reducible refine ⟨z.cI.lay _ _,?_⟩);(intro _ h' zz x _);(simp only [bK,bu] at x);(replace z:=zz);(clear zz);rw [aq h'])) <;> simp only [aa,seval,oP,zt7])
 rotate_left
 .rw [hw]
  (rw [aY];with_reducible refine cR (m:=_) ?_ ⟨i+1,_,rfl,z,⟨rfl,by omega,zpY aD (by omega) Hp Hq (by assumption)⟩,bw⟩;omega)
 .refine hk _ false z.aw ⟨nofun,λhR=>absurd hR (ztb (by omega) Hp Hq (by simp [*]))⟩
theorem zzq (l:List av) (v:ai) (s:bf) (i:Nat) (A B:Nat) (h:Heap) (hl:Sl aF.bind h v l) (hs:l.length<=1000) (hi:i < l.length) (q0:ak h A (.row [v] 95 false)) (q1:ak h B (.row [.string s] 9 false)) (K:aL)
 (hk:∀ h',Ext h h'->K (.bool (match l[i]? with|some x => !slt x.var s|none=>false)) h'):Ok prog aH ov 129 [.int .i64 i,.pointer (some ⟨A,0,none⟩),.pointer (some ⟨B,0,none⟩)] h K:=by
 rw [aq h]
 have z:=Ext.refl h
 obtain ⟨r,hr,cv⟩:=ig (l:=l) (i:=i) (by omega)
 rw [cv] at hk
 refine Ok.aC 9 (bH FH) ?_
 simp only [aa,seval,Ax]
 repeat' ((first|with_reducible refine vU (hl.mono z.inc) cU kW (by omega) hr (λp hp=>?_)|with_reducible refine wG hp uK (λq hq=>?_)|with_reducible refine sc hq yE ?_|with_reducible refine dO (by simp only [Ax]) z.aw ?_|((with_reducible refine ⟨z.cI.lay _ _,?_⟩);(intro _ h' zz x _);(simp only [bK,bu] at x);(replace z:=zz);(clear zz);rw [aq h'])) <;> simp only [aa,seval,Ax,q0.lay,q1.lay,zt7,zrF])
 exact hk _ z.aw
theorem zr8:mu aH 25 []=some di.val:=by kernel_rfl
theorem T9 (a:az):cut a.cells 0 2=some a.cells:=rfl
theorem CM (a:az):Value.agg a.cells.toArray=a.val:=rfl
theorem Df (l:List av) (v:ai) (s:bf) (h:Heap) (hl:Sl aF.bind h v l) (hs:l.length<=1000) (K:aL)
 (hk:∀ h',Ext h h'->K (.tuple #[(df l s).1.val,.bool (df l s).2]) h'):Ok prog aH ov 102 [v,.string s] h K:=by
 rw [aq h]
 have z:=Ext.refl h
 refine Ok.aC 30 (bH Fm) ?_
 have hc:v.cells.toList=[v]:=Mu hl
 have cu:∀ (h:Heap) (K:aL),aK (some v) h K=K v h:=λ_ _=>rfl
 repeat' (simp only [aa,seval,jE,hc,cu])
 refine zrf l _ _ (hl.lay _ _) hs _ (λh' b x hb=>?_)
 have q0:=ak.top (i:=0) x rfl
 have q1:=ak.top (i:=1) x rfl
 have q2:=ak.top (i:=2) x rfl
 (replace z:=z.ao x;rw [aq h'])
 cases b
 rotate_left
 focus
  simp only [aa,seval,jE,q0.lay,cu]
  repeat' ((with_reducible refine pG (hl.mono z.inc) cU ?_) <;> simp only [aa,seval,jE])
  refine T3 l.length hs _ (λi=>match l[i]? with|some x => !slt x.var s|none=>false) _ (λi eO K' hi xe iw=>?_) _ (λcK i x hi fm mN=>?_)
  .rw [CK]
   have Jc:=z.ao xe
   exact zzq l v s i _ _ eO (hl.mono Jc.inc) hs hi (q0.over xe) (q1.over xe) K' iw
  have q0:=q0.over x
  have q1:=q1.over x
  have q2:=q2.over x
  (replace z:=z.ao x;rw [aq cK])
  have iS:=zte (hb.1 rfl) hi fm
  clear fm mN
  simp only [aa,seval,jE]
 rotate_left
 focus
  simp only [aa,seval,jE]
  have hi:0<=l.length:=jv _
  have iS:∀ y∈l.take 0,y.var≠s:=by simp
 all_goals
  obtain ⟨I1,aY⟩:∃ I:Nat->Env->Heap->Prop,I=(λn e h'=>∃ (i:Nat) (h1:Heap),h'=h1.lay [] h1.low/\Ext h h1/\(n=l.length - i/\i<=l.length/\(∀ y∈l.take i,y.var≠s)/\ak h1 (h.size+0) (.row [v] 95 false)/\ak h1 (h.size+1) (.row [.string s] 9 false)/\ak h1 (h.size+2) (.row [.bool false,.string ⟨#[]⟩] 25 false))/\∃ J:Nat->ai,e=(jr J 0 2 (.pointer (some ⟨h.size+0,0,none⟩)::.pointer (some ⟨h.size+1,0,none⟩)::.pointer (some ⟨h.size+2,0,none⟩)::.bool false::.int .i64 i::jr J 7 25 ([])))):=⟨_,rfl⟩
  refine dV I1 _ (by rw [aY];exact ⟨_,_,rfl,z,⟨rfl,hi,iS,q0,q1,q2⟩,bw⟩) ?_
  intro n e h' aT
  rw [aY] at aT
  obtain ⟨i,sT,rfl,z,hinv,J,rfl⟩:=aT
  clear hi iS q0 q1 q2
  obtain ⟨rfl,hi,iS,q0,q1,q2⟩:=hinv
  have hw:i < l.length->IntKind.i64.wrap ((i:Int)+1)=((i+1:Nat):Int):=λ_=>by rw [ez (by omega) (by omega)];omega
  have hz:=z.size
  simp only [aa,seval,jE,q0.lay,cu]
  repeat' ((first|((with_reducible apply b9) <;> intro _)|with_reducible refine pG (hl.mono z.inc) cU ?_) <;> simp only [aa,seval,jE])
  rotate_left
  .simp only [aa,seval,jE,zr8,zF]
   refine CT q2 gL rfl rfl rfl (λh' m7 c=>?_)
   replace z:=z.aw.step c (by omega)
   rw [aq h']
   simp only [aa,seval,jE,m7.lay,Jn,↓T9,CM,zF]
   have ni:=zvO (l:=l) (s:=s) (λy hy=>iS y (by rw [iK (by omega)];exact hy))
   rw [ni] at hk
   exact hk _ z.aw
  obtain ⟨r,hr,cv⟩:=ig (l:=l) (i:=i) (by assumption)
  repeat' ((first|((with_reducible apply b9) <;> intro _)|with_reducible refine vU (hl.mono z.inc) cU kW (by omega) hr (λp hp=>?_)|with_reducible refine wG hp uK (λq hq=>?_)|with_reducible refine NY hp JP (λp hp=>?_)|with_reducible refine sc hq yE ?_|with_reducible refine HY hp qI gL ?_|with_reducible refine dO (by simp only [jE]) z.aw ?_|((with_reducible refine ⟨z.cI.lay _ _,?_⟩);(intro _ h' zz x _);(simp only [bK,bu] at x);replace q0:=q0.over x;replace q1:=q1.over x;replace q2:=q2.over x;(replace z:=zz);(clear zz);rw [aq h'])) <;> simp only [aa,seval,jE,q0.lay,q1.lay,cu])
  .have hz:=z.size
   refine CT q2 gL rfl rfl rfl (λh' m7 c=>?_)
   replace z:=z.aw.step c (by omega)
   rw [aq h']
   simp only [aa,seval,jE,m7.lay,Jn,↓T9,CM,zF]
   have ki:=zvN cv iS (by assumption)
   rw [ki] at hk
   exact hk _ z.aw
  .rw [hw (by omega)]
   (rw [aY];with_reducible refine cR (m:=_) ?_ ⟨i+1,_,rfl,z,⟨rfl,by omega,uI (i:=i) (P:=λy:av=>y.var≠s) cv iS (by assumption),q0,q1,q2⟩,bw⟩;omega)
end Go.Proofs.YtnkmeidmdaidhaaGreatDoor
