/- The code of some functions, node by node, for simp. Written by a program (mkcode.py). No condition. -/
import Derived.Test.YtkgojconmeeegaaGreatDoorG21
import Derived.Test.YtkgojconmeeegaaGreatDoorG20
set_option linter.unusedSimpArgs false
set_option linter.unusedVariables false
set_option maxRecDepth 100000
set_option maxHeartbeats 0
noncomputable section
namespace Go.Proofs.YtkgojconmeeegaaGreatDoor
open Go.Am Tryz
variable {t:TypeId}
def Kz:=bp f115
def Pl:=PLift.up (by have c:=bq Kz f115;simp only [aI,f115,seval] at c;exact nd c <| nd @bP <| @zFe)
theorem Bb:type_of% Pl.down:=Pl.down
def K7:=bp f163
def PX:=PLift.up (by have c:=bq K7 f163;simp only [aI,f163,seval] at c;exact nd c <| @zFO)
theorem Fk:type_of% PX.down:=PX.down
def Lu:=bp f199
def Qt:=PLift.up (by have c:=bq Lu f199;simp only [aI,f199,seval] at c;exact nd c <| nd @Vg <| nd @jA <| nd @Vi <| @zGk)
theorem vh:type_of% Qt.down:=Qt.down
def K9:=bp f165
def PZ:=PLift.up (by have c:=bq K9 f165;simp only [aI,f165,seval] at c;exact nd c <| nd @tY <| nd @sB <| @zFQ)
theorem Mh:type_of% PZ.down:=PZ.down
def K8:=bp f164
def PY:=PLift.up (by have c:=bq K8 f164;simp only [aI,f164,seval] at c;exact nd c <| nd @w9 <| nd @zD <| nd @lx <| @zFP)
theorem Bh:type_of% PY.down:=PY.down
def N50:=bp f50
def x50:=PLift.up (by have c:=bq N50 f50;simp only [aI,f50,seval] at c;exact nd c <| nd @bP <| @WS)
theorem SY:type_of% x50.down:=x50.down
def N80:=bp f80
def x80:=PLift.up (by have c:=bq N80 f80;simp only [aI,f80,seval] at c;exact nd c <| nd @iF <| nd @bP <| nd @fS <| @Xh)
theorem FA:type_of% x80.down:=x80.down
theorem zpG (l:List aH) (v fv:ae) (pr:aH->Bool) (h:Heap) (hl:Sl aJ.term h v l) (hs:l.length<=1000) (yH:∀ (x:aH) (hc:Heap) (K:aG),Ext h hc->(∀ h',Ext hc h'->K (.bool (pr x)) h')->pw prog aA ov [x.val] hc K fv) (K:aG)
 (hk:∀ h',Ext h h'->K (.int .i64 (jz pr l)) h'):Ok prog aA ov 199 [v,fv] h K:=by
 rw [ao h]
 have z:=Ext.refl h
 refine Ok.aq 17 (bm Lu) ?_
 simp only [aa,seval,vh]
 repeat' ((with_reducible refine uQ hl zJ ?_) <;> simp only [aa,seval,vh])
 obtain ⟨I1,aO⟩:∃ I:Nat->Env->Heap->Prop,I=(λn e h'=>∃ (i:Nat) (h1:Heap),h'=h1.lay [] h1.low/\Ext h h1/\(n=l.length - i/\i<=l.length/\∀ x∈l.take i,pr x=false)/\∃ J:Nat->ae,e=(v::fv::jr J 2 5 (.int .i64 l.length::.int .i64 i::jr J 9 10 ([])))):=⟨_,rfl⟩
 refine cK I1 _ (by rw [aO];exact ⟨0,_,rfl,z,⟨rfl,by omega,by simp⟩,bc⟩) ?_
 intro n e h' aK
 rw [aO] at aK
 obtain ⟨i,bD,rfl,z,hinv,J,rfl⟩:=aK
 obtain ⟨rfl,hi,aC⟩:=hinv
 have hw:=dE i (by omega)
 repeat' (first|simp only [aa,seval,vh]|((with_reducible apply bg) <;> intro _))
 rotate_left
 .rw [fX (by omega)] at aC
  have:=HC aC
  rw [this] at hk
  exact hk _ z.au
 obtain ⟨r,hr,bM⟩:=eb (l:=l) (i:=i) (by assumption)
 repeat' ((first|with_reducible refine Sx (hl.mono z.inc) zJ fK (by omega) hr (λp hp=>?_)|with_reducible refine Cq hp oo fK ?_) <;> simp only [aa,seval,vh])
 refine yH _ _ _ z.au (λh' x=>?_)
 (replace z:=z.aj x;rw [ao h'])
 cases hx:pr r
 rotate_left
 .simp only [aa,seval,vh]
  have:=Hw bM aC hx
  rw [this] at hk
  exact hk _ z.au
 .simp only [aa,seval,vh]
  rw [hw]
  (rw [aO];with_reducible refine bS (m:=_) ?_ ⟨i+1,_,rfl,z,⟨rfl,by omega,mL (i:=i) (P:=λx:aH=>pr x=false) bM aC hx⟩,bc⟩;omega)
theorem zfO (l:List aH) (v fv:ae) (pr:aH->Bool) (h:Heap) (hl:Sl aJ.term h v l) (hs:l.length<=1000) (yH:∀ (x:aH) (hc:Heap) (K:aG),Ext h hc->(∀ h',Ext hc h'->K (.bool (pr x)) h')->pw prog aA ov [x.val] hc K fv) (K:aG)
 (hk:∀ h',Ext h h'->K (.bool (l.any pr)) h'):Ok prog aA ov 163 [v,fv] h K:=by
 refine Ok.aq 7 (bm K7) ?_
 simp only [aa,seval,Fk]
 refine zpG l v fv pr h hl hs yH _ (λh' x=>?_)
 simp only [aa,seval,Fk,RV]
 refine tZ (λhh=>?_) (λhh=>?_)
 all_goals
  simp only [aa,seval,Fk]
  rw [hh] at hk
  exact hk _ x
theorem zvc (x:aH) (h:Heap) (K:aG) (hk:∀ h',Ext h h'->K (.bool x.v) h'):Ok prog aA ov 165 [x.val] h K:=by
 rw [ao h]
 unfold aH.val aH.cells
 refine Ok.aq 4 (bm K9) ?_
 simp only [aa,seval,Mh]
 refine tZ (λhh=>?_) (λhh=>?_)
 all_goals
  simp only [aa,seval,Mh]
  rw [hh] at hk
  exact hk _ ((Ext.refl h).je _ _ (by omega))
theorem aaw (A o:Nat) (k:Int) (h0:0<=k) (h4:k<=4):jY aA 32 (.pointer (some ⟨A,o,none⟩)) none (some (.int .i64 k)) none=some (.slice (some ⟨A,o,none⟩) k.toNat 4):=by
 have hG:4 < G:=by decide
 simp only [jY,FD,qI,zF,aE hG,dX]
 rw [aE ⟨h0,by omega⟩]
 simp [fK]
theorem RO (a:ak) (h:Heap) (K:aG) (hk:∀ w h',Ext h h'->Sl aJ.term h' w a.args->K w h'):Ok prog aA ov 164 [a.val] h K:=by
 rw [ao h]
 have z:=Ext.refl h
 unfold ak.val ak.cells
 refine Ok.aq 8 (bm K8) ?_
 simp only [aa,seval,Bh]
 refine zxF rfl rfl ?_
 simp only [aa,seval,Bh]
 refine zxJ rfl rfl ?_
 simp only [aa,seval,Bh]
 rw [aaw _ _ _ (by split <;> split <;> omega) (by split <;> split <;> omega)]
 simp only [aa,seval,Bh]
 have hc:(if 4 < (if a.n < 0 then 0 else a.n) then 4 else (if a.n < 0 then 0 else a.n)).toNat=a.cU:=by
  unfold ak.cU
  split <;> split <;> omega
 rw [hc]
 exact hk _ _ z.au (zC8 (a:=a) ⟨by rw [bf];simp,by rw [gH];rfl⟩ rfl)
theorem zpD (a:ak) (h:Heap) (K:aG) (hk:∀ h',Ext h h'->K (.bool a.ground) h'):Ok prog aA ov 115 [a.val] h K:=by
 rw [ao h]
 have z:=Ext.refl h
 unfold ak.val ak.cells
 refine Ok.aq 6 (bm Kz) ?_
 simp only [aa,seval,Bb]
 refine RO a _ _ (λw h' x ha=>?_)
 (replace z:=z.aj x;rw [ao h'])
 simp only [aa,seval,Bb]
 have yg:a.args.length<=1000:=by rw [wU];unfold ak.cU;omega
 refine zfO _ _ _ (λt=>t.v) _ (ha.lay _ _) yg (λt hc K' _ hK=>by rw [sE];exact zvc t hc K' hK) _ (λh' x=>?_)
 (replace z:=z.aj x;replace ha:=ha.over x;rw [ao h'])
 simp only [aa,seval,Bb]
 refine bI rfl ?_
 simp only [aa,seval,Bb]
 exact hk _ z.au
theorem zpE (l:aW) (v:ae) (a:ak) (h:Heap) (hl:Sl aJ.atom h v l) (hs:l.length<=1000) (K:aG)
 (hk:∀ h',Ext h h'->K (.int .i64 (jz (λx=>decide (a=x)) l)) h'):Ok prog aA ov 80 [v,a.val] h K:=by
 rw [ao h]
 have z:=Ext.refl h
 refine Ok.aq 17 (bm N80) ?_
 simp only [aa,seval,FA,fA]
 repeat' ((with_reducible refine uQ hl bC ?_) <;> simp only [aa,seval,FA])
 refine lg (λh' x hq=>?_)
 have q0:=hq 0 _ rfl
 clear hq
 (replace z:=z.aj x;rw [ao h'])
 obtain ⟨I1,aO⟩:∃ I:Nat->Env->Heap->Prop,I=(λn e h'=>∃ (i:Nat) (h1:Heap),h'=h1.lay [] h1.low/\Ext h h1/\(n=l.length - i/\i<=l.length/\(∀ x∈l.take i,decide (a=x)=false)/\Holds h1 (h.size+0) (.row a.cells 34 false))/\∃ J:Nat->ae,e=(v::jr J 1 2 (.pointer (some ⟨h.size+0,0,none⟩)::jr J 4 3 (.int .i64 l.length::.int .i64 i::jr J 9 10 ([]))))):=⟨_,rfl⟩
 refine cK I1 _ (by rw [aO];exact ⟨0,_,rfl,z,⟨rfl,by omega,by simp,q0⟩,bc⟩) ?_
 intro n e h' aK
 rw [aO] at aK
 obtain ⟨i,bD,rfl,z,hinv,J,rfl⟩:=aK
 obtain ⟨rfl,hi,aC,q0⟩:=hinv
 have hw:=dE i (by omega)
 simp only [aa,seval,FA]
 refine bg (λaP=>?_) (λaP=>?_)
 rotate_left
 .simp only [aa,seval,FA]
  rw [fX (by omega)] at aC
  have:=HC aC
  rw [this] at hk
  exact hk _ z.au
 obtain ⟨r,hr,bM⟩:=eb (l:=l) (i:=i) aP
 simp only [aa,seval,FA]
 repeat' ((first|((with_reducible apply bg) <;> intro _)|with_reducible refine mM (hl.mono z.inc) bC bE (by omega) hr (λp hp=>?_)|with_reducible refine ly hp eK bE ?_|with_reducible refine cZ (by simp only [FA]) z.au ?_|((with_reducible refine ⟨z.bZ.lay _ _,?_⟩);(intro _ h' zz x _);(simp only [bG,bu] at x);replace q0:=q0.over x;(replace z:=zz);(clear zz);rw [ao h'])) <;> simp only [aa,seval,FA,q0.lay,↓dW,dO,zwA,da])
 .have:=Hw (p:=λx=>decide (a=x)) bM aC (by simpa using (by assumption:a=r))
  rw [this] at hk
  exact hk _ z.au
 .rw [hw]
  (rw [aO];with_reducible refine bS (m:=_) ?_ ⟨i+1,_,rfl,z,⟨rfl,by omega,mL (i:=i) (P:=λx:ak=>decide (a=x)=false) bM aC (by simpa using (by assumption:¬ a=r)),q0⟩,bc⟩;omega)
theorem zjI (l:aW) (v:ae) (a:ak) (h:Heap) (hl:Sl aJ.atom h v l) (hs:l.length<=1000) (K:aG)
 (hk:∀ h',Ext h h'->K (.bool (decide (a∈l))) h'):Ok prog aA ov 50 [v,a.val] h K:=by
 rw [ao h]
 have z:=Ext.refl h
 refine Ok.aq 7 (bm N50) ?_
 simp only [aa,seval,SY,fA,↓dW,dO,da]
 refine zpE l _ a _ (hl.lay _ _) hs _ (λh' x=>?_)
 (replace z:=z.aj x;rw [ao h'])
 simp only [aa,seval,SY,zDV]
 refine bg (λhh=>?_) (λhh=>?_)
 .simp only [aa,seval,SY]
  rw [sY hh] at hk
  exact hk _ z.au
 .simp only [aa,seval,SY]
  rw [uW hh] at hk
  exact hk _ z.au
def Lv:=bp f202
def Qv:=PLift.up (by have c:=bq Lv f202;simp only [aI,f202,seval] at c;exact nd c <| nd @qJ <| nd @oL <| nd @eC <| nd @qa <| @zGl)
theorem tk:type_of% Qv.down:=Qv.down
def Lw:=bp f203
def Qw:=PLift.up (by have c:=bq Lw f203;simp only [aI,f203,seval] at c;exact nd c <| @zGm)
theorem pD:type_of% Qw.down:=Qw.down
def Lx:=bp f204
def Qx:=PLift.up (by have c:=bq Lx f204;simp only [aI,f204,seval] at c;exact nd c <| nd @qJ <| nd @oL <| nd @Cn <| nd @eC <| @zGn)
theorem Fp:type_of% Qx.down:=Qx.down
def Le:=bp f177
def P7:=PLift.up (by have c:=bq Le f177;simp only [aI,f177,seval] at c;exact nd c <| nd @lG <| nd @qJ <| nd @wW <| nd @oL <| nd @jA <| nd @Cn <| nd @eC <| nd @qa <| @zFV)
theorem mw:type_of% P7.down:=P7.down
def Lc:=bp f175
def P5:=PLift.up (by have c:=bq Lc f175;simp only [aI,f175,seval] at c;exact nd c <| nd @zBQ <| nd @lG <| nd @wW <| nd @tY <| nd @qM <| nd @oL <| nd @Kd <| nd @sB <| nd @eC <| nd @qa <| @zFT)
theorem ou:type_of% P5.down:=P5.down
def Ly:=bp f205
def Qy:=PLift.up (by have c:=bq Ly f205;simp only [aI,f205,seval] at c;exact nd c <| nd @lG <| nd @tY <| nd @qM <| nd @jA <| nd @sB <| nd @eC <| @zGo)
theorem xE:type_of% Qy.down:=Qy.down
def Lz:=bp f206
def Qz:=PLift.up (by have c:=bq Lz f206;simp only [aI,f206,seval] at c;exact nd c <| nd @qJ <| nd @wW <| nd @tY <| nd @qM <| nd @sB <| nd @eC <| @zGp)
theorem Mn:type_of% Qz.down:=Qz.down
def LA:=bp f207
def QA:=PLift.up (by have c:=bq LA f207;simp only [aI,f207,seval] at c;exact nd c <| nd @tf <| nd @Kd <| nd @Cn <| nd @qa <| @zGq)
theorem oz:type_of% QA.down:=QA.down
def LN:=bp f222
def QM:=PLift.up (by have c:=bq LN f222;simp only [aI,f222,seval] at c;exact nd c <| nd @qJ <| nd @oL <| nd @Cn <| nd @eC <| @zGB)
theorem Ft:type_of% QM.down:=QM.down
def LC:=bp f208
def QB:=PLift.up (by have c:=bq LC f208;simp only [aI,f208,seval] at c;exact nd c <| nd @zBQ <| nd @tf <| nd @qJ <| nd @wW <| nd @oL <| nd @Kd <| nd @jA <| nd @eC <| nd @qa <| @zGr)
theorem ng:type_of% QB.down:=QB.down
def Lg:=bp f179
def P9:=PLift.up (by have c:=bq Lg f179;simp only [aI,f179,seval] at c;exact nd c <| nd @zBQ <| nd @lG <| nd @tf <| nd @qM <| nd @Kd <| nd @jA <| nd @eC <| @zFX)
theorem jN:type_of% P9.down:=P9.down
def Ld:=bp f176
def P6:=PLift.up (by have c:=bq Ld f176;simp only [aI,f176,seval] at c;exact nd c <| nd @sR <| nd @CY <| nd @w9 <| nd @lx <| nd @eC <| @zFU)
theorem Mi:type_of% P6.down:=P6.down
def KI:=bp f137
def Pw:=PLift.up (by have c:=bq KI f137;simp only [aI,f137,seval] at c;exact nd c <| nd @lG <| nd @tY <| nd @qM <| nd @w9 <| nd @zD <| nd @pZ <| nd @lx <| nd @jA <| nd @ZW <| nd @bP <| nd @sB <| nd @eC <| @zFn)
theorem fF:type_of% Pw.down:=Pw.down
def Lf:=bp f178
def P8:=PLift.up (by have c:=bq Lf f178;simp only [aI,f178,seval] at c;exact nd c <| nd @tf <| @zFW)
theorem Bi:type_of% P8.down:=P8.down
theorem JF (a:Int):gT prog (Next.value <$> convert 3 142 (.int .i64 a))=some (Next.value (.int .u64 (IntKind.u64.wrap a))):=by rfl
theorem JG (a:Int):gT prog (Next.value <$> convert 142 3 (.int .u64 a))=some (Next.value (.int .i64 (IntKind.i64.wrap a))):=by rfl
theorem JK {T:bL} {k kd:IntKind} {a b:Int} (hb:¬ b < 0):bY prog T .shr t (.int k a) (.int kd b)=some (.int k (a.fdiv (2 ^ (min b.toNat k.bits)))):=by
 have h1:((T.desc t).bind λd=>EU d (.int k a) (.int kd b))=none:=by
  cases T.desc t with
  |none=>rfl
  |some d=>cases d <;> rfl
 have h2:gT prog (binOp .shr t (.int k a) (.int kd b))=some (.int k (a.fdiv (2 ^ (min b.toNat k.bits)))):=by
  simp [binOp,Op.shift,hb,AE]
 unfold bY
 have hf:sL .shr (.int k a) (.int kd b)=none:=rfl
 rw [hf]
 simp [h1,h2]
 exact ⟨⟨rfl,rfl⟩,rfl⟩
theorem xd {d} {s ty:TypeId} {x:Operand} {pos af g} {kk:IntKind} {a:Int} {v:ae} {e:Env} {h:Heap} {K:aG} (hs:uP aA s=false) (ht:uP aA t=false) (hx:bz e x=.int kk a) (hc:gT prog (Next.value <$> convert s t (.int kk a))=some (Next.value v)) (hv:plain v=true):cy prog aA ov ⟨d,.convert s t x,ty,pos,af,g⟩ e h K=K v h:=by
 rw [zqw d ty pos af g e h K s t x hs ht]
 have hp:ic prog e ⟨d,.convert s t x,ty,pos,af,g⟩ h=some (v,h):=by
  unfold ic
  simp [Op.operands,hx,execOp]
  refine ⟨rfl,?_⟩
  rw [hc]
  simp [hv]
 rw [hp]
 rfl
theorem zpK (w:Nat) (hn:w<=1000) (fv:ae) (pr:Nat->Bool) (h:Heap) (yH:∀ (i:Nat) (hc:Heap) (K:aG),i < w->Ext h hc->(∀ h',Ext hc h'->K (.bool (pr i)) h')->pw prog aA ov [.int .i64 i] hc K fv) (K:aG)
 (hk:∀ (h':Heap) (i:Nat),Ext h h'->i<=w->(0 < i->pr (i - 1)=false)->(i < w->pr i=true)->K (.int .i64 i) h'):Ok prog aA ov 203 [.int .i64 w,fv] h K:=by
 rw [ao h]
 have z:=Ext.refl h
 refine Ok.aq 24 (bm Lw) ?_
 simp only [aa,seval,pD]
 obtain ⟨I1,aO⟩:∃ I:Nat->Env->Heap->Prop,I=(λn e h'=>∃ (lo hi:Nat) (h1:Heap),h'=h1.lay [] h1.low/\Ext h h1/\(n=hi - lo/\lo<=hi/\hi<=w/\(0 < lo->pr (lo - 1)=false)/\(hi < w->pr hi=true))/\∃ J:Nat->ae,e=(.int .i64 w::fv::jr J 2 3 (.int .i64 lo::.int .i64 hi::jr J 7 19 ([])))):=⟨_,rfl⟩
 refine cK I1 _ (by rw [aO];exact ⟨0,w,_,rfl,z,⟨rfl,by omega,by omega,by omega,by omega⟩,bc⟩) ?_
 intro n e h' aK
 rw [aO] at aK
 obtain ⟨lo,hi,bD,rfl,z,hinv,J,rfl⟩:=aK
 obtain ⟨rfl,h1,h2,h3,h4⟩:=hinv
 simp only [aa,seval,pD]
 refine bg (λaP=>?_) (λaP=>?_)
 rotate_left
 .simp only [aa,seval,pD]
  obtain rfl:lo=hi:=by omega
  exact hk _ lo z.au h2 h3 h4
 have e1:IntKind.i64.wrap ((lo:Int)+(hi:Int))=((lo+hi:Nat):Int):=by rw [wrap_i64 (by omega) (by omega)];omega
 have e2:IntKind.u64.wrap ((lo+hi:Nat):Int)=((lo+hi:Nat):Int):=by unfold IntKind.wrap;simp [IntKind.bits];omega
 have e3:IntKind.i64.wrap (((lo+hi) / 2:Nat):Int)=(((lo+hi) / 2:Nat):Int):=wrap_i64 (by omega) (by omega)
 have e4:Int.fdiv ((lo+hi:Nat):Int) (2 ^ (min (1:Int).toNat (IntKind.bits .u64)))=(((lo+hi) / 2:Nat):Int):=by
  show Int.fdiv ((lo+hi:Nat):Int) 2=_
  rw [Int.fdiv_eq_ediv_of_nonneg _ (by omega)]
  omega
 repeat' (simp only [aa,seval,pD,e1])
 rw [xd rfl rfl rfl (JF _) rfl,e2]
 repeat' (simp only [aa,seval,pD])
 rw [JK (by decide),e4]
 repeat' (simp only [aa,seval,pD])
 rw [xd rfl rfl rfl (JG _) rfl,e3]
 repeat' (simp only [aa,seval,pD])
 refine yH ((lo+hi) / 2) _ _ (by omega) z.au (λh' x=>?_)
 (replace z:=z.aj x;rw [ao h'])
 have e5:IntKind.i64.wrap ((((lo+hi) / 2:Nat):Int)+1)=(((lo+hi) / 2+1:Nat):Int):=by rw [wrap_i64 (by omega) (by omega)];omega
 cases hx:pr ((lo+hi) / 2)
 .repeat' (first|simp only [aa,seval,pD]|((with_reducible apply bI);(· rfl)))
  rw [e5]
  (rw [aO];with_reducible refine bS (m:=_) ?_ ⟨(lo+hi) / 2+1,hi,_,rfl,z,⟨rfl,by omega,by omega,by intro _;simpa using hx,h4⟩,bc⟩;omega)
 .repeat' (first|simp only [aa,seval,pD]|((with_reducible apply bI);(· rfl)))
  (rw [aO];with_reducible refine bS (m:=_) ?_ ⟨lo,(lo+hi) / 2,_,rfl,z,⟨rfl,by omega,by omega,h3,by intro _;exact hx⟩,bc⟩;omega)
theorem UX {P:Program} {T:bL} {a b:aB}:bY P T .geq t (.string a) (.string b)=some (.bool (!slt a b)):=by
 refine HM rfl ?_ rfl
 unfold Op.stringOp
 simp only [As]
 rfl
theorem ztp (l:List aN) (v:ae) (h:Heap) (hl:Sl aJ.bind h v l) (hs:l.length<=1000) (K:aG)
 (hk:∀ (h':Heap) (b:Bool),Ext h h'->(b=true↔sO l l.length)->K (.bool b) h'):Ok prog aA ov 202 [v] h K:=by
 rw [ao h]
 have z:=Ext.refl h
 refine Ok.aq 25 (bm Lv) ?_
 simp only [aa,seval,tk]
 repeat' ((with_reducible refine uQ hl dm ?_) <;> simp only [aa,seval,tk])
 obtain ⟨I1,aO⟩:∃ I:Nat->Env->Heap->Prop,I=(λn e h'=>∃ (i:Nat) (h1:Heap),h'=h1.lay [] h1.low/\Ext h h1/\(n=l.length - i/\i<=l.length/\sO l i)/\∃ J:Nat->ae,e=(v::jr J 1 4 (.int .i64 l.length::.int .i64 i::jr J 7 19 ([])))):=⟨_,rfl⟩
 refine cK I1 _ (by rw [aO];exact ⟨0,_,rfl,z,⟨rfl,by omega,by intro k x y hk;omega⟩,bc⟩) ?_
 intro n e h' aK
 rw [aO] at aK
 obtain ⟨i,bD,rfl,z,hinv,J,rfl⟩:=aK
 obtain ⟨rfl,hi,aC⟩:=hinv
 have hw:=dE i (by omega)
 have ph:IntKind.i64.wrap ((i:Int) - 1)=(i:Int) - 1:=wrap_i64 (by omega) (by omega)
 simp only [aa,seval,tk]
 refine bg (λaP=>?_) (λaP=>?_)
 rotate_left
 .simp only [aa,seval,tk]
  obtain rfl:i=l.length:=by omega
  exact hk _ true z.au ⟨λ_=>aC,λ_=>rfl⟩
 repeat' (first|simp only [aa,seval,tk]|((with_reducible apply bg) <;> intro _)|with_reducible refine cZ (by simp only [tk]) z.au ?_|((with_reducible refine ⟨z.bZ.lay _ _,?_⟩);(intro _ h' zz x _);(simp only [bG,bu] at x);(replace z:=zz);(clear zz);rw [ao h']))
 rotate_left
 .rw [hw]
  (rw [aO];with_reducible refine bS (m:=_) ?_ ⟨i+1,_,rfl,z,⟨rfl,by omega,zhV (by omega)⟩,bc⟩;omega)
 have hw3:IntKind.i64.wrap ((i:Int) - 1)=((i - 1:Nat):Int):=by rw [ph];omega
 rw [hw3]
 obtain ⟨r0,sy,N0⟩:=eb (l:=l) (i:=i - 1) (by omega)
 obtain ⟨r1,wK,B5⟩:=eb (l:=l) (i:=i) (by omega)
 repeat' ((first|((with_reducible apply zr) <;> intro _)|with_reducible refine sS (hl.mono z.inc) dm mO (by omega) sy (λp hp=>?_)|with_reducible refine sS (hl.mono z.inc) dm mO (by omega) wK (λp hp=>?_)|with_reducible refine qY hp qJ (λq hq=>?_)|with_reducible refine fo hq gU ?_|((with_reducible refine ⟨z.bZ.lay _ _,?_⟩);(intro _ h' zz x _);(simp only [bG,bu] at x);(replace z:=zz);(clear zz);rw [ao h'])) <;> simp only [aa,seval,tk,UX])
 rotate_left
 .rw [hw]
  (rw [aO];with_reducible refine bS (m:=_) ?_ ⟨i+1,_,rfl,z,⟨rfl,by omega,zj5 aC (by omega) N0 B5 (by assumption)⟩,bc⟩;omega)
 .refine hk _ false z.au ⟨nofun,λhR=>absurd hR (zvB (by omega) N0 B5 (by simp [*]))⟩
theorem zCU (l:List aN) (v:ae) (s:aB) (i:Nat) (A B:Nat) (h:Heap) (hl:Sl aJ.bind h v l) (hs:l.length<=1000) (hi:i < l.length) (q0:Holds h A (.row [v] 62 false)) (q1:Holds h B (.row [.string s] 9 false)) (K:aG)
 (hk:∀ h',Ext h h'->K (.bool (match l[i]? with|some x => !slt x.var s|none=>false)) h'):Ok prog aA ov 204 [.int .i64 i,.pointer (some ⟨A,0,none⟩),.pointer (some ⟨B,0,none⟩)] h K:=by
 rw [ao h]
 have z:=Ext.refl h
 obtain ⟨r,hr,bM⟩:=eb (l:=l) (i:=i) (by omega)
 rw [bM] at hk
 refine Ok.aq 9 (bm Lx) ?_
 simp only [aa,seval,Fp]
 repeat' ((first|with_reducible refine sS (hl.mono z.inc) dm mO (by omega) hr (λp hp=>?_)|with_reducible refine qY hp qJ (λq hq=>?_)|with_reducible refine fo hq gU ?_|with_reducible refine cZ (by simp only [Fp]) z.au ?_|((with_reducible refine ⟨z.bZ.lay _ _,?_⟩);(intro _ h' zz x _);(simp only [bG,bu] at x);(replace z:=zz);(clear zz);rw [ao h'])) <;> simp only [aa,seval,Fp,q0.lay,q1.lay,UX,ztN])
 exact hk _ z.au
theorem zlh:od aA 31 []=some cu.val:=by kernel_rfl
theorem Ju (a:aH):cut a.cells 0 2=some a.cells:=rfl
theorem Js (a:aH):Value.agg a.cells.toArray=a.val:=rfl
theorem St (l:List aN) (v:ae) (s:aB) (h:Heap) (hl:Sl aJ.bind h v l) (hs:l.length<=1000) (K:aG)
 (hk:∀ h',Ext h h'->K (.tuple #[(jC l s).1.val,.bool (jC l s).2]) h'):Ok prog aA ov 177 [v,.string s] h K:=by
 rw [ao h]
 have z:=Ext.refl h
 refine Ok.aq 30 (bm Le) ?_
 have hc:v.cells.toList=[v]:=ztG hl
 have dn:∀ (h:Heap) (K:aG),aD (some v) h K=K v h:=λ_ _=>rfl
 repeat' (simp only [aa,seval,mw,hc,dn])
 refine ztp l _ _ (hl.lay _ _) hs _ (λh' b x hb=>?_)
 have q0:=Holds.top (i:=0) x rfl
 have q1:=Holds.top (i:=1) x rfl
 have q2:=Holds.top (i:=2) x rfl
 (replace z:=z.aj x;rw [ao h'])
 cases b
 rotate_left
 focus
  simp only [aa,seval,mw,q0.lay,dn]
  repeat' ((with_reducible refine uQ (hl.mono z.inc) dm ?_) <;> simp only [aa,seval,mw])
  refine zpK l.length hs _ (λi=>match l[i]? with|some x => !slt x.var s|none=>false) _ (λi tz K' hi xe jP=>?_) _ (λj4 i x hi cM j5=>?_)
  .rw [uM]
   have xe':=z.aj xe
   exact zCU l v s i _ _ tz (hl.mono xe'.inc) hs hi (q0.over xe) (q1.over xe) K' jP
  have q0:=q0.over x
  have q1:=q1.over x
  have q2:=q2.over x
  (replace z:=z.aj x;rw [ao j4])
  have iY:=zvH (hb.1 rfl) hi cM
  clear cM j5
  simp only [aa,seval,mw]
 rotate_left
 focus
  simp only [aa,seval,mw]
  have hi:0<=l.length:=sg _
  have iY:∀ y∈l.take 0,y.var≠s:=by simp
 all_goals
  obtain ⟨I1,aO⟩:∃ I:Nat->Env->Heap->Prop,I=(λn e h'=>∃ (i:Nat) (h1:Heap),h'=h1.lay [] h1.low/\Ext h h1/\(n=l.length - i/\i<=l.length/\(∀ y∈l.take i,y.var≠s)/\Holds h1 (h.size+0) (.row [v] 62 false)/\Holds h1 (h.size+1) (.row [.string s] 9 false)/\Holds h1 (h.size+2) (.row [.bool false,.string ⟨#[]⟩] 31 false))/\∃ J:Nat->ae,e=(jr J 0 2 (.pointer (some ⟨h.size+0,0,none⟩)::.pointer (some ⟨h.size+1,0,none⟩)::.pointer (some ⟨h.size+2,0,none⟩)::.bool false::.int .i64 i::jr J 7 25 ([])))):=⟨_,rfl⟩
  refine cK I1 _ (by rw [aO];exact ⟨_,_,rfl,z,⟨rfl,hi,iY,q0,q1,q2⟩,bc⟩) ?_
  intro n e h' aK
  rw [aO] at aK
  obtain ⟨i,xQ,rfl,z,hinv,J,rfl⟩:=aK
  clear hi iY q0 q1 q2
  obtain ⟨rfl,hi,iY,q0,q1,q2⟩:=hinv
  have hw:i < l.length->IntKind.i64.wrap ((i:Int)+1)=((i+1:Nat):Int):=λ_=>by rw [wrap_i64 (by omega) (by omega)];omega
  have hz:=z.size
  simp only [aa,seval,mw,q0.lay,dn]
  repeat' ((first|((with_reducible apply bg) <;> intro _)|with_reducible refine uQ (hl.mono z.inc) dm ?_) <;> simp only [aa,seval,mw])
  rotate_left
  .simp only [aa,seval,mw,zlh,zq]
   refine HG q2 fK rfl rfl rfl (λh' OW c=>?_)
   replace z:=z.au.step c (by omega)
   rw [ao h']
   simp only [aa,seval,mw,OW.lay,En,↓Ju,Js,zq]
   have jd:=zqn (l:=l) (s:=s) (λy hy=>iY y (by rw [fX (by omega)];exact hy))
   rw [jd] at hk
   exact hk _ z.au
  obtain ⟨r,hr,bM⟩:=eb (l:=l) (i:=i) (by assumption)
  repeat' ((first|((with_reducible apply bg) <;> intro _)|with_reducible refine sS (hl.mono z.inc) dm mO (by omega) hr (λp hp=>?_)|with_reducible refine qY hp qJ (λq hq=>?_)|with_reducible refine xP hp wW (λp hp=>?_)|with_reducible refine fo hq gU ?_|with_reducible refine Cq hp oo fK ?_|with_reducible refine cZ (by simp only [mw]) z.au ?_|((with_reducible refine ⟨z.bZ.lay _ _,?_⟩);(intro _ h' zz x _);(simp only [bG,bu] at x);replace q0:=q0.over x;replace q1:=q1.over x;replace q2:=q2.over x;(replace z:=zz);(clear zz);rw [ao h'])) <;> simp only [aa,seval,mw,q0.lay,q1.lay,dn])
  .have hz:=z.size
   refine HG q2 fK rfl rfl rfl (λh' OW c=>?_)
   replace z:=z.au.step c (by omega)
   rw [ao h']
   simp only [aa,seval,mw,OW.lay,En,↓Ju,Js,zq]
   have mf:=zqm bM iY (by assumption)
   rw [mf] at hk
   exact hk _ z.au
  .rw [hw (by omega)]
   (rw [aO];with_reducible refine bS (m:=_) ?_ ⟨i+1,_,rfl,z,⟨rfl,by omega,mL (i:=i) (P:=λy:aN=>y.var≠s) bM iY (by assumption),q0,q1,q2⟩,bc⟩;omega)
end Go.Proofs.YtkgojconmeeegaaGreatDoor
