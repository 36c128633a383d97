/- Walks: digits. Written out by fill2.py. No condition. -/
import Derived.Test.YtnkmeidmdaidhaaGreatDoorG17
import Derived.Test.YtnkmeidmdaidhaaGreatDoorG20
set_option linter.unusedSimpArgs false
set_option linter.unusedVariables false
set_option maxRecDepth 100000
set_option maxHeartbeats 0
noncomputable section
namespace Go.Proofs.YtnkmeidmdaidhaaGreatDoor
open Go.Am Tryz
variable {t:TypeId}
theorem zB5 (s:aU) (a b:Nat) (h1:a<=b) (h2:b<=s.size):lN aH 9 (.string s) (some (.int .i64 a)) (some (.int .i64 b)) none=some (.string (s.extract a b)):=by
 unfold lN
 rw [show aH.desc 9=some .string by kernel_rfl]
 simp only [Df,gX,if_false,qZ,xV,dO]
 rw [aD (by omega)]
 simp only [dO,uK]
 rw [aD (by omega)]
 simp
theorem zBh:∀ n,n < 10->ByteArray.extract ⟨#[48,49,50,51,52,53,54,55,56,57,97,98,99,100,101,102,103,104,105,106,107,108,109,110,111,112,113,114,115,116,117,118,119,120,121,122]⟩ n (n+1)=kN n:=by
 intro n hn
 have:n=0\/n=1\/n=2\/n=3\/n=4\/n=5\/n=6\/n=7\/n=8\/n=9:=by omega
 rcases this with rfl|rfl|rfl|rfl|rfl|rfl|rfl|rfl|rfl|rfl <;> rfl
theorem zxp (n:Nat) (hn:n < 10) (h:Heap) (K:aJ) (hk:∀ h',Ext h h'->K (.string (kN n)) h'):Ok prog aH ov 143 [.int .i64 n] h K:=by
 rw [aw h]
 have z:=Ext.refl h
 have hw:=eE n (by omega)
 refine Ok.aA 14 (bH I8) ?_
 simp only [aa,seval,DE]
 refine bS (λ_=>?_) (λhx=>absurd hx (by omega))
 simp only [aa,seval,DE,hw]
 rw [zB5 _ n (n+1) (by omega) (by show n+1<=36;omega)]
 have hd:=hk _ (z.jC [] h.low (by omega))
 rw [<- zBh n hn] at hd
 simp only [aa,seval,DE]
 exact hd
theorem zuE (n:Nat) (hn:n < 10) (h:Heap) (K:aJ) (hk:∀ h',Ext h h'->K (.string (kN n)) h'):Ok prog aH ov 122 [.int .i64 n,.int .i64 10] h K:=by
 rw [aw h]
 have z:=Ext.refl h
 refine Ok.aA 52 (bH II) ?_
 have h1:decide ((0:Int)<=(n:Int))=true:=sk (by omega)
 have h2:decide ((n:Int) < 100)=true:=sk (by omega)
 repeat' (simp only [aa,seval,Jo,h1,h2])
 all_goals try omega
 refine zxp n hn _ _ (λh' x=>?_)
 (replace z:=z.ao x;rw [aw h'])
 simp only [aa,seval,Jo]
 exact hk _ z.av
theorem zzh (n:Nat) (hn:n < 10) (h:Heap) (K:aJ) (hk:∀ h',Ext h h'->K (.string (kN n)) h'):Ok prog aH ov 95 [.int .i64 n] h K:=by
 rw [aw h]
 have z:=Ext.refl h
 refine Ok.aA 4 (bH N95) ?_
 simp only [aa,seval,c95]
 refine zuE n hn _ _ (λh' x=>?_)
 (replace z:=z.ao x;rw [aw h'])
 simp only [aa,seval,c95]
 exact hk _ z.av
theorem Y7 (n:Nat) (hn:n < 10) (h:Heap) (K:aJ) (hk:∀ h',Ext h h'->K (.string (kN n)) h'):Ok prog aH ov 62 [.int .i64 n] h K:=by
 rw [aw h]
 have z:=Ext.refl h
 refine Ok.aA 4 (bH Z8) ?_
 simp only [aa,seval,c62]
 refine zzh n hn _ _ (λh' x=>?_)
 (replace z:=z.ao x;rw [aw h'])
 simp only [aa,seval,c62]
 exact hk _ z.av
def N78:=bI f78
def x78:=PLift.up (by have c:=bM N78 f78;simp only [aO,f78,seval] at c;exact nd c <| nd @cq <| @Ta)
theorem Oy:type_of% x78.down:=x78.down
def ZW:=bI f46
def x46:=PLift.up (by have c:=bM ZW f46;simp only [aO,f46,seval] at c;exact nd c <| @Sz)
theorem RL:type_of% x46.down:=x46.down
def N83:=bI f83
def x83:=PLift.up (by have c:=bM N83 f83;simp only [aO,f83,seval] at c;exact nd c <| nd @AJ <| nd @jQ <| nd @AN <| @Tf)
theorem GD:type_of% x83.down:=x83.down
def IA:=bI f110
def LU:=PLift.up (by have c:=bM IA f110;simp only [aO,f110,seval] at c;exact nd c <| nd @uD <| nd @ui <| @zDE)
theorem Jk:type_of% LU.down:=LU.down
def ZX:=bI f47
def x47:=PLift.up (by have c:=bM ZX f47;simp only [aO,f47,seval] at c;exact nd c <| nd @yV <| nd @uE <| nd @ng <| @SA)
theorem On:type_of% x47.down:=x47.down
def N76:=bI f76
def x76:=PLift.up (by have c:=bM N76 f76;simp only [aO,f76,seval] at c;exact nd c <| @S8)
theorem RP:type_of% x76.down:=x76.down
def Iy:=bI f108
def LQ:=PLift.up (by have c:=bM Iy f108;simp only [aO,f108,seval] at c;exact nd c <| nd @ig <| nd @cq <| nd @ij <| @zDC)
theorem tz:type_of% LQ.down:=LQ.down
theorem zpa (l:List ay) (v fv:ai) (pr:ay->Bool) (h:Heap) (hl:Sl aC.term h v l) (hs:l.length<=1000) (Ax:∀ (x:ay) (hc:Heap) (K:aJ),Ext h hc->(∀ h',Ext hc h'->K (.bool (pr x)) h')->xW prog aH ov [x.val] hc K fv) (K:aJ)
 (hk:∀ h',Ext h h'->K (.int .i64 (nA pr l)) h'):Ok prog aH ov 83 [v,fv] h K:=by
 rw [aw h]
 have z:=Ext.refl h
 refine Ok.aA 17 (bH N83) ?_
 simp only [aa,seval,GD]
 repeat' ((with_reducible refine q9 hl oS ?_) <;> simp only [aa,seval,GD])
 obtain ⟨I1,aX⟩:∃ I:Nat->Env->Heap->Prop,I=(λn e h'=>∃ (i:Nat) (h1:Heap),h'=h1.lay [] h1.low/\Ext h h1/\(n=l.length - i/\i<=l.length/\∀ x∈l.take i,pr x=false)/\∃ J:Nat->ai,e=(v::fv::jr J 2 5 (.int .i64 l.length::.int .i64 i::jr J 9 10 ([])))):=⟨_,rfl⟩
 refine dN I1 _ (by rw [aX];exact ⟨0,_,rfl,z,⟨rfl,by omega,by simp⟩,bo⟩) ?_
 intro n e h' aP
 rw [aX] at aP
 obtain ⟨i,bU,rfl,z,hinv,J,rfl⟩:=aP
 obtain ⟨rfl,hi,aB⟩:=hinv
 have hw:=eE i (by omega)
 repeat' (first|simp only [aa,seval,GD]|((with_reducible apply bS) <;> intro _))
 rotate_left
 .rw [gb (by omega)] at aB
  have:=Yp aB
  rw [this] at hk
  exact hk _ z.av
 obtain ⟨r,hr,cw⟩:=gC (l:=l) (i:=i) (by assumption)
 repeat' ((first|with_reducible refine QT (hl.mono z.inc) oS i4 (by omega) hr (λp hp=>?_)|with_reducible refine Lh hp tu i4 ?_) <;> simp only [aa,seval,GD])
 refine Ax _ _ _ z.av (λh' x=>?_)
 (replace z:=z.ao x;rw [aw h'])
 cases hx:pr r
 rotate_left
 .simp only [aa,seval,GD]
  have:=Ye cw aB hx
  rw [this] at hk
  exact hk _ z.av
 .simp only [aa,seval,GD]
  rw [hw]
  (rw [aX];with_reducible refine cF (m:=_) ?_ ⟨i+1,_,rfl,z,⟨rfl,by omega,rY (i:=i) (P:=λx:ay=>pr x=false) cw aB hx⟩,bo⟩;omega)
theorem zfA (l:List ay) (v fv:ai) (pr:ay->Bool) (h:Heap) (hl:Sl aC.term h v l) (hs:l.length<=1000) (Ax:∀ (x:ay) (hc:Heap) (K:aJ),Ext h hc->(∀ h',Ext hc h'->K (.bool (pr x)) h')->xW prog aH ov [x.val] hc K fv) (K:aJ)
 (hk:∀ h',Ext h h'->K (.bool (l.any pr)) h'):Ok prog aH ov 46 [v,fv] h K:=by
 refine Ok.aA 7 (bH ZW) ?_
 simp only [aa,seval,RL]
 refine zpa l v fv pr h hl hs Ax _ (λh' x=>?_)
 simp only [aa,seval,RL,YX]
 refine tj (λhh=>?_) (λhh=>?_)
 all_goals
  simp only [aa,seval,RL]
  rw [hh] at hk
  exact hk _ x
theorem zuF (x:ay) (h:Heap) (K:aJ) (hk:∀ h',Ext h h'->K (.bool x.v) h'):Ok prog aH ov 110 [x.val] h K:=by
 rw [aw h]
 unfold ay.val ay.cells
 refine Ok.aA 4 (bH IA) ?_
 simp only [aa,seval,Jk]
 refine tj (λhh=>?_) (λhh=>?_)
 all_goals
  simp only [aa,seval,Jk]
  rw [hh] at hk
  exact hk _ ((Ext.refl h).jC _ _ (by omega))
theorem WD (A o:Nat) (k:Int) (h0:0<=k) (h4:k<=4):lN aH 26 (.pointer (some ⟨A,o,none⟩)) none (some (.int .i64 k)) none=some (.slice (some ⟨A,o,none⟩) k.toNat 4):=by
 have hG:4 < G:=by decide
 simp only [lN,DN,qZ,xV,aD hG,dO]
 rw [aD ⟨h0,by omega⟩]
 simp [i4]
theorem QF (a:ae) (h:Heap) (K:aJ) (hk:∀ w h',Ext h h'->Sl aC.term h' w a.args->K w h'):Ok prog aH ov 47 [a.val] h K:=by
 rw [aw h]
 have z:=Ext.refl h
 unfold ae.val ae.cells
 refine Ok.aA 8 (bH ZX) ?_
 simp only [aa,seval,On]
 refine Ns rfl rfl ?_
 simp only [aa,seval,On]
 refine Nt rfl rfl ?_
 simp only [aa,seval,On]
 rw [WD _ _ _ (by split <;> split <;> omega) (by split <;> split <;> omega)]
 simp only [aa,seval,On]
 have hc:(if 4 < (if a.n < 0 then 0 else a.n) then 4 else (if a.n < 0 then 0 else a.n)).toNat=a.bx:=by
  unfold ae.bx
  split <;> split <;> omega
 rw [hc]
 exact hk _ _ z.av (zB3 (a:=a) ⟨by rw [bh];simp,by rw [jG];rfl⟩ rfl)
theorem zo9 (a:ae) (h:Heap) (K:aJ) (hk:∀ h',Ext h h'->K (.bool a.ground) h'):Ok prog aH ov 78 [a.val] h K:=by
 rw [aw h]
 have z:=Ext.refl h
 unfold ae.val ae.cells
 refine Ok.aA 6 (bH N78) ?_
 simp only [aa,seval,Oy]
 refine QF a _ _ (λw h' x ha=>?_)
 (replace z:=z.ao x;rw [aw h'])
 simp only [aa,seval,Oy]
 have m9:a.args.length<=1000:=by rw [Bc];unfold ae.bx;omega
 refine zfA _ _ _ (λt=>t.v) _ (ha.lay _ _) m9 (λt hc K' _ hK=>by rw [yJ];exact zuF t hc K' hK) _ (λh' x=>?_)
 (replace z:=z.ao x;replace ha:=ha.over x;rw [aw h'])
 simp only [aa,seval,Oy]
 refine cf rfl ?_
 simp only [aa,seval,Oy]
 exact hk _ z.av
theorem zmX (l:aN) (v fv:ai) (pr:ae->Bool) (h:Heap) (hl:Sl aC.atom h v l) (hs:l.length<=1000) (Ax:∀ (x:ae) (hc:Heap) (K:aJ),Ext h hc->(∀ h',Ext hc h'->K (.bool (pr x)) h')->xW prog aH ov [x.val] hc K fv) (K:aJ)
 (hk:∀ h',Ext h h'->K (.int .i64 (nA pr l)) h'):Ok prog aH ov 108 [v,fv] h K:=by
 rw [aw h]
 have z:=Ext.refl h
 refine Ok.aA 17 (bH Iy) ?_
 simp only [aa,seval,tz]
 repeat' ((with_reducible refine q9 hl bZ ?_) <;> simp only [aa,seval,tz])
 obtain ⟨I1,aX⟩:∃ I:Nat->Env->Heap->Prop,I=(λn e h'=>∃ (i:Nat) (h1:Heap),h'=h1.lay [] h1.low/\Ext h h1/\(n=l.length - i/\i<=l.length/\∀ x∈l.take i,pr x=false)/\∃ J:Nat->ai,e=(v::fv::jr J 2 5 (.int .i64 l.length::.int .i64 i::jr J 9 10 ([])))):=⟨_,rfl⟩
 refine dN I1 _ (by rw [aX];exact ⟨0,_,rfl,z,⟨rfl,by omega,by simp⟩,bo⟩) ?_
 intro n e h' aP
 rw [aX] at aP
 obtain ⟨i,bU,rfl,z,hinv,J,rfl⟩:=aP
 obtain ⟨rfl,hi,aB⟩:=hinv
 have hw:=eE i (by omega)
 repeat' (first|simp only [aa,seval,tz]|((with_reducible apply bS) <;> intro _))
 rotate_left
 .rw [gb (by omega)] at aB
  have:=Yp aB
  rw [this] at hk
  exact hk _ z.av
 obtain ⟨r,hr,cw⟩:=gC (l:=l) (i:=i) (by assumption)
 repeat' ((first|with_reducible refine r9 (hl.mono z.inc) bZ ck (by omega) hr (λp hp=>?_)|with_reducible refine qV hp iQ ck ?_) <;> simp only [aa,seval,tz])
 refine Ax _ _ _ z.av (λh' x=>?_)
 (replace z:=z.ao x;rw [aw h'])
 cases hx:pr r
 rotate_left
 .simp only [aa,seval,tz]
  have:=Ye cw aB hx
  rw [this] at hk
  exact hk _ z.av
 .simp only [aa,seval,tz]
  rw [hw]
  (rw [aX];with_reducible refine cF (m:=_) ?_ ⟨i+1,_,rfl,z,⟨rfl,by omega,rY (i:=i) (P:=λx:ae=>pr x=false) cw aB hx⟩,bo⟩;omega)
theorem ziC (l:aN) (v fv:ai) (pr:ae->Bool) (h:Heap) (hl:Sl aC.atom h v l) (hs:l.length<=1000) (Ax:∀ (x:ae) (hc:Heap) (K:aJ),Ext h hc->(∀ h',Ext hc h'->K (.bool (pr x)) h')->xW prog aH ov [x.val] hc K fv) (K:aJ)
 (hk:∀ h',Ext h h'->K (.bool (l.any pr)) h'):Ok prog aH ov 76 [v,fv] h K:=by
 refine Ok.aA 7 (bH N76) ?_
 simp only [aa,seval,RP]
 refine zmX l v fv pr h hl hs Ax _ (λh' x=>?_)
 simp only [aa,seval,RP,YX]
 refine tj (λhh=>?_) (λhh=>?_)
 all_goals
  simp only [aa,seval,RP]
  rw [hh] at hk
  exact hk _ x
def IM:=bI f126
def Ma:=PLift.up (by have c:=bM IM f126;simp only [aO,f126,seval] at c;exact nd c <| nd @xP <| nd @pk <| nd @kp <| nd @qC <| @zDS)
theorem rC:type_of% Ma.down:=Ma.down
def IQ:=bI f128
def Mc:=PLift.up (by have c:=bM IQ f128;simp only [aO,f128,seval] at c;exact nd c <| @zDU)
theorem oN:type_of% Mc.down:=Mc.down
def IU:=bI f129
def Md:=PLift.up (by have c:=bM IU f129;simp only [aO,f129,seval] at c;exact nd c <| nd @xP <| nd @pk <| nd @kp <| nd @qB <| @zDV)
theorem DB:type_of% Md.down:=Md.down
def It:=bI f102
def LK:=PLift.up (by have c:=bM It f102;simp only [aO,f102,seval] at c;exact nd c <| nd @nu <| nd @xP <| nd @NF <| nd @pk <| nd @jQ <| nd @kp <| nd @qB <| nd @qC <| @zDw)
theorem lz:type_of% LK.down:=LK.down
def N98:=bI f98
def x98:=PLift.up (by have c:=bM N98 f98;simp only [aO,f98,seval] at c;exact nd c <| nd @Oa <| nd @nu <| nd @NF <| nd @uD <| nd @ta <| nd @pk <| nd @Gk <| nd @ui <| nd @kp <| nd @qC <| @Tu)
theorem yj:type_of% x98.down:=x98.down
def N94:=bI f94
def x94:=PLift.up (by have c:=bM N94 f94;simp only [aO,f94,seval] at c;exact nd c <| nd @nu <| nd @uD <| nd @ta <| nd @jQ <| nd @ui <| nd @kp <| @Tp)
theorem Jx:type_of% x94.down:=x94.down
def Is:=bI f101
def LJ:=PLift.up (by have c:=bM Is f101;simp only [aO,f101,seval] at c;exact nd c <| nd @xP <| nd @NF <| nd @uD <| nd @ta <| nd @ui <| nd @kp <| @zDv)
theorem Jh:type_of% LJ.down:=LJ.down
def Ds:=bI f103
def LL:=PLift.up (by have c:=bM Ds f103;simp only [aO,f103,seval] at c;exact nd c <| nd @zu <| nd @Gk <| nd @qB <| nd @qC <| @zDx)
theorem gG:type_of% LL.down:=LL.down
def IV:=bI f130
def Mf:=PLift.up (by have c:=bM IV f130;simp only [aO,f130,seval] at c;exact nd c <| nd @xP <| nd @pk <| nd @kp <| nd @qB <| @zDW)
theorem DC:type_of% Mf.down:=Mf.down
def Dr:=bI f100
def LI:=PLift.up (by have c:=bM Dr f100;simp only [aO,f100,seval] at c;exact nd c <| nd @Oa <| nd @zu <| nd @xP <| nd @NF <| nd @pk <| nd @Gk <| nd @jQ <| nd @kp <| nd @qC <| @zDu)
theorem fP:type_of% LI.down:=LI.down
def Rf:=bI f93
def x93:=PLift.up (by have c:=bM Rf f93;simp only [aO,f93,seval] at c;exact nd c <| nd @Oa <| nd @nu <| nd @zu <| nd @ta <| nd @Gk <| nd @jQ <| nd @kp <| @To)
theorem jA:type_of% x93.down:=x93.down
def IK:=bI f124
def L8:=PLift.up (by have c:=bM IK f124;simp only [aO,f124,seval] at c;exact nd c <| nd @Ie <| nd @Bu <| nd @yV <| nd @ng <| nd @kp <| @zDQ)
theorem Jp:type_of% L8.down:=L8.down
def N97:=bI f97
def x97:=PLift.up (by have c:=bM N97 f97;simp only [aO,f97,seval] at c;exact nd c <| nd @nu <| nd @uD <| nd @ta <| nd @yV <| nd @uE <| nd @mJ <| nd @jQ <| nd @Wd <| nd @cq <| nd @ng <| nd @ui <| nd @kp <| @Tt)
theorem lB:type_of% x97.down:=x97.down
def IL:=bI f125
def L9:=PLift.up (by have c:=bM IL f125;simp only [aO,f125,seval] at c;exact nd c <| nd @zu <| @zDR)
theorem zy:type_of% L9.down:=L9.down
theorem Nn (a:Int):gB prog (Next.value <$> convert 3 159 (.int .i64 a))=some (Next.value (.int .u64 (IntKind.u64.wrap a))):=by rfl
theorem Np (a:Int):gB prog (Next.value <$> convert 159 3 (.int .u64 a))=some (Next.value (.int .i64 (IntKind.i64.wrap a))):=by rfl
theorem Nw {T:bJ} {k kd:IntKind} {a b:Int} (hb:¬ b < 0):cA prog T .shr t (.int k a) (.int kd b)=some (.int k (a.fdiv (2 ^ (min b.toNat k.bits)))):=by
 have h1:((T.desc t).bind λd=>Gn d (.int k a) (.int kd b))=none:=by
  cases T.desc t with
  |none=>rfl
  |some d=>cases d <;> rfl
 have h2:gB prog (binOp .shr t (.int k a) (.int kd b))=some (.int k (a.fdiv (2 ^ (min b.toNat k.bits)))):=by
  simp [binOp,Op.shift,hb,FX]
 unfold cA
 have hf:r5 .shr (.int k a) (.int kd b)=none:=rfl
 rw [hf]
 simp [h1,h2]
 exact ⟨⟨rfl,rfl⟩,rfl⟩
theorem yY {d} {s ty:TypeId} {x:Operand} {pos af g} {kk:IntKind} {a:Int} {v:ai} {e:Env} {h:Heap} {K:aJ} (hs:sZ aH s=false) (ht:sZ aH t=false) (hx:bz e x=.int kk a) (hc:gB prog (Next.value <$> convert s t (.int kk a))=some (Next.value v)) (hv:plain v=true):cv prog aH ov ⟨d,.convert s t x,ty,pos,af,g⟩ e h K=K v h:=by
 rw [zpU d ty pos af g e h K s t x hs ht]
 have hp:gP prog e ⟨d,.convert s t x,ty,pos,af,g⟩ h=some (v,h):=by
  unfold gP
  simp [Op.operands,hx,execOp]
  refine ⟨rfl,?_⟩
  rw [hc]
  simp [hv]
 rw [hp]
 rfl
theorem X7 (w:Nat) (hn:w<=1000) (fv:ai) (pr:Nat->Bool) (h:Heap) (Ax:∀ (i:Nat) (hc:Heap) (K:aJ),i < w->Ext h hc->(∀ h',Ext hc h'->K (.bool (pr i)) h')->xW prog aH ov [.int .i64 i] hc K fv) (K:aJ)
 (hk:∀ (h':Heap) (i:Nat),Ext h h'->i<=w->(0 < i->pr (i - 1)=false)->(i < w->pr i=true)->K (.int .i64 i) h'):Ok prog aH ov 128 [.int .i64 w,fv] h K:=by
 rw [aw h]
 have z:=Ext.refl h
 refine Ok.aA 24 (bH IQ) ?_
 simp only [aa,seval,oN]
 obtain ⟨I1,aX⟩:∃ I:Nat->Env->Heap->Prop,I=(λn e h'=>∃ (lo hi:Nat) (h1:Heap),h'=h1.lay [] h1.low/\Ext h h1/\(n=hi - lo/\lo<=hi/\hi<=w/\(0 < lo->pr (lo - 1)=false)/\(hi < w->pr hi=true))/\∃ J:Nat->ai,e=(.int .i64 w::fv::jr J 2 3 (.int .i64 lo::.int .i64 hi::jr J 7 19 ([])))):=⟨_,rfl⟩
 refine dN I1 _ (by rw [aX];exact ⟨0,w,_,rfl,z,⟨rfl,by omega,by omega,by omega,by omega⟩,bo⟩) ?_
 intro n e h' aP
 rw [aX] at aP
 obtain ⟨lo,hi,bU,rfl,z,hinv,J,rfl⟩:=aP
 obtain ⟨rfl,h1,h2,h3,h4⟩:=hinv
 simp only [aa,seval,oN]
 refine bS (λaT=>?_) (λaT=>?_)
 rotate_left
 .simp only [aa,seval,oN]
  obtain rfl:lo=hi:=by omega
  exact hk _ lo z.av h2 h3 h4
 have e1:IntKind.i64.wrap ((lo:Int)+(hi:Int))=((lo+hi:Nat):Int):=by rw [fZ (by omega) (by omega)];omega
 have e2:IntKind.u64.wrap ((lo+hi:Nat):Int)=((lo+hi:Nat):Int):=by unfold IntKind.wrap;simp [IntKind.bits];omega
 have e3:IntKind.i64.wrap (((lo+hi) / 2:Nat):Int)=(((lo+hi) / 2:Nat):Int):=fZ (by omega) (by omega)
 have e4:Int.fdiv ((lo+hi:Nat):Int) (2 ^ (min (1:Int).toNat (IntKind.bits .u64)))=(((lo+hi) / 2:Nat):Int):=by
  show Int.fdiv ((lo+hi:Nat):Int) 2=_
  rw [Int.fdiv_eq_ediv_of_nonneg _ (by omega)]
  omega
 repeat' (simp only [aa,seval,oN,e1])
 rw [yY rfl rfl rfl (Nn _) rfl,e2]
 repeat' (simp only [aa,seval,oN])
 rw [Nw (by decide),e4]
 repeat' (simp only [aa,seval,oN])
 rw [yY rfl rfl rfl (Np _) rfl,e3]
 repeat' (simp only [aa,seval,oN])
 refine Ax ((lo+hi) / 2) _ _ (by omega) z.av (λh' x=>?_)
 (replace z:=z.ao x;rw [aw h'])
 have e5:IntKind.i64.wrap ((((lo+hi) / 2:Nat):Int)+1)=(((lo+hi) / 2+1:Nat):Int):=by rw [fZ (by omega) (by omega)];omega
 cases hx:pr ((lo+hi) / 2)
 .repeat' (first|simp only [aa,seval,oN]|((with_reducible apply cf);(· rfl)))
  rw [e5]
  (rw [aX];with_reducible refine cF (m:=_) ?_ ⟨(lo+hi) / 2+1,hi,_,rfl,z,⟨rfl,by omega,by omega,by intro _;simpa using hx,h4⟩,bo⟩;omega)
 .repeat' (first|simp only [aa,seval,oN]|((with_reducible apply cf);(· rfl)))
  (rw [aX];with_reducible refine cF (m:=_) ?_ ⟨lo,(lo+hi) / 2,_,rfl,z,⟨rfl,by omega,by omega,h3,by intro _;exact hx⟩,bo⟩;omega)
theorem zvT {P:Program} {T:bJ} {a b:aU}:cA P T .geq t (.string a) (.string b)=some (.bool (!slt a b)):=by
 refine Nx rfl ?_ rfl
 unfold Op.stringOp
 simp only [CL]
 rfl
theorem zsL (l:List au) (v:ai) (h:Heap) (hl:Sl aC.bind h v l) (hs:l.length<=1000) (K:aJ)
 (hk:∀ (h':Heap) (b:Bool),Ext h h'->(b=true↔lZ l l.length)->K (.bool b) h'):Ok prog aH ov 126 [v] h K:=by
 rw [aw h]
 have z:=Ext.refl h
 refine Ok.aA 25 (bH IM) ?_
 simp only [aa,seval,rC]
 repeat' ((with_reducible refine q9 hl dB ?_) <;> simp only [aa,seval,rC])
 obtain ⟨I1,aX⟩:∃ I:Nat->Env->Heap->Prop,I=(λn e h'=>∃ (i:Nat) (h1:Heap),h'=h1.lay [] h1.low/\Ext h h1/\(n=l.length - i/\i<=l.length/\lZ l i)/\∃ J:Nat->ai,e=(v::jr J 1 4 (.int .i64 l.length::.int .i64 i::jr J 7 19 ([])))):=⟨_,rfl⟩
 refine dN I1 _ (by rw [aX];exact ⟨0,_,rfl,z,⟨rfl,by omega,by intro k x y hk;omega⟩,bo⟩) ?_
 intro n e h' aP
 rw [aX] at aP
 obtain ⟨i,bU,rfl,z,hinv,J,rfl⟩:=aP
 obtain ⟨rfl,hi,aB⟩:=hinv
 have hw:=eE i (by omega)
 have pK:IntKind.i64.wrap ((i:Int) - 1)=(i:Int) - 1:=fZ (by omega) (by omega)
 simp only [aa,seval,rC]
 refine bS (λaT=>?_) (λaT=>?_)
 rotate_left
 .simp only [aa,seval,rC]
  obtain rfl:i=l.length:=by omega
  exact hk _ true z.av ⟨λ_=>aB,λ_=>rfl⟩
 repeat' (first|simp only [aa,seval,rC]|((with_reducible apply bS) <;> intro _)|with_reducible refine ez (by simp only [rC]) z.av ?_|((with_reducible refine ⟨z.cU.lay _ _,?_⟩);(intro _ h' zz x _);(simp only [bY,bC] at x);(replace z:=zz);(clear zz);rw [aw h']))
 rotate_left
 .rw [hw]
  (rw [aX];with_reducible refine cF (m:=_) ?_ ⟨i+1,_,rfl,z,⟨rfl,by omega,zlJ (by omega)⟩,bo⟩;omega)
 have VN:IntKind.i64.wrap ((i:Int) - 1)=((i - 1:Nat):Int):=by rw [pK];omega
 rw [VN]
 obtain ⟨r0,yy,KK⟩:=gC (l:=l) (i:=i - 1) (by omega)
 obtain ⟨r1,Cr,KL⟩:=gC (l:=l) (i:=i) (by omega)
 repeat' ((first|((with_reducible apply F4) <;> intro _)|with_reducible refine yX (hl.mono z.inc) dB mT (by omega) yy (λp hp=>?_)|with_reducible refine yX (hl.mono z.inc) dB mT (by omega) Cr (λp hp=>?_)|with_reducible refine zH hp xP (λq hq=>?_)|with_reducible refine qJ hq uO ?_|((with_reducible refine ⟨z.cU.lay _ _,?_⟩);(intro _ h' zz x _);(simp only [bY,bC] at x);(replace z:=zz);(clear zz);rw [aw h'])) <;> simp only [aa,seval,rC,zvT])
 rotate_left
 .rw [hw]
  (rw [aX];with_reducible refine cF (m:=_) ?_ ⟨i+1,_,rfl,z,⟨rfl,by omega,zrm aB (by omega) KK KL (by assumption)⟩,bo⟩;omega)
 .refine hk _ false z.av ⟨nofun,λhR=>absurd hR (zuW (by omega) KK KL (by simp [*]))⟩
theorem zBK (l:List au) (v:ai) (s:aU) (i:Nat) (A B:Nat) (h:Heap) (hl:Sl aC.bind h v l) (hs:l.length<=1000) (hi:i < l.length) (q0:Holds h A (.row [v] 95 false)) (q1:Holds h B (.row [.string s] 9 false)) (K:aJ)
 (hk:∀ h',Ext h h'->K (.bool (match l[i]? with|some x => !slt x.var s|none=>false)) h'):Ok prog aH ov 129 [.int .i64 i,.pointer (some ⟨A,0,none⟩),.pointer (some ⟨B,0,none⟩)] h K:=by
 rw [aw h]
 have z:=Ext.refl h
 obtain ⟨r,hr,cw⟩:=gC (l:=l) (i:=i) (by omega)
 rw [cw] at hk
 refine Ok.aA 9 (bH IU) ?_
 simp only [aa,seval,DB]
 repeat' ((first|with_reducible refine yX (hl.mono z.inc) dB mT (by omega) hr (λp hp=>?_)|with_reducible refine zH hp xP (λq hq=>?_)|with_reducible refine qJ hq uO ?_|with_reducible refine ez (by simp only [DB]) z.av ?_|((with_reducible refine ⟨z.cU.lay _ _,?_⟩);(intro _ h' zz x _);(simp only [bY,bC] at x);(replace z:=zz);(clear zz);rw [aw h'])) <;> simp only [aa,seval,DB,q0.lay,q1.lay,zvT,zth])
 exact hk _ z.av
theorem ztN:lL aH 25 []=some bD.val:=by kernel_rfl
theorem YH (a:ay):cut a.cells 0 2=some a.cells:=rfl
theorem FT (a:ay):Value.agg a.cells.toArray=a.val:=rfl
theorem F8 (l:List au) (v:ai) (s:aU) (h:Heap) (hl:Sl aC.bind h v l) (hs:l.length<=1000) (K:aJ)
 (hk:∀ h',Ext h h'->K (.tuple #[(bE l s).1.val,.bool (bE l s).2]) h'):Ok prog aH ov 102 [v,.string s] h K:=by
 rw [aw h]
 have z:=Ext.refl h
 refine Ok.aA 30 (bH It) ?_
 have hc:v.cells.toList=[v]:=Qw hl
 have cX:∀ (h:Heap) (K:aJ),aK (some v) h K=K v h:=λ_ _=>rfl
 repeat' (simp only [aa,seval,lz,hc,cX])
 refine zsL l _ _ (hl.lay _ _) hs _ (λh' b x hb=>?_)
 have q0:=Holds.top (i:=0) x rfl
 have q1:=Holds.top (i:=1) x rfl
 have q2:=Holds.top (i:=2) x rfl
 (replace z:=z.ao x;rw [aw h'])
 cases b
 rotate_left
 focus
  simp only [aa,seval,lz,q0.lay,cX]
  repeat' ((with_reducible refine q9 (hl.mono z.inc) dB ?_) <;> simp only [aa,seval,lz])
  refine X7 l.length hs _ (λi=>match l[i]? with|some x => !slt x.var s|none=>false) _ (λi ec K' hi xe ju=>?_) _ (λdc i x hi gJ o0=>?_)
  .rw [FC]
   have Mx:=z.ao xe
   exact zBK l v s i _ _ ec (hl.mono Mx.inc) hs hi (q0.over xe) (q1.over xe) K' ju
  have q0:=q0.over x
  have q1:=q1.over x
  have q2:=q2.over x
  (replace z:=z.ao x;rw [aw dc])
  have ki:=zu0 (hb.1 rfl) hi gJ
  clear gJ o0
  simp only [aa,seval,lz]
 rotate_left
 focus
  simp only [aa,seval,lz]
  have hi:0<=l.length:=iN _
  have ki:∀ y∈l.take 0,y.var≠s:=by simp
 all_goals
  obtain ⟨I1,aX⟩:∃ I:Nat->Env->Heap->Prop,I=(λn e h'=>∃ (i:Nat) (h1:Heap),h'=h1.lay [] h1.low/\Ext h h1/\(n=l.length - i/\i<=l.length/\(∀ y∈l.take i,y.var≠s)/\Holds h1 (h.size+0) (.row [v] 95 false)/\Holds h1 (h.size+1) (.row [.string s] 9 false)/\Holds h1 (h.size+2) (.row [.bool false,.string ⟨#[]⟩] 25 false))/\∃ J:Nat->ai,e=(jr J 0 2 (.pointer (some ⟨h.size+0,0,none⟩)::.pointer (some ⟨h.size+1,0,none⟩)::.pointer (some ⟨h.size+2,0,none⟩)::.bool false::.int .i64 i::jr J 7 25 ([])))):=⟨_,rfl⟩
  refine dN I1 _ (by rw [aX];exact ⟨_,_,rfl,z,⟨rfl,hi,ki,q0,q1,q2⟩,bo⟩) ?_
  intro n e h' aP
  rw [aX] at aP
  obtain ⟨i,vS,rfl,z,hinv,J,rfl⟩:=aP
  clear hi ki q0 q1 q2
  obtain ⟨rfl,hi,ki,q0,q1,q2⟩:=hinv
  have hw:i < l.length->IntKind.i64.wrap ((i:Int)+1)=((i+1:Nat):Int):=λ_=>by rw [fZ (by omega) (by omega)];omega
  have hz:=z.size
  simp only [aa,seval,lz,q0.lay,cX]
  repeat' ((first|((with_reducible apply bS) <;> intro _)|with_reducible refine q9 (hl.mono z.inc) dB ?_) <;> simp only [aa,seval,lz])
  rotate_left
  .simp only [aa,seval,lz,ztN,xO]
   refine FQ q2 i4 rfl rfl rfl (λh' pq c=>?_)
   replace z:=z.av.step c (by omega)
   rw [aw h']
   simp only [aa,seval,lz,pq.lay,MT,↓YH,FT,xO]
   have jO:=zxT (l:=l) (s:=s) (λy hy=>ki y (by rw [gb (by omega)];exact hy))
   rw [jO] at hk
   exact hk _ z.av
  obtain ⟨r,hr,cw⟩:=gC (l:=l) (i:=i) (by assumption)
  repeat' ((first|((with_reducible apply bS) <;> intro _)|with_reducible refine yX (hl.mono z.inc) dB mT (by omega) hr (λp hp=>?_)|with_reducible refine zH hp xP (λq hq=>?_)|with_reducible refine RV hp NF (λp hp=>?_)|with_reducible refine qJ hq uO ?_|with_reducible refine Lh hp tu i4 ?_|with_reducible refine ez (by simp only [lz]) z.av ?_|((with_reducible refine ⟨z.cU.lay _ _,?_⟩);(intro _ h' zz x _);(simp only [bY,bC] at x);replace q0:=q0.over x;replace q1:=q1.over x;replace q2:=q2.over x;(replace z:=zz);(clear zz);rw [aw h'])) <;> simp only [aa,seval,lz,q0.lay,q1.lay,cX])
  .have hz:=z.size
   refine FQ q2 i4 rfl rfl rfl (λh' pq c=>?_)
   replace z:=z.av.step c (by omega)
   rw [aw h']
   simp only [aa,seval,lz,pq.lay,MT,↓YH,FT,xO]
   have mr:=zxS cw ki (by assumption)
   rw [mr] at hk
   exact hk _ z.av
  .rw [hw (by omega)]
   (rw [aX];with_reducible refine cF (m:=_) ?_ ⟨i+1,_,rfl,z,⟨rfl,by omega,rY (i:=i) (P:=λy:au=>y.var≠s) cw ki (by assumption),q0,q1,q2⟩,bo⟩;omega)
end Go.Proofs.YtnkmeidmdaidhaaGreatDoor
