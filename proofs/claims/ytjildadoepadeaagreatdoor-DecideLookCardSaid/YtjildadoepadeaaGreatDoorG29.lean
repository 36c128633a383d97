/- The code of some functions, node by node, for simp. Written by a program (mkcode.py). No condition. -/
import Derived.Test.YtjildadoepadeaaGreatDoorG28
set_option linter.unusedSimpArgs false
set_option linter.unusedVariables false
set_option maxRecDepth 100000
set_option maxHeartbeats 0
noncomputable section
namespace Go.Proofs.YtjildadoepadeaaGreatDoor
open Go.Am Tryz
def Bo:=bq f100
def Ev:=PLift.up (by have c:=bw Bo f100;simp only [aJ,f100,seval] at c;exact nd c <| nd @cP <| @zxL)
theorem tj:type_of% Ev.down:=Ev.down
def BO:=bq f163
def EZ:=PLift.up (by have c:=bw BO f163;simp only [aJ,f163,seval] at c;exact nd c <| @zyb)
theorem wY:type_of% EZ.down:=EZ.down
def B7:=bq f212
def Fq:=PLift.up (by have c:=bw B7 f212;simp only [aJ,f212,seval] at c;exact nd c <| nd @OL <| nd @nF <| nd @OO <| @zyu)
theorem oM:type_of% Fq.down:=Fq.down
def BQ:=bq f165
def E2:=PLift.up (by have c:=bw BQ f165;simp only [aJ,f165,seval] at c;exact nd c <| nd @wm <| nd @pk <| @zyd)
theorem CE:type_of% E2.down:=E2.down
def BP:=bq f164
def E1:=PLift.up (by have c:=bw BP f164;simp only [aJ,f164,seval] at c;exact nd c <| nd @s9 <| nd @ta <| nd @jy <| @zyc)
theorem tq:type_of% E1.down:=E1.down
theorem YR (l:List aH) (v fv:ai) (pr:aH->Bool) (h:Heap) (hl:Sl aQ.term h v l) (hs:l.length<=1000) (yd:∀ (x:aH) (hc:Heap) (K:aF),Ext h hc->(∀ h',Ext hc h'->K (.bool (pr x)) h')->qh prog az ov [x.val] hc K fv) (K:aF)
 (hk:∀ h',Ext h h'->K (.int .i64 (ka pr l)) h'):Ok prog az ov 212 [v,fv] h K:=by
 rw [ak h]
 have z:=Ext.refl h
 refine Ok.au 17 (br B7) ?_
 simp only [aa,seval,oM]
 repeat' ((with_reducible refine N0 hl wC ?_) <;> simp only [aa,seval,oM])
 obtain ⟨I1,aU⟩:∃ I:Nat->Env->Heap->Prop,I=(λn e h'=>∃ (i:Nat) (h1:Heap),h'=h1.lay [] h1.low/\Ext h h1/\(n=l.length - i/\i<=l.length/\∀ x∈l.take i,pr x=false)/\∃ J:Nat->ai,e=(v::fv::jr J 2 5 (.int .i64 l.length::.int .i64 i::jr J 9 10 ([])))):=⟨_,rfl⟩
 refine dK I1 _ (by rw [aU];exact ⟨0,_,rfl,z,⟨rfl,by omega,by simp⟩,bx⟩) ?_
 intro n e h' aR
 rw [aU] at aR
 obtain ⟨i,b8,rfl,z,hinv,J,rfl⟩:=aR
 obtain ⟨rfl,hi,aq⟩:=hinv
 have hw:=ec i (by omega)
 repeat' (first|simp only [aa,seval,oM]|((with_reducible apply bp) <;> intro _))
 rotate_left
 .rw [i9 (by omega)] at aq
  have:=Ns aq
  rw [this] at hk
  exact hk _ z.ao
 obtain ⟨r,hr,bz⟩:=fx (l:=l) (i:=i) (by assumption)
 repeat' ((first|with_reducible refine IV (hl.mono z.inc) wC iD (by omega) hr (λp hp=>?_)|with_reducible refine Ef hp oJ iD ?_) <;> simp only [aa,seval,oM])
 refine yd _ _ _ z.ao (λh' x=>?_)
 (replace z:=z.aj x;rw [ak h'])
 cases hx:pr r
 rotate_left
 .simp only [aa,seval,oM]
  have:=Ni bz aq hx
  rw [this] at hk
  exact hk _ z.ao
 .simp only [aa,seval,oM]
  rw [hw]
  (rw [aU];with_reducible refine db (m:=_) ?_ ⟨i+1,_,rfl,z,⟨rfl,by omega,mS (i:=i) (P:=λx:aH=>pr x=false) bz aq hx⟩,bx⟩;omega)
theorem MG (l:List aH) (v fv:ai) (pr:aH->Bool) (h:Heap) (hl:Sl aQ.term h v l) (hs:l.length<=1000) (yd:∀ (x:aH) (hc:Heap) (K:aF),Ext h hc->(∀ h',Ext hc h'->K (.bool (pr x)) h')->qh prog az ov [x.val] hc K fv) (K:aF)
 (hk:∀ h',Ext h h'->K (.bool (l.any pr)) h'):Ok prog az ov 163 [v,fv] h K:=by
 refine Ok.au 7 (br BO) ?_
 simp only [aa,seval,wY]
 refine YR l v fv pr h hl hs yd _ (λh' x=>?_)
 simp only [aa,seval,wY,Og]
 refine I6 (λhh=>?_) (λhh=>?_)
 all_goals
  simp only [aa,seval,wY]
  rw [hh] at hk
  exact hk _ x
theorem zqr (x:aH) (h:Heap) (K:aF) (hk:∀ h',Ext h h'->K (.bool x.v) h'):Ok prog az ov 165 [x.val] h K:=by
 rw [ak h]
 unfold aH.val aH.cells
 refine Ok.au 4 (br BQ) ?_
 simp only [aa,seval,CE]
 refine I6 (λhh=>?_) (λhh=>?_)
 all_goals
  simp only [aa,seval,CE]
  rw [hh] at hk
  exact hk _ ((Ext.refl h).mO _ _ (by omega))
theorem My (A o:Nat) (k:Int) (h0:0<=k) (h4:k<=4):kn az 39 (.pointer (some ⟨A,o,none⟩)) none (some (.int .i64 k)) none=some (.slice (some ⟨A,o,none⟩) k.toNat 4):=by
 have hG:4 < G:=by decide
 simp only [kn,xg,mQ,pH,aC hG,cM]
 rw [aC ⟨h0,by omega⟩]
 simp [iD]
theorem IA (a:ae) (h:Heap) (K:aF) (hk:∀ w h',Ext h h'->Sl aQ.term h' w a.args->K w h'):Ok prog az ov 164 [a.val] h K:=by
 rw [ak h]
 have z:=Ext.refl h
 unfold ae.val ae.cells
 refine Ok.au 8 (br BP) ?_
 simp only [aa,seval,tq]
 refine Uq rfl rfl ?_
 simp only [aa,seval,tq]
 refine N1 rfl rfl ?_
 simp only [aa,seval,tq]
 rw [My _ _ _ (by split <;> split <;> omega) (by split <;> split <;> omega)]
 simp only [aa,seval,tq]
 have hc:(if 4 < (if a.n < 0 then 0 else a.n) then 4 else (if a.n < 0 then 0 else a.n)).toNat=a.bR:=by
  unfold ae.bR
  split <;> split <;> omega
 rw [hc]
 exact hk _ _ z.ao (zwx (a:=a) ⟨by rw [cF];simp,by rw [iL];rfl⟩ rfl)
theorem zsz (a:ae) (h:Heap) (K:aF) (hk:∀ h',Ext h h'->K (.bool a.ground) h'):Ok prog az ov 100 [a.val] h K:=by
 rw [ak h]
 have z:=Ext.refl h
 unfold ae.val ae.cells
 refine Ok.au 6 (br Bo) ?_
 simp only [aa,seval,tj]
 refine IA a _ _ (λw h' x ha=>?_)
 (replace z:=z.aj x;rw [ak h'])
 simp only [aa,seval,tj]
 have oS:a.args.length<=1000:=by rw [vR];unfold ae.bR;omega
 refine MG _ _ _ (λt=>t.v) _ (ha.lay _ _) oS (λt hc K' _ hK=>by rw [nK];exact zqr t hc K' hK) _ (λh' x=>?_)
 (replace z:=z.aj x;replace ha:=ha.over x;rw [ak h'])
 simp only [aa,seval,tj]
 refine bK rfl ?_
 simp only [aa,seval,tj]
 exact hk _ z.ao
theorem lB {d} {s t ty:TypeId} {x:Operand} {pos af g} {kk:IntKind} {a:Int} {v:ai} {e:Env} {h:Heap} {K:aF} (hs:kP az s=false) (ht:kP az t=false) (hx:aX e x=.int kk a) (hc:dX prog (Next.value <$> convert s t (.int kk a))=some (Next.value v)) (hv:plain v=true):bL prog az ov ⟨d,.convert s t x,ty,pos,af,g⟩ e h K=K v h:=by
 rw [Ty d ty pos af g e h K s t x hs ht]
 have hp:eP prog e ⟨d,.convert s t x,ty,pos,af,g⟩ h=some (v,h):=by
  unfold eP
  simp [Op.operands,hx,execOp]
  refine ⟨rfl,?_⟩
  rw [hc]
  simp [hv]
 rw [hp]
 rfl
end Go.Proofs.YtjildadoepadeaaGreatDoor
namespace Go.Proofs.YtjildadoepadeaaGreatDoor
open Go.Am
theorem ztB (a:aH):cut a.cells 0 2=some a.cells:=rfl
theorem ztn (a:aH):Value.agg a.cells.toArray=a.val:=rfl
end Go.Proofs.YtjildadoepadeaaGreatDoor
namespace Go.Proofs.YtjildadoepadeaaGreatDoor
open Go.Am Tryz
def BV:=bq f170
def E9:=PLift.up (by have c:=bw BV f170;simp only [aJ,f170,seval] at c;exact nd c <| @zyi)
theorem CG:type_of% E9.down:=E9.down
def Cl:=bq f254
def FG:=PLift.up (by have c:=bw Cl f254;simp only [aJ,f254,seval] at c;exact nd c <| @zyI)
theorem CN:type_of% FG.down:=FG.down
def Ca:=bq f215
def Fu:=PLift.up (by have c:=bw Ca f215;simp only [aJ,f215,seval] at c;exact nd c <| @zyx)
theorem CJ:type_of% Fu.down:=Fu.down
def BW:=bq f171
def Fa:=PLift.up (by have c:=bw BW f171;simp only [aJ,f171,seval] at c;exact nd c <| @zyj)
theorem m9:type_of% Fa.down:=Fa.down
def BU:=bq f169
def E8:=PLift.up (by have c:=bw BU f169;simp only [aJ,f169,seval] at c;exact nd c <| nd @ou <| @zyh)
theorem gO:type_of% E8.down:=E8.down
def Cb:=bq f216
def Fv:=PLift.up (by have c:=bw Cb f216;simp only [aJ,f216,seval] at c;exact nd c <| @zyy)
theorem CK:type_of% Fv.down:=Fv.down
def BX:=bq f172
def Fb:=PLift.up (by have c:=bw BX f172;simp only [aJ,f172,seval] at c;exact nd c <| @zyk)
theorem tt:type_of% Fb.down:=Fb.down
def Bw:=bq f107
def ED:=PLift.up (by have c:=bw Bw f107;simp only [aJ,f107,seval] at c;exact nd c <| @zxS)
theorem qs:type_of% ED.down:=ED.down
def Bx:=bq f108
def EE:=PLift.up (by have c:=bw Bx f108;simp only [aJ,f108,seval] at c;exact nd c <| @zxT)
theorem wW:type_of% EE.down:=EE.down
def Ce:=bq f223
def Fy:=PLift.up (by have c:=bw Ce f223;simp only [aJ,f223,seval] at c;exact nd c <| @zyB)
theorem qv:type_of% Fy.down:=Fy.down
def Cn:=bq f256
def FI:=PLift.up (by have c:=bw Cn f256;simp only [aJ,f256,seval] at c;exact nd c <| @zyK)
theorem qx:type_of% FI.down:=FI.down
def Cd:=bq f222
def Fx:=PLift.up (by have c:=bw Cd f222;simp only [aJ,f222,seval] at c;exact nd c <| @zyA)
theorem w8:type_of% Fx.down:=Fx.down
def Cm:=bq f255
def FH:=PLift.up (by have c:=bw Cm f255;simp only [aJ,f255,seval] at c;exact nd c <| @zyJ)
theorem qw:type_of% FH.down:=FH.down
def Pu:=bq f91
def Rn:=PLift.up (by have c:=bw Pu f91;simp only [aJ,f91,seval] at c;exact nd c <| @Kz)
theorem JB:type_of% Rn.down:=Rn.down
def BJ:=bq f157
def ES:=PLift.up (by have c:=bw BJ f157;simp only [aJ,f157,seval] at c;exact nd c <| nd @kc <| nd @eO <| nd @kg <| @zx6)
theorem tp:type_of% ES.down:=ES.down
def wJ:=bq f187
def Fj:=PLift.up (by have c:=bw wJ f187;simp only [aJ,f187,seval] at c;exact nd c <| nd @wm <| nd @zc <| nd @pk <| nd @eO <| @zyr)
theorem tu:type_of% Fj.down:=Fj.down
def wH:=bq f128
def EN:=PLift.up (by have c:=bw wH f128;simp only [aJ,f128,seval] at c;exact nd c <| nd @Cu <| nd @sb <| nd @zd <| nd @s9 <| nd @ta <| nd @OL <| nd @jy <| nd @nF <| nd @cP <| nd @eO <| nd @OO <| @zx2)
theorem eg:type_of% EN.down:=EN.down
def B4:=bq f186
def Fi:=PLift.up (by have c:=bw B4 f186;simp only [aJ,f186,seval] at c;exact nd c <| nd @nF <| @zyq)
theorem w6:type_of% Fi.down:=Fi.down
def B1:=bq f175
def Ff:=PLift.up (by have c:=bw B1 f175;simp only [aJ,f175,seval] at c;exact nd c <| nd @cP <| @zyn)
theorem CI:type_of% Ff.down:=Ff.down
def BG:=bq f121
def EM:=PLift.up (by have c:=bw BG f121;simp only [aJ,f121,seval] at c;exact nd c <| nd @Cu <| nd @wU <| nd @wm <| nd @zc <| nd @OL <| nd @nF <| nd @pk <| nd @cP <| nd @eO <| nd @OO <| @zx1)
theorem kX:type_of% EM.down:=EM.down
end Go.Proofs.YtjildadoepadeaaGreatDoor
