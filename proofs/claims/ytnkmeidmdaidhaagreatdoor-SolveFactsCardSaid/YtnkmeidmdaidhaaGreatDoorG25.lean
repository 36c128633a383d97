/- The code of some functions, node by node, for simp. Written by a program (mkcode.py). No condition. -/
import Derived.Lib.Overlaps
import Derived.Lib.AppendZerosOnto
import Derived.Test.YtnkmeidmdaidhaaGreatDoorG24
set_option linter.unusedSimpArgs false
set_option linter.unusedVariables false
set_option maxRecDepth 100000
set_option maxHeartbeats 0
noncomputable section
namespace Go.Proofs.YtnkmeidmdaidhaaGreatDoor
open Go.Am Tryz
def N88:=bI f88
def x88:=PLift.up (by have c:=bM N88 f88;simp only [aO,f88,seval] at c;exact nd c <| nd @nu <| nd @zt <| nd @ta <| nd @Ie <| nd @Bu <| nd @AJ <| nd @jQ <| nd @cq <| nd @kp <| nd @AN <| @Tj)
theorem sG:type_of% x88.down:=x88.down
def Z0:=bI f53
def x53:=PLift.up (by have c:=bM Z0 f53;simp only [aO,f53,seval] at c;exact nd c <| nd @cq <| @SG)
theorem GA:type_of% x53.down:=x53.down
def Dt:=bI f117
def L4:=PLift.up (by have c:=bM Dt f117;simp only [aO,f117,seval] at c;exact nd c <| nd @ig <| nd @cq <| nd @zDL <| @zD7)
theorem hU:type_of% L4.down:=L4.down
def Ja:=bI f150
def Ms:=PLift.up (by have c:=bM Ja f150;simp only [aO,f150,seval] at c;exact nd c <| nd @ig <| nd @cq <| nd @zD6 <| @zEa)
theorem pW:type_of% Ms.down:=Ms.down
def I7:=bI f138
def Mn:=PLift.up (by have c:=bM I7 f138;simp only [aO,f138,seval] at c;exact nd c <| nd @zD3 <| @zD9)
theorem oP:type_of% Mn.down:=Mn.down
def jn:=bI f118
def L5:=PLift.up (by have c:=bM jn f118;simp only [aO,f118,seval] at c;exact nd c <| nd @ig <| nd @cq <| nd @zDM <| @zD8)
theorem bP:type_of% L5.down:=L5.down
def Re:=bI f86
def x86:=PLift.up (by have c:=bM Re f86;simp only [aO,f86,seval] at c;exact nd c <| nd @Ti <| @TB)
theorem oQ:type_of% x86.down:=x86.down
def Ra:=bI f52
def x52:=PLift.up (by have c:=bM Ra f52;simp only [aO,f52,seval] at c;exact nd c <| nd @ij <| nd @SF <| @Tx)
theorem Oq:type_of% x52.down:=x52.down
def Q9:=bI f51
def x51:=PLift.up (by have c:=bM Q9 f51;simp only [aO,f51,seval] at c;exact nd c <| nd @rB <| @SE)
theorem BP:type_of% x51.down:=x51.down
def Rb:=bI f54
def x54:=PLift.up (by have c:=bM Rb f54;simp only [aO,f54,seval] at c;exact nd c <| nd @ig <| nd @cq <| nd @ij <| @SH)
theorem mZ:type_of% x54.down:=x54.down
def Z1:=bI f55
def x55:=PLift.up (by have c:=bM Z1 f55;simp only [aO,f55,seval] at c;exact nd c <| nd @cq <| @SI)
theorem Ot:type_of% x55.down:=x55.down
def ZI:=bI f27
def x27:=PLift.up (by have c:=bM ZI f27;simp only [aO,f27,seval] at c;exact nd c <| @Sh)
theorem DF:type_of% x27.down:=x27.down
theorem W1:td aH 29 29=true:=by kernel_rfl
theorem zA5 (a:ae):a.cells[0]? = some (.string a.says):=rfl
theorem zA6 (a:ae):a.cells[1]? = some (.string a.pred):=rfl
theorem zxr (a:ae) (ha:a.bW=true) (h:Heap) (K:aJ)
 (hk:∀ h',Ext h h'->K (.string ⟨(iG a).toArray⟩) h'):Ok prog aH ov 88 [a.val] h K:=by
 rw [aw h]
 have z:=Ext.refl h
 obtain ⟨ji,eQ⟩:=zup ha
 refine Ok.aA 37 (bH N88) ?_
 simp only [aa,seval,sG,gV,zA5]
 refine M1 ?_ (λS1 B6 Pe=>?_)
 .show a.says.size+6<=_
  omega
 simp only [aa,seval,sG,zA6]
 refine M1 ?_ (λS hS lg=>?_)
 .rw [Pe]
  show a.says.size+6+_<=_
  omega
 have hSl:S.data.toList=a.says.data.toList++Of++a.pred.data.toList:=by rw [hS,B6,NJ,NJ];rfl
 have hSz:S.size<=700:=by
  rw [lg,Pe]
  show a.says.size+6+_<=_
  omega
 clear hS B6 Pe lg
 simp only [aa,seval,sG,↓fe,dU,dq]
 refine QF a _ _ (λv H0 x hv=>?_)
 (replace z:=z.ao x;rw [aw H0])
 have sS:=z.size
 simp only [aa,seval,sG]
 repeat' ((first|((with_reducible apply qL) <;> intro _)|with_reducible refine q9 hv oS ?_) <;> simp only [aa,seval,sG])
 .have T6:S=⟨(iG a).toArray⟩:=zCt (by rw [hSl,zx3 (by omega)])
  rw [T6]
  exact hk _ z.av
 obtain ⟨I1,aX⟩:∃ I:Nat->Env->Heap->Prop,I=(λn e h'=>∃ (i:Nat) (w:ai) (A:Nat) (h1:Heap),h'=h1.lay [] h1.low/\Ext h h1/\(n=a.args.length - i/\i<=a.args.length/\Ow aC.str H0 h1 9 A w ((a.args.take i).map (·.s))/\bN H0 h1)/\∃ J:Nat->ai,e=(jr J 0 3 (.string S::J 4::w::jr J 6 14 (v::.int .i64 a.args.length::.int .i64 i::jr J 23 15 ([]))))):=⟨_,rfl⟩
 refine dN I1 _ (by rw [aX];exact ⟨0,.slice none 0 0,H0.size,_,rfl,z,⟨rfl,by omega,Ow.nil (aR _),bN.refl _⟩,bo⟩) ?_
 intro n e h' aP
 rw [aX] at aP
 obtain ⟨i,w,A,bU,rfl,z,hinv,J,rfl⟩:=aP
 obtain ⟨rfl,hi,ho,i1⟩:=hinv
 have pH:a.args.length<=4:=by rw [Bc];unfold ae.bx;omega
 have hw:=eE i (by omega)
 have hz:=z.size
 simp only [aa,seval,sG]
 refine bS (λaT=>?_) (λaT=>?_)
 rotate_left
 .simp only [aa,seval,sG]
  rw [gb (by omega)] at ho
  have hJ:=zuh ha
  have qU:(a.args.map (·.s)).map (·.data.toList)=nK a:=by rw [List.map_map];rfl
  have VH:∀ (h:Heap) (K:aJ),aK (some w) h K=K w h:=λ_ _=>rfl
  refine M1 ?_ (λS3 hS3 AF=>?_)
  .show S.size+1<=_
   omega
  have alT:S3.size<=701:=by
   rw [AF]
   show S.size+1<=_
   omega
  have T7:S3.data.toList=S.data.toList++[40]:=by rw [hS3,NJ]
  simp only [aa,seval,sG]
  refine Ok.over (g:=Gp) rfl (zBw ((ho.sl (by decide)).lay _ _) (λe=>by have:=congrArg List.length e;rw [gw,db] at this;omega) (by rw [gw];omega) (by rw [qU];exact eA hJ (by decide))) ?_
  rw [qU]
  obtain ⟨J2,hJ2⟩:∃ J2:aU,J2=⟨(Lib.join (nK a) (ByteArray.mk #[44,32]).data.toList).toArray⟩:=⟨_,rfl⟩
  rw [<- hJ2]
  have hJl:J2.data.toList=Lib.join (nK a) gk:=by rw [hJ2];rfl
  have hJz:J2.size<=1300:=by rw [<- Dz,hJl];exact hJ
  simp only [aa,seval,sG]
  refine M1 ?_ (λS4 hS4 uW=>?_)
  .omega
  simp only [aa,seval,sG]
  refine M1 ?_ (λS5 hS5 rQ=>?_)
  .rw [uW]
   show S3.size+J2.size+1<=_
   omega
  repeat' (simp only [aa,seval,sG])
  have hS6:S5=⟨(iG a).toArray⟩:=zCt (by rw [hS5,NJ,hS4,NJ,T7,hSl,hJl,zx4 (by omega)])
  rw [hS6]
  exact hk _ z.av
 obtain ⟨r,hr,cw⟩:=gC (l:=a.args) (i:=i) aT
 simp only [aa,seval,sG]
 repeat' ((first|with_reducible refine QT (hv.mono i1) oS i4 (by omega) hr (λp hp=>?_)|with_reducible refine Lh hp tu i4 ?_) <;> simp only [aa,seval,sG,iy,gS,iI,Am.one,im,gd,gN,ay.val,ay.cells])
 simp only [cm,seval,jF,W1]
 obtain ⟨Vq,mH⟩:=Bo (A:=A) (B:=bU.size+1) (r:=aC.str) (c:=1) (y:=r.s) (by decide) (show (bU.lay [aZ.row [Value.bool r.v,Value.string r.s] 25 false,aZ.row [Value.string r.s] 9 false] (min bU.low (bU.size+0))).get (bU.size+1)=some (.row [Value.string r.s] 9 false) by rw [jG];rfl) rfl
 have dL:=ho.fresh
 have yr:((a.args.take i).map (·.s)).length<=4:=by rw [gw,gR];omega
 refine YZ (r:=aC.str) hY Qb rfl (by decide) i1.size ho Vq mH (by omega) (by omega) (λw' h2 A' o2 c2 TE=>?_)
 replace z:=z.av.step c2 (by omega)
 have i2:=zBu (i1.trans (bN.lay _ _ _)) c2 dL
 have ic:(a.args.take (i+1)).map (·.s)=(a.args.take i).map (·.s)++[r.s]:=by rw [lr,cw,sf];rfl
 rw [<- ic] at o2
 rw [aw h2]
 have VH:∀ (h:Heap) (K:aJ),aK (some w') h K=K w' h:=λ_ _=>rfl
 repeat' (simp only [aa,seval,sG])
 rw [hw]
 (rw [aX];with_reducible refine cF (m:=_) ?_ ⟨i+1,w',A',_,rfl,z,⟨rfl,by omega,o2,i2⟩,bo⟩;omega)
 trace_state
theorem NP (a b:ae) (ha:a.bW=true) (hb:b.bW=true) (h:Heap) (K:aJ)
 (hk:∀ h',Ext h h'->K (.int .i64 (bj a b)) h'):Ok prog aH ov 53 [a.val,b.val] h K:=by
 rw [aw h]
 have z:=Ext.refl h
 refine Ok.aA 8 (bH Z0) ?_
 repeat' (simp only [aa,seval,GA,gV])
 refine (ez (by simp only [GA])) z.av ?_
 simp only [aa,seval,GA,↓fe,dU,dq]
 refine zxr a ha _ _ (λh' x=>?_)
 have q1:=Holds.top (i:=1) x rfl
 (((with_reducible refine ix ?_ ?_ ?_);(· exact (by (simp only [iY]);have:=z.size;omega));(· exact x));replace z:=z.ao x;rw [aw h'])
 repeat' (simp only [aa,seval,GA,q1.lay,↓fe,dU,dq])
 refine zxr b hb _ _ (λh' x=>?_)
 (((with_reducible refine ix ?_ ?_ ?_);(· exact (by (simp only [iY]);have:=z.size;omega));(· exact x));replace z:=z.ao x;rw [aw h'])
 repeat' (simp only [aa,seval,GA])
 refine Ok.over (g:=Ng) rfl rfl ?_
 refine ix (by have:=z.size;rw [bh];omega) (by simpa only [bY,bh,bC,db,gx] using Ext.refl (h'.lay [] h'.size)) ?_
 repeat' (first|simp only [aa,seval,GA]|((with_reducible refine ⟨z.cU.lay _ _,?_⟩);(intro _ h' zz x _);(simp only [bY,bC] at x);(replace z:=zz);(clear zz);rw [aw h']))
 exact hk _ z.av
end Go.Proofs.YtnkmeidmdaidhaaGreatDoor
namespace Go.Am
open Go.RowKit
section
variable {P:Program} {gs:List Nat} {ρ:cI} {h:Heap} {w:World}

end
end Go.Am
namespace Go.Am
theorem zxH (s:aN) (a:ae):bm s++a.cells=bm (s++[a]):=by
 rw [MH]
 unfold bm
 simp
end Go.Am
namespace Go.Am
theorem zxG {l m p:aN} {o n:Nat} (h1:o=l.length*11) (h2:n=m.length*11):cut (bm (l++(m++p))) o n=some (bm m):=by
 have g1:(bm l).length=o:=by rw [Bd,h1]
 have g2:(bm m).length=n:=by rw [Bd,h2]
 rw [MH,MH]
 refine uC (by simp only [cE,g1,g2];omega) g2 (λi hi=>?_)
 rw [lp (by omega),g1,jz (by omega)]
 congr 1
 omega
end Go.Am
namespace Go.Am
theorem bN.over {a h1 h2:Heap} {l:List aZ} {w:Nat} (i:bN a h1) (x:Ext (h1.lay l w) h2):bN a h2:=(i.trans (bN.lay _ _ _)).trans x.inc
end Go.Am
namespace Go.Proofs.YtnkmeidmdaidhaaGreatDoor
open Go.Am Tryz
theorem zAz (A o:Nat) (k:Int) (h0:0<=k) (h4:k<=4):lN aH 26 (.pointer (some ⟨A,o,none⟩)) (some (.int .i64 k)) none none=some (.slice (some ⟨A,if 4=k.toNat then o else o+k.toNat*2,none⟩) (4 - k.toNat) (4 - k.toNat)):=by
 have hG:4 < G:=by decide
 simp only [lN,DN,qZ,xV,aD hG,dO]
 rw [aD ⟨h0,by omega⟩]
 simp [i4]
theorem MR (a:ae) (k:Nat):(a.all.drop k).length=4 - k:=by rw [mf];rfl
theorem Zd (a:ae) {k i:Nat} (h:k+i < 4):(a.all.drop k)[i]? = some (a.arg (k+i)):=by
 rw [lq]
 have:k+i=0\/k+i=1\/k+i=2\/k+i=3:=by omega
 rcases this with e|e|e|e <;> rw [e] <;> rfl
theorem zB4 {H:Heap} {A:Nat} {a:ae} {u:TypeId} {ro:Bool} (q:Holds H A (.row a.cells u ro)) (k:Nat) (hk:k<=4):Sl aC.term H (.slice (some ⟨A,if 4=k then 3 else 3+k*2,none⟩) (4 - k) (4 - k)) (a.all.drop k):=by
 refine .inr ⟨A,_,4 - k,a.cells,u,ro,by rw [MR],by rw [MR];unfold maxLen;omega,.inl ⟨by unfold G;omega,by rw [MR];exact aR _⟩,q.lt,q.get,λi x hx=>?_⟩
 have hi:i < 4 - k:=by have:=(fG.1 hx).1;rw [MR] at this;exact this
 rw [Zd a (by omega)] at hx
 cases hx
 have hc:=NC a (k+i) (by omega)
 rw [az (by omega)]
 refine ⟨_,?_,rfl⟩
 show cut a.cells (3+k*2+i*2) 2=_
 rw [<- hc]
 congr 1
 omega
theorem zCD (a:ae):a.cells[0]? = some (.string a.says):=rfl
theorem zCE (a:ae):a.cells[1]? = some (.string a.pred):=rfl
theorem zAd (a:ae):a.cells[2]? = some (.int .i64 a.n):=rfl
theorem Na (a:ae) (h:Heap) (dD:bl 1 h) (K:aJ) (h1:bg a->∀ h',Ext h h'->K (.int .i64 0) h') (h2:¬ bg a->∀ c h',c≠0->Ext h h'->K (.int .i64 c) h'):Ok prog aH ov 25 [a.val] h K:=by
 rw [aw h]
 have z:=Ext.refl h
 refine Ok.aA 40 (bH ZG) ?_
 repeat' (simp only [aa,seval,vN,gV,zCD])
 refine zsJ _ _ (dD.lay _ _) _ (λhs h' x=>?_) (λhs h' x=>?_)
 rotate_left
 ·(replace z:=z.ao x;rw [aw h'])
  repeat' (first|simp only [aa,seval,vN]|((with_reducible apply cf);(· rfl)))
  exact h2 (λx=>hs x.says) _ _ (by decide) z.av
 have q0:=Holds.top (i:=0) x rfl
 (replace z:=z.ao x;rw [aw h'])
 repeat' (first|simp only [aa,seval,vN,q0.lay,zCE]|((with_reducible apply cf);(· rfl)))
 refine zzk _ _ ((dD.ext z).lay _ _) _ (λhp h' x=>?_) (λhp h' x=>?_)
 rotate_left
 ·(replace z:=z.ao x;( replace q0:=q0.over x );rw [aw h'])
  repeat' (first|simp only [aa,seval,vN]|((with_reducible apply cf);(· rfl)))
  exact h2 (λx=>hp x.pred) _ _ (by decide) z.av
 (replace z:=z.ao x;replace q0:=q0.over x;rw [aw h'])
 repeat' (first|simp only [aa,seval,vN,q0.lay,zAd,↓fe,dU,dq]|((with_reducible apply bS) <;> intro _)|((with_reducible apply cf);(· rfl)))
 all_goals try exact h2 (λx=>by have:=x.lo;have:=x.hi;omega) _ _ (by decide) z.av
 have yw:0<=a.n:=by omega
 have Ck:a.n<=4:=by omega
 have D8:a.bx=a.n.toNat:=Zb yw Ck
 refine QF a _ _ (λw h' x sw=>?_)
 (replace z:=z.ao x;replace q0:=q0.over x;rw [aw h'])
 repeat' (simp only [aa,seval,vN])
 refine zfA a.args w _ oM _ (sw.lay _ _) (by rw [Bc];have:=YC a;omega) (λt hc K' xe hK=>by rw [yJ];exact zuA t hc ((dD.ext z).lay _ _ |>.ext xe) K' hK) _ (λh' x=>?_)
 (replace z:=z.ao x;replace q0:=q0.over x;rw [aw h'])
 cases wg:a.args.any oM
 rotate_left
 .repeat' ( simp only [aa,seval,vN])
  refine h2 (λx=>?_) _ _ (by decide) z.av
  obtain ⟨t,ht,hb⟩:=Gi.1 wg
  obtain ⟨i,hi,rfl⟩:=lQ.1 ht
  have:=x.fx i (bX.1 hi).2
  unfold oM at hb
  simp [this] at hb
 have ES:∀ i:Nat,(i:Int) < a.n->dh (a.arg i):=λi hi=>by
  have:=NN.1 wg (a.arg i) (lQ.2 ⟨i,by omega,rfl⟩)
  unfold oM at this
  simpa using this
 obtain ⟨k,hk⟩:=Int.eq_ofNat_of_zero_le yw
 have Ch:k<=4:=by omega
 have ia:=zAz
 have fL:=zB4 q0 k Ch
 have tT:(0:Int)<=a.n/\a.n<=4:=⟨yw,Ck⟩
 repeat' (simp only [aa,seval,vN,q0.lay,zAd,zAz _ _ _ yw Ck])
 have Kr:a.n.toNat=k:=by omega
 rw [Kr]
 obtain ⟨sv,K0⟩:∃ sv,sv=Value.slice (some ⟨h.size+0,if 4=k then 3 else 3+k*2,none⟩) (4 - k) (4 - k):=⟨_,rfl⟩
 rw [<- K0] at fL ⊢
 clear ia
 obtain ⟨I1,aX⟩:∃ I:Nat->Env->Heap->Prop,I=(λn e h'=>∃ (i:Nat) (h1:Heap),h'=h1.lay [] h1.low/\Ext h h1/\(n=4 - k - i/\i<=4 - k/\(∀ t∈(a.all.drop k).take i,t=bD)/\Sl aC.term h1 sv (a.all.drop k))/\∃ J:Nat->ai,e=(jr J 0 31 (sv::.int .i64 ((4 - k:Nat):Int)::.int .i64 i::jr J 34 7 ([])))):=⟨_,rfl⟩
 refine dN I1 _ (by rw [aX];exact ⟨0,_,rfl,z,⟨rfl,by omega,by simp,fL⟩,bo⟩) ?_
 intro n e h' aP
 rw [aX] at aP
 obtain ⟨i,bU,rfl,z,hinv,J,rfl⟩:=aP
 clear fL q0
 obtain ⟨rfl,hi,aB,fL⟩:=hinv
 have jB:=eE i (by omega)
 have pH:=MR a k
 simp only [aa,seval,vN]
 refine bS (λaT=>?_) (λaT=>?_)
 rotate_left
 .rw [gb (by omega)] at aB
  repeat' (simp only [aa,seval,vN])
  refine h1 ⟨hs,hp,yw,Ck,ES,λj hj hj4=>?_⟩ _ z.av
  have mr:=Zd a (k:=k) (i:=j - k) (by omega)
  have e:k+(j - k)=j:=by omega
  rw [e] at mr
  exact aB _ (en mr)
 obtain ⟨⟨rv,rs⟩,hr,cw⟩:=gC (l:=a.all.drop k) (i:=i) (by omega)
 have hri:a.arg (k+i)=⟨rv,rs⟩:=Option.some.inj ((Zd a (by omega)).symm.trans cw)
 repeat' (first|simp only [aa,seval,vN,iy,gS,iI,Am.one,im,gd,gN,ay.val,ay.cells,ztK,zqv]|((with_reducible apply Bv) <;> intro _)|with_reducible refine QT fL oS i4 (by omega) hr (λp hp=>?_)|with_reducible refine Lh hp tu i4 ?_)
 .refine h2 (λx=>?_) _ _ (by decide) z.av
  have:=x.rest (k+i) (by omega) (by omega)
  rw [hri] at this
  exact absurd this (by assumption)
 .have Uy:(⟨rv,rs⟩:ay)=bD:=‹(⟨rv,rs⟩:ay)=⟨false,⟨#[]⟩⟩›
  rw [jB]
  refine Ho z.av (λH z hO hI=>?_)
  (rw [aX];with_reducible refine cF (m:=_) ?_ ⟨i+1,_,rfl,z,⟨rfl,by omega,rY (i:=i) (P:=λt:ay=>t=bD) cw aB Uy,fL.mono hI⟩,bo⟩;omega)
theorem zxi (a:ae) (bv:Bool) (h:Heap) (K:aJ) (hk:∀ w l h',Ext h h'->Sl aC.str h' w l->l.length<=4->(∀ x,x∈l↔∃ i:Nat,i < a.bx/\(a.arg i).v=bv/\(a.arg i).s=x)->K w h'):Ok prog aH ov 135 [a.val,.bool bv] h K:=by
 rw [aw h]
 have z:=Ext.refl h
 have m9:=YC a
 refine Ok.aA 31 (bH I0) ?_
 repeat' (simp only [aa,seval,oO,gV,↓fe,dU,dq])
 refine QF a _ _ (λw h' x sw=>?_)
 (replace z:=z.ao x;rw [aw h'])
 have sK:=λ(hh:Heap)=>sw.bQ oS hh
 have pH:=Bc a
 have sS:=z.size
 simp only [aa,seval,oO,sK]
 obtain ⟨Hb,rfl⟩:∃ Hb,Hb=h':=⟨_,rfl⟩
 obtain ⟨I1,aX⟩:∃ I:Nat->Env->Heap->Prop,I=(λn e h'=>∃ (i:Nat) (wv:ai) (A:Nat) (l:List aU) (h1:Heap),h'=h1.lay [] h1.low/\Ext h h1/\(n=a.bx - i/\i<=a.bx/\l.length<=i/\(∀ x,x∈l↔∃ j:Nat,j < i/\(a.arg j).v=bv/\(a.arg j).s=x)/\Ow aC.str h h1 9 A wv l/\bN Hb h1/\Hb.size<=A)/\∃ J:Nat->ai,e=(J 0::.bool bv::jr J 2 3 (wv::jr J 6 3 (w::.int .i64 a.args.length::.int .i64 i::jr J 12 21 ([]))))):=⟨_,rfl⟩
 refine dN I1 _ (by rw [aX];exact ⟨0,.slice none 0 0,Hb.size,[],_,rfl,z,⟨rfl,by omega,by simp,by simp,Ow.nil (by omega),bN.refl _,aR _⟩,bo⟩) ?_
 intro n e h' aP
 rw [aX] at aP
 obtain ⟨i,wv,A,l,bU,rfl,z,hinv,J,rfl⟩:=aP
 obtain ⟨rfl,hi,pe,dR,ow,ib,Uh⟩:=hinv
 have jB:=eE i (by omega)
 simp only [aa,seval,oO]
 refine bS (λaT=>?_) (λaT=>?_)
 rotate_left
 .have he:i=a.bx:=by omega
  rw [he] at dR
  repeat' (simp only [aa,seval,oO])
  exact hk _ _ _ z.av ((ow.sl (by decide)).lay _ _) (by omega) dR
 have mr:=Go.Am.args_at (a:=a) (i:=i) (by omega)
 rcases yy:a.arg i with ⟨rv,rs⟩
 rw [yy] at mr
 have hr:a.args[(i:Int).toNat]? = some ⟨rv,rs⟩:=by rw [uK];exact mr
 have sO:∀ x,(∃ j:Nat,j < i+1/\(a.arg j).v=bv/\(a.arg j).s=x)↔(∃ j:Nat,j < i/\(a.arg j).v=bv/\(a.arg j).s=x)\/(rv=bv/\rs=x):=by
  intro x
  constructor
  .rintro ⟨j,hj,e⟩
   by_cases El:j=i
   .subst El
    rw [yy] at e
    exact .inr e
   .exact .inl ⟨j,by omega,e⟩
  .rintro (⟨j,hj,e⟩|e)
   .exact ⟨j,by omega,e⟩
   .exact ⟨i,by omega,by rw [yy];exact e⟩
 repeat' (first|simp only [aa,seval,oO,iy,gS,iI,Am.one,im,gd,gN,ay.val,ay.cells]|with_reducible refine QT (sw.mono ib) oS i4 (by omega) hr (λp hp=>?_)|with_reducible refine Lh hp tu i4 ?_)
 have qq:(¬ rv=bv\/rs∈l)->∀ x,x∈l↔∃ j:Nat,j < i+1/\(a.arg j).v=bv/\(a.arg j).s=x:=by
  intro hs x
  rw [sO,<- dR]
  refine ⟨.inl,λe=>e.elim id (λe=>?_)⟩
  rcases hs with hs|hs
  .exact absurd e.1 hs
  .rw [<- e.2];exact hs
 have sL:rv=bv->∀ x,x∈l++[rs]↔∃ j:Nat,j < i+1/\(a.arg j).v=bv/\(a.arg j).s=x:=by
  intro hs x
  rw [sO,<- dR,gg,ep]
  exact ⟨λe=>e.imp id (λe=>⟨hs,e.symm⟩),λe=>e.imp id (λe=>e.2.symm)⟩
 have b1:(true == false)=false:=rfl
 have b2:(false == true)=false:=rfl
 have b3:(true == true)=true:=rfl
 have b4:(false == false)=true:=rfl
 have pM:=z.size
 cases rv
 all_goals
  cases bv
  all_goals
   repeat' (simp only [aa,seval,oO,zyy,b1,b2])
 all_goals first
  |(rw [jB]
    have EN:=qq (.inl (by decide))
    refine Ho z.av (λH z hO hI=>?_)
    (rw [aX];with_reducible refine cF (m:=_) ?_ ⟨i+1,wv,A,l,_,rfl,z,⟨rfl,by omega,by omega,EN,ow.mono hI,ib.trans hI,Uh⟩,bo⟩;omega))
  |skip
 all_goals
  refine zg7 l wv rs _ ((ow.sl (by decide)).lay _ _) (by omega) _ (λh' x=>?_)
  have q0:=Holds.top (i:=0) x rfl
  (replace z:=z.ao x;replace ow:=ow.over x;replace ib:=ib.over x;rw [aw h'])
  cases aP:l.any λx=>decide (rs=x)
  rotate_left
  .have EN:=qq (.inr (by obtain ⟨y,hy,e⟩:=Gi.1 aP;rw [of_decide_eq_true e];exact hy))
   repeat' (first|simp only [aa,seval,oO]|((with_reducible apply cf);(· rfl)))
   rw [jB]
   (rw [aX];with_reducible refine cF (m:=_) ?_ ⟨i+1,wv,A,l,_,rfl,z,⟨rfl,by omega,by omega,EN,ow,ib,Uh⟩,bo⟩;omega)
  have ic:=sL rfl
  repeat' (first|simp only [aa,seval,oO,q0.lay]|((with_reducible apply cf);(· rfl)))
  simp only [cm,seval,jF,W1]
 all_goals
  refine te (i:=0) (cs:=[.string rs]) (x:=rs) hY Qb rfl (by decide) (by rfl) z.size ow rfl (by omega) (by omega) (λw3 h3 A3 jS eU jM=>?_)
  have wz:=ow.fresh
  have ib3:=bN.eV (ib.trans (bN.lay _ _ _)) eU Uh
  have tI:=ib.size
  replace z:=z.av.step eU (by omega)
  rw [aw h3]
  repeat' (simp only [aa,seval,oO])
  rw [jB]
  clear ow q0
  (rw [aX];with_reducible refine cF (m:=_) ?_ ⟨i+1,w3,A3,l++[rs],_,rfl,z,⟨rfl,by omega,by rw [cE,gF];omega,ic,jS,ib3,by omega⟩,bo⟩;omega)
theorem zsN (a:ae) (h:Heap) (K:aJ) (hk:∀ w l h',Ext h h'->Sl aC.str h' w l->l.length<=4->(∀ x,x∈l↔la a x)->K w h'):Ok prog aH ov 109 [a.val] h K:=by
 rw [aw h]
 have z:=Ext.refl h
 refine Ok.aA 4 (bH Iz) ?_
 repeat' (simp only [aa,seval,Jj,gV,↓fe,dU,dq])
 refine zxi a true _ _ (λw l h' x s hl hm=>?_)
 (replace z:=z.ao x;rw [aw h'])
 repeat' (simp only [aa,seval,Jj])
 exact hk _ _ _ z.av (s.lay _ _) hl (λx=>(hm x).trans jl.symm)
end Go.Proofs.YtnkmeidmdaidhaaGreatDoor
