/- The code of some functions, node by node, for simp. Written by a program (mkcode.py). No condition. -/
import Derived.Lib.Overlaps
import Derived.Lib.AppendZerosOnto
import Derived.Test.YtnkmeidmdaidhaaGreatDoorG26
set_option linter.unusedSimpArgs false
set_option linter.unusedVariables false
set_option maxRecDepth 100000
set_option maxHeartbeats 0
noncomputable section
namespace Go.Proofs.YtnkmeidmdaidhaaGreatDoor
open Go.Am Tryz
def Wa:=bD f88
def YX:=PLift.up (by have c:=bG Wa f88;simp only [aQ,f88,seval] at c;exact nd c <| nd @lq <| nd @FX <| nd @r9 <| nd @Kj <| nd @C6 <| nd @xC <| nd @jm <| nd @cj <| nd @jZ <| nd @xH <| @Ph)
theorem qe:type_of% YX.down:=YX.down
def VI:=bD f53
def Yu:=PLift.up (by have c:=bG VI f53;simp only [aQ,f53,seval] at c;exact nd c <| nd @cj <| @OO)
theorem DH:type_of% Yu.down:=Yu.down
def Ai:=bD f117
def IF:=PLift.up (by have c:=bG Ai f117;simp only [aQ,f117,seval] at c;exact nd c <| nd @fJ <| nd @cj <| nd @zA6 <| @zBn)
theorem fH:type_of% IF.down:=IF.down
def FO:=bD f150
def I6:=PLift.up (by have c:=bG FO f150;simp only [aQ,f150,seval] at c;exact nd c <| nd @fJ <| nd @cj <| nd @zBm <| @zBq)
theorem nu:type_of% I6.down:=I6.down
def FM:=bD f138
def IY:=PLift.up (by have c:=bG FM f138;simp only [aQ,f138,seval] at c;exact nd c <| nd @zBk <| @zBp)
theorem mF:type_of% IY.down:=IY.down
def gV:=bD f118
def IG:=PLift.up (by have c:=bG gV f118;simp only [aQ,f118,seval] at c;exact nd c <| nd @fJ <| nd @cj <| nd @zA7 <| @zBo)
theorem bA:type_of% IG.down:=IG.down
def Np:=bD f86
def YW:=PLift.up (by have c:=bG Np f86;simp only [aQ,f86,seval] at c;exact nd c <| nd @Pg <| @Pz)
theorem mG:type_of% YW.down:=YW.down
def Nl:=bD f52
def Yt:=PLift.up (by have c:=bG Nl f52;simp only [aQ,f52,seval] at c;exact nd c <| nd @fK <| nd @ON <| @Pv)
theorem KJ:type_of% Yt.down:=Yt.down
def Nk:=bD f51
def Ys:=PLift.up (by have c:=bG Nk f51;simp only [aQ,f51,seval] at c;exact nd c <| nd @oO <| @OM)
theorem yH:type_of% Ys.down:=Ys.down
def Nn:=bD f54
def Yv:=PLift.up (by have c:=bG Nn f54;simp only [aQ,f54,seval] at c;exact nd c <| nd @fJ <| nd @cj <| nd @fK <| @OP)
theorem kZ:type_of% Yv.down:=Yv.down
def VJ:=bD f55
def Yw:=PLift.up (by have c:=bG VJ f55;simp only [aQ,f55,seval] at c;exact nd c <| nd @cj <| @OQ)
theorem KK:type_of% Yw.down:=Yw.down
def Vq:=bD f27
def X8:=PLift.up (by have c:=bG Vq f27;simp only [aQ,f27,seval] at c;exact nd c <| @Om)
theorem AA:type_of% X8.down:=X8.down
theorem Za:rH aH 29 29=true:=by kernel_rfl
theorem zyQ (a:ae):a.cells[0]? = some (.string a.says):=rfl
theorem zyR (a:ae):a.cells[1]? = some (.string a.pred):=rfl
theorem zvr (a:ae) (ha:a.bE=true) (h:Heap) (K:aL)
 (hk:∀ h',Ext h h'->K (.string ⟨(gu a).toArray⟩) h'):Ok prog aH ov 88 [a.val] h K:=by
 rw [aq h]
 have z:=Ext.refl h
 obtain ⟨mQ,eX⟩:=zsG ha
 refine Ok.aC 37 (bH Wa) ?_
 simp only [aa,seval,qe,iB,zyQ]
 refine Jz ?_ (λS1 yR HN=>?_)
 .show a.says.size+6<=_
  omega
 simp only [aa,seval,qe,zyR]
 refine Jz ?_ (λS hS kD=>?_)
 .rw [HN]
  show a.says.size+6+_<=_
  omega
 have WO:S.data.toList=a.says.data.toList++Kx++a.pred.data.toList:=by rw [hS,yR,Ka,Ka];rfl
 have hSz:S.size<=700:=by
  rw [kD,HN]
  show a.says.size+6+_<=_
  omega
 clear hS yR HN kD
 simp only [aa,seval,qe,↓eH,dJ,dt]
 refine MR a _ _ (λv H0 x hv=>?_)
 (replace z:=z.ao x;rw [aq H0])
 have po:=z.size
 simp only [aa,seval,qe]
 repeat' ((first|((with_reducible apply pK) <;> intro _)|with_reducible refine pG hv mH ?_) <;> simp only [aa,seval,qe])
 .have P3:S=⟨(gu a).toArray⟩:=zz1 (by rw [WO,zvY (by omega)])
  rw [P3]
  exact hk _ z.aw
 obtain ⟨I1,aY⟩:∃ I:Nat->Env->Heap->Prop,I=(λn e h'=>∃ (i:Nat) (w:ai) (A:Nat) (h1:Heap),h'=h1.lay [] h1.low/\Ext h h1/\(n=a.args.length - i/\i<=a.args.length/\Ow aF.str H0 h1 9 A w ((a.args.take i).map (·.s))/\bQ H0 h1)/\∃ J:Nat->ai,e=(jr J 0 3 (.string S::J 4::w::jr J 6 14 (v::.int .i64 a.args.length::.int .i64 i::jr J 23 15 ([]))))):=⟨_,rfl⟩
 refine dV I1 _ (by rw [aY];exact ⟨0,.slice none 0 0,H0.size,_,rfl,z,⟨rfl,by omega,Ow.nil (aS _),bQ.refl _⟩,bw⟩) ?_
 intro n e h' aT
 rw [aY] at aT
 obtain ⟨i,w,A,bW,rfl,z,hinv,J,rfl⟩:=aT
 obtain ⟨rfl,hi,ho,i1⟩:=hinv
 have oo:a.args.length<=4:=by rw [xV];unfold ae.cH;omega
 have hw:=fe i (by omega)
 have hz:=z.size
 simp only [aa,seval,qe]
 refine b9 (λaW=>?_) (λaW=>?_)
 rotate_left
 .simp only [aa,seval,qe]
  rw [iK (by omega)] at ho
  have hJ:=zsx ha
  have oz:(a.args.map (·.s)).map (·.data.toList)=lN a:=by rw [List.map_map];rfl
  have RB:∀ (h:Heap) (K:aL),aK (some w) h K=K w h:=λ_ _=>rfl
  refine Jz ?_ (λS3 hS3 Cc=>?_)
  .show S.size+1<=_
   omega
  have agy:S3.size<=701:=by
   rw [Cc]
   show S.size+1<=_
   omega
  have P4:S3.data.toList=S.data.toList++[40]:=by rw [hS3,Ka]
  simp only [aa,seval,qe]
  refine Ok.over (g:=Dw) rfl (zzc ((ho.sl (by decide)).lay _ _) (λe=>by have:=congrArg List.length e;rw [fN,cW] at this;omega) (by rw [fN];omega) (by rw [oz];exact dZ hJ (by decide))) ?_
  rw [oz]
  obtain ⟨J2,WH⟩:∃ J2:bf,J2=⟨(Lib.join (lN a) (ByteArray.mk #[44,32]).data.toList).toArray⟩:=⟨_,rfl⟩
  rw [<- WH]
  have WI:J2.data.toList=Lib.join (lN a) eU:=by rw [WH];rfl
  have hJz:J2.size<=1300:=by rw [<- FY,WI];exact hJ
  simp only [aa,seval,qe]
  refine Jz ?_ (λS4 hS4 vC=>?_)
  .omega
  simp only [aa,seval,qe]
  refine Jz ?_ (λS5 hS5 pq=>?_)
  .rw [vC]
   show S3.size+J2.size+1<=_
   omega
  repeat' (simp only [aa,seval,qe])
  have hS6:S5=⟨(gu a).toArray⟩:=zz1 (by rw [hS5,Ka,hS4,Ka,P4,WO,WI,zvZ (by omega)])
  rw [hS6]
  exact hk _ z.aw
 obtain ⟨r,hr,cv⟩:=ig (l:=a.args) (i:=i) aW
 simp only [aa,seval,qe]
 repeat' ((first|with_reducible refine MV (hv.mono i1) mH gL (by omega) hr (λp hp=>?_)|with_reducible refine HY hp qI gL ?_) <;> simp only [aa,seval,qe,gy,gA,il,Am.one,gv,eA,gh,az.val,az.cells])
 simp only [bM,seval,j4,Za]
 obtain ⟨Rl,kC⟩:=EE (A:=A) (B:=bW.size+1) (r:=aF.str) (c:=1) (y:=r.s) (by decide) (show (bW.lay [bc.row [Value.bool r.v,Value.string r.s] 25 false,bc.row [Value.string r.s] 9 false] (min bW.low (bW.size+0))).get (bW.size+1)=some (.row [Value.string r.s] 9 false) by rw [kM];rfl) rfl
 have dm:=ho.fresh
 have DX:((a.args.take i).map (·.s)).length<=4:=by rw [fN,hZ];omega
 refine zt0 (r:=aF.str) kg TQ rfl (by decide) i1.size ho Rl kC (by omega) (by omega) (λw' h2 A' o2 c2 Wx=>?_)
 replace z:=z.aw.step c2 (by omega)
 have i2:=zza (i1.trans (bQ.lay _ _ _)) c2 dm
 have mT:(a.args.take (i+1)).map (·.s)=(a.args.take i).map (·.s)++[r.s]:=by rw [od,cv,rM];rfl
 rw [<- mT] at o2
 rw [aq h2]
 have RB:∀ (h:Heap) (K:aL),aK (some w') h K=K w' h:=λ_ _=>rfl
 repeat' (simp only [aa,seval,qe])
 rw [hw]
 (rw [aY];with_reducible refine cR (m:=_) ?_ ⟨i+1,w',A',_,rfl,z,⟨rfl,by omega,o2,i2⟩,bw⟩;omega)
 trace_state
theorem Kf (a b:ae) (ha:a.bE=true) (hb:b.bE=true) (h:Heap) (K:aL)
 (hk:∀ h',Ext h h'->K (.int .i64 (aZ a b)) h'):Ok prog aH ov 53 [a.val,b.val] h K:=by
 rw [aq h]
 have z:=Ext.refl h
 refine Ok.aC 8 (bH VI) ?_
 repeat' (simp only [aa,seval,DH,iB])
 refine (dO (by simp only [DH])) z.aw ?_
 simp only [aa,seval,DH,↓eH,dJ,dt]
 refine zvr a ha _ _ (λh' x=>?_)
 have q1:=ak.top (i:=1) x rfl
 (((with_reducible refine fC ?_ ?_ ?_);(· exact (by (simp only [fT]);have:=z.size;omega));(· exact x));replace z:=z.ao x;rw [aq h'])
 repeat' (simp only [aa,seval,DH,q1.lay,↓eH,dJ,dt])
 refine zvr b hb _ _ (λh' x=>?_)
 (((with_reducible refine fC ?_ ?_ ?_);(· exact (by (simp only [fT]);have:=z.size;omega));(· exact x));replace z:=z.ao x;rw [aq h'])
 repeat' (simp only [aa,seval,DH])
 refine Ok.over (g:=JI) rfl rfl ?_
 refine fC (by have:=z.size;rw [bo];omega) (by simpa only [bK,bo,bu,cW,gw] using Ext.refl (h'.lay [] h'.size)) ?_
 repeat' (first|simp only [aa,seval,DH]|((with_reducible refine ⟨z.cI.lay _ _,?_⟩);(intro _ h' zz x _);(simp only [bK,bu] at x);(replace z:=zz);(clear zz);rw [aq h']))
 exact hk _ z.aw
end Go.Proofs.YtnkmeidmdaidhaaGreatDoor
namespace Go.Am
open Go.RowKit
section
variable {P:Program} {gs:List Nat} {ρ:cf} {h:Heap} {w:World}

end
end Go.Am
namespace Go.Am
theorem bQ.over {a h1 h2:Heap} {l:List bc} {w:Nat} (i:bQ a h1) (x:Ext (h1.lay l w) h2):bQ a h2:=(i.trans (bQ.lay _ _ _)).trans x.inc
end Go.Am
namespace Go.Proofs.YtnkmeidmdaidhaaGreatDoor
open Go.Am Tryz
theorem zyl (A o:Nat) (k:Int) (h0:0<=k) (h4:k<=4):jQ aH 26 (.pointer (some ⟨A,o,none⟩)) (some (.int .i64 k)) none none=some (.slice (some ⟨A,if 4=k.toNat then o else o+k.toNat*2,none⟩) (4 - k.toNat) (4 - k.toNat)):=by
 have hG:4 < G:=by decide
 simp only [jQ,AK,oC,uT,aG hG,dz]
 rw [aG ⟨h0,by omega⟩]
 simp [gL]
theorem Jl (a:ae) (k:Nat):(a.all.drop k).length=4 - k:=by rw [oe];rfl
theorem UT (a:ae) {k i:Nat} (h:k+i < 4):(a.all.drop k)[i]? = some (a.arg (k+i)):=by
 rw [ka]
 have:k+i=0\/k+i=1\/k+i=2\/k+i=3:=by omega
 rcases this with e|e|e|e <;> rw [e] <;> rfl
theorem zzC {H:Heap} {A:Nat} {a:ae} {u:TypeId} {ro:Bool} (q:ak H A (.row a.cells u ro)) (k:Nat) (hk:k<=4):Sl aF.term H (.slice (some ⟨A,if 4=k then 3 else 3+k*2,none⟩) (4 - k) (4 - k)) (a.all.drop k):=by
 refine .inr ⟨A,_,4 - k,a.cells,u,ro,by rw [Jl],by rw [Jl];unfold maxLen;omega,.inl ⟨by unfold G;omega,by rw [Jl];exact aS _⟩,q.lt,q.get,λi x hx=>?_⟩
 have hi:i < 4 - k:=by have:=(fD.1 hx).1;rw [Jl] at this;exact this
 rw [UT a (by omega)] at hx
 cases hx
 have hc:=JN a (k+i) (by omega)
 rw [aA (by omega)]
 refine ⟨_,?_,rfl⟩
 show cut a.cells (3+k*2+i*2) 2=_
 rw [<- hc]
 congr 1
 omega
theorem zAc (a:ae):a.cells[0]? = some (.string a.says):=rfl
theorem zAd (a:ae):a.cells[1]? = some (.string a.pred):=rfl
theorem zxX (a:ae):a.cells[2]? = some (.int .i64 a.n):=rfl
theorem JE (a:ae) (h:Heap) (cY:bj 1 h) (K:aL) (h1:bT a->∀ h',Ext h h'->K (.int .i64 0) h') (h2:¬ bT a->∀ c h',c≠0->Ext h h'->K (.int .i64 c) h'):Ok prog aH ov 25 [a.val] h K:=by
 rw [aq h]
 have z:=Ext.refl h
 refine Ok.aC 40 (bH Vo) ?_
 repeat' (simp only [aa,seval,sM,iB,zAc])
 refine zre _ _ (cY.lay _ _) _ (λhs h' x=>?_) (λhs h' x=>?_)
 rotate_left
 ·(replace z:=z.ao x;rw [aq h'])
  repeat' (first|simp only [aa,seval,sM]|((with_reducible apply cn);(· rfl)))
  exact h2 (λx=>hs x.says) _ _ (by decide) z.aw
 have q0:=ak.top (i:=0) x rfl
 (replace z:=z.ao x;rw [aq h'])
 repeat' (first|simp only [aa,seval,sM,q0.lay,zAd]|((with_reducible apply cn);(· rfl)))
 refine zw7 _ _ ((cY.ext z).lay _ _) _ (λhp h' x=>?_) (λhp h' x=>?_)
 rotate_left
 ·(replace z:=z.ao x;( replace q0:=q0.over x );rw [aq h'])
  repeat' (first|simp only [aa,seval,sM]|((with_reducible apply cn);(· rfl)))
  exact h2 (λx=>hp x.pred) _ _ (by decide) z.aw
 (replace z:=z.ao x;replace q0:=q0.over x;rw [aq h'])
 repeat' (first|simp only [aa,seval,sM,q0.lay,zxX,↓eH,dJ,dt]|((with_reducible apply b9) <;> intro _)|((with_reducible apply cn);(· rfl)))
 all_goals try exact h2 (λx=>by have:=x.lo;have:=x.hi;omega) _ _ (by decide) z.aw
 have xm:0<=a.n:=by omega
 have BF:a.n<=4:=by omega
 have Bh:a.cH=a.n.toNat:=zx0 xm BF
 refine MR a _ _ (λw h' x sw=>?_)
 (replace z:=z.ao x;replace q0:=q0.over x;rw [aq h'])
 repeat' (simp only [aa,seval,sM])
 refine Zk a.args w _ mC _ (sw.lay _ _) (by rw [xV];have:=zqN a;omega) (λt hc K' xe hK=>by rw [vL];exact zsR t hc ((cY.ext z).lay _ _ |>.ext xe) K' hK) _ (λh' x=>?_)
 (replace z:=z.ao x;replace q0:=q0.over x;rw [aq h'])
 cases tb:a.args.any mC
 rotate_left
 .repeat' ( simp only [aa,seval,sM])
  refine h2 (λx=>?_) _ _ (by decide) z.aw
  obtain ⟨t,ht,hb⟩:=Dl.1 tb
  obtain ⟨i,hi,rfl⟩:=jU.1 ht
  have:=x.ie i (iu.1 hi).2
  unfold mC at hb
  simp [this] at hb
 have B4:∀ i:Nat,(i:Int) < a.n->eR (a.arg i):=λi hi=>by
  have:=Kc.1 tb (a.arg i) (jU.2 ⟨i,by omega,rfl⟩)
  unfold mC at this
  simpa using this
 obtain ⟨k,hk⟩:=Int.eq_ofNat_of_zero_le xm
 have G3:k<=4:=by omega
 have gx:=zyl
 have fP:=zzC q0 k G3
 have G2:(0:Int)<=a.n/\a.n<=4:=⟨xm,BF⟩
 repeat' (simp only [aa,seval,sM,q0.lay,zxX,zyl _ _ _ xm BF])
 have G5:a.n.toNat=k:=by omega
 rw [G5]
 obtain ⟨sv,HB⟩:∃ sv,sv=Value.slice (some ⟨h.size+0,if 4=k then 3 else 3+k*2,none⟩) (4 - k) (4 - k):=⟨_,rfl⟩
 rw [<- HB] at fP ⊢
 clear gx
 obtain ⟨I1,aY⟩:∃ I:Nat->Env->Heap->Prop,I=(λn e h'=>∃ (i:Nat) (h1:Heap),h'=h1.lay [] h1.low/\Ext h h1/\(n=4 - k - i/\i<=4 - k/\(∀ t∈(a.all.drop k).take i,t=di)/\Sl aF.term h1 sv (a.all.drop k))/\∃ J:Nat->ai,e=(jr J 0 31 (sv::.int .i64 ((4 - k:Nat):Int)::.int .i64 i::jr J 34 7 ([])))):=⟨_,rfl⟩
 refine dV I1 _ (by rw [aY];exact ⟨0,_,rfl,z,⟨rfl,by omega,by simp,fP⟩,bw⟩) ?_
 intro n e h' aT
 rw [aY] at aT
 obtain ⟨i,bW,rfl,z,hinv,J,rfl⟩:=aT
 clear fP q0
 obtain ⟨rfl,hi,aD,fP⟩:=hinv
 have jx:=fe i (by omega)
 have oo:=Jl a k
 simp only [aa,seval,sM]
 refine b9 (λaW=>?_) (λaW=>?_)
 rotate_left
 .rw [iK (by omega)] at aD
  repeat' (simp only [aa,seval,sM])
  refine h1 ⟨hs,hp,xm,BF,B4,λj hj hj4=>?_⟩ _ z.aw
  have ki:=UT a (k:=k) (i:=j - k) (by omega)
  have e:k+(j - k)=j:=by omega
  rw [e] at ki
  exact aD _ (fV ki)
 obtain ⟨⟨rv,rs⟩,hr,cv⟩:=ig (l:=a.all.drop k) (i:=i) (by omega)
 have hri:a.arg (k+i)=⟨rv,rs⟩:=Option.some.inj ((UT a (by omega)).symm.trans cv)
 repeat' (first|simp only [aa,seval,sM,gy,gA,il,Am.one,gv,eA,gh,az.val,az.cells,zr5,zo3]|((with_reducible apply C7) <;> intro _)|with_reducible refine MV fP mH gL (by omega) hr (λp hp=>?_)|with_reducible refine HY hp qI gL ?_)
 .refine h2 (λx=>?_) _ _ (by decide) z.aw
  have:=x.rest (k+i) (by omega) (by omega)
  rw [hri] at this
  exact absurd this (by assumption)
 .have Qs:(⟨rv,rs⟩:az)=di:=‹(⟨rv,rs⟩:az)=⟨false,⟨#[]⟩⟩›
  rw [jx]
  refine Es z.aw (λH z hO hI=>?_)
  (rw [aY];with_reducible refine cR (m:=_) ?_ ⟨i+1,_,rfl,z,⟨rfl,by omega,uI (i:=i) (P:=λt:az=>t=di) cv aD Qs,fP.mono hI⟩,bw⟩;omega)
theorem zvm (a:ae) (bv:Bool) (h:Heap) (K:aL) (hk:∀ w l h',Ext h h'->Sl aF.str h' w l->l.length<=4->(∀ x,x∈l↔∃ i:Nat,i < a.cH/\(a.arg i).v=bv/\(a.arg i).s=x)->K w h'):Ok prog aH ov 135 [a.val,.bool bv] h K:=by
 rw [aq h]
 have z:=Ext.refl h
 have oZ:=zqN a
 refine Ok.aC 31 (bH FJ) ?_
 repeat' (simp only [aa,seval,mE,iB,↓eH,dJ,dt])
 refine MR a _ _ (λw h' x sw=>?_)
 (replace z:=z.ao x;rw [aq h'])
 have rS:=λ(hh:Heap)=>sw.bP mH hh
 have oo:=xV a
 have po:=z.size
 simp only [aa,seval,mE,rS]
 obtain ⟨Hb,rfl⟩:∃ Hb,Hb=h':=⟨_,rfl⟩
 obtain ⟨I1,aY⟩:∃ I:Nat->Env->Heap->Prop,I=(λn e h'=>∃ (i:Nat) (wv:ai) (A:Nat) (l:List bf) (h1:Heap),h'=h1.lay [] h1.low/\Ext h h1/\(n=a.cH - i/\i<=a.cH/\l.length<=i/\(∀ x,x∈l↔∃ j:Nat,j < i/\(a.arg j).v=bv/\(a.arg j).s=x)/\Ow aF.str h h1 9 A wv l/\bQ Hb h1/\Hb.size<=A)/\∃ J:Nat->ai,e=(J 0::.bool bv::jr J 2 3 (wv::jr J 6 3 (w::.int .i64 a.args.length::.int .i64 i::jr J 12 21 ([]))))):=⟨_,rfl⟩
 refine dV I1 _ (by rw [aY];exact ⟨0,.slice none 0 0,Hb.size,[],_,rfl,z,⟨rfl,by omega,by simp,by simp,Ow.nil (by omega),bQ.refl _,aS _⟩,bw⟩) ?_
 intro n e h' aT
 rw [aY] at aT
 obtain ⟨i,wv,A,l,bW,rfl,z,hinv,J,rfl⟩:=aT
 obtain ⟨rfl,hi,tz,eD,ow,ib,Qf⟩:=hinv
 have jx:=fe i (by omega)
 simp only [aa,seval,mE]
 refine b9 (λaW=>?_) (λaW=>?_)
 rotate_left
 .have he:i=a.cH:=by omega
  rw [he] at eD
  repeat' (simp only [aa,seval,mE])
  exact hk _ _ _ z.aw ((ow.sl (by decide)).lay _ _) (by omega) eD
 have ki:=Go.Am.args_at (a:=a) (i:=i) (by omega)
 rcases vx:a.arg i with ⟨rv,rs⟩
 rw [vx] at ki
 have hr:a.args[(i:Int).toNat]? = some ⟨rv,rs⟩:=by rw [wj];exact ki
 have Xq:∀ x,(∃ j:Nat,j < i+1/\(a.arg j).v=bv/\(a.arg j).s=x)↔(∃ j:Nat,j < i/\(a.arg j).v=bv/\(a.arg j).s=x)\/(rv=bv/\rs=x):=by
  intro x
  constructor
  .rintro ⟨j,hj,e⟩
   by_cases QI:j=i
   .subst QI
    rw [vx] at e
    exact .inr e
   .exact .inl ⟨j,by omega,e⟩
  .rintro (⟨j,hj,e⟩|e)
   .exact ⟨j,by omega,e⟩
   .exact ⟨i,by omega,by rw [vx];exact e⟩
 repeat' (first|simp only [aa,seval,mE,gy,gA,il,Am.one,gv,eA,gh,az.val,az.cells]|with_reducible refine MV (sw.mono ib) mH gL (by omega) hr (λp hp=>?_)|with_reducible refine HY hp qI gL ?_)
 have zf:(¬ rv=bv\/rs∈l)->∀ x,x∈l↔∃ j:Nat,j < i+1/\(a.arg j).v=bv/\(a.arg j).s=x:=by
  intro hs x
  rw [Xq,<- eD]
  refine ⟨.inl,λe=>e.elim id (λe=>?_)⟩
  rcases hs with hs|hs
  .exact absurd e.1 hs
  .rw [<- e.2];exact hs
 have HE:rv=bv->∀ x,x∈l++[rs]↔∃ j:Nat,j < i+1/\(a.arg j).v=bv/\(a.arg j).s=x:=by
  intro hs x
  rw [Xq,<- eD,ju,ek]
  exact ⟨λe=>e.imp id (λe=>⟨hs,e.symm⟩),λe=>e.imp id (λe=>e.2.symm)⟩
 have b1:(true == false)=false:=rfl
 have b2:(false == true)=false:=rfl
 have b3:(true == true)=true:=rfl
 have b4:(false == false)=true:=rfl
 have oA:=z.size
 cases rv
 all_goals
  cases bv
  all_goals
   repeat' (simp only [aa,seval,mE,zwq,b1,b2])
 all_goals first
  |(rw [jx]
    have Hy:=zf (.inl (by decide))
    refine Es z.aw (λH z hO hI=>?_)
    (rw [aY];with_reducible refine cR (m:=_) ?_ ⟨i+1,wv,A,l,_,rfl,z,⟨rfl,by omega,by omega,Hy,ow.mono hI,ib.trans hI,Qf⟩,bw⟩;omega))
  |skip
 all_goals
  refine ZC l wv rs _ ((ow.sl (by decide)).lay _ _) (by omega) _ (λh' x=>?_)
  have q0:=ak.top (i:=0) x rfl
  (replace z:=z.ao x;replace ow:=ow.over x;replace ib:=ib.over x;rw [aq h'])
  cases aT:l.any λx=>decide (rs=x)
  rotate_left
  .have Hy:=zf (.inr (by obtain ⟨y,hy,e⟩:=Dl.1 aT;rw [of_decide_eq_true e];exact hy))
   repeat' (first|simp only [aa,seval,mE]|((with_reducible apply cn);(· rfl)))
   rw [jx]
   (rw [aY];with_reducible refine cR (m:=_) ?_ ⟨i+1,wv,A,l,_,rfl,z,⟨rfl,by omega,by omega,Hy,ow,ib,Qf⟩,bw⟩;omega)
  have mT:=HE rfl
  repeat' (first|simp only [aa,seval,mE,q0.lay]|((with_reducible apply cn);(· rfl)))
  simp only [bM,seval,j4,Za]
 all_goals
  refine uR (i:=0) (cs:=[.string rs]) (x:=rs) kg TQ rfl (by decide) (by rfl) z.size ow rfl (by omega) (by omega) (λw3 h3 A3 iy ff jH=>?_)
  have DR:=ow.fresh
  have ib3:=bQ.ec (ib.trans (bQ.lay _ _ _)) ff Qf
  have AZ:=ib.size
  replace z:=z.aw.step ff (by omega)
  rw [aq h3]
  repeat' (simp only [aa,seval,mE])
  rw [jx]
  clear ow q0
  (rw [aY];with_reducible refine cR (m:=_) ?_ ⟨i+1,w3,A3,l++[rs],_,rfl,z,⟨rfl,by omega,by rw [dx,j9];omega,mT,iy,ib3,by omega⟩,bw⟩;omega)
theorem zrj (a:ae) (h:Heap) (K:aL) (hk:∀ w l h',Ext h h'->Sl aF.str h' w l->l.length<=4->(∀ x,x∈l↔sk a x)->K w h'):Ok prog aH ov 109 [a.val] h K:=by
 rw [aq h]
 have z:=Ext.refl h
 refine Ok.aC 4 (bH Fp) ?_
 repeat' (simp only [aa,seval,F0,iB,↓eH,dJ,dt])
 refine zvm a true _ _ (λw l h' x s hl hm=>?_)
 (replace z:=z.ao x;rw [aq h'])
 repeat' (simp only [aa,seval,F0])
 exact hk _ _ _ z.aw (s.lay _ _) hl (λx=>(hm x).trans rB.symm)
end Go.Proofs.YtnkmeidmdaidhaaGreatDoor
