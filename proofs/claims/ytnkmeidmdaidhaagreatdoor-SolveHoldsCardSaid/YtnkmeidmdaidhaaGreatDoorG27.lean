/- The code of some functions, node by node, for simp. Written by a program (mkcode.py). No condition. -/
import Derived.Lib.Overlaps
import Derived.Lib.AppendZerosOnto
import Derived.Test.YtnkmeidmdaidhaaGreatDoorG26
set_option linter.unusedSimpArgs false
set_option linter.unusedVariables false
set_option maxRecDepth 100000
set_option maxHeartbeats 0
noncomputable section
namespace Go.Proofs.YtnkmeidmdaidhaaGreatDoor
open Go.Am Tryz
def Yq:=bR f88
def x88:=PLift.up (by have c:=bU Yq f88;simp only [aS,f88,seval] at c;exact nd c <| nd @mQ <| nd @HK <| nd @uA <| nd @Mk <| nd @E0 <| nd @zt <| nd @kr <| nd @cJ <| nd @lD <| nd @zy <| @Rm)
theorem rW:type_of% x88.down:=x88.down
def XZ:=bR f53
def x53:=PLift.up (by have c:=bU XZ f53;simp only [aS,f53,seval] at c;exact nd c <| nd @cJ <| @QS)
theorem Fy:type_of% x53.down:=x53.down
def Cs:=bR f117
def KC:=PLift.up (by have c:=bU Cs f117;simp only [aS,f117,seval] at c;exact nd c <| nd @iF <| nd @cJ <| nd @zCb <| @zCs)
theorem gM:type_of% KC.down:=KC.down
def HC:=bR f150
def KT:=PLift.up (by have c:=bU HC f150;simp only [aS,f150,seval] at c;exact nd c <| nd @iF <| nd @cJ <| nd @zCr <| @zCv)
theorem pq:type_of% KT.down:=KT.down
def HA:=bR f138
def KQ:=PLift.up (by have c:=bU HA f138;simp only [aS,f138,seval] at c;exact nd c <| nd @zCp <| @zCu)
theorem n9:type_of% KQ.down:=KQ.down
def i7:=bR f118
def KD:=PLift.up (by have c:=bU i7 f118;simp only [aS,f118,seval] at c;exact nd c <| nd @iF <| nd @cJ <| nd @zCc <| @zCt)
theorem bL:type_of% KD.down:=KD.down
def PE:=bR f86
def x86:=PLift.up (by have c:=bU PE f86;simp only [aS,f86,seval] at c;exact nd c <| nd @Rl <| @RE)
theorem od:type_of% x86.down:=x86.down
def PC:=bR f52
def x52:=PLift.up (by have c:=bU PC f52;simp only [aS,f52,seval] at c;exact nd c <| nd @iG <| nd @QR <| @RA)
theorem MJ:type_of% x52.down:=x52.down
def PB:=bR f51
def x51:=PLift.up (by have c:=bU PB f51;simp only [aS,f51,seval] at c;exact nd c <| nd @qO <| @QQ)
theorem AB:type_of% x51.down:=x51.down
def PD:=bR f54
def x54:=PLift.up (by have c:=bU PD f54;simp only [aS,f54,seval] at c;exact nd c <| nd @iF <| nd @cJ <| nd @iG <| @QT)
theorem mC:type_of% x54.down:=x54.down
def X0:=bR f55
def x55:=PLift.up (by have c:=bU X0 f55;simp only [aS,f55,seval] at c;exact nd c <| nd @cJ <| @QU)
theorem MK:type_of% x55.down:=x55.down
def XK:=bR f27
def x27:=PLift.up (by have c:=bU XK f27;simp only [aS,f27,seval] at c;exact nd c <| @Qz)
theorem CC:type_of% x27.down:=x27.down
theorem zBM:tJ aJ 29 29=true:=by kernel_rfl
theorem zzW (a:ae):a.cells[0]? = some (.string a.says):=rfl
theorem zzX (a:ae):a.cells[1]? = some (.string a.pred):=rfl
theorem zwp (a:ae) (ha:a.bQ=true) (h:Heap) (K:aO)
 (hk:∀ h',Ext h h'->K (.string ⟨(iu a).toArray⟩) h'):Ok prog aJ ov 88 [a.val] h K:=by
 rw [az h]
 have z:=Ext.refl h
 obtain ⟨jo,eE⟩:=ztE ha
 refine Ok.aF 37 (bY Yq) ?_
 simp only [aa,seval,rW,js,zzW]
 refine Lf ?_ (λS1 AQ Uf=>?_)
 .show a.says.size+6<=_
  omega
 simp only [aa,seval,rW,zzX]
 refine Lf ?_ (λS hS mi=>?_)
 .rw [Uf]
  show a.says.size+6+_<=_
  omega
 have Y2:S.data.toList=a.says.data.toList++MB++a.pred.data.toList:=by rw [hS,AQ,L9,L9];rfl
 have hSz:S.size<=700:=by
  rw [mi,Uf]
  show a.says.size+6+_<=_
  omega
 clear hS AQ Uf mi
 simp only [aa,seval,rW,↓fU,eG,dS]
 refine O3 a _ _ (λv H0 x hv=>?_)
 (replace z:=z.au x;rw [az H0])
 have tu:=z.size
 simp only [aa,seval,rW]
 repeat' ((first|((with_reducible apply oQ) <;> intro _)|with_reducible refine rF hv oe ?_) <;> simp only [aa,seval,rW])
 .have Sb:S=⟨(iu a).toArray⟩:=zA7 (by rw [Y2,zw4 (by omega)])
  rw [Sb]
  exact hk _ z.aw
 obtain ⟨I1,bo⟩:∃ I:Nat->Env->Heap->Prop,I=(λn e h'=>∃ (i:Nat) (w:ai) (A:Nat) (h1:Heap),h'=h1.lay [] h1.low/\Ext h h1/\(n=a.args.length - i/\i<=a.args.length/\Ow aG.str H0 h1 9 A w ((a.args.take i).map (·.s))/\bP H0 h1)/\∃ J:Nat->ai,e=(jr J 0 3 (.string S::J 4::w::jr J 6 14 (v::.int .i64 a.args.length::.int .i64 i::jr J 23 15 ([]))))):=⟨_,rfl⟩
 refine fh I1 _ (by rw [bo];exact ⟨0,.slice none 0 0,H0.size,_,rfl,z,⟨rfl,by omega,Ow.nil (aQ _),bP.refl _⟩,bO⟩) ?_
 intro n e h' aU
 rw [bo] at aU
 obtain ⟨i,w,A,cF,rfl,z,hinv,J,rfl⟩:=aU
 obtain ⟨rfl,hi,ho,i1⟩:=hinv
 have mT:a.args.length<=4:=by rw [zL];unfold ae.bt;omega
 have hw:=gE i (by omega)
 have hz:=z.size
 simp only [aa,seval,rW]
 refine cm (λbc=>?_) (λbc=>?_)
 rotate_left
 .simp only [aa,seval,rW]
  rw [iR (by omega)] at ho
  have hJ:=zty ha
  have qj:(a.args.map (·.s)).map (·.data.toList)=ng a:=by rw [List.map_map];rfl
  have TT:∀ (h:Heap) (K:aO),aM (some w) h K=K w h:=λ_ _=>rfl
  refine Lf ?_ (λS3 hS3 ue=>?_)
  .show S.size+1<=_
   omega
  have ai3:S3.size<=701:=by
   rw [ue]
   show S.size+1<=_
   omega
  have Sc:S3.data.toList=S.data.toList++[40]:=by rw [hS3,L9]
  simp only [aa,seval,rW]
  refine Ok.over (g:=Fm) rfl (zAj ((ho.sl (by decide)).lay _ _) (λe=>by have:=congrArg List.length e;rw [gq,dK] at this;omega) (by rw [gq];omega) (by rw [qj];exact dZ hJ (by decide))) ?_
  rw [qj]
  obtain ⟨J2,YU⟩:∃ J2:aV,J2=⟨(Lib.join (ng a) (ByteArray.mk #[44,32]).data.toList).toArray⟩:=⟨_,rfl⟩
  rw [<- YU]
  have YV:J2.data.toList=Lib.join (ng a) fY:=by rw [YU];rfl
  have hJz:J2.size<=1300:=by rw [<- Cx,YV];exact hJ
  simp only [aa,seval,rW]
  refine Lf ?_ (λS4 hS4 xG=>?_)
  .omega
  simp only [aa,seval,rW]
  refine Lf ?_ (λS5 hS5 rh=>?_)
  .rw [xG]
   show S3.size+J2.size+1<=_
   omega
  repeat' (simp only [aa,seval,rW])
  have hS6:S5=⟨(iu a).toArray⟩:=zA7 (by rw [hS5,L9,hS4,L9,Sc,Y2,YV,zw5 (by omega)])
  rw [hS6]
  exact hk _ z.aw
 obtain ⟨r,hr,cI⟩:=i4 (l:=a.args) (i:=i) bc
 simp only [aa,seval,rW]
 repeat' ((first|with_reducible refine Pj (hv.mono i1) oe iK (by omega) hr (λp hp=>?_)|with_reducible refine J0 hp sJ iK ?_) <;> simp only [aa,seval,rW,iw,iy,jt,Am.one,iv,fW,ij,ay.val,ay.cells])
 simp only [cv,seval,lF,zBM]
 obtain ⟨TD,mh⟩:=GM (A:=A) (B:=cF.size+1) (r:=aG.str) (c:=1) (y:=r.s) (by decide) (show (cF.lay [aZ.row [Value.bool r.v,Value.string r.s] 25 false,aZ.row [Value.string r.s] 9 false] (min cF.low (cF.size+0))).get (cF.size+1)=some (.row [Value.string r.s] 9 false) by rw [kE];rfl) rfl
 have dI:=ho.fresh
 have FO:((a.args.take i).map (·.s)).length<=4:=by rw [gq,gR];omega
 refine zuW (r:=aG.str) lQ Wn rfl (by decide) i1.size ho TD mh (by omega) (by omega) (λw' h2 A' o2 c2 MS=>?_)
 replace z:=z.aw.step c2 (by omega)
 have i2:=zAh (i1.trans (bP.lay _ _ _)) c2 dI
 have kq:(a.args.take (i+1)).map (·.s)=(a.args.take i).map (·.s)++[r.s]:=by rw [oT,cI,sG];rfl
 rw [<- kq] at o2
 rw [az h2]
 have TT:∀ (h:Heap) (K:aO),aM (some w') h K=K w' h:=λ_ _=>rfl
 repeat' (simp only [aa,seval,rW])
 rw [hw]
 (rw [bo];with_reducible refine dA (m:=_) ?_ ⟨i+1,w',A',_,rfl,z,⟨rfl,by omega,o2,i2⟩,bO⟩;omega)
 trace_state
theorem Mh (a b:ae) (ha:a.bQ=true) (hb:b.bQ=true) (h:Heap) (K:aO)
 (hk:∀ h',Ext h h'->K (.int .i64 (bg a b)) h'):Ok prog aJ ov 53 [a.val,b.val] h K:=by
 rw [az h]
 have z:=Ext.refl h
 refine Ok.aF 8 (bY XZ) ?_
 repeat' (simp only [aa,seval,Fy,js])
 refine (eF (by simp only [Fy])) z.aw ?_
 simp only [aa,seval,Fy,↓fU,eG,dS]
 refine zwp a ha _ _ (λh' x=>?_)
 have q1:=ak.top (i:=1) x rfl
 (((with_reducible refine fP ?_ ?_ ?_);(· exact (by (simp only [gh]);have:=z.size;omega));(· exact x));replace z:=z.au x;rw [az h'])
 repeat' (simp only [aa,seval,Fy,q1.lay,↓fU,eG,dS])
 refine zwp b hb _ _ (λh' x=>?_)
 (((with_reducible refine fP ?_ ?_ ?_);(· exact (by (simp only [gh]);have:=z.size;omega));(· exact x));replace z:=z.au x;rw [az h'])
 repeat' (simp only [aa,seval,Fy])
 refine Ok.over (g:=Ly) rfl rfl ?_
 refine fP (by have:=z.size;rw [br];omega) (by simpa only [bS,br,bD,dK,gS] using Ext.refl (h'.lay [] h'.size)) ?_
 repeat' (first|simp only [aa,seval,Fy]|((with_reducible refine ⟨z.cS.lay _ _,?_⟩);(intro _ h' zz x _);(simp only [bS,bD] at x);(replace z:=zz);(clear zz);rw [az h']))
 exact hk _ z.aw
end Go.Proofs.YtnkmeidmdaidhaaGreatDoor
namespace Go.Am
open Go.RowKit
section
variable {P:Program} {gs:List Nat} {ρ:ct} {h:Heap} {w:World}

end
end Go.Am
namespace Go.Am
theorem zwF (s:aN) (a:ae):bj s++a.cells=bj (s++[a]):=by
 rw [La]
 unfold bj
 simp
end Go.Am
namespace Go.Am
theorem zwE {l m p:aN} {o n:Nat} (h1:o=l.length*11) (h2:n=m.length*11):cut (bj (l++(m++p))) o n=some (bj m):=by
 have g1:(bj l).length=o:=by rw [zM,h1]
 have g2:(bj m).length=n:=by rw [zM,h2]
 rw [La,La]
 refine uz (by simp only [cT,g1,g2];omega) g2 (λi hi=>?_)
 rw [lj (by omega),g1,jC (by omega)]
 congr 1
 omega
end Go.Am
namespace Go.Am
theorem bP.over {a h1 h2:Heap} {l:List aZ} {w:Nat} (i:bP a h1) (x:Ext (h1.lay l w) h2):bP a h2:=(i.trans (bP.lay _ _ _)).trans x.inc
end Go.Am
namespace Go.Proofs.YtnkmeidmdaidhaaGreatDoor
open Go.Am Tryz
theorem zzv (A o:Nat) (k:Int) (h0:0<=k) (h4:k<=4):lf aJ 26 (.pointer (some ⟨A,o,none⟩)) (some (.int .i64 k)) none none=some (.slice (some ⟨A,if 4=k.toNat then o else o+k.toNat*2,none⟩) (4 - k.toNat) (4 - k.toNat)):=by
 have hG:4 < G:=by decide
 simp only [lf,CK,qz,xf,aB hG,dH]
 rw [aB ⟨h0,by omega⟩]
 simp [iK]
theorem K6 (a:ae) (k:Nat):(a.all.drop k).length=4 - k:=by rw [mB];rfl
theorem Xm (a:ae) {k i:Nat} (h:k+i < 4):(a.all.drop k)[i]? = some (a.arg (k+i)):=by
 rw [lJ]
 have:k+i=0\/k+i=1\/k+i=2\/k+i=3:=by omega
 rcases this with e|e|e|e <;> rw [e] <;> rfl
theorem zAI {H:Heap} {A:Nat} {a:ae} {u:TypeId} {ro:Bool} (q:ak H A (.row a.cells u ro)) (k:Nat) (hk:k<=4):Sl aG.term H (.slice (some ⟨A,if 4=k then 3 else 3+k*2,none⟩) (4 - k) (4 - k)) (a.all.drop k):=by
 refine .inr ⟨A,_,4 - k,a.cells,u,ro,by rw [K6],by rw [K6];unfold maxLen;omega,.inl ⟨by unfold G;omega,by rw [K6];exact aQ _⟩,q.lt,q.get,λi x hx=>?_⟩
 have hi:i < 4 - k:=by have:=(fR.1 hx).1;rw [K6] at this;exact this
 rw [Xm a (by omega)] at hx
 cases hx
 have hc:=LR a (k+i) (by omega)
 rw [aA (by omega)]
 refine ⟨_,?_,rfl⟩
 show cut a.cells (3+k*2+i*2) 2=_
 rw [<- hc]
 congr 1
 omega
theorem zBi (a:ae):a.cells[0]? = some (.string a.says):=rfl
theorem zBj (a:ae):a.cells[1]? = some (.string a.pred):=rfl
theorem zy7 (a:ae):a.cells[2]? = some (.int .i64 a.n):=rfl
theorem Ls (a:ae) (h:Heap) (dq:bh 1 h) (K:aO) (h1:bm a->∀ h',Ext h h'->K (.int .i64 0) h') (h2:¬ bm a->∀ c h',c≠0->Ext h h'->K (.int .i64 c) h'):Ok prog aJ ov 25 [a.val] h K:=by
 rw [az h]
 have z:=Ext.refl h
 refine Ok.aF 40 (bY XI) ?_
 repeat' (simp only [aa,seval,uS,js,zBi])
 refine zr4 _ _ (dq.lay _ _) _ (λhs h' x=>?_) (λhs h' x=>?_)
 rotate_left
 ·(replace z:=z.au x;rw [az h'])
  repeat' (first|simp only [aa,seval,uS]|((with_reducible apply cK);(· rfl)))
  exact h2 (λx=>hs x.says) _ _ (by decide) z.aw
 have q0:=ak.top (i:=0) x rfl
 (replace z:=z.au x;rw [az h'])
 repeat' (first|simp only [aa,seval,uS,q0.lay,zBj]|((with_reducible apply cK);(· rfl)))
 refine zyl _ _ ((dq.ext z).lay _ _) _ (λhp h' x=>?_) (λhp h' x=>?_)
 rotate_left
 ·(replace z:=z.au x;( replace q0:=q0.over x );rw [az h'])
  repeat' (first|simp only [aa,seval,uS]|((with_reducible apply cK);(· rfl)))
  exact h2 (λx=>hp x.pred) _ _ (by decide) z.aw
 (replace z:=z.au x;replace q0:=q0.over x;rw [az h'])
 repeat' (first|simp only [aa,seval,uS,q0.lay,zy7,↓fU,eG,dS]|((with_reducible apply cm) <;> intro _)|((with_reducible apply cK);(· rfl)))
 all_goals try exact h2 (λx=>by have:=x.lo;have:=x.hi;omega) _ _ (by decide) z.aw
 have zd:0<=a.n:=by omega
 have Dw:a.n<=4:=by omega
 have sW:a.bt=a.n.toNat:=L6 zd Dw
 refine O3 a _ _ (λw h' x sw=>?_)
 (replace z:=z.au x;replace q0:=q0.over x;rw [az h'])
 repeat' (simp only [aa,seval,uS])
 refine zfl a.args w _ nZ _ (sw.lay _ _) (by rw [zL];have:=WI a;omega) (λt hc K' xe hK=>by rw [xN];exact ztO t hc ((dq.ext z).lay _ _ |>.ext xe) K' hK) _ (λh' x=>?_)
 (replace z:=z.au x;replace q0:=q0.over x;rw [az h'])
 cases vh:a.args.any nZ
 rotate_left
 .repeat' ( simp only [aa,seval,uS])
  refine h2 (λx=>?_) _ _ (by decide) z.aw
  obtain ⟨t,ht,hb⟩:=Fc.1 vh
  obtain ⟨i,hi,rfl⟩:=lr.1 ht
  have:=x.fG i (bA.1 hi).2
  unfold nZ at hb
  simp [this] at hb
 have DQ:∀ i:Nat,(i:Int) < a.n->dQ (a.arg i):=λi hi=>by
  have:=L5.1 vh (a.arg i) (lr.2 ⟨i,by omega,rfl⟩)
  unfold nZ at this
  simpa using this
 obtain ⟨k,hk⟩:=Int.eq_ofNat_of_zero_le zd
 have IZ:k<=4:=by omega
 have gO:=zzv
 have gW:=zAI q0 k IZ
 have IY:(0:Int)<=a.n/\a.n<=4:=⟨zd,Dw⟩
 repeat' (simp only [aa,seval,uS,q0.lay,zy7,zzv _ _ _ zd Dw])
 have I6:a.n.toNat=k:=by omega
 rw [I6]
 obtain ⟨sv,JG⟩:∃ sv,sv=Value.slice (some ⟨h.size+0,if 4=k then 3 else 3+k*2,none⟩) (4 - k) (4 - k):=⟨_,rfl⟩
 rw [<- JG] at gW ⊢
 clear gO
 obtain ⟨I1,bo⟩:∃ I:Nat->Env->Heap->Prop,I=(λn e h'=>∃ (i:Nat) (h1:Heap),h'=h1.lay [] h1.low/\Ext h h1/\(n=4 - k - i/\i<=4 - k/\(∀ t∈(a.all.drop k).take i,t=bX)/\Sl aG.term h1 sv (a.all.drop k))/\∃ J:Nat->ai,e=(jr J 0 31 (sv::.int .i64 ((4 - k:Nat):Int)::.int .i64 i::jr J 34 7 ([])))):=⟨_,rfl⟩
 refine fh I1 _ (by rw [bo];exact ⟨0,_,rfl,z,⟨rfl,by omega,by simp,gW⟩,bO⟩) ?_
 intro n e h' aU
 rw [bo] at aU
 obtain ⟨i,cF,rfl,z,hinv,J,rfl⟩:=aU
 clear gW q0
 obtain ⟨rfl,hi,aE,gW⟩:=hinv
 have mF:=gE i (by omega)
 have mT:=K6 a k
 simp only [aa,seval,uS]
 refine cm (λbc=>?_) (λbc=>?_)
 rotate_left
 .rw [iR (by omega)] at aE
  repeat' (simp only [aa,seval,uS])
  refine h1 ⟨hs,hp,zd,Dw,DQ,λj hj hj4=>?_⟩ _ z.aw
  have lS:=Xm a (k:=k) (i:=j - k) (by omega)
  have e:k+(j - k)=j:=by omega
  rw [e] at lS
  exact aE _ (ek lS)
 obtain ⟨⟨rv,rs⟩,hr,cI⟩:=i4 (l:=a.all.drop k) (i:=i) (by omega)
 have hri:a.arg (k+i)=⟨rv,rs⟩:=Option.some.inj ((Xm a (by omega)).symm.trans cI)
 repeat' (first|simp only [aa,seval,uS,iw,iy,jt,Am.one,iv,fW,ij,ay.val,ay.cells,zs3,zp4]|((with_reducible apply Ag) <;> intro _)|with_reducible refine Pj gW oe iK (by omega) hr (λp hp=>?_)|with_reducible refine J0 hp sJ iK ?_)
 .refine h2 (λx=>?_) _ _ (by decide) z.aw
  have:=x.rest (k+i) (by omega) (by omega)
  rw [hri] at this
  exact absurd this (by assumption)
 .have SE:(⟨rv,rs⟩:ay)=bX:=‹(⟨rv,rs⟩:ay)=⟨false,⟨#[]⟩⟩›
  rw [mF]
  refine Gn z.aw (λH z hO hI=>?_)
  (rw [bo];with_reducible refine dA (m:=_) ?_ ⟨i+1,_,rfl,z,⟨rfl,by omega,wY (i:=i) (P:=λt:ay=>t=bX) cI aE SE,gW.mono hI⟩,bO⟩;omega)
theorem zwk (a:ae) (bv:Bool) (h:Heap) (K:aO) (hk:∀ w l h',Ext h h'->Sl aG.str h' w l->l.length<=4->(∀ x,x∈l↔∃ i:Nat,i < a.bt/\(a.arg i).v=bv/\(a.arg i).s=x)->K w h'):Ok prog aJ ov 135 [a.val,.bool bv] h K:=by
 rw [az h]
 have z:=Ext.refl h
 have ny:=WI a
 refine Ok.aF 31 (bY Hy) ?_
 repeat' (simp only [aa,seval,n8,js,↓fU,eG,dS])
 refine O3 a _ _ (λw h' x sw=>?_)
 (replace z:=z.au x;rw [az h'])
 have o0:=λ(hh:Heap)=>sw.bW oe hh
 have mT:=zL a
 have tu:=z.size
 simp only [aa,seval,n8,o0]
 obtain ⟨Hb,rfl⟩:∃ Hb,Hb=h':=⟨_,rfl⟩
 obtain ⟨I1,bo⟩:∃ I:Nat->Env->Heap->Prop,I=(λn e h'=>∃ (i:Nat) (wv:ai) (A:Nat) (l:List aV) (h1:Heap),h'=h1.lay [] h1.low/\Ext h h1/\(n=a.bt - i/\i<=a.bt/\l.length<=i/\(∀ x,x∈l↔∃ j:Nat,j < i/\(a.arg j).v=bv/\(a.arg j).s=x)/\Ow aG.str h h1 9 A wv l/\bP Hb h1/\Hb.size<=A)/\∃ J:Nat->ai,e=(J 0::.bool bv::jr J 2 3 (wv::jr J 6 3 (w::.int .i64 a.args.length::.int .i64 i::jr J 12 21 ([]))))):=⟨_,rfl⟩
 refine fh I1 _ (by rw [bo];exact ⟨0,.slice none 0 0,Hb.size,[],_,rfl,z,⟨rfl,by omega,by simp,by simp,Ow.nil (by omega),bP.refl _,aQ _⟩,bO⟩) ?_
 intro n e h' aU
 rw [bo] at aU
 obtain ⟨i,wv,A,l,cF,rfl,z,hinv,J,rfl⟩:=aU
 obtain ⟨rfl,hi,vK,eL,ow,ib,So⟩:=hinv
 have mF:=gE i (by omega)
 simp only [aa,seval,n8]
 refine cm (λbc=>?_) (λbc=>?_)
 rotate_left
 .have he:i=a.bt:=by omega
  rw [he] at eL
  repeat' (simp only [aa,seval,n8])
  exact hk _ _ _ z.aw ((ow.sl (by decide)).lay _ _) (by omega) eL
 have lS:=Go.Am.args_at (a:=a) (i:=i) (by omega)
 rcases xC:a.arg i with ⟨rv,rs⟩
 rw [xC] at lS
 have hr:a.args[(i:Int).toNat]? = some ⟨rv,rs⟩:=by rw [uG];exact lS
 have ZE:∀ x,(∃ j:Nat,j < i+1/\(a.arg j).v=bv/\(a.arg j).s=x)↔(∃ j:Nat,j < i/\(a.arg j).v=bv/\(a.arg j).s=x)\/(rv=bv/\rs=x):=by
  intro x
  constructor
  .rintro ⟨j,hj,e⟩
   by_cases SX:j=i
   .subst SX
    rw [xC] at e
    exact .inr e
   .exact .inl ⟨j,by omega,e⟩
  .rintro (⟨j,hj,e⟩|e)
   .exact ⟨j,by omega,e⟩
   .exact ⟨i,by omega,by rw [xC];exact e⟩
 repeat' (first|simp only [aa,seval,n8,iw,iy,jt,Am.one,iv,fW,ij,ay.val,ay.cells]|with_reducible refine Pj (sw.mono ib) oe iK (by omega) hr (λp hp=>?_)|with_reducible refine J0 hp sJ iK ?_)
 have Bo:(¬ rv=bv\/rs∈l)->∀ x,x∈l↔∃ j:Nat,j < i+1/\(a.arg j).v=bv/\(a.arg j).s=x:=by
  intro hs x
  rw [ZE,<- eL]
  refine ⟨.inl,λe=>e.elim id (λe=>?_)⟩
  rcases hs with hs|hs
  .exact absurd e.1 hs
  .rw [<- e.2];exact hs
 have JK:rv=bv->∀ x,x∈l++[rs]↔∃ j:Nat,j < i+1/\(a.arg j).v=bv/\(a.arg j).s=x:=by
  intro hs x
  rw [ZE,<- eL,iT,eM]
  exact ⟨λe=>e.imp id (λe=>⟨hs,e.symm⟩),λe=>e.imp id (λe=>e.2.symm)⟩
 have b1:(true == false)=false:=rfl
 have b2:(false == true)=false:=rfl
 have b3:(true == true)=true:=rfl
 have b4:(false == false)=true:=rfl
 have qo:=z.size
 cases rv
 all_goals
  cases bv
  all_goals
   repeat' (simp only [aa,seval,n8,zxz,b1,b2])
 all_goals first
  |(rw [mF]
    have JB:=Bo (.inl (by decide))
    refine Gn z.aw (λH z hO hI=>?_)
    (rw [bo];with_reducible refine dA (m:=_) ?_ ⟨i+1,wv,A,l,_,rfl,z,⟨rfl,by omega,by omega,JB,ow.mono hI,ib.trans hI,So⟩,bO⟩;omega))
  |skip
 all_goals
  refine zgX l wv rs _ ((ow.sl (by decide)).lay _ _) (by omega) _ (λh' x=>?_)
  have q0:=ak.top (i:=0) x rfl
  (replace z:=z.au x;replace ow:=ow.over x;replace ib:=ib.over x;rw [az h'])
  cases aU:l.any λx=>decide (rs=x)
  rotate_left
  .have JB:=Bo (.inr (by obtain ⟨y,hy,e⟩:=Fc.1 aU;rw [of_decide_eq_true e];exact hy))
   repeat' (first|simp only [aa,seval,n8]|((with_reducible apply cK);(· rfl)))
   rw [mF]
   (rw [bo];with_reducible refine dA (m:=_) ?_ ⟨i+1,wv,A,l,_,rfl,z,⟨rfl,by omega,by omega,JB,ow,ib,So⟩,bO⟩;omega)
  have kq:=JK rfl
  repeat' (first|simp only [aa,seval,n8,q0.lay]|((with_reducible apply cK);(· rfl)))
  simp only [cv,seval,lF,zBM]
 all_goals
  refine xb (i:=0) (cs:=[.string rs]) (x:=rs) lQ Wn rfl (by decide) (by rfl) z.size ow rfl (by omega) (by omega) (λw3 h3 A3 jz gg kO=>?_)
  have FJ:=ow.fresh
  have ib3:=bP.eN (ib.trans (bP.lay _ _ _)) gg So
  have CZ:=ib.size
  replace z:=z.aw.step gg (by omega)
  rw [az h3]
  repeat' (simp only [aa,seval,n8])
  rw [mF]
  clear ow q0
  (rw [bo];with_reducible refine dA (m:=_) ?_ ⟨i+1,w3,A3,l++[rs],_,rfl,z,⟨rfl,by omega,by rw [cT,jk];omega,kq,jz,ib3,by omega⟩,bO⟩;omega)
theorem zr7 (a:ae) (h:Heap) (K:aO) (hk:∀ w l h',Ext h h'->Sl aG.str h' w l->l.length<=4->(∀ x,x∈l↔qE a x)->K w h'):Ok prog aJ ov 109 [a.val] h K:=by
 rw [az h]
 have z:=Ext.refl h
 refine Ok.aF 4 (bY Hg) ?_
 repeat' (simp only [aa,seval,HM,js,↓fU,eG,dS])
 refine zwk a true _ _ (λw l h' x s hl hm=>?_)
 (replace z:=z.au x;rw [az h'])
 repeat' (simp only [aa,seval,HM])
 exact hk _ _ _ z.aw (s.lay _ _) hl (λx=>(hm x).trans ky.symm)
end Go.Proofs.YtnkmeidmdaidhaaGreatDoor
