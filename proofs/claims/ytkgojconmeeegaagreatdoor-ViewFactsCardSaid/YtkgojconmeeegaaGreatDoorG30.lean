/- The code of some functions, node by node, for simp. Written by a program (mkcode.py). No condition. -/
import Derived.Test.YtkgojconmeeegaaGreatDoorG29
import Derived.Test.YtkgojconmeeegaaGreatDoorG25
set_option linter.unusedSimpArgs false
set_option linter.unusedVariables false
set_option maxRecDepth 100000
set_option maxHeartbeats 0
noncomputable section
namespace Go.Proofs.YtkgojconmeeegaaGreatDoor
open Go.Am Tryz
def K1:=bp f158
def PS:=PLift.up (by have c:=bq K1 f158;simp only [aI,f158,seval] at c;exact nd c <| nd @lG <| nd @u9 <| nd @qM <| nd @sR <| nd @CY <| nd @Vg <| nd @jA <| nd @bP <| nd @eC <| nd @Vi <| @zFJ)
theorem kO:type_of% PS.down:=PS.down
def Kt:=bp f108
def Pc:=PLift.up (by have c:=bq Kt f108;simp only [aI,f108,seval] at c;exact nd c <| nd @bP <| @zE7)
theorem vd:type_of% Pc.down:=Pc.down
def E8:=bp f193
def Qp:=PLift.up (by have c:=bq E8 f193;simp only [aI,f193,seval] at c;exact nd c <| nd @iF <| nd @bP <| nd @zGg <| @zGT)
theorem iB:type_of% Qp.down:=Qp.down
def LR:=bp f227
def QQ:=PLift.up (by have c:=bq LR f227;simp only [aI,f227,seval] at c;exact nd c <| nd @iF <| nd @bP <| nd @zGF <| @zGW)
theorem qU:type_of% QQ.down:=QQ.down
def LK:=bp f215
def QJ:=PLift.up (by have c:=bq LK f215;simp only [aI,f215,seval] at c;exact nd c <| nd @zGy <| @zGV)
theorem pE:type_of% QJ.down:=QJ.down
def jK:=bp f194
def Qq:=PLift.up (by have c:=bq jK f194;simp only [aI,f194,seval] at c;exact nd c <| nd @iF <| nd @bP <| nd @zGh <| @zGU)
theorem bV:type_of% Qq.down:=Qq.down
def E6:=bp f156
def PR:=PLift.up (by have c:=bq E6 f156;simp only [aI,f156,seval] at c;exact nd c <| nd @zFI <| @zGR)
theorem iA:type_of% PR.down:=PR.down
def E3:=bp f107
def Pb:=PLift.up (by have c:=bq E3 f107;simp only [aI,f107,seval] at c;exact nd c <| nd @fS <| nd @zE6 <| @zGO)
theorem A9:type_of% Pb.down:=Pb.down
def Vn:=bp f65
def x65:=PLift.up (by have c:=bq Vn f65;simp only [aI,f65,seval] at c;exact nd c <| nd @td <| @W6)
theorem Dp:type_of% x65.down:=x65.down
def E4:=bp f109
def Pd:=PLift.up (by have c:=bq E4 f109;simp only [aI,f109,seval] at c;exact nd c <| nd @iF <| nd @bP <| nd @fS <| @zE8)
theorem gk:type_of% Pd.down:=Pd.down
def Ku:=bp f110
def Pf:=PLift.up (by have c:=bq Ku f110;simp only [aI,f110,seval] at c;exact nd c <| nd @bP <| @zE9)
theorem Ba:type_of% Pf.down:=Pf.down
def N66:=bp f66
def x66:=PLift.up (by have c:=bq N66 f66;simp only [aI,f66,seval] at c;exact nd c <| @W7)
theorem Fy:type_of% x66.down:=x66.down
def KA:=bp f116
def Pm:=PLift.up (by have c:=bq KA f116;simp only [aI,f116,seval] at c;exact nd c <| nd @iF <| nd @bP <| nd @fS <| @zFf)
theorem mu:type_of% Pm.down:=Pm.down
def N69:=bp f69
def x69:=PLift.up (by have c:=bq N69 f69;simp only [aI,f69,seval] at c;exact nd c <| @W9)
theorem Mx:type_of% x69.down:=x69.down
def KB:=bp f117
def Pn:=PLift.up (by have c:=bq KB f117;simp only [aI,f117,seval] at c;exact nd c <| nd @iF <| nd @bP <| nd @fS <| @zFg)
theorem gO:type_of% Pn.down:=Pn.down
def N70:=bp f70
def x70:=PLift.up (by have c:=bq N70 f70;simp only [aI,f70,seval] at c;exact nd c <| nd @bP <| @Xa)
theorem c70:type_of% x70.down:=x70.down
theorem TU:rW aA 22 22=true:=by kernel_rfl
theorem zwL (a:ak):a.cells[0]? = some (.string a.says):=rfl
theorem zwM (a:ak):a.cells[1]? = some (.string a.pred):=rfl
theorem zyl (a:ak) (ha:a.aV=true) (h:Heap) (K:aG)
 (hk:∀ h',Ext h h'->K (.string ⟨(cF a).toArray⟩) h'):Ok prog aA ov 158 [a.val] h K:=by
 rw [ao h]
 have z:=Ext.refl h
 obtain ⟨ka,gr⟩:=zhO ha
 refine Ok.aq 37 (bm K1) ?_
 simp only [aa,seval,kO,fA,zwL]
 refine wR ?_ (λS1 zW sA=>?_)
 .show a.says.size+6<=_
  omega
 simp only [aa,seval,kO,zwM]
 refine wR ?_ (λS hS lu=>?_)
 .rw [sA]
  show a.says.size+6+_<=_
  omega
 have hSl:S.data.toList=a.says.data.toList++Kj++a.pred.data.toList:=by rw [hS,zW,w7,w7];rfl
 have hSz:S.size<=700:=by
  rw [lu,sA]
  show a.says.size+6+_<=_
  omega
 clear hS zW sA lu
 simp only [aa,seval,kO,↓dW,dO,da]
 refine RO a _ _ (λv H0 x hv=>?_)
 (replace z:=z.aj x;rw [ao H0])
 have rH:=z.size
 simp only [aa,seval,kO]
 repeat' ((first|((with_reducible apply lz) <;> intro _)|with_reducible refine uQ hv zJ ?_) <;> simp only [aa,seval,kO])
 .have zX:S=⟨(cF a).toArray⟩:=zBX (by rw [hSl,zy0 (by omega)])
  rw [zX]
  exact hk _ z.au
 obtain ⟨I1,aO⟩:∃ I:Nat->Env->Heap->Prop,I=(λn e h'=>∃ (i:Nat) (w:ae) (A:Nat) (h1:Heap),h'=h1.lay [] h1.low/\Ext h h1/\(n=a.args.length - i/\i<=a.args.length/\Ow aJ.str H0 h1 9 A w ((a.args.take i).map (·.s))/\b8 H0 h1)/\∃ J:Nat->ae,e=(jr J 0 3 (.string S::J 4::w::jr J 6 14 (v::.int .i64 a.args.length::.int .i64 i::jr J 23 15 ([]))))):=⟨_,rfl⟩
 refine cK I1 _ (by rw [aO];exact ⟨0,.slice none 0 0,H0.size,_,rfl,z,⟨rfl,by omega,Ow.nil (bo _),b8.refl _⟩,bc⟩) ?_
 intro n e h' aK
 rw [aO] at aK
 obtain ⟨i,w,A,bD,rfl,z,hinv,J,rfl⟩:=aK
 obtain ⟨rfl,hi,ho,i1⟩:=hinv
 have tx:a.args.length<=4:=by rw [wU];unfold ak.cU;omega
 have hw:=dE i (by omega)
 have hz:=z.size
 simp only [aa,seval,kO]
 refine bg (λaP=>?_) (λaP=>?_)
 rotate_left
 .simp only [aa,seval,kO]
  rw [fX (by omega)] at ho
  have hJ:=zuE ha
  have yE:(a.args.map (·.s)).map (·.data.toList)=jJ a:=by rw [Ij];rfl
  have Zw:∀ (h:Heap) (K:aG),aD (some w) h K=K w h:=λ_ _=>rfl
  refine wR ?_ (λS3 F0 Cf=>?_)
  .show S.size+1<=_
   omega
  have apb:S3.size<=701:=by
   rw [Cf]
   show S.size+1<=_
   omega
  have XZ:S3.data.toList=S.data.toList++[40]:=by rw [F0,w7]
  simp only [aa,seval,kO]
  refine Ok.over (g:=Ib) rfl (zCF ((ho.sl (by decide)).lay _ _) (λe=>by have:=congrArg List.length e;rw [fV,dr] at this;omega) (by rw [fV];omega) (by rw [yE];exact il hJ (by decide))) ?_
  rw [yE]
  obtain ⟨J2,hJ2⟩:∃ J2:aB,J2=⟨(Lib.join (jJ a) (ByteArray.mk #[44,32]).data.toList).toArray⟩:=⟨_,rfl⟩
  rw [<- hJ2]
  have hJl:J2.data.toList=Lib.join (jJ a) dB:=by rw [hJ2];rfl
  have hJz:J2.size<=1300:=by rw [<- Fi,hJl];exact hJ
  simp only [aa,seval,kO]
  refine wR ?_ (λS4 hS4 hz4=>?_)
  .omega
  simp only [aa,seval,kO]
  refine wR ?_ (λS5 hS5 hz5=>?_)
  .rw [hz4]
   show S3.size+J2.size+1<=_
   omega
  repeat' (simp only [aa,seval,kO])
  have hS6:S5=⟨(cF a).toArray⟩:=zBX (by rw [hS5,w7,hS4,w7,XZ,hSl,hJl,zy2 (by omega)])
  rw [hS6]
  exact hk _ z.au
 obtain ⟨r,hr,bM⟩:=eb (l:=a.args) (i:=i) aP
 simp only [aa,seval,kO]
 repeat' ((first|with_reducible refine Sx (hv.mono i1) zJ fK (by omega) hr (λp hp=>?_)|with_reducible refine Cq hp oo fK ?_) <;> simp only [aa,seval,kO,iR,gL,ij,Am.one,iT,gX,gA,aH.val,aH.cells])
 simp only [cR,seval,ja,TU]
 obtain ⟨Zh,gu⟩:=CO (A:=A) (B:=bD.size+1) (r:=aJ.str) (c:=1) (y:=r.s) (by decide) (show (bD.lay [bh.row [Value.bool r.v,Value.string r.s] 31 false,bh.row [Value.string r.s] 9 false] (min bD.low (bD.size+0))).get (bD.size+1)=some (.row [Value.string r.s] 9 false) by rw [gH];rfl) rfl
 have dC:=ho.fresh
 have jv:((a.args.take i).map (·.s)).length<=4:=by rw [fV,fj];omega
 refine EB (r:=aJ.str) cQ Ew rfl (by decide) i1.size ho Zh gu (by omega) (by omega) (λw' h2 A' o2 c2 ra=>?_)
 replace z:=z.au.step c2 (by omega)
 have i2:=zCA (i1.trans (b8.lay _ _ _)) c2 dC
 have nZ:(a.args.take (i+1)).map (·.s)=(a.args.take i).map (·.s)++[r.s]:=by rw [nT,bM,AU];rfl
 rw [<- nZ] at o2
 rw [ao h2]
 have Zw:∀ (h:Heap) (K:aG),aD (some w') h K=K w' h:=λ_ _=>rfl
 repeat' (simp only [aa,seval,kO])
 rw [hw]
 (rw [aO];with_reducible refine bS (m:=_) ?_ ⟨i+1,w',A',_,rfl,z,⟨rfl,by omega,o2,i2⟩,bc⟩;omega)
 trace_state
theorem EK (a b:ak) (ha:a.aV=true) (hb:b.aV=true) (h:Heap) (K:aG)
 (hk:∀ h',Ext h h'->K (.int .i64 (aT a b)) h'):Ok prog aA ov 108 [a.val,b.val] h K:=by
 rw [ao h]
 have z:=Ext.refl h
 refine Ok.aq 8 (bm Kt) ?_
 repeat' (simp only [aa,seval,vd,fA])
 refine (cZ (by simp only [vd])) z.au ?_
 simp only [aa,seval,vd,↓dW,dO,da]
 refine zyl a ha _ _ (λh' x=>?_)
 have q1:=Holds.top (i:=1) x rfl
 (((with_reducible refine di ?_ ?_ ?_);(· exact (by (simp only [dp]);have:=z.size;omega));(· exact x));replace z:=z.aj x;rw [ao h'])
 repeat' (simp only [aa,seval,vd,q1.lay,↓dW,dO,da])
 refine zyl b hb _ _ (λh' x=>?_)
 (((with_reducible refine di ?_ ?_ ?_);(· exact (by (simp only [dp]);have:=z.size;omega));(· exact x));replace z:=z.aj x;rw [ao h'])
 repeat' (simp only [aa,seval,vd])
 refine Ok.over (g:=RB) rfl rfl ?_
 refine di (by have:=z.size;rw [bf];omega) (by simpa only [bG,bf,bu,dr,jh] using Ext.refl (h'.lay [] h'.size)) ?_
 repeat' (first|simp only [aa,seval,vd]|((with_reducible refine ⟨z.bZ.lay _ _,?_⟩);(intro _ h' zz x _);(simp only [bG,bu] at x);(replace z:=zz);(clear zz);rw [ao h']))
 exact hk _ z.au
theorem zBA (A o:Nat) (k:Int) (h0:0<=k) (h4:k<=4):jY aA 32 (.pointer (some ⟨A,o,none⟩)) (some (.int .i64 k)) none none=some (.slice (some ⟨A,if 4=k.toNat then o else o+k.toNat*2,none⟩) (4 - k.toNat) (4 - k.toNat)):=by
 have hG:4 < G:=by decide
 simp only [jY,FD,qI,zF,aE hG,dX]
 rw [aE ⟨h0,by omega⟩]
 simp [fK]
theorem Re (a:ak) (k:Nat):(a.all.drop k).length=4 - k:=by rw [lk];rfl
theorem zBl (a:ak) {k i:Nat} (h:k+i < 4):(a.all.drop k)[i]? = some (a.arg (k+i)):=by
 rw [lA]
 have:k+i=0\/k+i=1\/k+i=2\/k+i=3:=by omega
 rcases this with e|e|e|e <;> rw [e] <;> rfl
theorem zDa {H:Heap} {A:Nat} {a:ak} {u:TypeId} {ro:Bool} (q:Holds H A (.row a.cells u ro)) (k:Nat) (hk:k<=4):Sl aJ.term H (.slice (some ⟨A,if 4=k then 3 else 3+k*2,none⟩) (4 - k) (4 - k)) (a.all.drop k):=by
 refine .inr ⟨A,_,4 - k,a.cells,u,ro,by rw [Re],by rw [Re];unfold maxLen;omega,.inl ⟨by unfold G;omega,by rw [Re];exact bo _⟩,q.lt,q.get,λi x hx=>?_⟩
 have hi:i < 4 - k:=by have:=(dz.1 hx).1;rw [Re] at this;exact this
 rw [zBl a (by omega)] at hx
 cases hx
 have hc:=RT a (k+i) (by omega)
 rw [az (by omega)]
 refine ⟨_,?_,rfl⟩
 show cut a.cells (3+k*2+i*2) 2=_
 rw [<- hc]
 congr 1
 omega
theorem zwI (a:ak):a.cells[0]? = some (.string a.says):=rfl
theorem zBn (a:ak):a.cells[1]? = some (.string a.pred):=rfl
theorem zwJ (a:ak):a.cells[2]? = some (.int .i64 a.n):=rfl
theorem zx3 (a:ak) (bv:Bool) (h:Heap) (K:aG) (hk:∀ w l h',Ext h h'->Sl aJ.str h' w l->l.length<=4->(∀ x,x∈l↔∃ i:Nat,i < a.cU/\(a.arg i).v=bv/\(a.arg i).s=x)->K w h'):Ok prog aA ov 120 [a.val,.bool bv] h K:=by
 rw [ao h]
 have z:=Ext.refl h
 have yg:=zmA a
 refine Ok.aq 31 (bm E5) ?_
 repeat' (simp only [aa,seval,iV,fA,↓dW,dO,da])
 refine RO a _ _ (λw h' x sw=>?_)
 (replace z:=z.aj x;rw [ao h'])
 have qC:=λ(hh:Heap)=>sw.bt zJ hh
 have tx:=wU a
 have rH:=z.size
 simp only [aa,seval,iV,qC]
 obtain ⟨Hb,rfl⟩:∃ Hb,Hb=h':=⟨_,rfl⟩
 obtain ⟨I1,aO⟩:∃ I:Nat->Env->Heap->Prop,I=(λn e h'=>∃ (i:Nat) (wv:ae) (A:Nat) (l:List aB) (h1:Heap),h'=h1.lay [] h1.low/\Ext h h1/\(n=a.cU - i/\i<=a.cU/\l.length<=i/\(∀ x,x∈l↔∃ j:Nat,j < i/\(a.arg j).v=bv/\(a.arg j).s=x)/\Ow aJ.str h h1 9 A wv l/\b8 Hb h1/\Hb.size<=A)/\∃ J:Nat->ae,e=(J 0::.bool bv::jr J 2 3 (wv::jr J 6 3 (w::.int .i64 a.args.length::.int .i64 i::jr J 12 21 ([]))))):=⟨_,rfl⟩
 refine cK I1 _ (by rw [aO];exact ⟨0,.slice none 0 0,Hb.size,[],_,rfl,z,⟨rfl,by omega,by simp,by simp,Ow.nil (by omega),b8.refl _,bo _⟩,bc⟩) ?_
 intro n e h' aK
 rw [aO] at aK
 obtain ⟨i,wv,A,l,bD,rfl,z,hinv,J,rfl⟩:=aK
 obtain ⟨rfl,hi,DM,b9,ow,ib,wF⟩:=hinv
 have fb:=dE i (by omega)
 simp only [aa,seval,iV]
 refine bg (λaP=>?_) (λaP=>?_)
 rotate_left
 .have he:i=a.cU:=by omega
  rw [he] at b9
  repeat' (simp only [aa,seval,iV])
  exact hk _ _ _ z.au ((ow.sl (by decide)).lay _ _) (by omega) b9
 have mf:=Go.Am.args_at (a:=a) (i:=i) (by omega)
 rcases sy:a.arg i with ⟨rv,rs⟩
 rw [sy] at mf
 have hr:a.args[(i:Int).toNat]? = some ⟨rv,rs⟩:=by rw [R3];exact mf
 have tJ:∀ x,(∃ j:Nat,j < i+1/\(a.arg j).v=bv/\(a.arg j).s=x)↔(∃ j:Nat,j < i/\(a.arg j).v=bv/\(a.arg j).s=x)\/(rv=bv/\rs=x):=by
  intro x
  constructor
  .rintro ⟨j,hj,e⟩
   by_cases Ny:j=i
   .subst Ny
    rw [sy] at e
    exact .inr e
   .exact .inl ⟨j,by omega,e⟩
  .rintro (⟨j,hj,e⟩|e)
   .exact ⟨j,by omega,e⟩
   .exact ⟨i,by omega,by rw [sy];exact e⟩
 repeat' (first|simp only [aa,seval,iV,iR,gL,ij,Am.one,iT,gX,gA,aH.val,aH.cells]|with_reducible refine Sx (sw.mono ib) zJ fK (by omega) hr (λp hp=>?_)|with_reducible refine Cq hp oo fK ?_)
 have rC:(¬ rv=bv\/rs∈l)->∀ x,x∈l↔∃ j:Nat,j < i+1/\(a.arg j).v=bv/\(a.arg j).s=x:=by
  intro hs x
  rw [tJ,<- b9]
  refine ⟨.inl,λe=>e.elim id (λe=>?_)⟩
  rcases hs with hs|hs
  .exact absurd e.1 hs
  .rw [<- e.2];exact hs
 have yQ:rv=bv->∀ x,x∈l++[rs]↔∃ j:Nat,j < i+1/\(a.arg j).v=bv/\(a.arg j).s=x:=by
  intro hs x
  rw [tJ,<- b9,oV,iq]
  exact ⟨λe=>e.imp id (λe=>⟨hs,e.symm⟩),λe=>e.imp id (λe=>e.2.symm)⟩
 have b1:(true == false)=false:=rfl
 have b2:(false == true)=false:=rfl
 have b3:(true == true)=true:=rfl
 have b4:(false == false)=true:=rfl
 have uJ:=z.size
 cases rv
 all_goals
  cases bv
  all_goals
   repeat' (simp only [aa,seval,iV,zsZ,b1,b2])
 all_goals first
  |(rw [fb]
    have B8:=rC (.inl (by decide))
    refine Ep z.au (λH z hO hI=>?_)
    (rw [aO];with_reducible refine bS (m:=_) ?_ ⟨i+1,wv,A,l,_,rfl,z,⟨rfl,by omega,by omega,B8,ow.mono hI,ib.trans hI,wF⟩,bc⟩;omega))
  |skip
 all_goals
  refine Je l wv rs _ ((ow.sl (by decide)).lay _ _) (by omega) _ (λh' x=>?_)
  have q0:=Holds.top (i:=0) x rfl
  (replace z:=z.aj x;replace ow:=ow.over x;replace ib:=ib.over x;rw [ao h'])
  cases aK:l.any λx=>decide (rs=x)
  rotate_left
  .have B8:=rC (.inr (by obtain ⟨y,hy,e⟩:=wq.1 aK;rw [of_decide_eq_true e];exact hy))
   repeat' (first|simp only [aa,seval,iV]|((with_reducible apply bI);(· rfl)))
   rw [fb]
   (rw [aO];with_reducible refine bS (m:=_) ?_ ⟨i+1,wv,A,l,_,rfl,z,⟨rfl,by omega,by omega,B8,ow,ib,wF⟩,bc⟩;omega)
  have nZ:=yQ rfl
  repeat' (first|simp only [aa,seval,iV,q0.lay]|((with_reducible apply bI);(· rfl)))
  simp only [cR,seval,ja,TU]
 all_goals
  refine HP (i:=0) (cs:=[.string rs]) (x:=rs) cQ Ew rfl (by decide) (by rfl) z.size ow rfl (by omega) (by omega) (λw3 h3 A3 wN mb re=>?_)
  have rq:=ow.fresh
  have ZN:=b8.iW (ib.trans (b8.lay _ _ _)) mb wF
  have ye:=ib.size
  replace z:=z.au.step mb (by omega)
  rw [ao h3]
  repeat' (simp only [aa,seval,iV])
  rw [fb]
  clear ow q0
  (rw [aO];with_reducible refine bS (m:=_) ?_ ⟨i+1,w3,A3,l++[rs],_,rfl,z,⟨rfl,by omega,by rw [cW,sW];omega,nZ,wN,ZN,by omega⟩,bc⟩;omega)
theorem zts (a:ak) (h:Heap) (K:aG) (hk:∀ w l h',Ext h h'->Sl aJ.str h' w l->l.length<=4->(∀ x,x∈l↔Dc a x)->K w h'):Ok prog aA ov 186 [a.val] h K:=by
 rw [ao h]
 have z:=Ext.refl h
 refine Ok.aq 4 (bm Ln) ?_
 repeat' (simp only [aa,seval,Ml,fA,↓dW,dO,da])
 refine zx3 a true _ _ (λw l h' x s hl hm=>?_)
 (replace z:=z.aj x;rw [ao h'])
 repeat' (simp only [aa,seval,Ml])
 exact hk _ _ _ z.au (s.lay _ _) hl (λx=>(hm x).trans vS.symm)
def N17:=bp f17
def P4:=PLift.up (by have c:=bq N17 f17;simp only [aI,f17,seval] at c;exact nd c <| nd @qM <| nd @sR <| nd @CY <| nd @zD <| nd @pZ <| nd @eC <| nd @Al <| @Wp)
theorem c17:type_of% P4.down:=P4.down
def N29:=bp f29
def x29:=PLift.up (by have c:=bq N29 f29;simp only [aI,f29,seval] at c;exact nd c <| nd @iF <| nd @bP <| nd @fS <| @Wy)
theorem SW:type_of% x29.down:=x29.down
def N11:=bp f11
def Pe:=PLift.up (by have c:=bq N11 f11;simp only [aI,f11,seval] at c;exact nd c <| @Wj)
theorem Io:type_of% Pe.down:=Pe.down
theorem Rx (a:ak) (h:Heap) (K:aG) (h1:a.aV=true->∀ h',Ext h h'->K (.bool true) h') (h2:a.aV=false->∀ h',Ext h h'->K (.bool false) h'):Ok prog aA ov 17 [a.val] h K:=by
 rw [ao h]
 have z:=Ext.refl h
 unfold ak.val ak.cells
 refine Ok.aq 29 (bm N17) ?_
 simp only [aa,seval,c17]
 repeat' ((first|((with_reducible apply bg) <;> intro _)|with_reducible refine Ry ?_) <;> simp only [aa,seval,c17])
 all_goals first
  |with_reducible exact h2 (by simp [ak.aV];omega) _ z.au
  |with_reducible exact h1 (by simp [ak.aV];omega) _ z.au
theorem zpH (l:aW) (v:ae) (m:Int) (h:Heap) (hl:Sl aJ.atom h v l) (K:aG) (h1:(l.length:Int)<=m->(∀ a∈l,a.aV=true)->∀ h',Ext h h'->K (.bool true) h') (h2:∀ h',Ext h h'->K (.bool false) h'):Ok prog aA ov 29 [v,.int .i64 m] h K:=by
 rw [ao h]
 have z:=Ext.refl h
 have hle:=hl.le
 refine Ok.aq 20 (bm N29) ?_
 simp only [aa,seval,SW]
 repeat' ((first|((with_reducible apply bg) <;> intro _)|with_reducible refine uQ hl bC ?_) <;> simp only [aa,seval,SW])
 .exact h2 _ z.au
 refine zDD (λe h'=>∃ (i:Nat) (h1:Heap) (x1 x2 x3 x4 x6 x7 x8 x9 x10 Pe Po Pu Pz x15 x16 P4 Qa Ql Qu QD:ae),h'=h1.lay [] h1.low/\Ext h h1/\i<=l.length/\(∀ a∈l.take i,a.aV=true)/\e=[v,x1,x2,x3,x4,.int .i64 i,x6,x7,x8,x9,x10,Pe,Po,Pu,Pz,x15,x16,P4,Qa,Ql,Qu,QD]) (λe _=>match e.get 5 with | .int _ i=>l.length - i.toNat|_=>0) ?_ ?_
 .exact ⟨0,h,_,_,_,_,_,_,_,_,_,_,_,_,_,_,_,_,_,_,_,_,rfl,z,by omega,by simp,rfl⟩
 rintro e h' ⟨i,bD,x1,x2,x3,x4,x6,x7,x8,x9,x10,Pe,Po,Pu,Pz,x15,x16,P4,Qa,Ql,Qu,QD,rfl,z,hi,aC,rfl⟩
 have hw:i < l.length->IntKind.i64.wrap ((i:Int)+1)=((i+1:Nat):Int):=λhh=>by unfold maxLen at hle;rw [wrap_i64 (by omega) (by omega)];omega
 simp only [aa,seval,SW]
 repeat' ((first|((with_reducible apply bg) <;> intro _)|with_reducible refine uQ hl bC ?_|with_reducible refine ixa (hl.mono z.inc) bC bE (by omega) (by omega) (λa p ha hp=>?_)|with_reducible refine ly hp eK bE ?_|((with_reducible refine Rx _ _ _ (λAc h' x=>?_) (λAc h' x=>?_)) <;> (replace z:=z.aj x;rw [ao h']))|((with_reducible apply bI);(· rfl))) <;> simp only [aa,seval,SW])
 all_goals first
  |with_reducible exact h2 _ z.au
  |with_reducible exact h1 (by omega) (by rw [fX (by omega)] at aC;exact aC) _ z.au
  |(rw [hw (by omega)]
    with_reducible refine zpo ?_ ?_
    .exact ⟨i+1,h',_,_,_,_,_,_,_,_,_,_,_,_,_,_,_,_,_,_,_,_,rfl,z,by omega,mL ha aC Ac,rfl⟩
    .show l.length - ((i+1:Nat):Int).toNat < l.length - (i:Int).toNat
     omega)
def N28:=bp f28
def x28:=PLift.up (by have c:=bq N28 f28;simp only [aI,f28,seval] at c;exact nd c <| nd @kx <| nd @eC <| nd @ky <| nd @Al <| @Wx)
theorem SV:type_of% x28.down:=x28.down
def N6:=bp f6
def x6:=PLift.up (by have c:=bq N6 f6;simp only [aI,f6,seval] at c;exact nd c <| nd @HX <| nd @JX <| nd @U2 <| nd @U3 <| nd @U4 <| nd @HY <| nd @CZ <| nd @JY <| nd @HZ <| nd @H2 <| nd @U5 <| nd @Si <| nd @U6 <| nd @yZ <| nd @y4 <| nd @G4 <| nd @G5 <| nd @mG <| nd @vP <| nd @Cj <| nd @Ck <| nd @Cl <| nd @bP <| nd @lR <| nd @eC <| nd @y5 <| nd @Cr <| nd @Cs <| nd @Ct <| nd @Al <| @fi6)
theorem c6:type_of% x6.down:=x6.down
def N24:=bp f24
def x24:=PLift.up (by have c:=bq N24 f24;simp only [aI,f24,seval] at c;exact nd c <| nd @HX <| nd @kx <| nd @mG <| nd @eC <| nd @ky <| @Wv)
theorem SU:type_of% x24.down:=x24.down
theorem zha (l:List aB) (v:ae) (n0 m:Int) (h:Heap) (hl:Sl aJ.str h v l) (K:aG) (oZ:(l.length:Int)<=n0->∀ h',Ext h h'->K (.bool true) h') (iJ:∀ h',Ext h h'->K (.bool false) h'):Ok prog aA ov 28 [v,.int .i64 n0,.int .i64 m] h K:=by
 rw [ao h]
 have z:=Ext.refl h
 have hle:=hl.le
 have cO:=λ(hh:Heap)=>hl.bt cQ hh
 refine Ok.aq 26 (bm N28) ?_
 repeat' (first|simp only [aa,seval,SV,cO]|((with_reducible apply bg) <;> intro _))
 .exact iJ _ z.au
 obtain ⟨I1,aO⟩:∃ I:Nat->Env->Heap->Prop,I=(λn e h'=>∃ (i:Nat) (s:Int) (h1:Heap),h'=h1.lay [] h1.low/\Ext h h1/\(n=l.length - i/\i<=l.length)/\∃ J:Nat->ae,e=(v::.int .i64 n0::.int .i64 m::jr J 3 4 (.int .i64 s::.int .i64 i::jr J 9 20 ([])))):=⟨_,rfl⟩
 refine cK I1 _ (by rw [aO];exact ⟨0,0,_,rfl,z,⟨rfl,by omega⟩,bc⟩) ?_
 intro n e h' aK
 rw [aO] at aK
 obtain ⟨i,s,bD,rfl,z,hinv,J,rfl⟩:=aK
 obtain ⟨rfl,hi⟩:=hinv
 have hw:i < l.length->IntKind.i64.wrap ((i:Int)+1)=((i+1:Nat):Int):=λhh=>by unfold maxLen at hle;rw [wrap_i64 (by omega) (by omega)];omega
 simp only [aa,seval,SV,cO]
 refine bg (λaP=>?_) (λaP=>?_)
 rotate_left
 .repeat' ( simp only [aa,seval,SV])
  exact oZ (by omega) _ z.au
 obtain ⟨r,hr,bM⟩:=eb (l:=l) (i:=i) (by omega)
 repeat' (first|simp only [aa,seval,SV]|((with_reducible apply bg) <;> intro _)|with_reducible refine oT (hl.mono z.inc) cQ mU (by omega) hr (λp hp=>?_)|with_reducible refine fo hp gU ?_)
 .exact iJ _ z.au
 .rw [hw (by omega)]
  (rw [aO];with_reducible refine bS (m:=_) ?_ ⟨i+1,IntKind.i64.wrap (s+r.size),_,rfl,z,⟨rfl,by omega⟩,bc⟩;omega)
def fR (l:List aB) (x:aB):Bool:=l.any (λy=>decide (y=x))
theorem jo {l:List aB} {x:aB}:fR l x=true↔x∈l:=by
 unfold fR
 rw [wq]
 exact ⟨λ⟨y,h1,h2⟩=>of_decide_eq_true h2 ▸ h1,λh=>⟨x,h,sY rfl⟩⟩
theorem CM (l:List aB) (who:aB) (p0 p1 p2 p5 p6:ae) (q b:Int) (h:Heap) (hl:Sl aJ.str h p0 l) (K:aG) (hk:∀ h',Ext h h'->K (.bool (fR l who)) h'):Ok prog aA ov 24 [gC p0 p1 p2 p5 p6 q b,.string who] h K:=by
 rw [ao h]
 have z:=Ext.refl h
 have hle:=hl.le
 have dn:∀ (h:Heap) (K:aG),aD (some p0) h K=K p0 h:=λ_ _=>rfl
 have cO:=λ(hh:Heap)=>hl.bt cQ hh
 refine Ok.aq 18 (bm N24) ?_
 repeat' (simp only [aa,seval,SU,jG])
 refine lg (λh' x hq=>?_)
 have q0:=hq 0 _ rfl
 clear hq
 (replace z:=z.aj x;rw [ao h'])
 obtain ⟨A0,dK⟩:∃ A0,A0=h.size+0:=⟨_,rfl⟩
 rw [<- dK] at q0
 rw [<- dK]
 obtain ⟨I1,aO⟩:∃ I:Nat->Env->Heap->Prop,I=(λn e h'=>∃ (i:Nat) (h1:Heap),h'=h1.lay [] h1.low/\Ext h h1/\(n=l.length - i/\i<=l.length/\(∀ x∈l.take i,decide (x=who)=false)/\Holds h1 A0 (.row (dw p0 p1 p2 p5 p6 q b) 28 false))/\∃ J:Nat->ae,e=(J 0::.string who::.pointer (some ⟨A0,0,none⟩)::jr J 3 2 (.int .i64 i::jr J 6 14 ([])))):=⟨_,rfl⟩
 refine cK I1 _ (by rw [aO];exact ⟨0,_,rfl,z,⟨rfl,by omega,by simp,q0⟩,bc⟩) ?_
 intro n e h' aK
 rw [aO] at aK
 obtain ⟨i,bD,rfl,z,hinv,J,rfl⟩:=aK
 clear q0
 obtain ⟨rfl,hi,aC,q0⟩:=hinv
 have hw:i < l.length->IntKind.i64.wrap ((i:Int)+1)=((i+1:Nat):Int):=λhh=>by unfold maxLen at hle;rw [wrap_i64 (by omega) (by omega)];omega
 simp only [aa,seval,SU,q0.lay,k6,dn,cO]
 refine bg (λaP=>?_) (λaP=>?_)
 rotate_left
 .rw [fX (by omega)] at aC
  have hf:fR l who=false:=by unfold fR;rw [EP];intro x hx;rw [aC x hx];decide
  rw [hf] at hk
  repeat' (simp only [aa,seval,SU])
  exact hk _ z.au
 obtain ⟨r,hr,bM⟩:=eb (l:=l) (i:=i) (by omega)
 repeat' (first|simp only [aa,seval,SU,q0.lay,k6,dn]|((with_reducible apply bg) <;> intro _)|with_reducible refine oT (hl.mono z.inc) cQ mU (by omega) hr (λp hp=>?_)|with_reducible refine fo hp gU ?_)
 .have he:r=who:=by assumption
  rw [show fR l who=true from jo.2 (he ▸ ig bM)] at hk
  exact hk _ z.au
 .have ba:¬ r=who:=by assumption
  rw [hw (by omega)]
  (rw [aO];with_reducible refine bS (m:=_) ?_ ⟨i+1,_,rfl,z,⟨rfl,by omega,mL (i:=i) (P:=λx:aB=>decide (x=who)=false) bM aC (uW ba),q0⟩,bc⟩;omega)
def Kv:=bp f111
def Pg:=PLift.up (by have c:=bq Kv f111;simp only [aI,f111,seval] at c;exact nd c <| nd @zG0 <| nd @zG4 <| nd @zG7 <| @zFa)
theorem qT:type_of% Pg.down:=Pg.down
def Kw:=bp f112
def Ph:=PLift.up (by have c:=bq Kw f112;simp only [aI,f112,seval] at c;exact nd c <| @zFb)
theorem V1:type_of% Ph.down:=Ph.down
def K3:=bp f159
def PT:=PLift.up (by have c:=bq K3 f159;simp only [aI,f159,seval] at c;exact nd c <| nd @sB <| nd @ZZ <| @zFK)
theorem Mf:type_of% PT.down:=PT.down
def Vm:=bp f45
def x45:=PLift.up (by have c:=bq Vm f45;simp only [aI,f45,seval] at c;exact nd c <| nd @HX <| nd @mG <| @WN)
theorem SX:type_of% x45.down:=x45.down
def K4:=bp f160
def PU:=PLift.up (by have c:=bq K4 f160;simp only [aI,f160,seval] at c;exact nd c <| nd @Fh <| nd @JX <| nd @HY <| nd @Sh <| nd @yZ <| nd @vP <| nd @lx <| nd @G6 <| nd @eC <| nd @y5 <| @zFL)
theorem xC:type_of% PU.down:=PU.down
def Ky:=bp f114
def Pk:=PLift.up (by have c:=bq Ky f114;simp only [aI,f114,seval] at c;exact nd c <| nd @EW <| nd @sR <| nd @CY <| nd @w9 <| nd @el <| nd @lx <| nd @eC <| @zFd)
theorem ke:type_of% Pk.down:=Pk.down
def K5:=bp f161
def PV:=PLift.up (by have c:=bq K5 f161;simp only [aI,f161,seval] at c;exact nd c <| nd @bP <| @zFM)
theorem Mg:type_of% PV.down:=PV.down
def N68:=bp f68
def x68:=PLift.up (by have c:=bq N68 f68;simp only [aI,f68,seval] at c;exact nd c <| nd @EW <| nd @sR <| nd @el <| nd @bP <| nd @eC <| @W8)
theorem ur:type_of% x68.down:=x68.down
def Kx:=bp f113
def Pj:=PLift.up (by have c:=bq Kx f113;simp only [aI,f113,seval] at c;exact nd c <| nd @el <| nd @bP <| @zFc)
theorem L8:type_of% Pj.down:=Pj.down
def N72:=bp f72
def x72:=PLift.up (by have c:=bq N72 f72;simp only [aI,f72,seval] at c;exact nd c <| nd @bP <| @Xb)
theorem c72:type_of% x72.down:=x72.down
end Go.Proofs.YtkgojconmeeegaaGreatDoor
