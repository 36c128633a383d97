/- The code of some functions, node by node, for simp. Written by a program (mkcode.py). No condition. -/
import Derived.Test.YtiapegieocgmfaaGreatDoorG45
set_option linter.unusedSimpArgs false
set_option linter.unusedVariables false
set_option maxRecDepth 100000
set_option maxHeartbeats 0
noncomputable section
namespace Go.Proofs.YtiapegieocgmfaaGreatDoor
open Go.Am Tryz
def N85:=bA f85
def x85:=PLift.up (by have c:=bB N85 f85;simp only [aN,f85,seval] at c;exact nd c <| nd @sM <| nd @j4 <| nd @cq <| nd @je <| @Wq)
theorem gR:type_of% x85.down:=x85.down
def N50:=bA f50
def x50:=PLift.up (by have c:=bB N50 f50;simp only [aN,f50,seval] at c;exact nd c <| nd @sM <| nd @cq <| @VV)
theorem Fi:type_of% x50.down:=x50.down
def N86:=bA f86
def x86:=PLift.up (by have c:=bB N86 f86;simp only [aN,f86,seval] at c;exact nd c <| nd @sM <| nd @j4 <| nd @cq <| nd @je <| @Wr)
theorem wA:type_of% x86.down:=x86.down
def N51:=bA f51
def x51:=PLift.up (by have c:=bB N51 f51;simp only [aN,f51,seval] at c;exact nd c <| nd @sM <| nd @cq <| @VW)
theorem Io:type_of% x51.down:=x51.down
theorem QO (l:aS) (a:ak) (v:ab) (h:Heap) (hl:Sl aM.atom h v l) (hn:l.length<=100000) (aT:∀ x∈l,x.aW=true) (ha:a.aW=true) (K:aF)
 (hk:∀ h',Ext h h'->K (.bool (bE l a)) h'):Ok prog aD ov 49 [v,a.val] h K:=by
 rw [ao h]
 have z:=Ext.refl h
 have bR:∀ (h:Heap) (K:aF),aC (some v) h K=K v h:=λ_ _=>rfl
 have iF:=λ(hh:Heap)=>hl.bo bJ hh
 refine Ok.aw 17 (bq N49) ?_
 simp only [aa,seval,zR,eE,bR]
 refine na (λh' x hq=>?_)
 have q0:=hq 0 _ rfl
 clear hq
 (replace z:=z.an x;rw [ao h'])
 obtain ⟨I1,aU⟩:∃ I:Nat->Env->Heap->Prop,I=(λn e h'=>∃ (i:Nat) (h1:Heap),h'=h1.lay [] h1.low/\Ext h h1/\(n=l.length - i/\i<=l.length/\(∀ x∈l.take i,¬ cL x=cL a)/\Holds h1 (h.size+0) (.row a.cells 47 false))/\∃ J:Nat->ab,e=(v::jr J 1 2 (.pointer (some ⟨h.size+0,0,none⟩)::J 4::.int .i64 i::jr J 6 13 ([])))):=⟨_,rfl⟩
 refine dA I1 _ (by rw [aU];exact ⟨0,_,rfl,z,⟨rfl,by omega,by simp,q0⟩,bl⟩) ?_
 intro n e h' aO
 rw [aU] at aO
 obtain ⟨i,bC,rfl,z,hinv,J,rfl⟩:=aO
 clear q0
 obtain ⟨rfl,hi,nG,q0⟩:=hinv
 have fH:=ei i (by omega)
 simp only [aa,seval,zR,bR,iF]
 refine bn (λjw=>?_) (λjw=>?_)
 rotate_left
 .rw [gE (by omega)] at nG
  have e:bE l a=false:=by
   cases e:bE l a
   .rfl
   .obtain ⟨x,hx,e2⟩:=cP.1 e
    exact absurd e2 (nG x hx)
  rw [e] at hk
  repeat' (simp only [aa,seval,zR,bR])
  exact hk _ z.aA
 have hr:l[(i:Int).toNat]? = some (l.getD i ae):=jM (by omega)
 have b8:l.getD i ae∈l:=ic hr
 simp only [aa,seval,zR,bR]
 with_reducible first|refine dL (by simp only [zR]) z.aA ?_
 simp only [aa,seval,zR,bR]
 repeat' ((first|with_reducible refine qI (hl.mono z.inc) bJ bH (by omega) hr (λp hp=>?_)|with_reducible refine ma hp eP bH ?_) <;> simp only [aa,seval,zR,bR,q0.lay,eE,↓eY,eJ,dX])
 refine zwG _ a (aT _ b8) ha _ _ (λh' x=>?_)
 (((with_reducible refine cU ?_ ?_ ?_);(· exact (by (simp only [ck]);have:=z.size;omega));(· exact x));replace z:=z.an x;replace q0:=q0.over x;rw [ao h'])
 simp only [aa,seval,zR]
 refine lK (λhc=>?_) (λhc=>?_)
 .have e:bE l a=true:=cP.2 ⟨_,b8,bT.1 hc⟩
  rw [e] at hk
  repeat' (first|simp only [aa,seval,zR]|((with_reducible refine ⟨z.cn.lay _ _,?_⟩);(intro _ h' zz x _);(simp only [bM,bu] at x);replace q0:=q0.over x;(replace z:=zz);(clear zz);rw [ao h']))
  exact hk _ z.aA
 .have lH:¬ cL (l.getD i ae)=cL a:=λe=>absurd (bT.2 e) hc
  have Gq:=qH (i:=i) (P:=λx:ak=>¬ cL x=cL a) (jM (l:=l) (i:=i) (by omega)) nG lH
  repeat' (first|simp only [aa,seval,zR]|((with_reducible refine ⟨z.cn.lay _ _,?_⟩);(intro _ h' zz x _);(simp only [bM,bu] at x);replace q0:=q0.over x;(replace z:=zz);(clear zz);rw [ao h']))
  rw [fH]
  (rw [aU];with_reducible refine cy (m:=_) ?_ ⟨i+1,_,rfl,z,⟨rfl,by omega,Gq,q0⟩,bl⟩;omega)
theorem P4 {a b d:Heap} {A:Nat} (i:bL a b) (c:eG A b d) (hA:a.size<=A):bL a d:=⟨gn i.size c.size,λB hB hd=>(c.get B (dB hB i.size) (by omega)).trans (i.get B hB hd)⟩
theorem zA2 {n:Nat} (h:2<=n):n / 2 < n/\0 < n / 2/\n - n / 2 < n:=by omega
theorem Qd:∀ (k:Nat) (l:aS) (v:ab) (h:Heap),l.length<=k->Sl aM.atom h v l->l.length<=100000->(∀ x∈l,x.aW=true)->∀ (K:aF),
 (∀ h' w,Ext h h'->kY h h' 47 w (eo l)->K w h')->Ok prog aD ov 85 [v] h K
 |k,l,v,h,lh,hl,hn,aT,K,hk=>by
  rw [ao h]
  have z:=Ext.refl h
  have bR:∀ (h:Heap) (K:aF),aC (some v) h K=K v h:=λ_ _=>rfl
  have iF:=λ(hh:Heap)=>hl.bo bJ hh
  refine Ok.aw 68 (bq N85) ?_
  simp only [aa,seval,gR,bR,iF]
  refine bn (λjx=>?_) (λjx=>?_)
  .repeat' ( simp only [aa,seval,gR,bR])
   simp only [aa,seval,gR,mr,xp]
   obtain ⟨news,hs,nI⟩:=uF (A:=h.size+1) (r:=aM.atom) (by decide) (hl.lay [.row [] 47 false] h.low) (λcs y hr=>hr)
   have f:Ow aM.atom h (h.lay [.row [] 47 false] h.low) 47 (h.size+1) (.slice (some ⟨h.size+0,0,none⟩) 0 0) [] :=
    .inl ⟨by omega,rfl,.inr ⟨h.size+0,0,rfl,by omega,by rw [bc];simp,[],47,false,by rw [iB];rfl⟩⟩
   obtain ⟨w,h',A',e1,e2,e3,e4,e5⟩:=AF (t:=38) bJ tD rfl (by decide) (by rw [bc];omega) f hs nI (by simp only [dN];omega) (by simp only [dN];omega)
   rw [e1]
   have iZ:∀ (h:Heap) (K:aF),aC (some w) h K=K w h:=λ_ _=>rfl
   replace z:=(Ext.refl h).cM e3 (by omega) (by omega)
   rw [ao h']
   repeat' (simp only [aa,seval,gR,iZ])
   rw [zxu (by omega)] at hk
   exact hk _ _ z.aA (Tq ((by simpa using e2:Ow aM.atom h h' 47 A' w l).mono (bL.lay _ _ _)))
  match k,lh with
  |0,lh=>exact absurd lh (by omega)
  |k+1,lh =>
   have hq:IntKind.i64.wrap (((l.length:Nat):Int).tdiv 2)=((l.length / 2:Nat):Int):=by
    rw [Int.tdiv_eq_ediv_of_nonneg (by omega),wrap_i64 (by omega) (by omega)]
    omega
   obtain ⟨g1,g2,g3⟩:=zA2 (n:=l.length) (by omega)
   simp only [aa,seval,gR,bR,iF]
   rw [zvB (by decide),hq]
   repeat' (simp only [aa,seval,gR,bR])
   with_reducible first|refine dL (by simp only [gR]) z.aA ?_
   simp only [aa,seval,gR,bR]
   repeat' ((with_reducible refine zBL (hl.mono z.inc) (by decide) bJ bH (show l.length / 2<=l.length by omega) (λv1 kT=>?_)) <;> simp only [aa,seval,gR,bR])
   have tl1:(l.take (l.length / 2)).length=l.length / 2:=by rw [gh];omega
   have tl2:(l.drop (l.length / 2)).length=l.length - l.length / 2:=by rw [kP]
   have lt1:∀ x∈l.take (l.length / 2),x.aW=true:=λx hx=>aT x (List.mem_of_mem_take hx)
   have lt2:∀ x∈l.drop (l.length / 2),x.aW=true:=λx hx=>aT x (List.mem_of_mem_drop hx)
   refine Qd k (l.take (l.length / 2)) v1 _ (by omega) (kT.lay _ _) (by omega) lt1 _ (λh' w1 x o1=>?_)
   replace o1:=(o1.own (by have:=zp (l.take (l.length / 2));omega)).sl
   (((with_reducible refine cU ?_ ?_ ?_);(· exact (by (simp only [ck]);have:=z.size;omega));(· exact x));replace z:=z.an x;rw [ao h'])
   have GG:∀ (h:Heap) (K:aF),aC (some w1) h K=K w1 h:=λ_ _=>rfl
   simp only [aa,seval,gR,bR,GG]
   repeat' ((with_reducible refine zwc (hl.mono z.inc) (by decide) bJ bH (show l.length / 2<=l.length by omega) (λv2 jB=>?_)) <;> simp only [aa,seval,gR,bR,GG])
   refine Qd k (l.drop (l.length / 2)) v2 _ (by omega) ((by assumption:Sl aM.atom _ v2 _).lay _ _) (by omega) lt2 _ (λh' w2 x o2=>?_)
   replace o2:=(o2.own (by have:=zp (l.drop (l.length / 2));omega)).sl
   (((with_reducible refine cU ?_ ?_ ?_);(· exact (by (simp only [ck]);have:=z.size;omega));(· exact x));replace z:=z.an x;replace o1:=o1.over x;rw [ao h'])
   have YD:∀ (h:Heap) (K:aF),aC (some w2) h K=K w2 h:=λ_ _=>rfl
   repeat' (first|simp only [aa,seval,gR,GG,YD]|((with_reducible refine ⟨z.cn.lay _ _,?_⟩);(intro _ h' zz x _);(simp only [bM,bu] at x);replace o1:=o1.over x;replace o2:=o2.over x;(replace z:=zz);(clear zz);rw [ao h']))
   have amU:=zp (l.take (l.length / 2))
   have amV:=zp (l.drop (l.length / 2))
   have Sj:=zxs (l.take (l.length / 2)) (l.drop (l.length / 2))
   rw [qv] at Sj
   have X4:=D5 lt1
   have X5:=D5 lt2
   generalize eo (l.take (l.length / 2))=s1 at *
   generalize eo (l.drop (l.length / 2))=s2 at *
   have rn:=z.size
   obtain ⟨H0,sS⟩:∃ H0,H0=h':=⟨_,rfl⟩
   rw [<- sS] at o1 o2 rn
   obtain ⟨I1,aU⟩:∃ I:Nat->Env->Heap->Prop,I=(λn e h'=>∃ (va vb wo:ab) (xs ys out:aS) (A:Nat) (h1:Heap),h'=h1.lay [] h1.low/\Ext h h1/\(n=xs.length+ys.length/\out++nS xs ys=eo l/\Sl aM.atom H0 va xs/\Sl aM.atom H0 vb ys/\Ow aM.atom H0 h1 47 A wo out/\bL H0 h1/\(∀ x∈xs,x.aW=true)/\(∀ x∈ys,x.aW=true)/\out.length+xs.length+ys.length<=l.length)/\∃ J:Nat->ab,e=(jr J 0 4 (va::vb::wo::jr J 7 62 ([])))):=⟨_,rfl⟩
   refine dA I1 _ (by rw [aU];exact ⟨w1,w2,.slice none 0 0,s1,s2,[],H0.size,_,rfl,z,⟨rfl,by simpa using Sj,o1,o2,Ow.nil (bj _),by rw [sS];exact bL.refl _,X4,X5,by simp only [dN];omega⟩,bl⟩) ?_
   intro n e h' aO
   rw [aU] at aO
   obtain ⟨va,vb,wo,xs,ys,out,A,bC,rfl,z,hinv,J,rfl⟩:=aO
   clear o1 o2
   obtain ⟨rfl,eT,sa,sb,ow,i1,la,lb,GC⟩:=hinv
   have qb:∀ (h:Heap) (K:aF),aC (some va) h K=K va h:=λ_ _=>rfl
   have oJ:∀ (h:Heap) (K:aF),aC (some vb) h K=K vb h:=λ_ _=>rfl
   have rk:∀ (h:Heap) (K:aF),aC (some wo) h K=K wo h:=λ_ _=>rfl
   have M3:=λ(hh:Heap)=>sa.bo bJ hh
   have M4:=λ(hh:Heap)=>sb.bo bJ hh
   have r8:=z.size
   have BM:0 < xs.length->0 < ys.length->∃ x Hg y Hh,xs=x::Hg/\ys=y::Hh:=λh1 h2=>by
    match xs,ys,h1,h2 with
    |x::xs,y::ys,_,_=>exact ⟨x,xs,y,ys,rfl,rfl⟩
   have MH:¬ (0 < xs.length/\0 < ys.length)->nS xs ys=xs++ys:=λhh=>by
    cases xs with
    |nil=>rw [zdJ];rfl
    |cons x xs=>cases ys with
     |nil=>rw [zdg];simp
     |cons y ys=>exact absurd ⟨by simp,by simp⟩ hh
   simp only [aa,seval,gR,qb,oJ,rk,M3,M4]
   refine bn (λf1=>?_) (λf1=>?_)
   rotate_left
   .repeat' ( simp only [aa,seval,gR,qb,oJ,rk,M3,M4])
    simp only [aa,seval,gR,mr,xp]
    rw [MH (by omega)] at eT
    have ij:=i1.size
    have hlen:(out++xs).length=out.length+xs.length:=dy
    obtain ⟨NV,mE,kC⟩:=uF (A:=A) (r:=aM.atom) (by decide) ((sa.mono i1).lay [] bC.low) (λcs y hr=>hr)
    have MO:=ow.fresh
    refine Ea (r:=aM.atom) bJ tD rfl (by decide) ij ow mE kC (by omega) (by omega) (λw5 h5 A5 o5 c5 hA5=>?_)
    have i5:=P4 (i1.trans (bL.lay _ _ _)) c5 MO
    replace z:=z.aA.step c5 (by omega)
    rw [ao h5]
    have kU:∀ (h:Heap) (K:aF),aC (some w5) h K=K w5 h:=λ_ _=>rfl
    simp only [aa,seval,gR,kU,oJ,mr,xp]
    have XR:=i5.size
    have hz5:=z.size
    obtain ⟨NW,gV,yU⟩:=uF (A:=A5) (r:=aM.atom) (by decide) ((sb.mono i5).lay [] h5.low) (λcs y hr=>hr)
    have hf5:=o5.fresh
    refine Ea (r:=aM.atom) bJ tD rfl (by decide) XR o5 gV yU (by omega) (by omega) (λw6 h6 A6 o6 c6 hA6=>?_)
    replace z:=z.aA.step c6 (by omega)
    rw [ao h6]
    have lY:∀ (h:Heap) (K:aF),aC (some w6) h K=K w6 h:=λ_ _=>rfl
    repeat' (simp only [aa,seval,gR,lY])
    rw [j7,eT] at o6
    exact hk _ _ z.aA (Tp (Tq (o6.mono (bL.lay _ _ _))) rn)
   simp only [aa,seval,gR,qb,oJ,rk,M3,M4]
   refine bn (λf2=>?_) (λf2=>?_)
   rotate_left
   .repeat' ( simp only [aa,seval,gR,qb,oJ,rk,M3,M4])
    simp only [aa,seval,gR,mr,xp]
    rw [MH (by omega)] at eT
    have ij:=i1.size
    have hlen:(out++xs).length=out.length+xs.length:=dy
    obtain ⟨NV,mE,kC⟩:=uF (A:=A) (r:=aM.atom) (by decide) ((sa.mono i1).lay [] bC.low) (λcs y hr=>hr)
    have MO:=ow.fresh
    refine Ea (r:=aM.atom) bJ tD rfl (by decide) ij ow mE kC (by omega) (by omega) (λw5 h5 A5 o5 c5 hA5=>?_)
    have i5:=P4 (i1.trans (bL.lay _ _ _)) c5 MO
    replace z:=z.aA.step c5 (by omega)
    rw [ao h5]
    have kU:∀ (h:Heap) (K:aF),aC (some w5) h K=K w5 h:=λ_ _=>rfl
    simp only [aa,seval,gR,kU,oJ,mr,xp]
    have XR:=i5.size
    have hz5:=z.size
    obtain ⟨NW,gV,yU⟩:=uF (A:=A5) (r:=aM.atom) (by decide) ((sb.mono i5).lay [] h5.low) (λcs y hr=>hr)
    have hf5:=o5.fresh
    refine Ea (r:=aM.atom) bJ tD rfl (by decide) XR o5 gV yU (by omega) (by omega) (λw6 h6 A6 o6 c6 hA6=>?_)
    replace z:=z.aA.step c6 (by omega)
    rw [ao h6]
    have lY:∀ (h:Heap) (K:aF),aC (some w6) h K=K w6 h:=λ_ _=>rfl
    repeat' (simp only [aa,seval,gR,lY])
    rw [j7,eT] at o6
    exact hk _ _ z.aA (Tp (Tq (o6.mono (bL.lay _ _ _))) rn)
   obtain ⟨ax,Hg,ay,Hh,rfl,rfl⟩:=BM (by omega) (by omega)
   have vf:=la ax (jm ..)
   have hay:=lb ay (jm ..)
   obtain ⟨ZL,ga,sa'⟩:=sa.sub (T:=aD) (t:=38) (by decide) bJ bH (ea.num .i64 0 1) (ea.no _) (show 1<=(ax::Hg).length by simp) (bj _)
   obtain ⟨SE,gb,Zx⟩:=sb.sub (T:=aD) (t:=38) (by decide) bJ bH (ea.num .i64 0 1) (ea.no _) (show 1<=(ay::Hh).length by simp) (bj _)
   rw [JW,List.drop_succ_cons,zM] at sa' Zx
   rw [show ((1:Nat):Int)=1 from rfl] at ga gb
   have YE:∀ (h:Heap) (K:aF),aC (some ZL) h K=K ZL h:=λ_ _=>rfl
   have NG:∀ (h:Heap) (K:aF),aC (some SE) h K=K SE h:=λ_ _=>rfl
   repeat' (simp only [aa,seval,gR,qb,oJ,rk,M3,M4])
   with_reducible first|refine dL (by simp only [gR]) z.aA ?_
   have hra:(ax::Hg)[(0:Int).toNat]? = some ax:=rfl
   have hrb:(ay::Hh)[(0:Int).toNat]? = some ay:=rfl
   simp only [aa,seval,gR,qb,oJ,rk]
   repeat' ((first|with_reducible refine qI (sa.mono i1) bJ bH (by omega) hra (λp hp=>?_)|with_reducible refine qI (sb.mono i1) bJ bH (by omega) hrb (λp hp=>?_)|with_reducible refine ma hp eP bH ?_) <;> simp only [aa,seval,gR,qb,oJ,rk])
   refine zwG ax ay vf hay _ _ (λh' x=>?_)
   (((with_reducible refine cU ?_ ?_ ?_);(· exact (by (simp only [ck]);have:=z.size;omega));(· exact x));replace z:=z.an x;replace ow:=ow.over x;replace i1:=i1.over x;rw [ao h'])
   simp only [aa,seval,gR,qb,oJ,rk]
   ((with_reducible refine ⟨z.cn.lay _ _,?_⟩);(intro _ h' zz x _);(simp only [bM,bu] at x);replace ow:=ow.over x;replace i1:=i1.over x;(replace z:=zz);(clear zz);rw [ao h'])
   simp only [aa,seval,gR,qb,oJ,rk]
   refine bn (λwI=>?_) (λwI=>?_)
   .simp only [aa,seval,gR,qb,oJ,rk]
    with_reducible first|refine dL (by simp only [gR]) z.aA ?_
    simp only [aa,seval,gR,qb,oJ,rk]
    repeat' ((first|with_reducible refine qI (sa.mono i1) bJ bH (by omega) hra (λp hp=>?_)|with_reducible refine ma hp eP bH ?_) <;> simp only [aa,seval,gR,qb,oJ,rk,Jh])
    have mG:=z.size
    refine w8 (by omega) (by omega) ?_
    simp only [aa,seval,gR,mr,xp,rk]
    have Bz:=ow.fresh
    have ij:=i1.size
    have Nn:out.length<=100000:=by omega
    obtain ⟨mE,kC⟩:=Jw (A:=A) (B:=h'.size+0) (r:=aM.atom) (c:=1) (y:=ax) (by decide) (show (h'.lay [ba.row ax.cells 47 false] (h'.size+1)).get (h'.size+0)=some (.row ax.cells 47 false) by rw [iB];rfl) rfl
    obtain ⟨w3,h3,A3,e1,o3,c3,e4,e5⟩:=AF (t:=38) bJ tD rfl (by decide) (by rw [bc];omega) (ow.mono (bL.lay _ _ _)) mE kC (by omega) (by omega)
    rw [e1]
    simp only [aa,seval,gR]
    refine og (A:=A) (by kernel_rfl) (by rw [bc];omega) (by omega) (by simpa only [bM,bc,bu,dn,dN,jo] using c3) ?_
    have i3:=P4 (i1.trans (bL.lay _ _ _)) c3 Bz
    replace z:=(z.kN [ba.row ax.cells 47 false] (h'.size+1) (by omega)).step c3 (by omega)
    clear i1 ow e1 e4 e5 c3 mE kC
    have NF:∀ (h:Heap) (K:aF),aC (some w3) h K=K w3 h:=λ_ _=>rfl
    rw [ao h3]
    repeat' (first|simp only [aa,seval,gR,NF,qb,oJ,ga,YE]|((with_reducible refine ⟨z.cn.lay _ _,?_⟩);(intro _ h' zz x _);(simp only [bM,bu] at x);replace o3:=o3.over x;replace i3:=i3.over x;(replace z:=zz);(clear zz);rw [ao h']))
    rw [zjp wI] at eT
    (rw [aU];with_reducible refine cy (m:=_) ?_ ⟨ZL,vb,w3,Hg,ay::Hh,out++[ax],A3,_,rfl,z,⟨rfl,by rw [<- eT,j7,xz,pE],sa',sb,o3,i3,λx hx=>la x (fB _ hx),lb,by simp only [dn,dy,dN] at GC ⊢;omega⟩,bl⟩;(simp only [dn];omega))
   repeat' (first|simp only [aa,seval,gR,qb,oJ,rk]|((with_reducible apply bn) <;> intro _))
   .have lH:0 < aX ax ay:=by assumption
    with_reducible first|refine dL (by simp only [gR]) z.aA ?_
    simp only [aa,seval,gR,qb,oJ,rk]
    repeat' ((first|with_reducible refine qI (sb.mono i1) bJ bH (by omega) hrb (λp hp=>?_)|with_reducible refine ma hp eP bH ?_) <;> simp only [aa,seval,gR,qb,oJ,rk,Jh])
    have mG:=z.size
    refine w8 (by omega) (by omega) ?_
    simp only [aa,seval,gR,mr,xp,rk]
    have Bz:=ow.fresh
    have ij:=i1.size
    have Nn:out.length<=100000:=by omega
    obtain ⟨mE,kC⟩:=Jw (A:=A) (B:=h'.size+0) (r:=aM.atom) (c:=1) (y:=ay) (by decide) (show (h'.lay [ba.row ay.cells 47 false] (h'.size+1)).get (h'.size+0)=some (.row ay.cells 47 false) by rw [iB];rfl) rfl
    obtain ⟨w3,h3,A3,e1,o3,c3,e4,e5⟩:=AF (t:=38) bJ tD rfl (by decide) (by rw [bc];omega) (ow.mono (bL.lay _ _ _)) mE kC (by omega) (by omega)
    rw [e1]
    simp only [aa,seval,gR]
    refine og (A:=A) (by kernel_rfl) (by rw [bc];omega) (by omega) (by simpa only [bM,bc,bu,dn,dN,jo] using c3) ?_
    have i3:=P4 (i1.trans (bL.lay _ _ _)) c3 Bz
    replace z:=(z.kN [ba.row ay.cells 47 false] (h'.size+1) (by omega)).step c3 (by omega)
    clear i1 ow e1 e4 e5 c3 mE kC
    have NF:∀ (h:Heap) (K:aF),aC (some w3) h K=K w3 h:=λ_ _=>rfl
    rw [ao h3]
    repeat' (first|simp only [aa,seval,gR,NF,qb,oJ,gb,NG]|((with_reducible refine ⟨z.cn.lay _ _,?_⟩);(intro _ h' zz x _);(simp only [bM,bu] at x);replace o3:=o3.over x;replace i3:=i3.over x;(replace z:=zz);(clear zz);rw [ao h']))
    rw [zjo lH] at eT
    (rw [aU];with_reducible refine cy (m:=_) ?_ ⟨va,SE,w3,ax::Hg,Hh,out++[ay],A3,_,rfl,z,⟨rfl,by rw [<- eT,j7,xz,pE],sa,Zx,o3,i3,la,λx hx=>lb x (fB _ hx),by simp only [dn,dy,dN] at GC ⊢;omega⟩,bl⟩;(simp only [dn];omega))
   .have ye:aX ax ay=0:=by omega
    rw [gb]
    repeat' (simp only [aa,seval,gR,NG])
    rw [zjn ye] at eT
    (rw [aU];with_reducible refine cy (m:=_) ?_ ⟨va,SE,wo,ax::Hg,Hh,out,A,_,rfl,z,⟨rfl,eT,sa,Zx,ow,i1,la,λx hx=>lb x (fB _ hx),by simp only [dn] at GC ⊢;omega⟩,bl⟩;(simp only [dn];omega))
theorem zBl (l:aS) (a:ak) (v:ab) (h:Heap) (hl:Sl aM.atom h v l) (hn:l.length<=900) (aT:∀ x∈l,x.aW=true) (ha:a.aW=true) (K:aF)
 (hk:∀ h' w,Ext h h'->kY h h' 47 w (cD a (eo l))->K (.tuple #[w,.bool (!bE l a)]) h'):Ok prog aD ov 50 [v,a.val] h K:=by
 rw [ao h]
 have z:=Ext.refl h
 refine Ok.aw 16 (bq N50) ?_
 simp only [aa,seval,Fi,eE]
 refine Qd l.length l v _ (bj _) (hl.lay _ _) (by omega) aT _ (λh' w x ho=>?_)
 replace ho:=Tp (h0:=h) ho (by rw [bc];omega)
 have q0:=Holds.top (i:=0) x rfl
 (replace z:=z.an x;rw [ao h'])
 have bR:∀ (h:Heap) (K:aF),aC (some w) h K=K w h:=λ_ _=>rfl
 have Dq:=zp l
 have Gi:=D5 aT
 have hoA:=ho.own (by omega)
 repeat' (simp only [aa,seval,Fi,bR,q0.lay,eE,↓eY,eJ,dX])
 refine QO (eo l) a w _ (hoA.sl.lay _ _) (by omega) Gi ha _ (λh' x=>?_)
 have Yi:=(hoA.lay _ _).mono x.inc
 (replace z:=z.an x;replace q0:=q0.over x;rw [ao h'])
 rw [Ji]
 cases hb:bE l a
 .rw [hb] at hk
  repeat' (simp only [aa,seval,Fi,bR,q0.lay,eE,↓eY,eJ,dX,Jh])
  simp only [aa,seval,Fi,mr,xp]
  have hz:=z.size
  obtain ⟨w2,h2,e2,o2,A2,Ix,c2⟩:=zAr (a:=a) (lw:=h'.low) bJ TI (by decide) (by decide) hz Yi (by omega)
  rw [e2]
  replace z:=z.cM c2 Ix (by omega)
  have jB:∀ (h:Heap) (K:aF),aC (some w2) h K=K w2 h:=λ_ _=>rfl
  rw [ao h2]
  simp only [aa,seval,Fi,jB]
  refine Qd (eo l++[a]).length (eo l++[a]) w2 _ (bj _) (o2.sl.lay _ _) (by simp only [dy,dn,dN];omega) (λx hx=>(mj.1 hx).elim (Gi x) (λhx=>by rw [hU.1 hx];exact ha)) _ (λh' w3 x o3=>?_)
  have mG:=z.size
  replace o3:=Tp (h0:=h) o3 (by rw [bc];omega)
  rw [zxv] at o3
  (replace z:=z.an x;rw [ao h'])
  have NF:∀ (h:Heap) (K:aF),aC (some w3) h K=K w3 h:=λ_ _=>rfl
  repeat' (simp only [aa,seval,Fi,NF])
  exact hk _ _ z.aA (zjz o3 (bL.lay _ _ _))
 .have BL:=zrh (a:=a) (qG l).hY (by rw [Ji,hb])
  rw [hb,BL] at hk
  repeat' (simp only [aa,seval,Fi,bR])
  exact hk _ _ z.aA (zjz (zjz ho (bL.over (bL.refl _) x)) (bL.lay _ _ _))
theorem zwO (l m:aS) (v u:ab) (h:Heap) (hl:Sl aM.atom h v l) (hm:Sl aM.atom h u m) (hn:l.length<=900) (Nh:m.length<=900) (aT:∀ x∈l,x.aW=true) (Dr:∀ x∈m,x.aW=true) (K:aF)
 (hk:∀ h' w A,Ext h h'->Ow aM.atom h h' 47 A w ((eo l).filter (λx => !bE m x))->K w h'):Ok prog aD ov 86 [v,u] h K:=by
 rw [ao h]
 have z:=Ext.refl h
 have lZ:∀ (h:Heap) (K:aF),aC (some u) h K=K u h:=λ_ _=>rfl
 refine Ok.aw 29 (bq N86) ?_
 repeat' (simp only [aa,seval,wA])
 refine Qd l.length l v _ (bj _) (hl.lay _ _) (by omega) aT _ (λh' w x ho=>?_)
 have Dq:=zp l
 have Gi:=D5 aT
 replace ho:=(ho.own (by omega)).sl
 (replace z:=z.an x;rw [ao h'])
 have iZ:∀ (h:Heap) (K:aF),aC (some w) h K=K w h:=λ_ _=>rfl
 generalize eo l=s at *
 simp only [aa,seval,wA,iZ]
 repeat' ((first|((with_reducible first|apply bn|apply lK|apply gg|apply rJ|apply vZ) <;> intro _)|((with_reducible apply bX);(· rfl))) <;> simp only [aa,seval,wA,iZ])
 have rn:=z.size
 obtain ⟨H0,sS⟩:∃ H0,H0=h':=⟨_,rfl⟩
 rw [<- sS] at ho rn
 obtain ⟨I1,aU⟩:∃ I:Nat->Env->Heap->Prop,I=(λn e h'=>∃ (i:Nat) (wo:ab) (A:Nat) (h1:Heap),h'=h1.lay [] h1.low/\Ext h h1/\(n=s.length - i/\i<=s.length/\Ow aM.atom H0 h1 47 A wo ((s.take i).filter (λx => !bE m x))/\bL H0 h1)/\∃ J:Nat->ab,e=(v::u::jr J 2 3 (wo::w::.int .i64 i::jr J 8 23 ([])))):=⟨_,rfl⟩
 refine dA I1 _ (by rw [aU];exact ⟨0,.slice none 0 0,H0.size,_,rfl,z,⟨rfl,by omega,Ow.nil (bj _),by rw [sS];exact bL.refl _⟩,bl⟩) ?_
 intro n e h' aO
 rw [aU] at aO
 obtain ⟨i,wo,A,bC,rfl,z,hinv,J,rfl⟩:=aO
 obtain ⟨rfl,hi,ow,i1⟩:=hinv
 have fH:=ei i (by omega)
 have DJ:∀ (h:Heap) (K:aF),aC (some wo) h K=K wo h:=λ_ _=>rfl
 have iF:=λ(hh:Heap)=>ho.bo bJ hh
 simp only [aa,seval,wA,iZ,iF]
 refine bn (λjw=>?_) (λjw=>?_)
 rotate_left
 .rw [gE (by omega)] at ow
  repeat' (simp only [aa,seval,wA,DJ])
  exact hk _ _ A z.aA (zxg (ow.mono (bL.lay _ _ _)) rn)
 have hr:s[(i:Int).toNat]? = some (s.getD i ae):=jM (by omega)
 have b8:s.getD i ae∈s:=ic hr
 have mX:s.take (i+1)=s.take i++[s.getD i ae]:=by rw [oW,jM (l:=s) (i:=i) (by omega)];rfl
 simp only [aa,seval,wA,iZ,lZ]
 repeat' ((first|with_reducible refine qI (ho.mono i1) bJ bH (by omega) hr (λp hp=>?_)|with_reducible refine ma hp eP bH ?_) <;> simp only [aa,seval,wA,iZ,lZ])
 refine QO m _ u _ ((hm.mono z.inc).lay _ _) (by omega) Dr (Gi _ b8) _ (λh' x=>?_)
 (replace z:=z.an x;replace ow:=ow.over x;replace i1:=i1.over x;rw [ao h'])
 cases hb:bE m (s.getD i ae)
 .simp only [aa,seval,wA,iZ,DJ]
  repeat' ((first|with_reducible refine qI (ho.mono i1) bJ bH (by omega) hr (λp hp=>?_)|with_reducible refine ma hp eP bH ?_|((with_reducible apply bX);(· rfl))) <;> simp only [aa,seval,wA,iZ,DJ,Jh])
  simp only [aa,seval,wA,mr,xp]
  have Bz:=ow.fresh
  have ij:=i1.size
  have ud:((s.take i).filter (λx => !bE m x)).length<=900:=by
   have:=CI (λx => !bE m x) (s.take i)
   rw [gh] at this
   omega
  obtain ⟨mE,kC⟩:=Jw (A:=A) (B:=h'.size+0) (r:=aM.atom) (c:=1) (y:=s.getD i ae) (by decide) (show (h'.lay [ba.row (s.getD i ae).cells 47 false] h'.low).get (h'.size+0)=some (.row (s.getD i ae).cells 47 false) by rw [iB];rfl) rfl
  refine Ea (r:=aM.atom) bJ tD rfl (by decide) ij ow mE kC (by omega) (by omega) (λw5 h5 A5 o5 c5 hA5=>?_)
  have i5:=P4 (i1.trans (bL.lay _ _ _)) c5 Bz
  replace z:=z.aA.step c5 (by omega)
  rw [ao h5]
  have kU:∀ (h:Heap) (K:aF),aC (some w5) h K=K w5 h:=λ_ _=>rfl
  repeat' (simp only [aa,seval,wA,kU])
  rw [fH]
  (rw [aU];with_reducible refine cy (m:=_) ?_ ⟨i+1,w5,A5,_,rfl,z,⟨rfl,by omega,by rw [mX,AO,HZ,hb];simpa using o5,i5⟩,bl⟩;omega)
 .repeat' (first|simp only [aa,seval,wA,iZ,DJ]|((with_reducible apply bX);(· rfl)))
  rw [fH]
  (rw [aU];with_reducible refine cy (m:=_) ?_ ⟨i+1,wo,A,_,rfl,z,⟨rfl,by omega,by rw [mX,AO,HZ,hb];simpa using ow,i1⟩,bl⟩;omega)
theorem zun (l:aS) (a:ak) (v:ab) (h:Heap) (hl:Sl aM.atom h v l) (hn:l.length<=900) (aT:∀ x∈l,x.aW=true) (ha:a.aW=true) (K:aF)
 (hk:∀ h' w A,Ext h h'->Ow aM.atom h h' 47 A w (eQ a (eo l))->K (.tuple #[w,.bool (bE l a)]) h'):Ok prog aD ov 51 [v,a.val] h K:=by
 rw [ao h]
 have z:=Ext.refl h
 have hZ:∀ (h:Heap) (K:aF),aC (some v) h K=K v h:=λ_ _=>rfl
 refine Ok.aw 11 (bq N51) ?_
 simp only [aa,seval,Io,eE]
 refine na (λh' x hq=>?_)
 have q0:=hq 0 _ rfl
 clear hq
 (replace z:=z.an x;rw [ao h'])
 with_reducible first|refine dL (by simp only [Io]) z.aA ?_
 repeat' (simp only [aa,seval,Io,hZ,q0.lay,eE,↓eY,eJ,dX,Jh])
 have hz:=z.size
 refine w8 (by omega) (by omega) ?_
 simp only [aa,seval,Io,hZ]
 refine zwO l [a] v _ _ ((hl.mono z.inc).lay _ _) zzo hn (by simp) aT (by simpa using ha) _ (λh' w A x ho=>?_)
 rw [zvV] at ho
 replace ho:=zxg (h0:=h) ho (by rw [bc];omega)
 (((with_reducible refine cU ?_ ?_ ?_);(· exact (by (simp only [ck]);have:=z.size;omega));(· exact x));replace z:=z.an x;replace q0:=q0.over x;rw [ao h'])
 have iZ:∀ (h:Heap) (K:aF),aC (some w) h K=K w h:=λ_ _=>rfl
 repeat' (simp only [aa,seval,Io,iZ,hZ,q0.lay,eE,↓eY,eJ,dX])
 refine QO l a v _ ((hl.mono z.inc).lay _ _) (by omega) aT ha _ (λh' x=>?_)
 (((with_reducible refine cU ?_ ?_ ?_);(· exact (by (simp only [ck]);have:=z.size;omega));(· exact x));replace z:=z.an x;replace q0:=q0.over x;replace ho:=ho.over x;rw [ao h'])
 generalize bE l a=b at hk ⊢
 cases b
 all_goals
  repeat' (first|simp only [aa,seval,Io,iZ]|((with_reducible refine ⟨z.cn.lay _ _,?_⟩);(intro _ h' zz x _);(simp only [bM,bu] at x);replace q0:=q0.over x;replace ho:=ho.over x;(replace z:=zz);(clear zz);rw [ao h']))
  exact hk _ _ A z.aA (ho.mono (bL.lay _ _ _))
theorem kY.kill {h0 h:Heap} {u:TypeId} {v:ab} {s:aS} {D:List Nat} (f:kY h0 h u v s) (aQ:s≠[]) (hs:s.length<=100000) (hD:∀ B∈D,B < h0.size):Sl aM.atom (aG D h) v s:=by
 rcases f with ⟨e,_⟩|⟨A,e1,e2,e3,e4⟩
 .exact absurd e aQ
 .have hA:A ∉ D:=λhm=>by have:=hD A hm;omega
  exact (kY.own (h0:=h0) (u:=u) (.inr ⟨A,e1,⟨by rw [iC];exact e2.lt,by rw [oS hA];exact e2.get⟩,e3,e4⟩) hs).sl
section
variable {N S2 NB k:Nat} {h hc h2:Heap} {X:List Nat} {d:aq}
theorem lP.di (f:lP N (aG X hc) S2 NB d k) (fr:aL [] hc h2):lP N (aG X h2) S2 NB d k:=f.inc (fr.kill X).all
theorem lP.more (f:lP N h S2 NB d k):lP N h S2 NB d (k+1):=by
 obtain ⟨p0,p1,p2,p5,p6,q,b,nv,rows,e1,e2,e3,e4,e5,e6⟩:=f
 exact ⟨p0,p1,p2,p5,p6,q,b,nv,rows,e1,e2,e3,e4,λx hx=>⟨by have:=(e5 x hx).1;omega,(e5 x hx).2.imp λl hl=>⟨hl.1,by have:=hl.2.1;omega,hl.2.2⟩⟩,e6⟩
theorem lP.beside {E E2:List Nat} (f:lP N (aG E hc) S2 NB d k) (fr:aL E hc h2) (hE:∀ B∈E2,B∈E\/hc.size<=B):lP N (aG E2 h2) S2 NB d k:=f.inc (fr.inc hE)
theorem lP.turn {p0 p1 p2 p5 p6 nv w:ab} {q b:Int} {rows:List ni} {i n:Nat} {x:ni} {s:au} {l:aS}
 (e1:Holds (aG X hc) S2 (.row (Cx p0 p1 p2 p5 p6 q b nv) 108 false)) (e2:dR (aG [NB] (aG X hc)) p0 p1 p2 p5 p6 d) (e4:rows.map ni.who=d.ah)
 (e5:∀ x∈rows,x.n<=k/\∃ l:aS,Sl aM.atom (aG [NB] (aG X hc)) x.v l/\l.length<=k/\∀ y∈l,y.aW=true) (e6:S2≠NB) (e7:N<=S2) (e8:N<=NB) (e9:NB < hc.size)
 (hx:rows[i]? = some x) (hw:x.who=s) (fr:aL [NB] hc h2) (uZ:NB ∉ X) (o:cC 3 ni.cells h2 110 NB nv (rows.set i ⟨s,w,n⟩)) (hn:n<=k+1) (sw:Sl aM.atom (aG (NB::X) h2) w l) (hl:l.length<=k+1) (aT:∀ y∈l,y.aW=true) :
 lP N (aG X h2) S2 NB d (k+1):=by
 have fk:=fr.kill X
 have ik:bL (aG [NB] (aG X hc)) (aG [NB] (aG X h2)):=fk.inc (λB hB=>.inl hB)
 have iX:=(dP.1 hx).1
 have vH:(rows.set i ⟨s,w,n⟩).map ni.who=d.ah:=by
  rw [List.map_set,<- e4]
  refine qN λj=>?_
  rw [sA]
  by_cases dK:i=j
  .subst dK
   rw [aE rfl,aE (by rw [gi];exact iX),lC,hx,jn,hw]
  .rw [az dK]
 refine ⟨p0,p1,p2,p5,p6,q,b,nv,rows.set i ⟨s,w,n⟩,e1.bN fk (by simpa using e6),e2.mono ik,o.hold (λ_ q=>q.kg uZ),vH,λy hy=>?_,e6,e7,e8,by rw [iC];exact dB e9 fr.size⟩
 rcases List.mem_or_eq_of_mem_set hy with hm|rfl
 .obtain ⟨g1,l2,g2,g3,g4⟩:=e5 y hm
  exact ⟨by omega,l2,g2.mono ik,by omega,g4⟩
 .exact ⟨hn,l,sw,hl,aT⟩
end
theorem zCX:dg aD 49=some 1:=by kernel_rfl
theorem zAe:dg aD 38=some 1:=by kernel_rfl
theorem zBH:dg aD 106=some 1:=by kernel_rfl
theorem zBC:su aD 106 106=true:=by kernel_rfl
theorem zDj (a0 a1 a2 a5 a6) (n0 c0 n1 c1 n2 c2 n5 c5 n6 c6:Nat) (q b:Int):qp aD 108 [(0,fI (.slice a0 n0 c0) (.slice a1 n1 c1) (.slice a2 n2 c2) (.slice a5 n5 c5) (.slice a6 n6 c6) q b)]=some (.agg ⟨Cx (.slice a0 n0 c0) (.slice a1 n1 c1) (.slice a2 n2 c2) (.slice a5 n5 c5) (.slice a6 n6 c6) q b (.slice none 0 0)⟩):=by kernel_rfl
theorem zDi (s:au):qp aD 110 [(0,.string s)]=some (.agg ⟨[.string s,.slice none 0 0,.int .u64 0]⟩):=by kernel_rfl
theorem zpk {a x:ak}:∀ {l:aS},x∈cD a l->x=a\/x∈l
 | [],h=>.inl (hU.1 h)
 |y::r,h=>by
  unfold cD at h
  split at h
  .rcases dh.1 h with e|h
   .exact .inl e
   .exact .inr h
  .split at h
   .exact .inr h
   .rcases dh.1 h with e|h
    .exact .inr (by rw [e];exact jm)
    .exact (zpk h).imp id (fB _)
theorem H9 (a) (n c:Nat) (h:Heap) (K:aF):aC (some (.slice a n c)) h K=K (.slice a n c) h:=rfl
theorem zt0 (d:aq) (k:Nat) (s:au) (a:ak) (h hc:Heap) (z:Ext h hc) (N S2 NB:Nat) (hN:N=h.size) (X:List Nat) (Dd:∀ B∈X,B < hc.size) (sd:lP N (aG X hc) S2 NB d k) (uZ:NB ∉ X) (hk8:k<=800) (ha:a.aW=true) (K:aF)
 (hK:∀ h' bb e,Ext h h'->aL [NB] hc h'->lP N (aG X h') S2 NB d (k+1)->K (.tuple #[.bool bb,.int .i64 e]) h'):Ok prog aD ov 24 [.pointer (some ⟨S2,0,none⟩),.string s,a.val] hc K:=by
 subst hN
 obtain ⟨p0,p1,p2,p5,p6,q,b,nv,rows,e1,e2,e3,e4,e5,e6,e7,e8,e9⟩:=id sd
 rw [iC] at e9
 have ik:=rH X hc
 have g1:=e1.mono ik
 have g2:=(e2.mono (rH [NB] _)).mono ik
 have g3:=cC.vK e3 ik
 have bf:=g2.one q b
 have hZ:∀ (h:Heap) (K:aF),aC (some nv) h K=K nv h:=λ_ _=>rfl
 have oK:=z.size
 rw [ao hc]
 refine Ok.aw 61 (bq N24) ?_
 simp only [aa,seval,lF,eE]
 with_reducible first|refine dL (by simp only [lF]) z.aA ?_
 simp only [aa,seval,lF,cd,dm,g1.lay,↓LQ,eV,eI,eE,↓eY,eJ,dX]
 refine zsy d s a p0 p1 p2 p5 p6 q b _ bf (g2.lay _ _) _ (λfe h' x yo=>?_)
 have q0:=Holds.top (i:=0) x rfl
 have fr:aL [] hc h':=(aL.refl [] hc).over x
 replace g1:=g1.over x
 replace g3:=g3.over x
 (((with_reducible refine cU ?_ ?_ ?_);(· exact (by (simp only [ck]);have:=z.size;omega));(· exact x));replace z:=z.an x;rw [ao h'])
 simp only [aa,seval,lF,bO]
 ((with_reducible refine ⟨z.cn.lay _ _,?_⟩);(intro _ h' zz x _);(simp only [bM,bu] at x);replace q0:=q0.over x;replace fr:=fr.over x;replace g1:=g1.over x;replace g3:=g3.over x;(replace z:=zz);(clear zz);rw [ao h'])
 simp only [aa,seval,lF,bO]
 refine gg (λaQ=>?_) (λheq=>?_)
 .skip
  simp only [aa,seval,lF,bO]
  exact hK _ _ _ z.aA ((fr.mono (λ_ h=>nomatch h)).trans (aL.lay _ _ _ []) (λ_ h=>nomatch h)) (sd.di (fr.trans (aL.lay _ _ _ []) (λ_ h=>nomatch h))).more
 simp only [aa,seval,lF]
 with_reducible first|refine dL (by simp only [lF]) z.aA ?_
 simp only [aa,seval,lF,cd,dm,g1.lay,JI,hZ]
 refine zAa rows s p0 p1 p2 p5 p6 nv q b S2 NB _ (g1.on _ _) (g3.lay _ _) _ (λi r hr hw h' x=>?_) (λnG h' x=>?_)
 rotate_left
 .exfalso
  have hm:=yo heq
  rw [<- e4] at hm
  obtain ⟨y,hy,e⟩:=oY.1 hm
  exact nG y hy e
 (((with_reducible refine cU ?_ ?_ ?_);(· exact (by (simp only [ck]);have:=z.size;omega));(· exact x));replace z:=z.an x;replace q0:=q0.over x;replace fr:=fr.over x;replace g1:=g1.over x;replace g3:=g3.over x;rw [ao h'])
 obtain rfl:=hw
 obtain ⟨GI,l,mE,iF,aT⟩:=e5 r (ic hr)
 have BN:Sl aM.atom hc r.v l:=(mE.mono (rH [NB] _)).mono ik
 have iX:=(dP.1 hr).1
 have ij:=g3.ix (kd:=.i64) (i:=i) Q9 zxC iX
 have oc:∀ (h:Heap) (K:aF),aC (some r.v) h K=K r.v h:=λ_ _=>rfl
 have hlr:=λ(hh:Heap)=>BN.bo bJ hh
 simp only [aa,seval,lF,bO,ij,cd]
 ((with_reducible refine ⟨z.cn.lay _ _,?_⟩);(intro _ h' zz x _);(simp only [bM,bu] at x);replace q0:=q0.over x;replace fr:=fr.over x;replace g1:=g1.over x;replace g3:=g3.over x;(replace z:=zz);(clear zz);rw [ao h'])
 simp only [aa,seval,lF,cd]
 have c1:=g3.gH (j:=1) hr (by omega) rfl
 with_reducible first|refine dL (by simp only [lF]) z.aA ?_
 simp only [aa,seval,lF,cd,c1,oc,q0.lay,eE,↓eY,eJ,dX]
 refine QO l a r.v _ ((BN.mono fr.all).lay _ _) (by omega) aT ha _ (λh' x=>?_)
 clear c1
 (((with_reducible refine cU ?_ ?_ ?_);(· exact (by (simp only [ck]);have:=z.size;omega));(· exact x));replace z:=z.an x;replace q0:=q0.over x;replace fr:=fr.over x;replace g1:=g1.over x;replace g3:=g3.over x;rw [ao h'])
 simp only [aa,seval,lF]
 ((with_reducible refine ⟨z.cn.lay _ _,?_⟩);(intro _ h' zz x _);(simp only [bM,bu] at x);replace q0:=q0.over x;replace fr:=fr.over x;replace g1:=g1.over x;replace g3:=g3.over x;(replace z:=zz);(clear zz);rw [ao h'])
 cases hh:bE l a
 rotate_left
 .skip
  simp only [aa,seval,lF,bO]
  exact hK _ _ _ z.aA ((fr.mono (λ_ h=>nomatch h)).trans (aL.lay _ _ _ []) (λ_ h=>nomatch h)) (sd.di (fr.trans (aL.lay _ _ _ []) (λ_ h=>nomatch h))).more
 simp only [aa,seval,lF]
 have mn:=TO a (eo l)
 have oa:=zp l
 have c1:=g3.gH (j:=1) hr (by omega) rfl
 with_reducible first|refine dL (by simp only [lF]) z.aA ?_
 simp only [aa,seval,lF,cd,c1,oc,hlr,g1.lay,zCm,bO]
 clear c1
 refine bn (λka=>?_) (λjx=>?_)
 .simp only [aa,seval,lF]
  ((with_reducible refine ⟨z.cn.lay _ _,?_⟩);(intro _ h' zz x _);(simp only [bM,bu] at x);replace q0:=q0.over x;replace fr:=fr.over x;replace g1:=g1.over x;replace g3:=g3.over x;(replace z:=zz);(clear zz);rw [ao h'])
  simp only [aa,seval,lF,bO]
  exact hK _ _ _ z.aA ((fr.mono (λ_ h=>nomatch h)).trans (aL.lay _ _ _ []) (λ_ h=>nomatch h)) (sd.di (fr.trans (aL.lay _ _ _ []) (λ_ h=>nomatch h))).more
 simp only [aa,seval,lF]
 ((with_reducible refine ⟨z.cn.lay _ _,?_⟩);(intro _ h' zz x _);(simp only [bM,bu] at x);replace q0:=q0.over x;replace fr:=fr.over x;replace g1:=g1.over x;replace g3:=g3.over x;(replace z:=zz);(clear zz);rw [ao h'])
 simp only [aa,seval,lF]
 have c1:=g3.gH (j:=1) hr (by omega) rfl
 with_reducible first|refine dL (by simp only [lF]) z.aA ?_
 simp only [aa,seval,lF,cd,c1,oc,q0.lay,eE,↓eY,eJ,dX]
 have MT:=fr.size
 refine zBl l a r.v _ ((BN.mono fr.all).lay _ _) (by omega) aT ha _ (λh' w x ho=>?_)
 clear c1
 have yV:Sl aM.atom (aG (NB::X) h') w (cD a (eo l)):=kY.kill ho (zxm _ _) (by omega) (λB hB=>by
  rw [bc]
  rcases dh.1 hB with rfl|hB
  .omega
  .have:=Dd B hB;omega)
 (((with_reducible refine cU ?_ ?_ ?_);(· exact (by (simp only [ck]);have:=z.size;omega));(· exact x));replace z:=z.an x;replace q0:=q0.over x;replace fr:=fr.over x;replace g1:=g1.over x;replace g3:=g3.over x;rw [ao h'])
 obtain ⟨wa,wn,wc,rfl⟩:=rG yV
 rw [hh]
 simp only [aa,seval,lF,jg,H9,gB,cd,kW]
 have XH:=fr.size
 refine cC.store (off:=1) (y:=(⟨r.who,.slice wa wn wc,r.n⟩:ni)) QM g3 hr zAe (by omega) rfl rfl rfl (by rfl) (λh3 g4 c4=>?_)
 have z3:=z.cM c4 e8 (by omega)
 have kf:=c4.size
 rw [bc] at kf
 refine vT (by kernel_rfl) z3.low (by rw [bc];exact kf) ?_
 have jU:aL [NB] hc h3:=(fr.mono (D':=[NB]) (λ_ h=>nomatch h)).iL c4 (.inl (by simp))
 have pR:aL [NB] h' h3:=(aL.refl [NB] h').iL c4 (.inl (by simp))
 clear z fr g3 g1 q0
 have z:=z3
 rw [ao h3]
 simp only [aa,seval,lF]
 ((with_reducible refine ⟨z.cn.lay _ _,?_⟩);(intro _ h' zz x _);(simp only [bM,bu] at x);replace g4:=g4.over x;replace jU:=jU.over x;replace pR:=pR.over x;(replace z:=zz);(clear zz);rw [ao h'])
 have yP:(rows.set i (⟨r.who,.slice wa wn wc,r.n⟩:ni))[i]? = some ⟨r.who,.slice wa wn wc,r.n⟩:=by rw [sA,aE rfl,aE iX]
 have c2:=g4.gH (j:=2) yP (by omega) rfl
 have YQ:IntKind.u64.wrap ((r.n:Int)+1)=((r.n+1:Nat):Int):=Z5 (by omega)
 simp only [aa,seval,lF,cd,c2,bO,YQ]
 refine cC.store (off:=2) (y:=(⟨r.who,.slice wa wn wc,r.n+1⟩:ni)) QM g4 yP zCX (by omega) rfl rfl rfl (by rfl) (λh5 g5 c5=>?_)
 have Xz:=jU.size
 have z5:=z.cM c5 e8 (by omega)
 have mz:aL [NB] hc h5:=jU.iL c5 (.inl (by simp))
 have Fw:aL [NB] _ h5:=pR.iL c5 (.inl (by simp))
 rw [List.set_set] at g5
 clear z g4 jU pR c2
 have z:=z5
 rw [ao h5]
 simp only [aa,seval,lF,jg,gB,bO]
 have nW:=mz.trans (aL.lay h5 [] h5.low []) (λ_ h=>nomatch h)
 have Fx:=Fw.trans (aL.lay h5 [] h5.low []) (λ_ h=>nomatch h)
 exact hK _ _ _ z.aA nW (lP.turn e1 e2 e4 e5 e6 e7 e8 e9 hr rfl nW uZ (g5.lay _ _) (by omega) (yV.mono ((Fx.mono (D':=NB::X) (by simp)).inc (λB hB=>.inl hB))) (by omega) (λy hy=>(zpk hy).elim (λe=>by rw [e];exact ha) (D5 aT y)))
theorem zrb (d:aq) (k:Nat) (s:au) (a:ak) (h hc:Heap) (z:Ext h hc) (N S2 NB:Nat) (hN:N=h.size) (X:List Nat) (Dd:∀ B∈X,B < hc.size) (sd:lP N (aG X hc) S2 NB d k) (uZ:NB ∉ X) (hk8:k<=800) (ha:a.aW=true) (K:aF)
 (hK:∀ h' bb e,Ext h h'->aL [NB] hc h'->lP N (aG X h') S2 NB d (k+1)->K (.tuple #[.bool bb,.int .i64 e]) h'):Ok prog aD ov 25 [.pointer (some ⟨S2,0,none⟩),.string s,a.val] hc K:=by
 subst hN
 obtain ⟨p0,p1,p2,p5,p6,q,b,nv,rows,e1,e2,e3,e4,e5,e6,e7,e8,e9⟩:=id sd
 rw [iC] at e9
 have ik:=rH X hc
 have g1:=e1.mono ik
 have g2:=(e2.mono (rH [NB] _)).mono ik
 have g3:=cC.vK e3 ik
 have bf:=g2.one q b
 have hZ:∀ (h:Heap) (K:aF),aC (some nv) h K=K nv h:=λ_ _=>rfl
 have oK:=z.size
 rw [ao hc]
 refine Ok.aw 51 (bq N25) ?_
 simp only [aa,seval,mT,eE]
 with_reducible first|refine dL (by simp only [mT]) z.aA ?_
 simp only [aa,seval,mT,cd,dm,g1.lay,↓LQ,eV,eI,eE,↓eY,eJ,dX]
 refine zsy d s a p0 p1 p2 p5 p6 q b _ bf (g2.lay _ _) _ (λfe h' x yo=>?_)
 have q0:=Holds.top (i:=0) x rfl
 have fr:aL [] hc h':=(aL.refl [] hc).over x
 replace g1:=g1.over x
 replace g3:=g3.over x
 (((with_reducible refine cU ?_ ?_ ?_);(· exact (by (simp only [ck]);have:=z.size;omega));(· exact x));replace z:=z.an x;rw [ao h'])
 simp only [aa,seval,mT,bO]
 ((with_reducible refine ⟨z.cn.lay _ _,?_⟩);(intro _ h' zz x _);(simp only [bM,bu] at x);replace q0:=q0.over x;replace fr:=fr.over x;replace g1:=g1.over x;replace g3:=g3.over x;(replace z:=zz);(clear zz);rw [ao h'])
 simp only [aa,seval,mT,bO]
 refine gg (λaQ=>?_) (λheq=>?_)
 .skip
  simp only [aa,seval,mT,bO]
  exact hK _ _ _ z.aA ((fr.mono (λ_ h=>nomatch h)).trans (aL.lay _ _ _ []) (λ_ h=>nomatch h)) (sd.di (fr.trans (aL.lay _ _ _ []) (λ_ h=>nomatch h))).more
 simp only [aa,seval,mT]
 with_reducible first|refine dL (by simp only [mT]) z.aA ?_
 simp only [aa,seval,mT,cd,dm,g1.lay,JI,hZ]
 refine zAa rows s p0 p1 p2 p5 p6 nv q b S2 NB _ (g1.on _ _) (g3.lay _ _) _ (λi r hr hw h' x=>?_) (λnG h' x=>?_)
 rotate_left
 .exfalso
  have hm:=yo heq
  rw [<- e4] at hm
  obtain ⟨y,hy,e⟩:=oY.1 hm
  exact nG y hy e
 (((with_reducible refine cU ?_ ?_ ?_);(· exact (by (simp only [ck]);have:=z.size;omega));(· exact x));replace z:=z.an x;replace q0:=q0.over x;replace fr:=fr.over x;replace g1:=g1.over x;replace g3:=g3.over x;rw [ao h'])
 obtain rfl:=hw
 obtain ⟨GI,l,mE,iF,aT⟩:=e5 r (ic hr)
 have BN:Sl aM.atom hc r.v l:=(mE.mono (rH [NB] _)).mono ik
 have iX:=(dP.1 hr).1
 have ij:=g3.ix (kd:=.i64) (i:=i) Q9 zxC iX
 have oc:∀ (h:Heap) (K:aF),aC (some r.v) h K=K r.v h:=λ_ _=>rfl
 simp only [aa,seval,mT,bO,ij,cd]
 ((with_reducible refine ⟨z.cn.lay _ _,?_⟩);(intro _ h' zz x _);(simp only [bM,bu] at x);replace q0:=q0.over x;replace fr:=fr.over x;replace g1:=g1.over x;replace g3:=g3.over x;(replace z:=zz);(clear zz);rw [ao h'])
 simp only [aa,seval,mT,cd]
 have c1:=g3.gH (j:=1) hr (by omega) rfl
 with_reducible first|refine dL (by simp only [mT]) z.aA ?_
 simp only [aa,seval,mT,cd,c1,oc,q0.lay,eE,↓eY,eJ,dX]
 refine QO l a r.v _ ((BN.mono fr.all).lay _ _) (by omega) aT ha _ (λh' x=>?_)
 clear c1
 (((with_reducible refine cU ?_ ?_ ?_);(· exact (by (simp only [ck]);have:=z.size;omega));(· exact x));replace z:=z.an x;replace q0:=q0.over x;replace fr:=fr.over x;replace g1:=g1.over x;replace g3:=g3.over x;rw [ao h'])
 simp only [aa,seval,mT]
 cases hh:bE l a
 .skip
  (with_reducible apply bX);(· rfl)
  simp only [aa,seval,mT,kW]
  ((with_reducible refine ⟨z.cn.lay _ _,?_⟩);(intro _ h' zz x _);(simp only [bM,bu] at x);replace q0:=q0.over x;replace fr:=fr.over x;replace g1:=g1.over x;replace g3:=g3.over x;(replace z:=zz);(clear zz);rw [ao h'])
  simp only [aa,seval,mT,bO]
  exact hK _ _ _ z.aA ((fr.mono (λ_ h=>nomatch h)).trans (aL.lay _ _ _ []) (λ_ h=>nomatch h)) (sd.di (fr.trans (aL.lay _ _ _ []) (λ_ h=>nomatch h))).more
 (with_reducible apply bX);(· rfl)
 simp only [aa,seval,mT,fQ]
 ((with_reducible refine ⟨z.cn.lay _ _,?_⟩);(intro _ h' zz x _);(simp only [bM,bu] at x);replace q0:=q0.over x;replace fr:=fr.over x;replace g1:=g1.over x;replace g3:=g3.over x;(replace z:=zz);(clear zz);rw [ao h'])
 simp only [aa,seval,mT]
 have c1:=g3.gH (j:=1) hr (by omega) rfl
 with_reducible first|refine dL (by simp only [mT]) z.aA ?_
 simp only [aa,seval,mT,cd,c1,oc,q0.lay,eE,↓eY,eJ,dX]
 have MT:=fr.size
 refine zun l a r.v _ ((BN.mono fr.all).lay _ _) (by omega) aT ha _ (λh' w A x ho=>?_)
 clear c1
 have yV:Sl aM.atom (aG (NB::X) h') w (eQ a (eo l)):=ho.aG (λ_ _ _ _ q=>q) (by decide) (λB hB=>by
  rw [bc]
  rcases dh.1 hB with rfl|hB
  .omega
  .have:=Dd B hB;omega)
 (((with_reducible refine cU ?_ ?_ ?_);(· exact (by (simp only [ck]);have:=z.size;omega));(· exact x));replace z:=z.an x;replace q0:=q0.over x;replace fr:=fr.over x;replace g1:=g1.over x;replace g3:=g3.over x;rw [ao h'])
 obtain ⟨wa,wn,wc,rfl⟩:=rG yV
 rw [hh]
 simp only [aa,seval,mT,jg,H9,gB,cd]
 have XH:=fr.size
 refine cC.store (off:=1) (y:=(⟨r.who,.slice wa wn wc,r.n⟩:ni)) QM g3 hr zAe (by omega) rfl rfl rfl (by rfl) (λh3 g4 c4=>?_)
 have z3:=z.cM c4 e8 (by omega)
 have kf:=c4.size
 rw [bc] at kf
 refine vT (by kernel_rfl) z3.low (by rw [bc];exact kf) ?_
 have jU:aL [NB] hc h3:=(fr.mono (D':=[NB]) (λ_ h=>nomatch h)).iL c4 (.inl (by simp))
 have pR:aL [NB] h' h3:=(aL.refl [NB] h').iL c4 (.inl (by simp))
 clear z fr g3 g1 q0
 have z:=z3
 rw [ao h3]
 simp only [aa,seval,mT]
 ((with_reducible refine ⟨z.cn.lay _ _,?_⟩);(intro _ h' zz x _);(simp only [bM,bu] at x);replace g4:=g4.over x;replace jU:=jU.over x;replace pR:=pR.over x;(replace z:=zz);(clear zz);rw [ao h'])
 have yP:(rows.set i (⟨r.who,.slice wa wn wc,r.n⟩:ni))[i]? = some ⟨r.who,.slice wa wn wc,r.n⟩:=by rw [sA,aE rfl,aE iX]
 have c2:=g4.gH (j:=2) yP (by omega) rfl
 have YQ:IntKind.u64.wrap ((r.n:Int)+1)=((r.n+1:Nat):Int):=Z5 (by omega)
 simp only [aa,seval,mT,cd,c2,bO,YQ]
 refine cC.store (off:=2) (y:=(⟨r.who,.slice wa wn wc,r.n+1⟩:ni)) QM g4 yP zCX (by omega) rfl rfl rfl (by rfl) (λh5 g5 c5=>?_)
 have Xz:=jU.size
 have z5:=z.cM c5 e8 (by omega)
 have mz:aL [NB] hc h5:=jU.iL c5 (.inl (by simp))
 have Fw:aL [NB] _ h5:=pR.iL c5 (.inl (by simp))
 rw [List.set_set] at g5
 clear z g4 jU pR c2
 have z:=z5
 rw [ao h5]
 simp only [aa,seval,mT,jg,gB,bO]
 have nW:=mz.trans (aL.lay h5 [] h5.low []) (λ_ h=>nomatch h)
 have Fx:=Fw.trans (aL.lay h5 [] h5.low []) (λ_ h=>nomatch h)
 have rf:(eQ a (eo l)).length<=k+1:=gn (CI _ _) (by have:=zp l;omega)
 exact hK _ _ _ z.aA nW (lP.turn e1 e2 e4 e5 e6 e7 e8 e9 hr rfl nW uZ (g5.lay _ _) (by omega) (yV.mono ((Fx.mono (D':=NB::X) (by simp)).inc (λB hB=>.inl hB))) rf (λy hy=>D5 aT y (H3.1 hy).1))
theorem zwz {h:Heap} {A:Nat} {c1 c2:List ab} (f:Holds h A (.row c1 110 false)) (g:Holds h A (.row c2 28 false)):False:=by
 have e:=f.get.symm.trans g.get
 simp only [dO,ba.row.injEq] at e
 exact absurd e.2.1 (by decide)
theorem zwS (d:aq) (p0 p1 p2 p5 p6:ab) (q b:Int) (h:Heap) (bf:(du p0 p1 p2 p5 p6 q b).all Am.one=true) (hd:dR h p0 p1 p2 p5 p6 d) (hn:d.aR.length<=70) (mn:d.ah.length<=70) (X:List Nat) (hX:∀ B∈X,B < h.size) (hdX:dR (aG X h) p0 p1 p2 p5 p6 d) (K:aF)
 (o9:∀ c h',c≠0->Ext h h'->K (.tuple #[.pointer none,.int .i64 c]) h')
 (iV:∀ h' S2 NB,Ext h h'->lP h.size (aG X h') S2 NB d 0->K (.tuple #[.pointer (some ⟨S2,0,none⟩),.int .i64 0]) h'):Ok prog aD ov 23 [fI p0 p1 p2 p5 p6 q b] h K:=by
 obtain ⟨a0,n0,c0,rfl⟩:=rG hd.s0
 obtain ⟨a1,n1,c1,rfl⟩:=rG hd.s1
 obtain ⟨a2,n2,c2,rfl⟩:=rG hd.s2
 obtain ⟨a5,n5,c5,rfl⟩:=rG hd.s5
 obtain ⟨a6,n6,c6,rfl⟩:=rG hd.s6
 rw [ao h]
 have z:=Ext.refl h
 have df:=λ(hh:Heap)=>hd.s0.bo dr hh
 have hle:=hd.s0.le
 refine Ok.aw 37 (bq N23) ?_
 simp only [aa,seval,tR,gZ,↓fA,eV,eI]
 refine zwD d _ _ _ _ _ q b _ bf (hd.lay _ _) hn _ (λc h' x=>?_)
 have q0:=Holds.top (i:=0) x rfl
 (replace z:=z.an x;rw [ao h'])
 obtain ⟨A0,el⟩:∃ A0,A0=h.size+0:=⟨_,rfl⟩
 rw [<- el] at q0
 rw [<- el]
 simp only [aa,seval,tR,bO]
 refine gg (λaQ=>?_) (λheq=>?_)
 .simp only [aa,seval,tR,bO]
  exact o9 _ _ aQ z.aA
 have alH:=q0.lt
 subst heq
 have hz:=z.size
 simp only [aa,seval,tR,q0.lay,↓fA,eV,eI,zDj,j6]
 obtain ⟨S2,zZ⟩:∃ S2,S2=h'.size+0:=⟨_,rfl⟩
 refine na (λh' x hq=>?_)
 have q1:=hq 0 _ rfl
 clear hq
 (replace z:=z.an x;replace q0:=q0.over x;rw [ao h'])
 rw [<- zZ] at q1
 rw [<- zZ]
 have al4:=q1.lt
 have L9:A0≠S2:=by omega
 obtain ⟨I1,aU⟩:∃ I:Nat->Env->Heap->Prop,I=(λn e h'=>∃ (i:Nat) (NB:Nat) (nv:ab) (rows:List ni) (h1:Heap),h'=h1.lay [] h1.low/\Ext h h1/\(n=d.ah.length - i/\i<=d.ah.length/\Holds h1 A0 (.row (du (.slice a0 n0 c0) (.slice a1 n1 c1) (.slice a2 n2 c2) (.slice a5 n5 c5) (.slice a6 n6 c6) q b) 28 false)/\Holds h1 S2 (.row (Cx (.slice a0 n0 c0) (.slice a1 n1 c1) (.slice a2 n2 c2) (.slice a5 n5 c5) (.slice a6 n6 c6) q b nv) 108 false)/\cC 3 ni.cells h1 110 NB nv rows/\rows.map ni.who=d.ah.take i/\(∀ x∈rows,x.v=.slice none 0 0/\x.n=0)/\h.size<=NB/\NB < h1.size/\NB≠S2/\(NB=A0->nv=.slice none 0 0))/\∃ J:Nat->ab,e=(J 0::.pointer (some ⟨A0,0,none⟩)::jr J 2 3 (.pointer (some ⟨S2,0,none⟩)::.int .i64 i::jr J 7 31 ([])))):=⟨_,rfl⟩
 refine dA I1 _ (by rw [aU];exact ⟨0,A0,.slice none 0 0,[],_,rfl,z,⟨rfl,by omega,q0,q1,cC.nil,by simp,by simp,by omega,q0.lt,L9,λ_=>rfl⟩,bl⟩) ?_
 intro n e h' aO
 rw [aU] at aO
 obtain ⟨i,NB,nv,rows,bC,rfl,z,hinv,J,rfl⟩:=aO
 clear q0 q1
 obtain ⟨rfl,hi,q0,q1,f,vH,aH,W4,Mm,W3,hNA⟩:=hinv
 have fH:=ei i (by omega)
 have r8:=z.size
 have lk:rows.length=i:=by
  have:=congrArg List.length vH
  rw [gi,gh] at this
  omega
 simp only [aa,seval,tR,q0.lay,eM,H9,df]
 refine bn (λaT=>?_) (λka=>?_)
 .obtain ⟨r,hr,cw⟩:=eW (l:=d.ah) (i:=i) (by omega)
  simp only [aa,seval,tR]
  with_reducible first|refine dL (by simp only [tR]) z.aA ?_
  obtain ⟨va,vn,vc,rfl⟩:=f.shape
  simp only [aa,seval,tR,cd,q1.lay,JI,q0.lay,eM,H9]
  repeat' ((first|with_reducible refine rK (hd.s0.mono z.inc) dr px (by omega) hr (λp hp=>?_)|with_reducible refine gj hp j9 ?_) <;> simp only [aa,seval,tR,cd,q1.lay,JI,q0.lay,eM,H9,zDi,j6])
  refine w8 (by omega) (by omega) ?_
  simp only [aa,seval,tR,mr,zBC,H9]
  refine cC.app (x:=(⟨r,.slice none 0 0,0⟩:ni)) (j:=0) QM rfl (by decide) Q9 zj2 f rfl (by omega) (by omega) (λv3 h3 N3 f3 W0 DK rX=>?_)
  have c3:=rX Mm
  have z3:=z.cM c3 W4 (by omega)
  have kf:=c3.size
  rw [bc] at kf
  simp only [dn,dN] at kf
  refine vT (by kernel_rfl) z3.low (by rw [bc];simp only [dn,dN];omega) ?_
  have q13:=q1.br c3 W3.symm
  have wG:Holds h3 A0 (.row (du (.slice a0 n0 c0) (.slice a1 n1 c1) (.slice a2 n2 c2) (.slice a5 n5 c5) (.slice a6 n6 c6) q b) 28 false):=by
   by_cases hh:NB=A0
   .exact q0.over (DK (hNA hh))
   .exact q0.br c3 (λe=>hh e.symm)
  have al0:N3 < h3.size:=f3.lt (by simp)
  have W1:N3≠A0:=λe=>by
   rcases f3 with ⟨_,h0⟩|⟨qq,row,_,vA,_⟩
   .simp at h0
   .exact zwz vA (e ▸ wG)
  have Ml:N3≠S2:=λe=>by
   rcases W0 with ⟨e2,_⟩|e2
   .exact W3 (e2 ▸ e)
   .rw [bc] at e2
    have:=q1.lt
    omega
  have W2:h.size<=N3:=by
   rcases W0 with ⟨e2,_⟩|e2
   .omega
   .rw [bc] at e2
    omega
  obtain ⟨xa,xn,xc,rfl⟩:=f3.shape
  clear z q0 q1 f DK rX
  have z:=z3
  rw [ao h3]
  simp only [aa,seval,tR,H9,cd]
  refine Hl (o:=7) q13 zBH rfl rfl (by show 7+1<=8;decide) rfl (λh4 Oa c4=>?_)
  replace Oa:Holds h4 S2 (.row (Cx (.slice a0 n0 c0) (.slice a1 n1 c1) (.slice a2 n2 c2) (.slice a5 n5 c5) (.slice a6 n6 c6) q b (.slice xa xn xc)) 108 false):=Oa
  have z4:=z.cM c4 (by omega) (by omega)
  have td:=c4.size
  rw [bc] at td
  refine vT (by kernel_rfl) z4.low (by rw [bc];exact td) ?_
  have Zs:=wG.br c4 L9
  have f4:=f3.br c4 Ml
  clear z
  have z:=z4
  rw [ao h4]
  simp only [aa,seval,tR]
  ((with_reducible refine ⟨z.cn.lay _ _,?_⟩);(intro _ h' zz x _);(simp only [bM,bu] at x);replace Zs:=Zs.over x;replace Oa:=Oa.over x;replace f4:=f4.over x;(replace z:=zz);(clear zz);rw [ao h'])
  simp only [aa,seval,tR]
  rw [fH]
  (rw [aU];with_reducible refine cy (m:=_) ?_ ⟨i+1,N3,.slice xa xn xc,rows++[⟨r,.slice none 0 0,0⟩],_,rfl,z,⟨rfl,by omega,Zs,Oa,f4,by rw [zL,vH,oW,show d.ah[i]? = some r from cw];simp,λx hx=>(mj.1 hx).elim (aH x) (λe=>by rw [hU.1 e];exact ⟨rfl,rfl⟩),W2,f4.lt (by simp),Ml,λe=>absurd e W1⟩,bl⟩;omega)
 .rw [gE (by omega)] at vH
  have hzz:=z.size
  have Br:S2 ∉ X:=λhx=>by have:=hX _ hx;omega
  have uZ:NB ∉ X:=λhx=>by have:=hX _ hx;omega
  simp only [aa,seval,tR,cd,bO]
  refine iV _ S2 NB z.aA ⟨.slice a0 n0 c0,.slice a1 n1 c1,.slice a2 n2 c2,.slice a5 n5 c5,.slice a6 n6 c6,q,b,nv,rows,(q1.on _ _).kg Br,hdX.mono (zoI (((z.bN []).trans (aL.lay _ _ _ []) (λ_ h=>nomatch h)).kill X).all (λB hB=>by rw [hU.1 hB,iC];exact W4)),(f.lay _ _).hold (λ_ q=>q.kg uZ),vH,λx hx=>?_,W3.symm,by omega,W4,by rw [iC,bc];omega⟩
  obtain ⟨e1,e2⟩:=aH x hx
  rw [e1,e2]
  exact ⟨bj _,[],.nil,bj _,by simp⟩
end Go.Proofs.YtiapegieocgmfaaGreatDoor
