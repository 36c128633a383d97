/- The code of some functions, node by node, for simp. Written by a program (mkcode.py). No condition. -/
import Derived.Test.YtkgojconmeeegaaGreatDoorG43
set_option linter.unusedSimpArgs false
set_option linter.unusedVariables false
set_option maxRecDepth 100000
set_option maxHeartbeats 0
noncomputable section
namespace Go.Proofs.YtkgojconmeeegaaGreatDoor
open Go.Am Tryz
def Kr:=bp f105
def O9:=PLift.up (by have c:=bq Kr f105;simp only [aI,f105,seval] at c;exact nd c <| nd @td <| nd @iF <| nd @bP <| nd @fS <| @zE4)
theorem dJ:type_of% O9.down:=O9.down
def N62:=bp f62
def x62:=PLift.up (by have c:=bq N62 f62;simp only [aI,f62,seval] at c;exact nd c <| nd @td <| nd @bP <| @W3)
theorem Iw:type_of% x62.down:=x62.down
def Ks:=bp f106
def Pa:=PLift.up (by have c:=bq Ks f106;simp only [aI,f106,seval] at c;exact nd c <| nd @td <| nd @iF <| nd @bP <| nd @fS <| @zE5)
theorem na:type_of% Pa.down:=Pa.down
def N63:=bp f63
def x63:=PLift.up (by have c:=bq N63 f63;simp only [aI,f63,seval] at c;exact nd c <| nd @td <| nd @bP <| @W4)
theorem Ix:type_of% x63.down:=x63.down
theorem RQ (l:aW) (a:ak) (v:ae) (h:Heap) (hl:Sl aJ.atom h v l) (hn:l.length<=100000) (aP:∀ x∈l,x.aV=true) (ha:a.aV=true) (K:aG)
 (hk:∀ h',Ext h h'->K (.bool (bH l a)) h'):Ok prog aA ov 61 [v,a.val] h K:=by
 rw [ao h]
 have z:=Ext.refl h
 have jv:=λ(hh:Heap)=>hl.bt bC hh
 refine Ok.aq 17 (bm N61) ?_
 simp only [aa,seval,zS,fA]
 refine lg (λh' x hq=>?_)
 have q0:=hq 0 _ rfl
 clear hq
 (replace z:=z.aj x;rw [ao h'])
 obtain ⟨I1,aO⟩:∃ I:Nat->Env->Heap->Prop,I=(λn e h'=>∃ (i:Nat) (h1:Heap),h'=h1.lay [] h1.low/\Ext h h1/\(n=l.length - i/\i<=l.length/\(∀ x∈l.take i,¬ cF x=cF a)/\Holds h1 (h.size+0) (.row a.cells 34 false))/\∃ J:Nat->ae,e=(v::jr J 1 2 (.pointer (some ⟨h.size+0,0,none⟩)::J 4::.int .i64 i::jr J 6 13 ([])))):=⟨_,rfl⟩
 refine cK I1 _ (by rw [aO];exact ⟨0,_,rfl,z,⟨rfl,by omega,by simp,q0⟩,bc⟩) ?_
 intro n e h' aK
 rw [aO] at aK
 obtain ⟨i,bD,rfl,z,hinv,J,rfl⟩:=aK
 clear q0
 obtain ⟨rfl,hi,jd,q0⟩:=hinv
 have fb:=dE i (by omega)
 simp only [aa,seval,zS,jv]
 refine bg (λgq=>?_) (λgq=>?_)
 rotate_left
 .rw [fX (by omega)] at jd
  have e:bH l a=false:=by
   cases e:bH l a
   .rfl
   .obtain ⟨x,hx,e2⟩:=cY.1 e
    exact absurd e2 (jd x hx)
  rw [e] at hk
  repeat' (simp only [aa,seval,zS])
  exact hk _ z.au
 have hr:l[(i:Int).toNat]? = some (l.getD i ab):=jf (by omega)
 have b9:l.getD i ab∈l:=ig hr
 simp only [aa,seval,zS]
 with_reducible first|refine cZ (by simp only [zS]) z.au ?_
 simp only [aa,seval,zS]
 repeat' ((first|with_reducible refine mM (hl.mono z.inc) bC bE (by omega) hr (λp hp=>?_)|with_reducible refine ly hp eK bE ?_) <;> simp only [aa,seval,zS,q0.lay,↓dW,dO,da])
 refine zrR _ a (aP _ b9) ha _ _ (λh' x=>?_)
 (((with_reducible refine di ?_ ?_ ?_);(· exact (by (simp only [dp]);have:=z.size;omega));(· exact x));replace z:=z.aj x;replace q0:=q0.over x;rw [ao h'])
 simp only [aa,seval,zS]
 refine lz (λhc=>?_) (λhc=>?_)
 .have e:bH l a=true:=cY.2 ⟨_,b9,bW.1 hc⟩
  rw [e] at hk
  repeat' (first|simp only [aa,seval,zS]|((with_reducible refine ⟨z.bZ.lay _ _,?_⟩);(intro _ h' zz x _);(simp only [bG,bu] at x);replace q0:=q0.over x;(replace z:=zz);(clear zz);rw [ao h']))
  exact hk _ z.au
 .have qx:¬ cF (l.getD i ab)=cF a:=λe=>absurd (bW.2 e) hc
  have GD:=mL (i:=i) (P:=λx:ak=>¬ cF x=cF a) (jf (l:=l) (i:=i) (by omega)) jd qx
  repeat' (first|simp only [aa,seval,zS]|((with_reducible refine ⟨z.bZ.lay _ _,?_⟩);(intro _ h' zz x _);(simp only [bG,bu] at x);replace q0:=q0.over x;(replace z:=zz);(clear zz);rw [ao h']))
  rw [fb]
  (rw [aO];with_reducible refine bS (m:=_) ?_ ⟨i+1,_,rfl,z,⟨rfl,by omega,GD,q0⟩,bc⟩;omega)
theorem zD9 (l:aW) (v:ae) (h:Heap) (hl:Sl aJ.atom h v l) (hn:l.length<=100000) (aP:∀ x∈l,x.aV=true) (K:aG)
 (hk:∀ h',Ext h h'->K (.bool (D9 l)) h'):Ok prog aA ov 23 [v] h K:=by
 rw [ao h]
 have z:=Ext.refl h
 have jv:=λ(hh:Heap)=>hl.bt bC hh
 refine Ok.aq 20 (bm N23) ?_
 repeat' (simp only [aa,seval,zR])
 obtain ⟨I1,aO⟩:∃ I:Nat->Env->Heap->Prop,I=(λn e h'=>∃ (i:Nat) (h1:Heap),h'=h1.lay [] h1.low/\Ext h h1/\(n=l.length+1 - i/\1<=i/\(∀ k,0 < k->k < i->k < l.length->aT (l.getD (k - 1) ab) (l.getD k ab) < 0))/\∃ J:Nat->ae,e=(v::jr J 1 2 (.int .i64 i::jr J 4 17 ([])))):=⟨_,rfl⟩
 refine cK I1 _ (by rw [aO];exact ⟨1,_,rfl,z,⟨rfl,by omega,λk g1 g2=>by omega⟩,bc⟩) ?_
 intro n e h' aK
 rw [aO] at aK
 obtain ⟨i,bD,rfl,z,hinv,J,rfl⟩:=aK
 obtain ⟨rfl,hi,tJ⟩:=hinv
 simp only [aa,seval,zR,jv]
 refine bg (λgq=>?_) (λgq=>?_)
 rotate_left
 .rw [kY.2 (fQ.2 (λk g1 g2=>tJ k g1 (by omega) g2))] at hk
  repeat' (simp only [aa,seval,zR])
  exact hk _ z.au
 have fb:=dE i (by omega)
 have tL:IntKind.i64.wrap ((i:Int) - 1)=((i - 1:Nat):Int):=by rw [wrap_i64 (by omega) (by omega)];omega
 have hr:l[(i:Int).toNat]? = some (l.getD i ab):=jf (by omega)
 have wK:l[((i - 1:Nat):Int).toNat]? = some (l.getD (i - 1) ab):=jf (by omega)
 simp only [aa,seval,zR]
 with_reducible first|refine cZ (by simp only [zR]) z.au ?_
 simp only [aa,seval,zR,tL]
 repeat' ((first|with_reducible refine mM (hl.mono z.inc) bC bE (by omega) wK (λp hp=>?_)|with_reducible refine mM (hl.mono z.inc) bC bE (by omega) hr (λp hp=>?_)|with_reducible refine ly hp eK bE ?_) <;> simp only [aa,seval,zR])
 refine zrR _ _ (qH aP (by omega)) (qH aP (by omega)) _ _ (λh' x=>?_)
 (((with_reducible refine di ?_ ?_ ?_);(· exact (by (simp only [dp]);have:=z.size;omega));(· exact x));replace z:=z.aj x;rw [ao h'])
 simp only [aa,seval,zR]
 refine bg (λhc=>?_) (λhc=>?_)
 .rw [zBx (λg=>by have:=fQ.1 g i (by omega) (by omega);omega)] at hk
  repeat' (first|simp only [aa,seval,zR]|((with_reducible refine ⟨z.bZ.lay _ _,?_⟩);(intro _ h' zz x _);(simp only [bG,bu] at x);(replace z:=zz);(clear zz);rw [ao h']))
  exact hk _ z.au
 .repeat' (first|simp only [aa,seval,zR]|((with_reducible refine ⟨z.bZ.lay _ _,?_⟩);(intro _ h' zz x _);( simp only [bG,bu] at x );(replace z:=zz);(clear zz);rw [ao h']))
  rw [fb]
  (rw [aO];(with_reducible refine bS (m:=_) ?_ ⟨i+1,_,rfl,z,⟨rfl,by omega,λk g1 g2 g3=>by
   rcases mq k i with e|e
   .exact tJ k g1 e g3
   .have e:k=i:=by omega
    subst e
    omega⟩,bc⟩);omega)
theorem Rt {a b d:Heap} {A:Nat} (i:b8 a b) (c:fB A b d) (hA:a.size<=A):b8 a d:=⟨il i.size c.size,λB hB hd=>(c.get B (eW hB i.size) (by omega)).trans (i.get B hB hd)⟩
theorem zCx {n:Nat} (h:2<=n):n / 2 < n/\0 < n / 2/\n - n / 2 < n:=by omega
theorem Rc:∀ (k:Nat) (l:aW) (v:ae) (h:Heap),l.length<=k->Sl aJ.atom h v l->l.length<=100000->(∀ x∈l,x.aV=true)->∀ (K:aG),
 (∀ h' w,Ext h h'->kM h h' 34 w (eG l)->K w h')->Ok prog aA ov 105 [v] h K
 |k,l,v,h,kF,hl,hn,aP,K,hk=>by
  rw [ao h]
  have z:=Ext.refl h
  have jv:=λ(hh:Heap)=>hl.bt bC hh
  refine Ok.aq 68 (bm Kr) ?_
  simp only [aa,seval,dJ,jv]
  refine bg (λiZ=>?_) (λiZ=>?_)
  .repeat' ( simp only [aa,seval,dJ])
   simp only [cR,seval,ja,xh]
   obtain ⟨news,hs,lQ⟩:=rX (A:=h.size+1) (r:=aJ.atom) (by decide) (hl.lay [.row [] 34 false] h.low) (λcs y hr=>hr)
   have f:Ow aJ.atom h (h.lay [.row [] 34 false] h.low) 34 (h.size+1) (.slice (some ⟨h.size+0,0,none⟩) 0 0) [] :=
    .inl ⟨by omega,rfl,.inr ⟨h.size+0,0,rfl,by omega,by rw [bf];simp,[],34,false,by rw [gH];rfl⟩⟩
   obtain ⟨w,h',A',e1,e2,e3,e4,e5⟩:=tX (t:=44) bC sJ rfl (by decide) (by rw [bf];omega) f hs lQ (by simp only [dr];omega) (by simp only [dr];omega)
   rw [e1]
   replace z:=(Ext.refl h).cx e3 (by omega) (by omega)
   rw [ao h']
   repeat' (simp only [aa,seval,dJ])
   rw [zyI (by omega)] at hk
   exact hk _ _ z.au (Ux ((by simpa using e2:Ow aJ.atom h h' 34 A' w l).mono (b8.lay _ _ _)))
  match k,kF with
  |0,kF=>exact absurd kF (by omega)
  |k+1,kF =>
   have hq:IntKind.i64.wrap (((l.length:Nat):Int).tdiv 2)=((l.length / 2:Nat):Int):=by
    rw [Int.tdiv_eq_ediv_of_nonneg (by omega),wrap_i64 (by omega) (by omega)]
    omega
   obtain ⟨g1,g2,g3⟩:=zCx (n:=l.length) (by omega)
   simp only [aa,seval,dJ,jv]
   rw [zwC (by decide),hq]
   repeat' (simp only [aa,seval,dJ])
   with_reducible first|refine cZ (by simp only [dJ]) z.au ?_
   simp only [aa,seval,dJ]
   repeat' ((with_reducible refine zDj (hl.mono z.inc) (by decide) bC bE (show l.length / 2<=l.length by omega) (λv1 qF=>?_)) <;> simp only [aa,seval,dJ])
   have tl1:(l.take (l.length / 2)).length=l.length / 2:=by rw [fj];omega
   have tl2:(l.drop (l.length / 2)).length=l.length - l.length / 2:=by rw [lk]
   have lt1:∀ x∈l.take (l.length / 2),x.aV=true:=λx hx=>aP x (List.mem_of_mem_take hx)
   have lt2:∀ x∈l.drop (l.length / 2),x.aV=true:=λx hx=>aP x (List.mem_of_mem_drop hx)
   refine Rc k (l.take (l.length / 2)) v1 _ (by omega) (qF.lay _ _) (by omega) lt1 _ (λh' w1 x o1=>?_)
   replace o1:=(o1.own (by have:=zk (l.take (l.length / 2));omega)).sl
   (((with_reducible refine di ?_ ?_ ?_);(· exact (by (simp only [dp]);have:=z.size;omega));(· exact x));replace z:=z.aj x;rw [ao h'])
   simp only [aa,seval,dJ]
   repeat' ((with_reducible refine zo7 (hl.mono z.inc) (by decide) bC bE (show l.length / 2<=l.length by omega) (λv2 rF=>?_)) <;> simp only [aa,seval,dJ])
   refine Rc k (l.drop (l.length / 2)) v2 _ (by omega) ((by assumption:Sl aJ.atom _ v2 _).lay _ _) (by omega) lt2 _ (λh' w2 x o2=>?_)
   replace o2:=(o2.own (by have:=zk (l.drop (l.length / 2));omega)).sl
   (((with_reducible refine di ?_ ?_ ?_);(· exact (by (simp only [dp]);have:=z.size;omega));(· exact x));replace z:=z.aj x;replace o1:=o1.over x;rw [ao h'])
   repeat' (first|simp only [aa,seval,dJ]|((with_reducible refine ⟨z.bZ.lay _ _,?_⟩);(intro _ h' zz x _);(simp only [bG,bu] at x);replace o1:=o1.over x;replace o2:=o2.over x;(replace z:=zz);(clear zz);rw [ao h']))
   have aon:=zk (l.take (l.length / 2))
   have aoo:=zk (l.drop (l.length / 2))
   have Tx:=zyH (l.take (l.length / 2)) (l.drop (l.length / 2))
   rw [qo] at Tx
   have YS:=Es lt1
   have YT:=Es lt2
   generalize eG (l.take (l.length / 2))=s1 at *
   generalize eG (l.drop (l.length / 2))=s2 at *
   have rH:=z.size
   obtain ⟨H0,vl⟩:∃ H0,H0=h':=⟨_,rfl⟩
   rw [<- vl] at o1 o2 rH
   obtain ⟨I1,aO⟩:∃ I:Nat->Env->Heap->Prop,I=(λn e h'=>∃ (va vb wo:ae) (xs ys out:aW) (A:Nat) (h1:Heap),h'=h1.lay [] h1.low/\Ext h h1/\(n=xs.length+ys.length/\out++nR xs ys=eG l/\Sl aJ.atom H0 va xs/\Sl aJ.atom H0 vb ys/\Ow aJ.atom H0 h1 34 A wo out/\b8 H0 h1/\(∀ x∈xs,x.aV=true)/\(∀ x∈ys,x.aV=true)/\out.length+xs.length+ys.length<=l.length)/\∃ J:Nat->ae,e=(jr J 0 4 (va::vb::wo::jr J 7 62 ([])))):=⟨_,rfl⟩
   refine cK I1 _ (by rw [aO];exact ⟨w1,w2,.slice none 0 0,s1,s2,[],H0.size,_,rfl,z,⟨rfl,by simpa using Tx,o1,o2,Ow.nil (bo _),by rw [vl];exact b8.refl _,YS,YT,by simp only [dr];omega⟩,bc⟩) ?_
   intro n e h' aK
   rw [aO] at aK
   obtain ⟨va,vb,wo,xs,ys,out,A,bD,rfl,z,hinv,J,rfl⟩:=aK
   clear o1 o2
   obtain ⟨rfl,cT,sa,sb,ow,i1,la,lb,GS⟩:=hinv
   have hlA:=λ(hh:Heap)=>sa.bt bC hh
   have hlB:=λ(hh:Heap)=>sb.bt bC hh
   have sA:=z.size
   have B6:0 < xs.length->0 < ys.length->∃ x Hl y Hm,xs=x::Hl/\ys=y::Hm:=λh1 h2=>by
    match xs,ys,h1,h2 with
    |x::xs,y::ys,_,_=>exact ⟨x,xs,y,ys,rfl,rfl⟩
   have Nf:¬ (0 < xs.length/\0 < ys.length)->nR xs ys=xs++ys:=λhh=>by
    cases xs with
    |nil=>rw [zd9];rfl
    |cons x xs=>cases ys with
     |nil=>rw [zdq];simp
     |cons y ys=>exact absurd ⟨by simp,by simp⟩ hh
   simp only [aa,seval,dJ,hlA]
   refine bg (λf1=>?_) (λf1=>?_)
   rotate_left
   .repeat' ( simp only [aa,seval,dJ])
    simp only [cR,seval,ja,xh]
    rw [Nf (by omega)] at cT
    have iD:=i1.size
    have hlen:(out++xs).length=out.length+xs.length:=cW
    obtain ⟨OK,ka,gu⟩:=rX (A:=A) (r:=aJ.atom) (by decide) ((sa.mono i1).lay [] bD.low) (λcs y hr=>hr)
    have Nl:=ow.fresh
    refine EB (r:=aJ.atom) bC sJ rfl (by decide) iD ow ka gu (by omega) (by omega) (λw5 h5 A5 o5 c5 hA5=>?_)
    have i5:=Rt (i1.trans (b8.lay _ _ _)) c5 Nl
    replace z:=z.au.step c5 (by omega)
    rw [ao h5]
    have tK:∀ (h:Heap) (K:aG),aD (some w5) h K=K w5 h:=λ_ _=>rfl
    simp only [aa,seval,dJ,ja,xh]
    have YH:=i5.size
    have hz5:=z.size
    obtain ⟨OL,gr,tI⟩:=rX (A:=A5) (r:=aJ.atom) (by decide) ((sb.mono i5).lay [] h5.low) (λcs y hr=>hr)
    have hf5:=o5.fresh
    refine EB (r:=aJ.atom) bC sJ rfl (by decide) YH o5 gr tI (by omega) (by omega) (λw6 h6 A6 o6 c6 hA6=>?_)
    replace z:=z.au.step c6 (by omega)
    rw [ao h6]
    have uI:∀ (h:Heap) (K:aG),aD (some w6) h K=K w6 h:=λ_ _=>rfl
    repeat' (simp only [aa,seval,dJ])
    rw [jD,cT] at o6
    exact hk _ _ z.au (Uw (Ux (o6.mono (b8.lay _ _ _))) rH)
   simp only [aa,seval,dJ,hlB]
   refine bg (λf2=>?_) (λf2=>?_)
   rotate_left
   .repeat' ( simp only [aa,seval,dJ])
    simp only [cR,seval,ja,xh]
    rw [Nf (by omega)] at cT
    have iD:=i1.size
    have hlen:(out++xs).length=out.length+xs.length:=cW
    obtain ⟨OK,ka,gu⟩:=rX (A:=A) (r:=aJ.atom) (by decide) ((sa.mono i1).lay [] bD.low) (λcs y hr=>hr)
    have Nl:=ow.fresh
    refine EB (r:=aJ.atom) bC sJ rfl (by decide) iD ow ka gu (by omega) (by omega) (λw5 h5 A5 o5 c5 hA5=>?_)
    have i5:=Rt (i1.trans (b8.lay _ _ _)) c5 Nl
    replace z:=z.au.step c5 (by omega)
    rw [ao h5]
    have tK:∀ (h:Heap) (K:aG),aD (some w5) h K=K w5 h:=λ_ _=>rfl
    simp only [aa,seval,dJ,ja,xh]
    have YH:=i5.size
    have hz5:=z.size
    obtain ⟨OL,gr,tI⟩:=rX (A:=A5) (r:=aJ.atom) (by decide) ((sb.mono i5).lay [] h5.low) (λcs y hr=>hr)
    have hf5:=o5.fresh
    refine EB (r:=aJ.atom) bC sJ rfl (by decide) YH o5 gr tI (by omega) (by omega) (λw6 h6 A6 o6 c6 hA6=>?_)
    replace z:=z.au.step c6 (by omega)
    rw [ao h6]
    have uI:∀ (h:Heap) (K:aG),aD (some w6) h K=K w6 h:=λ_ _=>rfl
    repeat' (simp only [aa,seval,dJ])
    rw [jD,cT] at o6
    exact hk _ _ z.au (Uw (Ux (o6.mono (b8.lay _ _ _))) rH)
   obtain ⟨ax,Hl,ay,Hm,rfl,rfl⟩:=B6 (by omega) (by omega)
   have vp:=la ax (lj ..)
   have hay:=lb ay (lj ..)
   obtain ⟨va',ga,sa'⟩:=sa.sub (T:=aA) (t:=44) (by decide) bC bE (ef.num .i64 0 1) (ef.no _) (show 1<=(ax::Hl).length by simp) (bo _)
   obtain ⟨TR,gb,sb'⟩:=sb.sub (T:=aA) (t:=44) (by decide) bC bE (ef.num .i64 0 1) (ef.no _) (show 1<=(ay::Hm).length by simp) (bo _)
   rw [AQ,List.drop_succ_cons,zO] at sa' sb'
   rw [show ((1:Nat):Int)=1 from rfl] at ga gb
   have Zu:∀ (h:Heap) (K:aG),aD (some va') h K=K va' h:=λ_ _=>rfl
   have Oi:∀ (h:Heap) (K:aG),aD (some TR) h K=K TR h:=λ_ _=>rfl
   repeat' (simp only [aa,seval,dJ])
   with_reducible first|refine cZ (by simp only [dJ]) z.au ?_
   have hra:(ax::Hl)[(0:Int).toNat]? = some ax:=rfl
   have hrb:(ay::Hm)[(0:Int).toNat]? = some ay:=rfl
   simp only [aa,seval,dJ]
   repeat' ((first|with_reducible refine mM (sa.mono i1) bC bE (by omega) hra (λp hp=>?_)|with_reducible refine mM (sb.mono i1) bC bE (by omega) hrb (λp hp=>?_)|with_reducible refine ly hp eK bE ?_) <;> simp only [aa,seval,dJ])
   refine zrR ax ay vp hay _ _ (λh' x=>?_)
   (((with_reducible refine di ?_ ?_ ?_);(· exact (by (simp only [dp]);have:=z.size;omega));(· exact x));replace z:=z.aj x;replace ow:=ow.over x;replace i1:=i1.over x;rw [ao h'])
   simp only [aa,seval,dJ]
   ((with_reducible refine ⟨z.bZ.lay _ _,?_⟩);(intro _ h' zz x _);(simp only [bG,bu] at x);replace ow:=ow.over x;replace i1:=i1.over x;(replace z:=zz);(clear zz);rw [ao h'])
   simp only [aa,seval,dJ]
   refine bg (λvt=>?_) (λvt=>?_)
   .simp only [aa,seval,dJ]
    with_reducible first|refine cZ (by simp only [dJ]) z.au ?_
    simp only [aa,seval,dJ]
    repeat' ((first|with_reducible refine mM (sa.mono i1) bC bE (by omega) hra (λp hp=>?_)|with_reducible refine ly hp eK bE ?_) <;> simp only [aa,seval,dJ,Hu])
    have lu:=z.size
    refine tS (by omega) (by omega) ?_
    simp only [cR,seval,dJ,ja,xh]
    have rq:=ow.fresh
    have iD:=i1.size
    have NW:out.length<=100000:=by omega
    obtain ⟨ka,gu⟩:=CO (A:=A) (B:=h'.size+0) (r:=aJ.atom) (c:=1) (y:=ax) (by decide) (show (h'.lay [bh.row ax.cells 34 false] (h'.size+1)).get (h'.size+0)=some (.row ax.cells 34 false) by rw [gH];rfl) rfl
    obtain ⟨w3,h3,A3,e1,o3,c3,e4,e5⟩:=tX (t:=44) bC sJ rfl (by decide) (by rw [bf];omega) (ow.mono (b8.lay _ _ _)) ka gu (by omega) (by omega)
    rw [e1]
    simp only [syms,seval]
    refine mW (A:=A) (by kernel_rfl) (by rw [bf];omega) (by omega) (by simpa only [bG,bf,bu,de,dr,iu] using c3) ?_
    have i3:=Rt (i1.trans (b8.lay _ _ _)) c3 rq
    replace z:=(z.je [bh.row ax.cells 34 false] (h'.size+1) (by omega)).step c3 (by omega)
    clear i1 ow e1 e4 e5 c3 ka gu
    have hv3:∀ (h:Heap) (K:aG),aD (some w3) h K=K w3 h:=λ_ _=>rfl
    rw [ao h3]
    repeat' (first|simp only [aa,seval,dJ,ga,Zu]|((with_reducible refine ⟨z.bZ.lay _ _,?_⟩);(intro _ h' zz x _);(simp only [bG,bu] at x);replace o3:=o3.over x;replace i3:=i3.over x;(replace z:=zz);(clear zz);rw [ao h']))
    rw [zjF vt] at cT
    (rw [aO];with_reducible refine bS (m:=_) ?_ ⟨va',vb,w3,Hl,ay::Hm,out++[ax],A3,_,rfl,z,⟨rfl,by rw [<- cT,jD,wt,qu],sa',sb,o3,i3,λx hx=>la x (gJ _ hx),lb,by simp only [de,cW,dr] at GS ⊢;omega⟩,bc⟩;(simp only [de];omega))
   repeat' (first|simp only [aa,seval,dJ]|((with_reducible apply bg) <;> intro _))
   .have qx:0 < aT ax ay:=by assumption
    with_reducible first|refine cZ (by simp only [dJ]) z.au ?_
    simp only [aa,seval,dJ]
    repeat' ((first|with_reducible refine mM (sb.mono i1) bC bE (by omega) hrb (λp hp=>?_)|with_reducible refine ly hp eK bE ?_) <;> simp only [aa,seval,dJ,Hu])
    have lu:=z.size
    refine tS (by omega) (by omega) ?_
    simp only [cR,seval,dJ,ja,xh]
    have rq:=ow.fresh
    have iD:=i1.size
    have NW:out.length<=100000:=by omega
    obtain ⟨ka,gu⟩:=CO (A:=A) (B:=h'.size+0) (r:=aJ.atom) (c:=1) (y:=ay) (by decide) (show (h'.lay [bh.row ay.cells 34 false] (h'.size+1)).get (h'.size+0)=some (.row ay.cells 34 false) by rw [gH];rfl) rfl
    obtain ⟨w3,h3,A3,e1,o3,c3,e4,e5⟩:=tX (t:=44) bC sJ rfl (by decide) (by rw [bf];omega) (ow.mono (b8.lay _ _ _)) ka gu (by omega) (by omega)
    rw [e1]
    simp only [syms,seval]
    refine mW (A:=A) (by kernel_rfl) (by rw [bf];omega) (by omega) (by simpa only [bG,bf,bu,de,dr,iu] using c3) ?_
    have i3:=Rt (i1.trans (b8.lay _ _ _)) c3 rq
    replace z:=(z.je [bh.row ay.cells 34 false] (h'.size+1) (by omega)).step c3 (by omega)
    clear i1 ow e1 e4 e5 c3 ka gu
    have hv3:∀ (h:Heap) (K:aG),aD (some w3) h K=K w3 h:=λ_ _=>rfl
    rw [ao h3]
    repeat' (first|simp only [aa,seval,dJ,gb,Oi]|((with_reducible refine ⟨z.bZ.lay _ _,?_⟩);(intro _ h' zz x _);(simp only [bG,bu] at x);replace o3:=o3.over x;replace i3:=i3.over x;(replace z:=zz);(clear zz);rw [ao h']))
    rw [zjE qx] at cT
    (rw [aO];with_reducible refine bS (m:=_) ?_ ⟨va,TR,w3,ax::Hl,Hm,out++[ay],A3,_,rfl,z,⟨rfl,by rw [<- cT,jD,wt,qu],sa,sb',o3,i3,la,λx hx=>lb x (gJ _ hx),by simp only [de,cW,dr] at GS ⊢;omega⟩,bc⟩;(simp only [de];omega))
   .have zY:aT ax ay=0:=by omega
    rw [gb]
    repeat' (simp only [aa,seval,dJ,Oi])
    rw [zjD zY] at cT
    (rw [aO];with_reducible refine bS (m:=_) ?_ ⟨va,TR,wo,ax::Hl,Hm,out,A,_,rfl,z,⟨rfl,cT,sa,sb',ow,i1,la,λx hx=>lb x (gJ _ hx),by simp only [de] at GS ⊢;omega⟩,bc⟩;(simp only [de];omega))
theorem zCQ (l:aW) (a:ak) (v:ae) (h:Heap) (hl:Sl aJ.atom h v l) (hn:l.length<=900) (aP:∀ x∈l,x.aV=true) (ha:a.aV=true) (K:aG)
 (hk:∀ h' w,Ext h h'->kM h h' 34 w (cD a (eG l))->K (.tuple #[w,.bool (!bH l a)]) h'):Ok prog aA ov 62 [v,a.val] h K:=by
 rw [ao h]
 have z:=Ext.refl h
 refine Ok.aq 16 (bm N62) ?_
 simp only [aa,seval,Iw,fA]
 refine Rc l.length l v _ (bo _) (hl.lay _ _) (by omega) aP _ (λh' w x ho=>?_)
 replace ho:=Uw (h0:=h) ho (by rw [bf];omega)
 have q0:=Holds.top (i:=0) x rfl
 (replace z:=z.aj x;rw [ao h'])
 have DM:=zk l
 have Gx:=Es aP
 have hoA:=ho.own (by omega)
 repeat' (simp only [aa,seval,Iw,q0.lay,↓dW,dO,da])
 refine RQ (eG l) a w _ (hoA.sl.lay _ _) (by omega) Gx ha _ (λh' x=>?_)
 have Y5:=(hoA.lay _ _).mono x.inc
 (replace z:=z.aj x;replace q0:=q0.over x;rw [ao h'])
 rw [Jm]
 cases hb:bH l a
 .rw [hb] at hk
  repeat' (simp only [aa,seval,Iw,q0.lay,↓dW,dO,da,Hu])
  simp only [cR,seval,ja,xh]
  have hz:=z.size
  obtain ⟨w2,h2,e2,o2,A2,ra,c2⟩:=zBT (a:=a) (lw:=h'.low) bC UI (by decide) (by decide) hz Y5 (by omega)
  rw [e2]
  replace z:=z.cx c2 ra (by omega)
  rw [ao h2]
  simp only [aa,seval,Iw]
  refine Rc (eG l++[a]).length (eG l++[a]) w2 _ (bo _) (o2.sl.lay _ _) (by simp only [cW,de,dr];omega) (λx hx=>(oV.1 hx).elim (Gx x) (λhx=>by rw [iq.1 hx];exact ha)) _ (λh' w3 x o3=>?_)
  have lu:=z.size
  replace o3:=Uw (h0:=h) o3 (by rw [bf];omega)
  rw [zyJ] at o3
  (replace z:=z.aj x;rw [ao h'])
  repeat' (simp only [aa,seval,Iw])
  exact hk _ _ z.au (zjQ o3 (b8.lay _ _ _))
 .have B3:=zr8 (a:=a) (qK l).iU (by rw [Jm,hb])
  rw [hb,B3] at hk
  repeat' (simp only [aa,seval,Iw])
  exact hk _ _ z.au (zjQ (zjQ ho (b8.over (b8.refl _) x)) (b8.lay _ _ _))
theorem zx1 (l m:aW) (v u:ae) (h:Heap) (hl:Sl aJ.atom h v l) (hm:Sl aJ.atom h u m) (hn:l.length<=900) (NQ:m.length<=900) (aP:∀ x∈l,x.aV=true) (Gy:∀ x∈m,x.aV=true) (K:aG)
 (hk:∀ h' w A,Ext h h'->Ow aJ.atom h h' 34 A w ((eG l).filter (λx => !bH m x))->K w h'):Ok prog aA ov 106 [v,u] h K:=by
 rw [ao h]
 have z:=Ext.refl h
 refine Ok.aq 29 (bm Ks) ?_
 repeat' (simp only [aa,seval,na])
 refine Rc l.length l v _ (bo _) (hl.lay _ _) (by omega) aP _ (λh' w x ho=>?_)
 have DM:=zk l
 have Gx:=Es aP
 replace ho:=(ho.own (by omega)).sl
 (replace z:=z.aj x;rw [ao h'])
 have mT:∀ (h:Heap) (K:aG),aD (some w) h K=K w h:=λ_ _=>rfl
 generalize eG l=s at *
 simp only [aa,seval,na]
 repeat' ((first|((with_reducible first|apply bg|apply lz|apply im|apply uR|apply zr) <;> intro _)|((with_reducible apply bI);(· rfl))) <;> simp only [aa,seval,na,mT])
 have rH:=z.size
 obtain ⟨H0,vl⟩:∃ H0,H0=h':=⟨_,rfl⟩
 rw [<- vl] at ho rH
 obtain ⟨I1,aO⟩:∃ I:Nat->Env->Heap->Prop,I=(λn e h'=>∃ (i:Nat) (wo:ae) (A:Nat) (h1:Heap),h'=h1.lay [] h1.low/\Ext h h1/\(n=s.length - i/\i<=s.length/\Ow aJ.atom H0 h1 34 A wo ((s.take i).filter (λx => !bH m x))/\b8 H0 h1)/\∃ J:Nat->ae,e=(v::u::jr J 2 3 (wo::w::.int .i64 i::jr J 8 23 ([])))):=⟨_,rfl⟩
 refine cK I1 _ (by rw [aO];exact ⟨0,.slice none 0 0,H0.size,_,rfl,z,⟨rfl,by omega,Ow.nil (bo _),by rw [vl];exact b8.refl _⟩,bc⟩) ?_
 intro n e h' aK
 rw [aO] at aK
 obtain ⟨i,wo,A,bD,rfl,z,hinv,J,rfl⟩:=aK
 obtain ⟨rfl,hi,ow,i1⟩:=hinv
 have fb:=dE i (by omega)
 have jv:=λ(hh:Heap)=>ho.bt bC hh
 simp only [aa,seval,na,jv]
 refine bg (λgq=>?_) (λgq=>?_)
 rotate_left
 .rw [fX (by omega)] at ow
  repeat' (simp only [aa,seval,na])
  exact hk _ _ A z.au (UZ (ow.mono (b8.lay _ _ _)) rH)
 have hr:s[(i:Int).toNat]? = some (s.getD i ab):=jf (by omega)
 have b9:s.getD i ab∈s:=ig hr
 have nZ:s.take (i+1)=s.take i++[s.getD i ab]:=by rw [nT,jf (l:=s) (i:=i) (by omega)];rfl
 simp only [aa,seval,na]
 repeat' ((first|with_reducible refine mM (ho.mono i1) bC bE (by omega) hr (λp hp=>?_)|with_reducible refine ly hp eK bE ?_) <;> simp only [aa,seval,na])
 refine RQ m _ u _ ((hm.mono z.inc).lay _ _) (by omega) Gy (Gx _ b9) _ (λh' x=>?_)
 (replace z:=z.aj x;replace ow:=ow.over x;replace i1:=i1.over x;rw [ao h'])
 cases hb:bH m (s.getD i ab)
 .simp only [aa,seval,na]
  repeat' ((first|with_reducible refine mM (ho.mono i1) bC bE (by omega) hr (λp hp=>?_)|with_reducible refine ly hp eK bE ?_|((with_reducible apply bI);(· rfl))) <;> simp only [aa,seval,na,Hu])
  simp only [cR,seval,ja,xh]
  have rq:=ow.fresh
  have iD:=i1.size
  have so:((s.take i).filter (λx => !bH m x)).length<=900:=by
   have:=AO (λx => !bH m x) (s.take i)
   rw [fj] at this
   omega
  obtain ⟨ka,gu⟩:=CO (A:=A) (B:=h'.size+0) (r:=aJ.atom) (c:=1) (y:=s.getD i ab) (by decide) (show (h'.lay [bh.row (s.getD i ab).cells 34 false] h'.low).get (h'.size+0)=some (.row (s.getD i ab).cells 34 false) by rw [gH];rfl) rfl
  refine EB (r:=aJ.atom) bC sJ rfl (by decide) iD ow ka gu (by omega) (by omega) (λw5 h5 A5 o5 c5 hA5=>?_)
  have i5:=Rt (i1.trans (b8.lay _ _ _)) c5 rq
  replace z:=z.au.step c5 (by omega)
  rw [ao h5]
  repeat' (simp only [aa,seval,na])
  rw [fb]
  (rw [aO];with_reducible refine bS (m:=_) ?_ ⟨i+1,w5,A5,_,rfl,z,⟨rfl,by omega,by rw [nZ,zL,ER,hb];simpa using o5,i5⟩,bc⟩;omega)
 .repeat' (first|simp only [aa,seval,na]|((with_reducible apply bI);(· rfl)))
  rw [fb]
  (rw [aO];with_reducible refine bS (m:=_) ?_ ⟨i+1,wo,A,_,rfl,z,⟨rfl,by omega,by rw [nZ,zL,ER,hb];simpa using ow,i1⟩,bc⟩;omega)
theorem zvm (l:aW) (a:ak) (v:ae) (h:Heap) (hl:Sl aJ.atom h v l) (hn:l.length<=900) (aP:∀ x∈l,x.aV=true) (ha:a.aV=true) (K:aG)
 (hk:∀ h' w A,Ext h h'->Ow aJ.atom h h' 34 A w (fG a (eG l))->K (.tuple #[w,.bool (bH l a)]) h'):Ok prog aA ov 63 [v,a.val] h K:=by
 rw [ao h]
 have z:=Ext.refl h
 refine Ok.aq 11 (bm N63) ?_
 simp only [aa,seval,Ix,fA]
 refine lg (λh' x hq=>?_)
 have q0:=hq 0 _ rfl
 clear hq
 (replace z:=z.aj x;rw [ao h'])
 with_reducible first|refine cZ (by simp only [Ix]) z.au ?_
 repeat' (simp only [aa,seval,Ix,q0.lay,↓dW,dO,da,Hu])
 have hz:=z.size
 refine tS (by omega) (by omega) ?_
 simp only [aa,seval,Ix]
 refine zx1 l [a] v _ _ ((hl.mono z.inc).lay _ _) zAN hn (by simp) aP (by simpa using ha) _ (λh' w A x ho=>?_)
 rw [zw2] at ho
 replace ho:=UZ (h0:=h) ho (by rw [bf];omega)
 (((with_reducible refine di ?_ ?_ ?_);(· exact (by (simp only [dp]);have:=z.size;omega));(· exact x));replace z:=z.aj x;replace q0:=q0.over x;rw [ao h'])
 repeat' (simp only [aa,seval,Ix,q0.lay,↓dW,dO,da])
 refine RQ l a v _ ((hl.mono z.inc).lay _ _) (by omega) aP ha _ (λh' x=>?_)
 (((with_reducible refine di ?_ ?_ ?_);(· exact (by (simp only [dp]);have:=z.size;omega));(· exact x));replace z:=z.aj x;replace q0:=q0.over x;replace ho:=ho.over x;rw [ao h'])
 generalize bH l a=b at hk ⊢
 cases b
 all_goals
  repeat' (first|simp only [aa,seval,Ix]|((with_reducible refine ⟨z.bZ.lay _ _,?_⟩);(intro _ h' zz x _);(simp only [bG,bu] at x);replace q0:=q0.over x;replace ho:=ho.over x;(replace z:=zz);(clear zz);rw [ao h']))
  exact hk _ _ A z.au (ho.mono (b8.lay _ _ _))
theorem kM.kill {h0 h:Heap} {u:TypeId} {v:ae} {s:aW} {D:List Nat} (f:kM h0 h u v s) (ba:s≠[]) (hs:s.length<=100000) (hD:∀ B∈D,B < h0.size):Sl aJ.atom (aM D h) v s:=by
 rcases f with ⟨e,_⟩|⟨A,e1,e2,e3,e4⟩
 .exact absurd e ba
 .have hA:A ∉ D:=λhm=>by have:=hD A hm;omega
  exact (kM.own (h0:=h0) (u:=u) (.inr ⟨A,e1,⟨by rw [iQ];exact e2.lt,by rw [pn hA];exact e2.get⟩,e3,e4⟩) hs).sl
section
variable {N S2 NB k:Nat} {h hc h2:Heap} {X:List Nat} {d:aw}
theorem lF.dR (f:lF N (aM X hc) S2 NB d k) (fr:aQ [] hc h2):lF N (aM X h2) S2 NB d k:=f.inc (fr.kill X).all
theorem lF.more (f:lF N h S2 NB d k):lF N h S2 NB d (k+1):=by
 obtain ⟨p0,p1,p2,p5,p6,q,b,nv,rows,e1,e2,e3,e4,e5,e6⟩:=f
 exact ⟨p0,p1,p2,p5,p6,q,b,nv,rows,e1,e2,e3,e4,λx hx=>⟨by have:=(e5 x hx).1;omega,(e5 x hx).2.imp λl hl=>⟨hl.1,by have:=hl.2.1;omega,hl.2.2⟩⟩,e6⟩
theorem lF.beside {E E2:List Nat} (f:lF N (aM E hc) S2 NB d k) (fr:aQ E hc h2) (hE:∀ B∈E2,B∈E\/hc.size<=B):lF N (aM E2 h2) S2 NB d k:=f.inc (fr.inc hE)
theorem lF.turn {p0 p1 p2 p5 p6 nv w:ae} {q b:Int} {rows:List m9} {i n:Nat} {x:m9} {s:aB} {l:aW}
 (e1:Holds (aM X hc) S2 (.row (CW p0 p1 p2 p5 p6 q b nv) 122 false)) (e2:ej (aM [NB] (aM X hc)) p0 p1 p2 p5 p6 d) (e4:rows.map m9.who=d.ah)
 (e5:∀ x∈rows,x.n<=k/\∃ l:aW,Sl aJ.atom (aM [NB] (aM X hc)) x.v l/\l.length<=k/\∀ y∈l,y.aV=true) (e6:S2≠NB) (e7:N<=S2) (e8:N<=NB) (e9:NB < hc.size)
 (hx:rows[i]? = some x) (hw:x.who=s) (fr:aQ [NB] hc h2) (zV:NB ∉ X) (o:cJ 3 m9.cells h2 124 NB nv (rows.set i ⟨s,w,n⟩)) (hn:n<=k+1) (sw:Sl aJ.atom (aM (NB::X) h2) w l) (hl:l.length<=k+1) (aP:∀ y∈l,y.aV=true) :
 lF N (aM X h2) S2 NB d (k+1):=by
 have fk:=fr.kill X
 have ik:b8 (aM [NB] (aM X hc)) (aM [NB] (aM X h2)):=fk.inc (λB hB=>.inl hB)
 have jt:=(dz.1 hx).1
 have vJ:(rows.set i ⟨s,w,n⟩).map m9.who=d.ah:=by
  rw [List.map_set,<- e4]
  refine r8 λj=>?_
  rw [sX]
  by_cases dF:i=j
  .subst dF
   rw [aE rfl,aE (by rw [fV];exact jt),lB,hx,jZ,hw]
  .rw [az dF]
 refine ⟨p0,p1,p2,p5,p6,q,b,nv,rows.set i ⟨s,w,n⟩,e1.ck fk (by simpa using e6),e2.mono ik,o.hold (λ_ q=>q.pj zV),vJ,λy hy=>?_,e6,e7,e8,by rw [iQ];exact eW e9 fr.size⟩
 rcases List.mem_or_eq_of_mem_set hy with hm|rfl
 .obtain ⟨g1,l2,g2,g3,g4⟩:=e5 y hm
  exact ⟨by omega,l2,g2.mono ik,by omega,g4⟩
 .exact ⟨hn,l,sw,hl,aP⟩
end
theorem zEq:cN aA 55=some 1:=by kernel_rfl
theorem zBD:cN aA 44=some 1:=by kernel_rfl
theorem zDh:cN aA 120=some 1:=by kernel_rfl
theorem zDc:rW aA 120 120=true:=by kernel_rfl
theorem zEO (a0 a1 a2 a5 a6) (n0 c0 n1 c1 n2 c2 n5 c5 n6 c6:Nat) (q b:Int):od aA 122 [(0,gC (.slice a0 n0 c0) (.slice a1 n1 c1) (.slice a2 n2 c2) (.slice a5 n5 c5) (.slice a6 n6 c6) q b)]=some (.agg ⟨CW (.slice a0 n0 c0) (.slice a1 n1 c1) (.slice a2 n2 c2) (.slice a5 n5 c5) (.slice a6 n6 c6) q b (.slice none 0 0)⟩):=by kernel_rfl
theorem zEM (s:aB):od aA 124 [(0,.string s)]=some (.agg ⟨[.string s,.slice none 0 0,.int .u64 0]⟩):=by kernel_rfl
theorem zpV {a x:ak}:∀ {l:aW},x∈cD a l->x=a\/x∈l
 | [],h=>.inl (iq.1 h)
 |y::r,h=>by
  unfold cD at h
  split at h
  .rcases dG.1 h with e|h
   .exact .inl e
   .exact .inr h
  .split at h
   .exact .inr h
   .rcases dG.1 h with e|h
    .exact .inr (by rw [e];exact lj)
    .exact (zpV h).imp id (gJ _)
theorem zuW (d:aw) (k:Nat) (s:aB) (a:ak) (h hc:Heap) (z:Ext h hc) (N S2 NB:Nat) (hN:N=h.size) (X:List Nat) (F1:∀ B∈X,B < hc.size) (sd:lF N (aM X hc) S2 NB d k) (zV:NB ∉ X) (hk8:k<=800) (ha:a.aV=true) (K:aG)
 (hK:∀ h' bb e,Ext h h'->aQ [NB] hc h'->lF N (aM X h') S2 NB d (k+1)->K (.tuple #[.bool bb,.int .i64 e]) h'):Ok prog aA ov 32 [.pointer (some ⟨S2,0,none⟩),.string s,a.val] hc K:=by
 subst hN
 obtain ⟨p0,p1,p2,p5,p6,q,b,nv,rows,e1,e2,e3,e4,e5,e6,e7,e8,e9⟩:=id sd
 rw [iQ] at e9
 have ik:=tT X hc
 have g1:=e1.mono ik
 have g2:=(e2.mono (tT [NB] _)).mono ik
 have g3:=cJ.Ch e3 ik
 have bn:=g2.one q b
 have jy:∀ (h:Heap) (K:aG),aD (some nv) h K=K nv h:=λ_ _=>rfl
 have pY:=z.size
 rw [ao hc]
 refine Ok.aq 61 (bm N32) ?_
 simp only [aa,seval,ln,fA]
 with_reducible first|refine cZ (by simp only [ln]) z.au ?_
 simp only [aa,seval,ln,g1.lay,↓MA,fw,eU,↓dW,dO,da]
 refine ztl d s a p0 p1 p2 p5 p6 q b _ bn (g2.lay _ _) _ (λfe h' x BK=>?_)
 have q0:=Holds.top (i:=0) x rfl
 have fr:aQ [] hc h':=(aQ.refl [] hc).over x
 replace g1:=g1.over x
 replace g3:=g3.over x
 (((with_reducible refine di ?_ ?_ ?_);(· exact (by (simp only [dp]);have:=z.size;omega));(· exact x));replace z:=z.aj x;rw [ao h'])
 simp only [aa,seval,ln]
 ((with_reducible refine ⟨z.bZ.lay _ _,?_⟩);(intro _ h' zz x _);(simp only [bG,bu] at x);replace q0:=q0.over x;replace fr:=fr.over x;replace g1:=g1.over x;replace g3:=g3.over x;(replace z:=zz);(clear zz);rw [ao h'])
 simp only [aa,seval,ln]
 refine im (λba=>?_) (λheq=>?_)
 .skip
  simp only [aa,seval,ln]
  exact hK _ _ _ z.au ((fr.mono (λ_ h=>nomatch h)).trans (aQ.lay _ _ _ []) (λ_ h=>nomatch h)) (sd.dR (fr.trans (aQ.lay _ _ _ []) (λ_ h=>nomatch h))).more
 simp only [aa,seval,ln]
 with_reducible first|refine cZ (by simp only [ln]) z.au ?_
 simp only [aa,seval,ln,g1.lay,Sc,jy]
 refine zBz rows s p0 p1 p2 p5 p6 nv q b S2 NB _ (g1.on _ _) (g3.lay _ _) _ (λi r hr hw h' x=>?_) (λjd h' x=>?_)
 rotate_left
 .exfalso
  have hm:=BK heq
  rw [<- e4] at hm
  obtain ⟨y,hy,e⟩:=ud.1 hm
  exact jd y hy e
 (((with_reducible refine di ?_ ?_ ?_);(· exact (by (simp only [dp]);have:=z.size;omega));(· exact x));replace z:=z.aj x;replace q0:=q0.over x;replace fr:=fr.over x;replace g1:=g1.over x;replace g3:=g3.over x;rw [ao h'])
 obtain rfl:=hw
 obtain ⟨Ak,l,ka,jv,aP⟩:=e5 r (ig hr)
 have B7:Sl aJ.atom hc r.v l:=(ka.mono (tT [NB] _)).mono ik
 have jt:=(dz.1 hr).1
 have iD:=g3.ix (kd:=.i64) (i:=i) Se zyR jt
 have oJ:∀ (h:Heap) (K:aG),aD (some r.v) h K=K r.v h:=λ_ _=>rfl
 have hlr:=λ(hh:Heap)=>B7.bt bC hh
 simp only [aa,seval,ln,iD]
 ((with_reducible refine ⟨z.bZ.lay _ _,?_⟩);(intro _ h' zz x _);(simp only [bG,bu] at x);replace q0:=q0.over x;replace fr:=fr.over x;replace g1:=g1.over x;replace g3:=g3.over x;(replace z:=zz);(clear zz);rw [ao h'])
 simp only [syms,seval,ln]
 have c1:=g3.gE (j:=1) hr (by omega) rfl
 with_reducible first|refine cZ (by simp only [ln]) z.au ?_
 simp only [aa,seval,ln,c1,oJ,q0.lay,↓dW,dO,da]
 refine RQ l a r.v _ ((B7.mono fr.all).lay _ _) (by omega) aP ha _ (λh' x=>?_)
 clear c1
 (((with_reducible refine di ?_ ?_ ?_);(· exact (by (simp only [dp]);have:=z.size;omega));(· exact x));replace z:=z.aj x;replace q0:=q0.over x;replace fr:=fr.over x;replace g1:=g1.over x;replace g3:=g3.over x;rw [ao h'])
 simp only [cR,seval,ln]
 ((with_reducible refine ⟨z.bZ.lay _ _,?_⟩);(intro _ h' zz x _);(simp only [bG,bu] at x);replace q0:=q0.over x;replace fr:=fr.over x;replace g1:=g1.over x;replace g3:=g3.over x;(replace z:=zz);(clear zz);rw [ao h'])
 cases hh:bH l a
 rotate_left
 .skip
  simp only [aa,seval,ln]
  exact hK _ _ _ z.au ((fr.mono (λ_ h=>nomatch h)).trans (aQ.lay _ _ _ []) (λ_ h=>nomatch h)) (sd.dR (fr.trans (aQ.lay _ _ _ []) (λ_ h=>nomatch h))).more
 simp only [aa,seval,ln]
 have kT:=zr9 a (eG l)
 have mF:=zk l
 have c1:=g3.gE (j:=1) hr (by omega) rfl
 with_reducible first|refine cZ (by simp only [ln]) z.au ?_
 simp only [aa,seval,ln,c1,oJ,hlr,g1.lay,zDQ]
 clear c1
 refine bg (λlq=>?_) (λiZ=>?_)
 .simp only [cR,seval,ln]
  ((with_reducible refine ⟨z.bZ.lay _ _,?_⟩);(intro _ h' zz x _);(simp only [bG,bu] at x);replace q0:=q0.over x;replace fr:=fr.over x;replace g1:=g1.over x;replace g3:=g3.over x;(replace z:=zz);(clear zz);rw [ao h'])
  simp only [aa,seval,ln]
  exact hK _ _ _ z.au ((fr.mono (λ_ h=>nomatch h)).trans (aQ.lay _ _ _ []) (λ_ h=>nomatch h)) (sd.dR (fr.trans (aQ.lay _ _ _ []) (λ_ h=>nomatch h))).more
 simp only [cR,seval,ln]
 ((with_reducible refine ⟨z.bZ.lay _ _,?_⟩);(intro _ h' zz x _);(simp only [bG,bu] at x);replace q0:=q0.over x;replace fr:=fr.over x;replace g1:=g1.over x;replace g3:=g3.over x;(replace z:=zz);(clear zz);rw [ao h'])
 simp only [aa,seval,ln]
 have c1:=g3.gE (j:=1) hr (by omega) rfl
 with_reducible first|refine cZ (by simp only [ln]) z.au ?_
 simp only [aa,seval,ln,c1,oJ,q0.lay,↓dW,dO,da]
 have Nt:=fr.size
 refine zCQ l a r.v _ ((B7.mono fr.all).lay _ _) (by omega) aP ha _ (λh' w x ho=>?_)
 clear c1
 have yP:Sl aJ.atom (aM (NB::X) h') w (cD a (eG l)):=kM.kill ho (zyz _ _) (by omega) (λB hB=>by
  rw [bf]
  rcases dG.1 hB with rfl|hB
  .omega
  .have:=F1 B hB;omega)
 (((with_reducible refine di ?_ ?_ ?_);(· exact (by (simp only [dp]);have:=z.size;omega));(· exact x));replace z:=z.aj x;replace q0:=q0.over x;replace fr:=fr.over x;replace g1:=g1.over x;replace g3:=g3.over x;rw [ao h'])
 obtain ⟨wa,wn,wc,rfl⟩:=rP yP
 rw [hh]
 simp only [aa,seval,ln]
 have Yz:=fr.size
 refine cJ.store (off:=1) (y:=(⟨r.who,.slice wa wn wc,r.n⟩:m9)) RN g3 hr zBD (by omega) rfl rfl rfl (by rfl) (λh3 g4 c4=>?_)
 have z3:=z.cx c4 e8 (by omega)
 have mi:=c4.size
 rw [bf] at mi
 refine Ar (by kernel_rfl) z3.low (by rw [bf];exact mi) ?_
 have jm:aQ [NB] hc h3:=(fr.mono (D':=[NB]) (λ_ h=>nomatch h)).iW c4 (.inl (by simp))
 have pL:aQ [NB] h' h3:=(aQ.refl [NB] h').iW c4 (.inl (by simp))
 clear z fr g3 g1 q0
 have z:=z3
 rw [ao h3]
 simp only [cR,seval,ln]
 ((with_reducible refine ⟨z.bZ.lay _ _,?_⟩);(intro _ h' zz x _);(simp only [bG,bu] at x);replace g4:=g4.over x;replace jm:=jm.over x;replace pL:=pL.over x;(replace z:=zz);(clear zz);rw [ao h'])
 have yJ:(rows.set i (⟨r.who,.slice wa wn wc,r.n⟩:m9))[i]? = some ⟨r.who,.slice wa wn wc,r.n⟩:=by rw [sX,aE rfl,aE jt]
 have c2:=g4.gE (j:=2) yJ (by omega) rfl
 have ZJ:IntKind.u64.wrap ((r.n:Int)+1)=((r.n+1:Nat):Int):=zDy (by omega)
 simp only [aa,seval,ln,c2,ZJ]
 refine cJ.store (off:=2) (y:=(⟨r.who,.slice wa wn wc,r.n+1⟩:m9)) RN g4 yJ zEq (by omega) rfl rfl rfl (by rfl) (λh5 g5 c5=>?_)
 have hf4:=jm.size
 have z5:=z.cx c5 e8 (by omega)
 have nV:aQ [NB] hc h5:=jm.iW c5 (.inl (by simp))
 have FN:aQ [NB] _ h5:=pL.iW c5 (.inl (by simp))
 rw [List.set_set] at g5
 clear z g4 jm pL c2
 have z:=z5
 rw [ao h5]
 simp only [aa,seval,ln]
 have q8:=nV.trans (aQ.lay h5 [] h5.low []) (λ_ h=>nomatch h)
 have FO:=FN.trans (aQ.lay h5 [] h5.low []) (λ_ h=>nomatch h)
 exact hK _ _ _ z.au q8 (lF.turn e1 e2 e4 e5 e6 e7 e8 e9 hr rfl q8 zV (g5.lay _ _) (by omega) (yP.mono ((FO.mono (D':=NB::X) (by simp)).inc (λB hB=>.inl hB))) (by omega) (λy hy=>(zpV hy).elim (λe=>by rw [e];exact ha) (Es aP y)))
theorem zr1 (d:aw) (k:Nat) (s:aB) (a:ak) (h hc:Heap) (z:Ext h hc) (N S2 NB:Nat) (hN:N=h.size) (X:List Nat) (F1:∀ B∈X,B < hc.size) (sd:lF N (aM X hc) S2 NB d k) (zV:NB ∉ X) (hk8:k<=800) (ha:a.aV=true) (K:aG)
 (hK:∀ h' bb e,Ext h h'->aQ [NB] hc h'->lF N (aM X h') S2 NB d (k+1)->K (.tuple #[.bool bb,.int .i64 e]) h'):Ok prog aA ov 33 [.pointer (some ⟨S2,0,none⟩),.string s,a.val] hc K:=by
 subst hN
 obtain ⟨p0,p1,p2,p5,p6,q,b,nv,rows,e1,e2,e3,e4,e5,e6,e7,e8,e9⟩:=id sd
 rw [iQ] at e9
 have ik:=tT X hc
 have g1:=e1.mono ik
 have g2:=(e2.mono (tT [NB] _)).mono ik
 have g3:=cJ.Ch e3 ik
 have bn:=g2.one q b
 have jy:∀ (h:Heap) (K:aG),aD (some nv) h K=K nv h:=λ_ _=>rfl
 have pY:=z.size
 rw [ao hc]
 refine Ok.aq 51 (bm N33) ?_
 simp only [aa,seval,mQ,fA]
 with_reducible first|refine cZ (by simp only [mQ]) z.au ?_
 simp only [aa,seval,mQ,g1.lay,↓MA,fw,eU,↓dW,dO,da]
 refine ztl d s a p0 p1 p2 p5 p6 q b _ bn (g2.lay _ _) _ (λfe h' x BK=>?_)
 have q0:=Holds.top (i:=0) x rfl
 have fr:aQ [] hc h':=(aQ.refl [] hc).over x
 replace g1:=g1.over x
 replace g3:=g3.over x
 (((with_reducible refine di ?_ ?_ ?_);(· exact (by (simp only [dp]);have:=z.size;omega));(· exact x));replace z:=z.aj x;rw [ao h'])
 simp only [aa,seval,mQ]
 ((with_reducible refine ⟨z.bZ.lay _ _,?_⟩);(intro _ h' zz x _);(simp only [bG,bu] at x);replace q0:=q0.over x;replace fr:=fr.over x;replace g1:=g1.over x;replace g3:=g3.over x;(replace z:=zz);(clear zz);rw [ao h'])
 simp only [aa,seval,mQ]
 refine im (λba=>?_) (λheq=>?_)
 .skip
  simp only [aa,seval,mQ]
  exact hK _ _ _ z.au ((fr.mono (λ_ h=>nomatch h)).trans (aQ.lay _ _ _ []) (λ_ h=>nomatch h)) (sd.dR (fr.trans (aQ.lay _ _ _ []) (λ_ h=>nomatch h))).more
 simp only [aa,seval,mQ]
 with_reducible first|refine cZ (by simp only [mQ]) z.au ?_
 simp only [aa,seval,mQ,g1.lay,Sc,jy]
 refine zBz rows s p0 p1 p2 p5 p6 nv q b S2 NB _ (g1.on _ _) (g3.lay _ _) _ (λi r hr hw h' x=>?_) (λjd h' x=>?_)
 rotate_left
 .exfalso
  have hm:=BK heq
  rw [<- e4] at hm
  obtain ⟨y,hy,e⟩:=ud.1 hm
  exact jd y hy e
 (((with_reducible refine di ?_ ?_ ?_);(· exact (by (simp only [dp]);have:=z.size;omega));(· exact x));replace z:=z.aj x;replace q0:=q0.over x;replace fr:=fr.over x;replace g1:=g1.over x;replace g3:=g3.over x;rw [ao h'])
 obtain rfl:=hw
 obtain ⟨Ak,l,ka,jv,aP⟩:=e5 r (ig hr)
 have B7:Sl aJ.atom hc r.v l:=(ka.mono (tT [NB] _)).mono ik
 have jt:=(dz.1 hr).1
 have iD:=g3.ix (kd:=.i64) (i:=i) Se zyR jt
 have oJ:∀ (h:Heap) (K:aG),aD (some r.v) h K=K r.v h:=λ_ _=>rfl
 simp only [aa,seval,mQ,iD]
 ((with_reducible refine ⟨z.bZ.lay _ _,?_⟩);(intro _ h' zz x _);(simp only [bG,bu] at x);replace q0:=q0.over x;replace fr:=fr.over x;replace g1:=g1.over x;replace g3:=g3.over x;(replace z:=zz);(clear zz);rw [ao h'])
 simp only [syms,seval,mQ]
 have c1:=g3.gE (j:=1) hr (by omega) rfl
 with_reducible first|refine cZ (by simp only [mQ]) z.au ?_
 simp only [aa,seval,mQ,c1,oJ,q0.lay,↓dW,dO,da]
 refine RQ l a r.v _ ((B7.mono fr.all).lay _ _) (by omega) aP ha _ (λh' x=>?_)
 clear c1
 (((with_reducible refine di ?_ ?_ ?_);(· exact (by (simp only [dp]);have:=z.size;omega));(· exact x));replace z:=z.aj x;replace q0:=q0.over x;replace fr:=fr.over x;replace g1:=g1.over x;replace g3:=g3.over x;rw [ao h'])
 simp only [aa,seval,mQ]
 cases hh:bH l a
 .skip
  (with_reducible_and_instances apply bI);(· rfl)
  simp only [cR,seval,mQ]
  ((with_reducible refine ⟨z.bZ.lay _ _,?_⟩);(intro _ h' zz x _);(simp only [bG,bu] at x);replace q0:=q0.over x;replace fr:=fr.over x;replace g1:=g1.over x;replace g3:=g3.over x;(replace z:=zz);(clear zz);rw [ao h'])
  simp only [aa,seval,mQ]
  exact hK _ _ _ z.au ((fr.mono (λ_ h=>nomatch h)).trans (aQ.lay _ _ _ []) (λ_ h=>nomatch h)) (sd.dR (fr.trans (aQ.lay _ _ _ []) (λ_ h=>nomatch h))).more
 (with_reducible_and_instances apply bI);(· rfl)
 simp only [cR,seval,mQ]
 ((with_reducible refine ⟨z.bZ.lay _ _,?_⟩);(intro _ h' zz x _);(simp only [bG,bu] at x);replace q0:=q0.over x;replace fr:=fr.over x;replace g1:=g1.over x;replace g3:=g3.over x;(replace z:=zz);(clear zz);rw [ao h'])
 simp only [aa,seval,mQ]
 have c1:=g3.gE (j:=1) hr (by omega) rfl
 with_reducible first|refine cZ (by simp only [mQ]) z.au ?_
 simp only [aa,seval,mQ,c1,oJ,q0.lay,↓dW,dO,da]
 have Nt:=fr.size
 refine zvm l a r.v _ ((B7.mono fr.all).lay _ _) (by omega) aP ha _ (λh' w A x ho=>?_)
 clear c1
 have yP:Sl aJ.atom (aM (NB::X) h') w (fG a (eG l)):=ho.aM (λ_ _ _ _ q=>q) (by decide) (λB hB=>by
  rw [bf]
  rcases dG.1 hB with rfl|hB
  .omega
  .have:=F1 B hB;omega)
 (((with_reducible refine di ?_ ?_ ?_);(· exact (by (simp only [dp]);have:=z.size;omega));(· exact x));replace z:=z.aj x;replace q0:=q0.over x;replace fr:=fr.over x;replace g1:=g1.over x;replace g3:=g3.over x;rw [ao h'])
 obtain ⟨wa,wn,wc,rfl⟩:=rP yP
 rw [hh]
 simp only [aa,seval,mQ]
 have Yz:=fr.size
 refine cJ.store (off:=1) (y:=(⟨r.who,.slice wa wn wc,r.n⟩:m9)) RN g3 hr zBD (by omega) rfl rfl rfl (by rfl) (λh3 g4 c4=>?_)
 have z3:=z.cx c4 e8 (by omega)
 have mi:=c4.size
 rw [bf] at mi
 refine Ar (by kernel_rfl) z3.low (by rw [bf];exact mi) ?_
 have jm:aQ [NB] hc h3:=(fr.mono (D':=[NB]) (λ_ h=>nomatch h)).iW c4 (.inl (by simp))
 have pL:aQ [NB] h' h3:=(aQ.refl [NB] h').iW c4 (.inl (by simp))
 clear z fr g3 g1 q0
 have z:=z3
 rw [ao h3]
 simp only [cR,seval,mQ]
 ((with_reducible refine ⟨z.bZ.lay _ _,?_⟩);(intro _ h' zz x _);(simp only [bG,bu] at x);replace g4:=g4.over x;replace jm:=jm.over x;replace pL:=pL.over x;(replace z:=zz);(clear zz);rw [ao h'])
 have yJ:(rows.set i (⟨r.who,.slice wa wn wc,r.n⟩:m9))[i]? = some ⟨r.who,.slice wa wn wc,r.n⟩:=by rw [sX,aE rfl,aE jt]
 have c2:=g4.gE (j:=2) yJ (by omega) rfl
 have ZJ:IntKind.u64.wrap ((r.n:Int)+1)=((r.n+1:Nat):Int):=zDy (by omega)
 simp only [aa,seval,mQ,c2,ZJ]
 refine cJ.store (off:=2) (y:=(⟨r.who,.slice wa wn wc,r.n+1⟩:m9)) RN g4 yJ zEq (by omega) rfl rfl rfl (by rfl) (λh5 g5 c5=>?_)
 have hf4:=jm.size
 have z5:=z.cx c5 e8 (by omega)
 have nV:aQ [NB] hc h5:=jm.iW c5 (.inl (by simp))
 have FN:aQ [NB] _ h5:=pL.iW c5 (.inl (by simp))
 rw [List.set_set] at g5
 clear z g4 jm pL c2
 have z:=z5
 rw [ao h5]
 simp only [aa,seval,mQ]
 have q8:=nV.trans (aQ.lay h5 [] h5.low []) (λ_ h=>nomatch h)
 have FO:=FN.trans (aQ.lay h5 [] h5.low []) (λ_ h=>nomatch h)
 have rn:(fG a (eG l)).length<=k+1:=il (AO _ _) (by have:=zk l;omega)
 exact hK _ _ _ z.au q8 (lF.turn e1 e2 e4 e5 e6 e7 e8 e9 hr rfl q8 zV (g5.lay _ _) (by omega) (yP.mono ((FO.mono (D':=NB::X) (by simp)).inc (λB hB=>.inl hB))) rn (λy hy=>Es aP y (J5.1 hy).1))
theorem zxM {h:Heap} {A:Nat} {c1 c2:List ae} (f:Holds h A (.row c1 124 false)) (g:Holds h A (.row c2 28 false)):False:=by
 have e:=f.get.symm.trans g.get
 simp only [dY,bh.row.injEq] at e
 exact absurd e.2.1 (by decide)
theorem zx5 (d:aw) (p0 p1 p2 p5 p6:ae) (q b:Int) (h:Heap) (bn:(dw p0 p1 p2 p5 p6 q b).all Am.one=true) (hd:ej h p0 p1 p2 p5 p6 d) (hn:d.aU.length<=70) (kT:d.ah.length<=70) (X:List Nat) (hX:∀ B∈X,B < h.size) (hdX:ej (aM X h) p0 p1 p2 p5 p6 d) (K:aG)
 (oZ:∀ c h',c≠0->Ext h h'->K (.tuple #[.pointer none,.int .i64 c]) h')
 (iJ:∀ h' S2 NB,Ext h h'->lF h.size (aM X h') S2 NB d 0->K (.tuple #[.pointer (some ⟨S2,0,none⟩),.int .i64 0]) h'):Ok prog aA ov 31 [gC p0 p1 p2 p5 p6 q b] h K:=by
 obtain ⟨a0,n0,c0,rfl⟩:=rP hd.s0
 obtain ⟨a1,n1,c1,rfl⟩:=rP hd.s1
 obtain ⟨a2,n2,c2,rfl⟩:=rP hd.s2
 obtain ⟨a5,n5,c5,rfl⟩:=rP hd.s5
 obtain ⟨a6,n6,c6,rfl⟩:=rP hd.s6
 rw [ao h]
 have z:=Ext.refl h
 have cO:=λ(hh:Heap)=>hd.s0.bt cQ hh
 have hle:=hd.s0.le
 refine Ok.aq 37 (bm N31) ?_
 simp only [aa,seval,uq,jG,↓fN,fw,eU]
 refine zxR d _ _ _ _ _ q b _ bn (hd.lay _ _) hn _ (λc h' x=>?_)
 have q0:=Holds.top (i:=0) x rfl
 (replace z:=z.aj x;rw [ao h'])
 obtain ⟨A0,dK⟩:∃ A0,A0=h.size+0:=⟨_,rfl⟩
 rw [<- dK] at q0
 rw [<- dK]
 simp only [aa,seval,uq]
 refine im (λba=>?_) (λheq=>?_)
 .simp only [aa,seval,uq]
  exact oZ _ _ ba z.au
 have am6:=q0.lt
 subst heq
 have hz:=z.size
 simp only [aa,seval,uq,q0.lay,↓fN,fw,eU,zEO]
 obtain ⟨S2,zX⟩:∃ S2,S2=h'.size+0:=⟨_,rfl⟩
 refine lg (λh' x hq=>?_)
 have q1:=hq 0 _ rfl
 clear hq
 (replace z:=z.aj x;replace q0:=q0.over x;rw [ao h'])
 rw [<- zX] at q1
 rw [<- zX]
 have ant:=q1.lt
 have MO:A0≠S2:=by omega
 obtain ⟨I1,aO⟩:∃ I:Nat->Env->Heap->Prop,I=(λn e h'=>∃ (i:Nat) (NB:Nat) (nv:ae) (rows:List m9) (h1:Heap),h'=h1.lay [] h1.low/\Ext h h1/\(n=d.ah.length - i/\i<=d.ah.length/\Holds h1 A0 (.row (dw (.slice a0 n0 c0) (.slice a1 n1 c1) (.slice a2 n2 c2) (.slice a5 n5 c5) (.slice a6 n6 c6) q b) 28 false)/\Holds h1 S2 (.row (CW (.slice a0 n0 c0) (.slice a1 n1 c1) (.slice a2 n2 c2) (.slice a5 n5 c5) (.slice a6 n6 c6) q b nv) 122 false)/\cJ 3 m9.cells h1 124 NB nv rows/\rows.map m9.who=d.ah.take i/\(∀ x∈rows,x.v=.slice none 0 0/\x.n=0)/\h.size<=NB/\NB < h1.size/\NB≠S2/\(NB=A0->nv=.slice none 0 0))/\∃ J:Nat->ae,e=(J 0::.pointer (some ⟨A0,0,none⟩)::jr J 2 3 (.pointer (some ⟨S2,0,none⟩)::.int .i64 i::jr J 7 31 ([])))):=⟨_,rfl⟩
 refine cK I1 _ (by rw [aO];exact ⟨0,A0,.slice none 0 0,[],_,rfl,z,⟨rfl,by omega,q0,q1,cJ.nil,by simp,by simp,by omega,q0.lt,MO,λ_=>rfl⟩,bc⟩) ?_
 intro n e h' aK
 rw [aO] at aK
 obtain ⟨i,NB,nv,rows,bD,rfl,z,hinv,J,rfl⟩:=aK
 clear q0 q1
 obtain ⟨rfl,hi,q0,q1,f,vJ,aC,XT,XU,XS,hNA⟩:=hinv
 have fb:=dE i (by omega)
 have sA:=z.size
 have oH:rows.length=i:=by
  have:=congrArg List.length vJ
  rw [fV,fj] at this
  omega
 simp only [aa,seval,uq,q0.lay,k6,cO]
 refine bg (λaP=>?_) (λlq=>?_)
 .obtain ⟨r,hr,bM⟩:=eb (l:=d.ah) (i:=i) (by omega)
  simp only [aa,seval,uq]
  with_reducible first|refine cZ (by simp only [uq]) z.au ?_
  obtain ⟨va,vn,vc,rfl⟩:=f.shape
  simp only [aa,seval,uq,q1.lay,Sc,q0.lay,k6]
  repeat' ((first|with_reducible_and_instances refine oT (hd.s0.mono z.inc) cQ mU (by omega) hr (λp hp=>?_)|with_reducible_and_instances refine fo hp gU ?_) <;> simp only [aa,seval,uq,zEM])
  refine tS (by omega) (by omega) ?_
  simp only [cR,seval,uq,ja,zDc]
  refine cJ.app (x:=(⟨r,.slice none 0 0,0⟩:m9)) (j:=0) RN rfl (by decide) Se zkg f rfl (by omega) (by omega) (λv3 h3 N3 f3 hN3 IV tA=>?_)
  have c3:=tA XU
  have z3:=z.cx c3 XT (by omega)
  have mi:=c3.size
  rw [bf] at mi
  simp only [de,dr] at mi
  refine Ar (by kernel_rfl) z3.low (by rw [bf];simp only [de,dr];omega) ?_
  have q13:=q1.bj c3 XS.symm
  have re:Holds h3 A0 (.row (dw (.slice a0 n0 c0) (.slice a1 n1 c1) (.slice a2 n2 c2) (.slice a5 n5 c5) (.slice a6 n6 c6) q b) 28 false):=by
   by_cases hh:NB=A0
   .exact q0.over (IV (hNA hh))
   .exact q0.bj c3 (λe=>hh e.symm)
  have anp:N3 < h3.size:=f3.lt (by simp)
  have XP:N3≠A0:=λe=>by
   rcases f3 with ⟨_,h0⟩|⟨qq,row,_,GJ,_⟩
   .simp at h0
   .exact zxM GJ (e ▸ re)
  have MX:N3≠S2:=λe=>by
   rcases hN3 with ⟨e2,_⟩|e2
   .exact XS (e2 ▸ e)
   .rw [bf] at e2
    have:=q1.lt
    omega
  have XQ:h.size<=N3:=by
   rcases hN3 with ⟨e2,_⟩|e2
   .omega
   .rw [bf] at e2
    omega
  obtain ⟨xa,xn,xc,rfl⟩:=f3.shape
  clear z q0 q1 f IV tA
  have z:=z3
  rw [ao h3]
  simp only [aa,seval,uq]
  refine CH (o:=7) q13 zDh rfl rfl (by show 7+1<=8;decide) rfl (λh4 OV c4=>?_)
  replace OV:Holds h4 S2 (.row (CW (.slice a0 n0 c0) (.slice a1 n1 c1) (.slice a2 n2 c2) (.slice a5 n5 c5) (.slice a6 n6 c6) q b (.slice xa xn xc)) 122 false):=OV
  have z4:=z.cx c4 (by omega) (by omega)
  have uG:=c4.size
  rw [bf] at uG
  refine Ar (by kernel_rfl) z4.low (by rw [bf];exact uG) ?_
  have q04:=re.bj c4 MO
  have f4:=f3.bj c4 MX
  clear z
  have z:=z4
  rw [ao h4]
  simp only [cR,seval,uq]
  ((with_reducible refine ⟨z.bZ.lay _ _,?_⟩);(intro _ h' zz x _);(simp only [bG,bu] at x);replace q04:=q04.over x;replace OV:=OV.over x;replace f4:=f4.over x;(replace z:=zz);(clear zz);rw [ao h'])
  simp only [aa,seval,uq]
  rw [fb]
  (rw [aO];with_reducible refine bS (m:=_) ?_ ⟨i+1,N3,.slice xa xn xc,rows++[⟨r,.slice none 0 0,0⟩],_,rfl,z,⟨rfl,by omega,q04,OV,f4,by rw [AU,vJ,nT,show d.ah[i]? = some r from bM];simp,λx hx=>(oV.1 hx).elim (aC x) (λe=>by rw [iq.1 e];exact ⟨rfl,rfl⟩),XQ,f4.lt (by simp),MX,λe=>absurd e XP⟩,bc⟩;omega)
 .rw [fX (by omega)] at vJ
  have TG:=z.size
  have M0:S2 ∉ X:=λhx=>by have:=hX _ hx;omega
  have zV:NB ∉ X:=λhx=>by have:=hX _ hx;omega
  simp only [aa,seval,uq]
  refine iJ _ S2 NB z.au ⟨.slice a0 n0 c0,.slice a1 n1 c1,.slice a2 n2 c2,.slice a5 n5 c5,.slice a6 n6 c6,q,b,nv,rows,(q1.on _ _).pj M0,hdX.mono (zpa (((z.ck []).trans (aQ.lay _ _ _ []) (λ_ h=>nomatch h)).kill X).all (λB hB=>by rw [iq.1 hB,iQ];exact XT)),(f.lay _ _).hold (λ_ q=>q.pj zV),vJ,λx hx=>?_,XS.symm,by omega,XT,by rw [iQ,bf];omega⟩
  obtain ⟨e1,e2⟩:=aC x hx
  rw [e1,e2]
  exact ⟨bo _,[],.nil,bo _,by simp⟩
end Go.Proofs.YtkgojconmeeegaaGreatDoor
