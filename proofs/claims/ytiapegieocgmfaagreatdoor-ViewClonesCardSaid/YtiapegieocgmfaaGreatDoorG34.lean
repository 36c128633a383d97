/- Walks: sorting in place: Am.one block Written out by fill2.py. No condition. -/
import Derived.Test.YtiapegieocgmfaaGreatDoorG28
set_option linter.unusedSimpArgs false
set_option linter.unusedVariables false
set_option maxRecDepth 100000
set_option maxHeartbeats 0
namespace Go.Proofs.YtiapegieocgmfaaGreatDoor
open Go.Am Tryz
theorem zhY (l:aS) (A c a b:Nat) (h hs:Heap) (z:Ext h hs) (hA:h.size<=A) (q:Holds hs A (.row (aP l) 47 false)) (u9:a<=b) (hb:b<=l.length) (hn:l.length<=100000) (aT:∀ x∈l,x.aW=true) (K:aF)
 (hk:∀ h' l',Ext h h'->Holds h' A (.row (aP l') 47 false)->l'.Perm l->fb l l'->iA l' a b->Hy l l' a b->K undef h'):Ok prog aD ov 167 [.slice (some ⟨A,0,none⟩) l.length c,.int .i64 a,.int .i64 b,.func (.func 91) ⟨[]⟩ ⟨[]⟩] hs K:=by
 rw [ao hs]
 have hw0:=ei a (by omega)
 refine Ok.aw 49 (bq EN) ?_
 simp only [aa,seval,fK]
 rw [hw0]
 obtain ⟨I1,aU⟩:∃ I:Nat->Env->Heap->Prop,I=(λn e h'=>∃ (i:Nat) (l1:aS) (h1:Heap),h'=h1.lay [] h1.low/\Ext h h1/\(n=b - i/\a < i/\(i<=b\/(i=a+1/\l1=l))/\l1.Perm l/\fb l l1/\iA l1 a i/\Hy l l1 a i/\Holds h1 A (.row (aP l1) 47 false))/\∃ J:Nat->ab,e=(.slice (some ⟨A,0,none⟩) l.length c::.int .i64 a::.int .i64 b::.func (.func 91) ⟨[]⟩ ⟨[]⟩::jr J 4 4 (.int .i64 i::jr J 9 44 ([])))):=⟨_,rfl⟩
 refine dA I1 _ (by rw [aU];exact ⟨a+1,l,_,rfl,z,⟨rfl,by omega,.inr ⟨rfl,rfl⟩,List.Perm.refl _,fb.refl _,λk g1 g2=>by omega,λk _=>rfl,q⟩,bl⟩) ?_
 intro n e h' aO
 rw [aU] at aO
 obtain ⟨i,l1,bC,rfl,z,hinv,J,rfl⟩:=aO
 clear q
 obtain ⟨rfl,R1,Sc,Dz,GA,Gy,Gw,q⟩:=hinv
 have hw:=ei i (by omega)
 simp only [aa,seval,fK]
 refine bn (λjw=>?_) (λjw=>?_)
 rotate_left
 .simp only [aa,seval,fK]
  repeat' ((first|((with_reducible first|apply bn|apply lK|apply gg|apply rJ|apply vZ) <;> intro _)|((with_reducible refine ⟨z.cn.lay _ _,?_⟩);(intro _ h' zz x _);(first|simp only [bM,bu] at x|skip);(replace z:=zz);(clear zz);rw [ao h'])) <;> simp only [aa,seval,fK])
  refine hk _ _ z.aA (q.on _ _) Dz GA (λk g1 g2=>Gy k g1 (by omega)) (λk g=>?_)
  rcases Sc with Sc|⟨_,rfl⟩
  .exact Gw k (by omega)
  .rfl
 have fR:=Dz.length_eq
 have Na:=D4 aT Dz
 repeat' (simp only [aa,seval,fK])
 obtain ⟨I2,fM⟩:∃ I:Nat->Env->Heap->Prop,I=(λn e h'=>∃ (j:Nat) (l2:aS) (h1:Heap),h'=h1.lay [] h1.low/\Ext h h1/\(n=j - a/\a<=j/\j<=i/\l2.Perm l/\fb l l2/\Rr l2 a i j/\Hy l l2 a (i+1)/\Holds h1 A (.row (aP l2) 47 false))/\∃ J:Nat->ab,e=(.slice (some ⟨A,0,none⟩) l.length c::.int .i64 a::.int .i64 b::.func (.func 91) ⟨[]⟩ ⟨[]⟩::jr J 4 4 (.int .i64 i::.int .i64 j::jr J 10 43 ([])))):=⟨_,rfl⟩
 refine dA I2 _ (by rw [fM];exact ⟨i,l1,_,rfl,z,⟨rfl,by omega,by omega,Dz,GA,zrp Gy,λk g=>Gw k (by omega),q⟩,bl⟩) ?_
 intro n e h' aO
 rw [fM] at aO
 obtain ⟨j,l2,zT,rfl,z,hinv,J,rfl⟩:=aO
 clear q Dz GA Gy Gw fR Na
 obtain ⟨rfl,Xf,kQ,DA,GB,Sr,Gx,q⟩:=hinv
 have iE:=DA.length_eq
 have jx:=D4 aT DA
 simp only [lx,seval,fK]
 refine (dL (by simp only [fK])) z.aA ?_
 simp only [aa,seval,fK]
 refine bn (λvo=>?_) (λvo=>?_)
 rotate_left
 .repeat' (first|simp only [aa,seval,fK]|((with_reducible refine ⟨z.cn.lay _ _,?_⟩);(intro _ h' zz x _);( simp only [bM,bu] at x );( replace q:=q.over x );(replace z:=zz);(clear zz);rw [ao h']))
  rw [hw]
  (rw [aU];with_reducible refine cy (m:=_) ?_ ⟨i+1,l2,_,rfl,z,⟨rfl,by omega,.inl (by omega),DA,GB,zpC Sr kQ (λg=>absurd g (by omega)),Gx,q⟩,bl⟩;omega)
 have YL:IntKind.i64.wrap ((j:Int) - 1)=((j - 1:Nat):Int):=by rw [wrap_i64 (by omega) (by omega)];omega
 have aO:(0:Int)<=(j:Int)/\(j:Int) < (l.length:Int):=by omega
 have gu:(0:Int)<=((j - 1:Nat):Int)/\((j - 1:Nat):Int) < (l.length:Int):=by omega
 have kR:=λ(bs:List ba) (w:Nat)=>oQ (bs:=bs) (w:=w) q (jM (l:=l2) (i:=j) (by omega))
 have fG:=λ(bs:List ba) (w:Nat)=>oQ (bs:=bs) (w:=w) q (jM (l:=l2) (i:=j - 1) (by omega))
 repeat' (simp only [aa,seval,fK,YL,aO,gu,↓kR,↓fG,dX])
 refine Er _ _ (se jx (by omega)) (se jx (by omega)) _ _ (λh' x=>?_)
 (((with_reducible refine cU ?_ ?_ ?_);(· exact (by (simp only [ck]);have:=z.size;omega));(· exact x));replace z:=z.an x;replace q:=q.over x;rw [ao h'])
 simp only [aa,seval,fK]
 refine bn (λhc=>?_) (λhc=>?_)
 rotate_left
 .repeat' (first|simp only [aa,seval,fK]|((with_reducible refine ⟨z.cn.lay _ _,?_⟩);(intro _ h' zz x _);( simp only [bM,bu] at x );( replace q:=q.over x );(replace z:=zz);(clear zz);rw [ao h']))
  rw [hw]
  (rw [aU];with_reducible refine cy (m:=_) ?_ ⟨i+1,l2,_,rfl,z,⟨rfl,by omega,.inl (by omega),DA,GB,zpC Sr kQ (λ_=>Jy hc),Gx,q⟩,bl⟩;omega)
 repeat' (first|simp only [aa,seval,fK]|((with_reducible refine ⟨z.cn.lay _ _,?_⟩);(intro _ h' zz x _);(simp only [bM,bu] at x);replace q:=q.over x;(replace z:=zz);(clear zz);rw [ao h']))
 have kR:=λ(bs:List ba) (w:Nat)=>oQ (bs:=bs) (w:=w) q (jM (l:=l2) (i:=j) (by omega))
 have fG:=λ(bs:List ba) (w:Nat)=>oQ (bs:=bs) (w:=w) q (jM (l:=l2) (i:=j - 1) (by omega))
 refine (dL (by simp only [fK])) z.aA ?_
 repeat' (simp only [aa,seval,fK,YL,aO,gu,↓kR,↓fG,dX])
 refine Cp q bH (by omega) (λh3 q3 c3=>?_)
 have hz:=z.size
 refine og (A:=A) (by kernel_rfl) (by rw [bc];omega) (by omega) (by simpa only [bM,bc,bu,dn,dN,iU] using c3) ?_
 replace z:=(z.kN [] (h'.size+0) (by omega)).step c3 hA
 rw [ao h3]
 clear q kR fG
 repeat' (simp only [aa,seval,fK,gu])
 refine Cp q3 bH (by rw [nT];omega) (λh4 q4 c4=>?_)
 have hz:=z.size
 refine og (A:=A) (by kernel_rfl) (by rw [bc];omega) (by omega) (by simpa only [bM,bc,bu,dn,dN,iU] using c4) ?_
 replace z:=(z.kN [] (h3.size+0) (by omega)).step c4 hA
 rw [ao h4]
 clear q3
 repeat' (first|simp only [aa,seval,fK,YL]|((with_reducible refine ⟨z.cn.lay _ _,?_⟩);(intro _ h' zz x _);(simp only [bM,bu] at x);replace q4:=q4.over x;(replace z:=zz);(clear zz);rw [ao h']))
 replace q4:Holds _ A (.row (aP (lA l2 j (j - 1))) 47 false):=q4
 (rw [fM];with_reducible refine cy (m:=_) ?_ ⟨j - 1,lA l2 j (j - 1),_,rfl,z,⟨rfl,by omega,by omega,(zhD (by omega) (by omega)).trans DA,GB.trans (zpI (by omega) (by omega) hc),zuG Sr (by omega) kQ (by omega) hc,zpz Gx (by omega) kQ (by omega),q4⟩,bl⟩;omega)
theorem zfq (l:aS) (A c a b w:Nat) (fv:ab) (h hs:Heap) (z:Ext h hs) (hA:h.size<=A) (q:Holds hs A (.row (aP l) 47 false)) (u9:a+w<=b) (hb:b+w<=l.length) (hn:l.length<=100000) (K:aF)
 (hk:∀ h' l',Ext h h'->Holds h' A (.row (aP l') 47 false)->l'.Perm l->Eh l l' a b w->K undef h'):Ok prog aD ov 193 [.slice (some ⟨A,0,none⟩) l.length c,.int .i64 a,.int .i64 b,.int .i64 w,fv] hs K:=by
 rw [ao hs]
 refine Ok.aw 33 (bq K5) ?_
 simp only [aa,seval,qT]
 obtain ⟨I1,aU⟩:∃ I:Nat->Env->Heap->Prop,I=(λn e h'=>∃ (i:Nat) (l1:aS) (h1:Heap),h'=h1.lay [] h1.low/\Ext h h1/\(n=w - i/\i<=w/\l1.Perm l/\Eh l l1 a b i/\Holds h1 A (.row (aP l1) 47 false))/\∃ J:Nat->ab,e=(.slice (some ⟨A,0,none⟩) l.length c::.int .i64 a::.int .i64 b::.int .i64 w::jr J 4 6 (.int .i64 i::jr J 11 27 ([])))):=⟨_,rfl⟩
 refine dA I1 _ (by rw [aU];exact ⟨0,l,_,rfl,z,⟨rfl,by omega,List.Perm.refl _,zrC l a b,q⟩,bl⟩) ?_
 intro n e h' aO
 rw [aU] at aO
 obtain ⟨i,l1,bC,rfl,z,hinv,J,rfl⟩:=aO
 clear q
 obtain ⟨rfl,hi,hp,yV,q⟩:=hinv
 have fR:=hp.length_eq
 have hw:=ei i (by omega)
 simp only [aa,seval,qT]
 refine bn (λaT=>?_) (λaT=>?_)
 rotate_left
 .repeat' ( simp only [aa,seval,qT])
  have hiw:i=w:=by omega
  subst hiw
  exact hk _ _ z.aA (q.on _ _) hp yV
 have YI:IntKind.i64.wrap ((a:Int)+(i:Int))=((a+i:Nat):Int):=by rw [wrap_i64 (by omega) (by omega)];omega
 have BU:IntKind.i64.wrap ((b:Int)+(i:Int))=((b+i:Nat):Int):=by rw [wrap_i64 (by omega) (by omega)];omega
 have aO:(0:Int)<=((a+i:Nat):Int)/\((a+i:Nat):Int) < (l.length:Int):=by omega
 have gu:(0:Int)<=((b+i:Nat):Int)/\((b+i:Nat):Int) < (l.length:Int):=by omega
 have kR:=λ(bs:List ba) (w:Nat)=>oQ (bs:=bs) (w:=w) q (jM (l:=l1) (i:=a+i) (by omega))
 have fG:=λ(bs:List ba) (w:Nat)=>oQ (bs:=bs) (w:=w) q (jM (l:=l1) (i:=b+i) (by omega))
 simp only [aa,seval,qT]
 refine (dL (by simp only [qT])) z.aA ?_
 repeat' (simp only [aa,seval,qT,YI,BU,aO,gu,and_self,if_true,↓kR,↓fG,dX])
 have hz:=z.size
 refine Cp q bH (by omega) (λh3 q3 c3=>?_)
 refine og (A:=A) (by kernel_rfl) (by rw [bc];omega) (by omega) (by simpa only [bM,bc,bu,dn,dN,iU] using c3) ?_
 replace z:=(z.kN [] (bC.size+0) (by omega)).step c3 hA
 rw [ao h3]
 clear q kR fG
 repeat' (simp only [aa,seval,qT,YI,BU,aO,gu,and_self,if_true])
 refine Cp q3 bH (by rw [nT];omega) (λh4 q4 c4=>?_)
 have hz:=z.size
 refine og (A:=A) (by kernel_rfl) (by rw [bc];omega) (by omega) (by simpa only [bM,bc,bu,dn,dN,iU] using c4) ?_
 replace z:=(z.kN [] (h3.size+0) (by omega)).step c4 hA
 rw [ao h4]
 clear q3
 repeat' (first|simp only [aa,seval,qT]|((with_reducible refine ⟨z.cn.lay _ _,?_⟩);(intro _ h' zz x _);(simp only [bM,bu] at x);replace q4:=q4.over x;(replace z:=zz);(clear zz);rw [ao h']))
 rw [hw]
 replace q4:Holds _ A (.row (aP (lA l1 (a+i) (b+i))) 47 false):=q4
 (rw [aU];with_reducible refine cy (m:=_) ?_ ⟨i+1,lA l1 (a+i) (b+i),_,rfl,z,⟨rfl,by omega,(zhD (by omega) (by omega)).trans hp,zrB yV u9 (by omega) (by omega),q4⟩,bl⟩;omega)
theorem zw0 (l:aS) (A c a m b:Nat) (fv:ab) (h hs:Heap) (z:Ext h hs) (hA:h.size<=A) (q:Holds hs A (.row (aP l) 47 false)) (Bv:a < m) (BE:m < b) (hb:b<=l.length) (hn:l.length<=100000) (K:aF)
 (hk:∀ h',Ext h h'->Holds h' A (.row (aP (AN l a m b)) 47 false)->(AN l a m b).Perm l->K undef h'):Ok prog aD ov 182 [.slice (some ⟨A,0,none⟩) l.length c,.int .i64 a,.int .i64 m,.int .i64 b,fv] hs K:=by
 rw [ao hs]
 have yZ:IntKind.i64.wrap ((m:Int) - (a:Int))=((m - a:Nat):Int):=by rw [wrap_i64 (by omega) (by omega)];omega
 have vG:IntKind.i64.wrap ((b:Int) - (m:Int))=((b - m:Nat):Int):=by rw [wrap_i64 (by omega) (by omega)];omega
 refine Ok.aw 53 (bq KY) ?_
 simp only [aa,seval,pL,yZ,vG]
 obtain ⟨I1,aU⟩:∃ I:Nat->Env->Heap->Prop,I=(λn e h'=>∃ (i j:Nat) (l1:aS) (h1:Heap),h'=h1.lay [] h1.low/\Ext h h1/\(n=i+j/\0 < i/\0 < j/\i<=m/\m+j<=l.length/\l1.Perm l/\H7 (AN l a m b) l1 m i j/\Holds h1 A (.row (aP l1) 47 false))/\∃ J:Nat->ab,e=(.slice (some ⟨A,0,none⟩) l.length c::J 1::.int .i64 m::J 3::fv::jr J 5 5 (.int .i64 i::.int .i64 j::jr J 12 46 ([])))):=⟨_,rfl⟩
 refine dA I1 _ (by rw [aU];exact ⟨m - a,b - m,l,_,rfl,z,⟨rfl,by omega,by omega,by omega,by omega,List.Perm.refl _,zrK (by omega) (by omega) hb,q⟩,bl⟩) ?_
 intro n e h' aO
 rw [aU] at aO
 obtain ⟨i,j,l1,bC,rfl,z,hinv,J,rfl⟩:=aO
 clear q
 obtain ⟨rfl,sY,hj0,vt,MX,hp,Yy,q⟩:=hinv
 have fR:=hp.length_eq
 simp only [aa,seval,pL]
 have GL:IntKind.i64.wrap ((m:Int) - (i:Int))=((m - i:Nat):Int):=by rw [wrap_i64 (by omega) (by omega)];omega
 refine gg (λaQ=>?_) (λheq=>?_)
 rotate_left
 .have dK:i=j:=by omega
  subst dK
  repeat' (simp only [aa,seval,pL,GL])
  have key:=λK hk=>zfq l1 A c (m - i) m i fv h (bC.lay [] bC.low) z.aA hA (q.on _ _) (by omega) (by omega) (by omega) K hk
  simp only [fR] at key
  refine key _ (λh' l' x q' pZ kS=>?_)
  have lV:l'=AN l a m b:=zmF (by rw [zh8,pZ.length_eq,fR]) (λk=>(zxR Yy vt kS k).symm)
  subst lV
  rw [ao h']
  repeat' (simp only [aa,seval,pL])
  exact hk _ x.aA (q'.on _ _) (pZ.trans hp)
 simp only [aa,seval,pL]
 refine bn (λvo=>?_) (λvo=>?_)
 .repeat' ( simp only [aa,seval,pL,GL])
  have key:=λK hk=>zfq l1 A c (m - i) m j fv h (bC.lay [] bC.low) z.aA hA (q.on _ _) (by omega) (by omega) (by omega) K hk
  simp only [fR] at key
  refine key _ (λh' l' x q' pZ kS=>?_)
  replace z:=x
  rw [ao h']
  have YK:IntKind.i64.wrap ((i:Int) - (j:Int))=((i - j:Nat):Int):=by rw [wrap_i64 (by omega) (by omega)];omega
  repeat' (simp only [aa,seval,pL,YK])
  (rw [aU];with_reducible refine cy (m:=_) ?_ ⟨i - j,j,l',_,rfl,z,⟨rfl,by omega,by omega,by omega,by omega,pZ.trans hp,zu5 Yy vt (by omega) kS,q'⟩,bl⟩;omega)
 .have YO:IntKind.i64.wrap ((m:Int)+(j:Int))=((m+j:Nat):Int):=by rw [wrap_i64 (by omega) (by omega)];omega
  have NK:IntKind.i64.wrap (((m+j:Nat):Int) - (i:Int))=((m+j - i:Nat):Int):=by rw [wrap_i64 (by omega) (by omega)];omega
  repeat' (simp only [aa,seval,pL,GL,YO,NK])
  have key:=λK hk=>zfq l1 A c (m - i) (m+j - i) i fv h (bC.lay [] bC.low) z.aA hA (q.on _ _) (by omega) (by omega) (by omega) K hk
  simp only [fR] at key
  refine key _ (λh' l' x q' pZ kS=>?_)
  replace z:=x
  rw [ao h']
  have YM:IntKind.i64.wrap ((j:Int) - (i:Int))=((j - i:Nat):Int):=by rw [wrap_i64 (by omega) (by omega)];omega
  repeat' (simp only [aa,seval,pL,YM])
  (rw [aU];with_reducible refine cy (m:=_) ?_ ⟨i,j - i,l',_,rfl,z,⟨rfl,by omega,by omega,by omega,by omega,pZ.trans hp,zrJ Yy vt (by omega) kS,q'⟩,bl⟩;omega)
def Z0 (sz:Nat):Prop:=∀ (l:aS) (A c a m b:Nat) (h hs:Heap),Ext h hs->h.size<=A->Holds hs A (.row (aP l) 47 false)->a < m->m < b->b - a<=sz->b<=l.length->l.length<=100000->(∀ x∈l,x.aW=true)->iA l a m->iA l m b->∀ (K:aF),
 (∀ h' l',Ext h h'->Holds h' A (.row (aP l') 47 false)->Mv l l' a b->iA l' a b->K undef h')->Ok prog aD ov 168 [.slice (some ⟨A,0,none⟩) l.length c,.int .i64 a,.int .i64 m,.int .i64 b,.func (.func 91) ⟨[]⟩ ⟨[]⟩] hs K
theorem Qq (x y:Nat) (h:x+y<=1000000):IntKind.i64.wrap ((x:Int)+(y:Int))=((x+y:Nat):Int)/\IntKind.u64.wrap ((x+y:Nat):Int)=((x+y:Nat):Int)/\IntKind.i64.wrap (((x+y) / 2:Nat):Int)=(((x+y) / 2:Nat):Int)/\Int.fdiv ((x+y:Nat):Int) (2 ^ (min (1:Int).toNat (IntKind.bits .u64)))=(((x+y) / 2:Nat):Int):=by
 refine ⟨by rw [wrap_i64 (by omega) (by omega)];omega,by unfold IntKind.wrap;simp [IntKind.bits];omega,wrap_i64 (by omega) (by omega),?_⟩
 show Int.fdiv ((x+y:Nat):Int) 2=_
 rw [Int.fdiv_eq_ediv_of_nonneg _ (by omega)]
 omega
theorem zuq (sz:Nat) (ih:Z0 sz):Z0 (sz+1):=by
 intro l A c a m b h hs z hA q Bv BE dx hb hn aT h1 h2 K hk
 rw [ao hs]
 have yZ:IntKind.i64.wrap ((m:Int) - (a:Int))=((m - a:Nat):Int):=by rw [wrap_i64 (by omega) (by omega)];omega
 have vG:IntKind.i64.wrap ((b:Int) - (m:Int))=((b - m:Nat):Int):=by rw [wrap_i64 (by omega) (by omega)];omega
 have IF:l[a]? = some (l.getD a ae):=jM (by omega)
 have Dr:l[m]? = some (l.getD m ae):=jM (by omega)
 refine Ok.aw 215 (bq jQ) ?_
 simp only [aa,seval,bS,yZ,vG]
 refine lK (λbf=>?_) (λbf=>?_)
 .-- Am.one element in front
  simp only [aa,seval,bS]
  obtain ⟨I1,aU⟩:∃ I:Nat->Env->Heap->Prop,I=(λn e h'=>∃ (i j:Nat) (h1:Heap),h'=h1.lay [] h1.low/\Ext h h1/\(n=j - i/\m<=i/\i<=j/\j<=b/\(i=m\/aX (l.getD (i - 1) ae) (l.getD a ae) < 0)/\(j=b\/¬ aX (l.getD j ae) (l.getD a ae) < 0)/\Holds h1 A (.row (aP l) 47 false))/\∃ J:Nat->ab,e=(.slice (some ⟨A,0,none⟩) l.length c::.int .i64 a::.int .i64 m::.int .i64 b::.func (.func 91) ⟨[]⟩ ⟨[]⟩::jr J 5 5 (.int .i64 i::.int .i64 j::jr J 12 208 ([])))):=⟨_,rfl⟩
  refine dA I1 _ (by rw [aU];exact ⟨m,b,_,rfl,z,⟨rfl,by omega,by omega,by omega,.inl rfl,.inl rfl,q⟩,bl⟩) ?_
  intro n e h' aO
  rw [aU] at aO
  obtain ⟨i,j,bC,rfl,z,hinv,J,rfl⟩:=aO
  clear q
  obtain ⟨rfl,g1,g2,g3,g4,g5,q⟩:=hinv
  simp only [aa,seval,bS]
  refine bn (λdK=>?_) (λdK=>?_)
  rotate_left
  .have Gc:i=j:=by omega
   subst Gc
   have Dp:=g4
   have wP:=g5
   have fH:IntKind.i64.wrap ((i:Int) - 1)=((i - 1:Nat):Int):=by rw [wrap_i64 (by omega) (by omega)];omega
   have Xh:m=a+1:=by omega
   subst Xh
   simp only [aa,seval,bS]
   obtain ⟨I2,fM⟩:∃ I:Nat->Env->Heap->Prop,I=(λn e h'=>∃ (k:Nat) (l1:aS) (h1:Heap),h'=h1.lay [] h1.low/\Ext h h1/\(n=i - 1 - k/\a<=k/\k<=i - 1/\Mv l l1 a b/\xE l l1 a k/\Holds h1 A (.row (aP l1) 47 false))/\∃ J:Nat->ab,e=(.slice (some ⟨A,0,none⟩) l.length c::jr J 1 9 (.int .i64 i::jr J 11 2 (.int .i64 k::jr J 14 206 ([]))))):=⟨_,rfl⟩
   refine dA I2 _ (by rw [fM];exact ⟨a,l,_,rfl,z,⟨rfl,by omega,by omega,Mv.refl l a b,zu8 l a,q⟩,bl⟩) ?_
   intro n e h' aO
   rw [fM] at aO
   obtain ⟨k,l1,zT,rfl,z,hinv,J,rfl⟩:=aO
   clear q
   obtain ⟨rfl,f1,f2,f3,f4,q⟩:=hinv
   have fR:=f3.perm.length_eq
   have qD:=ei k (by omega)
   simp only [aa,seval,bS,fH]
   refine bn (λvu=>?_) (λvu=>?_)
   rotate_left
   .have Ge:k=i - 1:=by omega
    subst Ge
    repeat' (simp only [aa,seval,bS])
    exact hk _ _ z.aA (q.on _ _) f3 (zA6 h2 (by omega) (by omega) Dp wP f4)
   have aO:(0:Int)<=(k:Int)/\(k:Int) < (l.length:Int):=by omega
   have gu:(0:Int)<=((k+1:Nat):Int)/\((k+1:Nat):Int) < (l.length:Int):=by omega
   have kR:=λ(bs:List ba) (w:Nat)=>oQ (bs:=bs) (w:=w) q (jM (l:=l1) (i:=k) (by omega))
   have fG:=λ(bs:List ba) (w:Nat)=>oQ (bs:=bs) (w:=w) q (jM (l:=l1) (i:=k+1) (by omega))
   simp only [aa,seval,bS]
   refine (dL (by simp only [bS])) z.aA ?_
   repeat' (simp only [aa,seval,bS,qD,aO,gu,and_self,if_true,↓kR,↓fG,dX])
   have hz:=z.size
   refine Cp q bH (by omega) (λh3 q3 c3=>?_)
   refine og (A:=A) (by kernel_rfl) (by rw [bc];omega) (by omega) (by simpa only [bM,bc,bu,dn,dN,iU] using c3) ?_
   replace z:=(z.kN [] (zT.size+0) (by omega)).step c3 hA
   rw [ao h3]
   clear q kR fG
   repeat' (simp only [aa,seval,bS,qD,aO,gu,and_self,if_true])
   refine Cp q3 bH (by rw [nT];omega) (λh4 q4 c4=>?_)
   have hz:=z.size
   refine og (A:=A) (by kernel_rfl) (by rw [bc];omega) (by omega) (by simpa only [bM,bc,bu,dn,dN,iU] using c4) ?_
   replace z:=(z.kN [] (h3.size+0) (by omega)).step c4 hA
   rw [ao h4]
   clear q3
   repeat' (first|simp only [aa,seval,bS]|((with_reducible refine ⟨z.cn.lay _ _,?_⟩);(intro _ h' zz x _);(simp only [bM,bu] at x);replace q4:=q4.over x;(replace z:=zz);(clear zz);rw [ao h']))
   rw [qD]
   replace q4:Holds _ A (.row (aP (lA l1 k (k+1))) 47 false):=q4
   (rw [fM];with_reducible refine cy (m:=_) ?_ ⟨k+1,lA l1 k (k+1),_,rfl,z,⟨rfl,by omega,by omega,f3.trans (Mv.swap (by omega) (by omega) (by omega) (zBB (by omega) (zxV h2 g3 Dp f1 (by omega) f4))),zxU f4 f1 (by omega),q4⟩,bl⟩;omega)
  obtain ⟨e1,e2,e3,e4⟩:=Qq i j (by omega)
  repeat' (simp only [aa,seval,bS,e1])
  rw [AH rfl rfl rfl (QG _) rfl,e2]
  simp only [aa,seval,bS,e1]
  rw [QA (by decide),e4]
  simp only [aa,seval,bS,e1]
  rw [AH rfl rfl rfl (QH _) rfl,e3]
  repeat' (simp only [aa,seval,bS,e1])
  have vp:i<=(i+j) / 2/\(i+j) / 2 < j:=by omega
  have y4:IntKind.i64.wrap ((((i+j) / 2:Nat):Int)+1)=(((i+j) / 2+1:Nat):Int):=by rw [wrap_i64 (by omega) (by omega)];omega
  generalize (i+j) / 2=y at vp y4 ⊢
  have aO:(0:Int)<=(y:Int)/\(y:Int) < (l.length:Int):=by omega
  have gu:(0:Int)<=(a:Int)/\(a:Int) < (l.length:Int):=by omega
  have kR:=λ(bs:List ba) (w:Nat)=>oQ (bs:=bs) (w:=w) q (jM (l:=l) (i:=y) (by omega))
  have fG:=λ(bs:List ba) (w:Nat)=>oQ (bs:=bs) (w:=w) q (jM (l:=l) (i:=a) (by omega))
  refine (dL (by simp only [bS])) z.aA ?_
  repeat' (simp only [aa,seval,bS,aO,gu,and_self,if_true,↓kR,↓fG,dX])
  refine Er _ _ (se aT (by omega)) (se aT (by omega)) _ _ (λh' x=>?_)
  (((with_reducible refine cU ?_ ?_ ?_);(· exact (by (simp only [ck]);have:=z.size;omega));(· exact x));replace z:=z.an x;replace q:=q.over x;rw [ao h'])
  simp only [aa,seval,bS]
  refine bn (λhc=>?_) (λhc=>?_)
  .repeat' (first|simp only [aa,seval,bS]|((with_reducible refine ⟨z.cn.lay _ _,?_⟩);(intro _ h' zz x _);( simp only [bM,bu] at x );( replace q:=q.over x );(replace z:=zz);(clear zz);rw [ao h']))
   rw [y4]
   (rw [aU];with_reducible refine cy (m:=_) ?_ ⟨y+1,j,_,rfl,z,⟨rfl,by omega,by omega,by omega,.inr (by rw [CL];exact hc),g5,q⟩,bl⟩;omega)
  .repeat' (first|simp only [aa,seval,bS]|((with_reducible refine ⟨z.cn.lay _ _,?_⟩);(intro _ h' zz x _);( simp only [bM,bu] at x );( replace q:=q.over x );(replace z:=zz);(clear zz);rw [ao h']))
   (rw [aU];with_reducible refine cy (m:=_) ?_ ⟨i,y,_,rfl,z,⟨rfl,by omega,by omega,by omega,g4,.inr hc,q⟩,bl⟩;omega)
 simp only [aa,seval,bS,vG]
 refine lK (λDx=>?_) (λDx=>?_)
 .-- Am.one element behind
  simp only [aa,seval,bS]
  obtain ⟨I3,ny⟩:∃ I:Nat->Env->Heap->Prop,I=(λn e h'=>∃ (i j:Nat) (h1:Heap),h'=h1.lay [] h1.low/\Ext h h1/\(n=j - i/\a<=i/\i<=j/\j<=m/\(i=a\/¬ aX (l.getD m ae) (l.getD (i - 1) ae) < 0)/\(j=m\/aX (l.getD m ae) (l.getD j ae) < 0)/\Holds h1 A (.row (aP l) 47 false))/\∃ J:Nat->ab,e=(.slice (some ⟨A,0,none⟩) l.length c::.int .i64 a::.int .i64 m::.int .i64 b::.func (.func 91) ⟨[]⟩ ⟨[]⟩::jr J 5 9 (.int .i64 i::.int .i64 j::jr J 16 204 ([])))):=⟨_,rfl⟩
  refine dA I3 _ (by rw [ny];exact ⟨a,m,_,rfl,z,⟨rfl,by omega,by omega,by omega,.inl rfl,.inl rfl,q⟩,bl⟩) ?_
  intro n e h' aO
  rw [ny] at aO
  obtain ⟨i,j,bC,rfl,z,hinv,J,rfl⟩:=aO
  clear q
  obtain ⟨rfl,g1,g2,g3,g4,g5,q⟩:=hinv
  simp only [aa,seval,bS]
  refine bn (λdK=>?_) (λdK=>?_)
  rotate_left
  .have Gc:i=j:=by omega
   subst Gc
   have Dp:=g4
   have wP:=g5
   have Xk:b=m+1:=by omega
   subst Xk
   simp only [aa,seval,bS]
   obtain ⟨I4,FH⟩:∃ I:Nat->Env->Heap->Prop,I=(λn e h'=>∃ (k:Nat) (l1:aS) (h1:Heap),h'=h1.lay [] h1.low/\Ext h h1/\(n=k - i/\i<=k/\k<=m/\Mv l l1 a (m+1)/\QY l l1 m k/\Holds h1 A (.row (aP l1) 47 false))/\∃ J:Nat->ab,e=(.slice (some ⟨A,0,none⟩) l.length c::jr J 1 13 (.int .i64 i::jr J 15 2 (.int .i64 k::jr J 18 202 ([]))))):=⟨_,rfl⟩
   refine dA I4 _ (by rw [FH];exact ⟨m,l,_,rfl,z,⟨rfl,by omega,by omega,Mv.refl l a _,zop l m,q⟩,bl⟩) ?_
   intro n e h' aO
   rw [FH] at aO
   obtain ⟨k,l1,zT,rfl,z,hinv,J,rfl⟩:=aO
   clear q
   obtain ⟨rfl,f1,f2,f3,f4,q⟩:=hinv
   have fR:=f3.perm.length_eq
   simp only [aa,seval,bS]
   refine bn (λvu=>?_) (λvu=>?_)
   rotate_left
   .have Ge:k=i:=by omega
    subst Ge
    repeat' (simp only [aa,seval,bS])
    exact hk _ _ z.aA (q.on _ _) f3 (zyw h1 (by omega) (by omega) Dp wP f4)
   have qD:IntKind.i64.wrap ((k:Int) - 1)=((k - 1:Nat):Int):=by rw [wrap_i64 (by omega) (by omega)];omega
   have aO:(0:Int)<=(k:Int)/\(k:Int) < (l.length:Int):=by omega
   have gu:(0:Int)<=((k - 1:Nat):Int)/\((k - 1:Nat):Int) < (l.length:Int):=by omega
   have kR:=λ(bs:List ba) (w:Nat)=>oQ (bs:=bs) (w:=w) q (jM (l:=l1) (i:=k) (by omega))
   have fG:=λ(bs:List ba) (w:Nat)=>oQ (bs:=bs) (w:=w) q (jM (l:=l1) (i:=k - 1) (by omega))
   simp only [aa,seval,bS]
   refine (dL (by simp only [bS])) z.aA ?_
   repeat' (simp only [aa,seval,bS,qD,aO,gu,and_self,if_true,↓kR,↓fG,dX])
   have hz:=z.size
   refine Cp q bH (by omega) (λh3 q3 c3=>?_)
   refine og (A:=A) (by kernel_rfl) (by rw [bc];omega) (by omega) (by simpa only [bM,bc,bu,dn,dN,iU] using c3) ?_
   replace z:=(z.kN [] (zT.size+0) (by omega)).step c3 hA
   rw [ao h3]
   clear q kR fG
   repeat' (simp only [aa,seval,bS,qD,aO,gu,and_self,if_true])
   refine Cp q3 bH (by rw [nT];omega) (λh4 q4 c4=>?_)
   have hz:=z.size
   refine og (A:=A) (by kernel_rfl) (by rw [bc];omega) (by omega) (by simpa only [bM,bc,bu,dn,dN,iU] using c4) ?_
   replace z:=(z.kN [] (h3.size+0) (by omega)).step c4 hA
   rw [ao h4]
   clear q3
   repeat' (first|simp only [aa,seval,bS]|((with_reducible refine ⟨z.cn.lay _ _,?_⟩);(intro _ h' zz x _);(simp only [bM,bu] at x);replace q4:=q4.over x;(replace z:=zz);(clear zz);rw [ao h']))
   rw [qD]
   replace q4:Holds _ A (.row (aP (lA l1 k (k - 1))) 47 false):=q4
   (rw [FH];with_reducible refine cy (m:=_) ?_ ⟨k - 1,lA l1 k (k - 1),_,rfl,z,⟨rfl,by omega,by omega,f3.trans (Mv.swap (by omega) (by omega) (by omega) (zpI (by omega) (by omega) (zqI h1 g1 wP (by omega) f2 f4))),zqH f4 (by omega) f2 (by omega),q4⟩,bl⟩;omega)
  obtain ⟨e1,e2,e3,e4⟩:=Qq i j (by omega)
  repeat' (simp only [aa,seval,bS,e1])
  rw [AH rfl rfl rfl (QG _) rfl,e2]
  simp only [aa,seval,bS,e1]
  rw [QA (by decide),e4]
  simp only [aa,seval,bS,e1]
  rw [AH rfl rfl rfl (QH _) rfl,e3]
  repeat' (simp only [aa,seval,bS,e1])
  have vp:i<=(i+j) / 2/\(i+j) / 2 < j:=by omega
  have y4:IntKind.i64.wrap ((((i+j) / 2:Nat):Int)+1)=(((i+j) / 2+1:Nat):Int):=by rw [wrap_i64 (by omega) (by omega)];omega
  generalize (i+j) / 2=y at vp y4 ⊢
  have aO:(0:Int)<=(y:Int)/\(y:Int) < (l.length:Int):=by omega
  have gu:(0:Int)<=(m:Int)/\(m:Int) < (l.length:Int):=by omega
  have kR:=λ(bs:List ba) (w:Nat)=>oQ (bs:=bs) (w:=w) q (jM (l:=l) (i:=y) (by omega))
  have fG:=λ(bs:List ba) (w:Nat)=>oQ (bs:=bs) (w:=w) q (jM (l:=l) (i:=m) (by omega))
  refine (dL (by simp only [bS])) z.aA ?_
  repeat' (simp only [aa,seval,bS,aO,gu,and_self,if_true,↓kR,↓fG,dX])
  refine Er _ _ (se aT (by omega)) (se aT (by omega)) _ _ (λh' x=>?_)
  (((with_reducible refine cU ?_ ?_ ?_);(· exact (by (simp only [ck]);have:=z.size;omega));(· exact x));replace z:=z.an x;replace q:=q.over x;rw [ao h'])
  simp only [aa,seval,bS]
  refine bn (λhc=>?_) (λhc=>?_)
  .repeat' (first|simp only [aa,seval,bS]|((with_reducible apply bX);(· rfl))|((with_reducible refine ⟨z.cn.lay _ _,?_⟩);(intro _ h' zz x _);( simp only [bM,bu] at x );( replace q:=q.over x );(replace z:=zz);(clear zz);rw [ao h']))
   (rw [ny];with_reducible refine cy (m:=_) ?_ ⟨i,y,_,rfl,z,⟨rfl,by omega,by omega,by omega,g4,.inr hc,q⟩,bl⟩;omega)
  .repeat' (first|simp only [aa,seval,bS]|((with_reducible apply bX);(· rfl))|((with_reducible refine ⟨z.cn.lay _ _,?_⟩);(intro _ h' zz x _);( simp only [bM,bu] at x );( replace q:=q.over x );(replace z:=zz);(clear zz);rw [ao h']))
   rw [y4]
   (rw [ny];with_reducible refine cy (m:=_) ?_ ⟨y+1,j,_,rfl,z,⟨rfl,by omega,by omega,by omega,.inr (by rw [CL];exact hc),g5,q⟩,bl⟩;omega)
 -- both parts longer
 obtain ⟨e1,e2,e3,e4⟩:=Qq a b (by omega)
 repeat' (simp only [aa,seval,bS,e1])
 rw [AH rfl rfl rfl (QG _) rfl,e2]
 simp only [aa,seval,bS,e1]
 rw [QA (by decide),e4]
 simp only [aa,seval,bS,e1]
 rw [AH rfl rfl rfl (QH _) rfl,e3]
 have il:2*((a+b) / 2)<=a+b:=by omega
 have kc:a+b<=2*((a+b) / 2)+1:=by omega
 generalize (a+b) / 2=mid at il kc ⊢
 have IM:IntKind.i64.wrap ((mid:Int)+(m:Int))=((mid+m:Nat):Int):=by rw [wrap_i64 (by omega) (by omega)];omega
 have hwp:IntKind.i64.wrap (((mid+m:Nat):Int) - 1)=((mid+m - 1:Nat):Int):=by rw [wrap_i64 (by omega) (by omega)];omega
 have BU:mid < m->IntKind.i64.wrap (((mid+m:Nat):Int) - (b:Int))=((mid+m - b:Nat):Int):=λ_=>by rw [wrap_i64 (by omega) (by omega)];omega
 simp only [aa,seval,bS,IM]
 refine bn (λhgm=>?_) (λhgm=>?_)
 focus
  have BU:=BU (by omega)
  simp only [aa,seval,bS,IM,BU,hwp]
  have rh:=zzx (l:=l) (a:=a) BE (show mid < m by omega)
 rotate_left
 focus
  simp only [aa,seval,bS,IM,hwp]
  have rh:=zzw (l:=l) (b:=b) Bv (show m<=mid by omega)
 all_goals
  obtain ⟨I5,RZ⟩:∃ I:Nat->Env->Heap->Prop,I=(λn e h'=>∃ (s r:Nat) (h1:Heap),h'=h1.lay [] h1.low/\Ext h h1/\(n=r - s/\iJ l a m b mid s r/\Holds h1 A (.row (aP l) 47 false))/\∃ J:Nat->ab,e=(.slice (some ⟨A,0,none⟩) l.length c::.int .i64 a::.int .i64 m::.int .i64 b::.func (.func 91) ⟨[]⟩ ⟨[]⟩::jr J 5 13 (.int .i64 mid::.int .i64 ((mid+m:Nat):Int)::.int .i64 s::.int .i64 r::.int .i64 ((mid+m - 1:Nat):Int)::jr J 23 197 ([])))):=⟨_,rfl⟩
  refine dA I5 _ (by rw [RZ];exact ⟨_,_,_,rfl,z,⟨rfl,rh,q⟩,bl⟩) ?_
  intro n e h' aO
  rw [RZ] at aO
  obtain ⟨s,r,bC,rfl,z,hinv,J,rfl⟩:=aO
  clear q rh
  obtain ⟨rfl,hinv,q⟩:=hinv
  simp only [aa,seval,bS]
  refine bn (λnI=>?_) (λnI=>?_)
  rotate_left
  .have yU:s=r:=by have:=hinv.sr;omega
   subst yU
   have sp:=zlQ hinv Bv BE il kc
   obtain ⟨p1,p2,p3,p4,p5,_,_⟩:=sp
   have sp:=zlQ hinv Bv BE il kc
   have Ss:IntKind.i64.wrap (((mid+m:Nat):Int) - (s:Int))=((mid+m - s:Nat):Int):=by rw [wrap_i64 (by omega) (by omega)];omega
   simp only [aa,seval,NX (ek (jQ 107)) 3 rfl,zCk (jQ 108) (jQ 109) (jQ 110) rfl,zCq (jQ 110) rfl]
   rw [Cd (jQ 119) (jQ 120) (jQ 121) rfl]
   obtain ⟨R6,hR6⟩:∃ R:Env->Heap->Prop,R=(λe h'=>∃ (h1:Heap),h'=h1.lay [] h1.low/\Ext h h1/\(Holds h1 A (.row (aP l) 47 false))/\∃ J:Nat->ab,e=(.slice (some ⟨A,0,none⟩) l.length c::.int .i64 a::.int .i64 m::.int .i64 b::.func (.func 91) ⟨[]⟩ ⟨[]⟩::jr J 5 13 (.int .i64 mid::J 19::.int .i64 s::jr J 21 3 (.int .i64 ((mid+m - s:Nat):Int)::jr J 25 195 ([]))))/\True):=⟨_,rfl⟩
   refine Z1 R6 ?cut ?rest
   case' rest =>
    intro e h' aO
    rw [hR6] at aO
    obtain ⟨zT,rfl,z,hinv,J,rfl,_⟩:=aO
   case cut =>
    simp only [aa,seval,bS,Ss]
    (rw [hR6];exact ⟨_,rfl,z,q,Rv (by kernel_rfl) (trivial)⟩)
   case rest =>
   have q:=hinv
   simp only [aa,seval]
   rw [Cd (jQ 121) (jQ 122) (jQ 127) rfl]
   obtain ⟨R7,W7⟩:∃ R:Env->Heap->Prop,R=(λe h'=>∃ (l1:aS) (h1:Heap),h'=h1.lay [] h1.low/\Ext h h1/\(Mv l l1 s (mid+m - s)/\Ev l l1 s m (mid+m - s)/\Holds h1 A (.row (aP l1) 47 false))/\∃ J:Nat->ab,e=(.slice (some ⟨A,0,none⟩) l.length c::.int .i64 a::.int .i64 m::.int .i64 b::.func (.func 91) ⟨[]⟩ ⟨[]⟩::jr J 5 13 (.int .i64 mid::J 19::.int .i64 s::jr J 21 3 (.int .i64 ((mid+m - s:Nat):Int)::jr J 25 195 ([]))))/\True):=⟨_,rfl⟩
   refine Z1 R7 ?cut ?rest
   case' rest =>
    intro e h' aO
    rw [W7] at aO
    obtain ⟨l1,zU,rfl,z,hinv,J,rfl,_⟩:=aO
   case cut =>
    repeat' (first|simp only [aa,seval,bS]|((with_reducible apply bn) <;> intro _))
    all_goals first
     |(rw [W7];exact ⟨l,_,rfl,z,⟨Mv.refl _ _ _,zzG (by omega) (by omega) (by omega),q⟩,Rv (by kernel_rfl) (trivial)⟩)
     |(refine zw0 l A c s m (mid+m - s) _ h _ z.aA hA (q.on _ _) (by omega) (by omega) (by omega) hn _ (λh' x q1 Dz=>?_)
       replace z:=x
       rw [ao h']
       simp only [aa,seval,bS]
       (rw [W7];exact ⟨AN l s m (mid+m - s),_,rfl,z,⟨zzF (λk=>Tn (by omega) k) (by omega) (by omega) Dz (zuK h1 h2 sp (λk=>Tn (by omega) k) (by omega) Dz.length_eq),λk=>Tn (by omega) k,q1⟩,Rv (by kernel_rfl) (trivial)⟩))
   case rest =>
   obtain ⟨Sx,t1,q⟩:=hinv
   obtain ⟨ZA,Oe,so3,SB⟩:=zru h1 h2 sp t1
   have hcr:=λ(i j:Nat) (g1:a<=i) (g2:i < mid) (g3:mid<=j) (g4:j < b)=>zrt h1 h2 sp t1 g1 g2 g3 g4
   have fR:=Sx.perm.length_eq
   simp only [aa,seval]
   rw [Cd (jQ 127) (jQ 128) (jQ 133) rfl]
   obtain ⟨R8,W8⟩:∃ R:Env->Heap->Prop,R=(λe h'=>∃ (l2:aS) (h1:Heap),h'=h1.lay [] h1.low/\Ext h h1/\(Mv l1 l2 a mid/\iA l2 a mid/\Holds h1 A (.row (aP l2) 47 false))/\∃ J:Nat->ab,e=(.slice (some ⟨A,0,none⟩) l.length c::.int .i64 a::.int .i64 m::.int .i64 b::.func (.func 91) ⟨[]⟩ ⟨[]⟩::jr J 5 13 (.int .i64 mid::J 19::.int .i64 s::jr J 21 3 (.int .i64 ((mid+m - s:Nat):Int)::jr J 25 195 ([]))))/\True):=⟨_,rfl⟩
   refine Z1 R8 ?cut ?rest
   case' rest =>
    intro e h' aO
    rw [W8] at aO
    obtain ⟨l2,RT,rfl,z,hinv,J,rfl,_⟩:=aO
   case cut =>
    repeat' (first|simp only [aa,seval,bS]|((with_reducible apply bn) <;> intro _))
    all_goals first
     |(rw [W8];exact ⟨l1,_,rfl,z,⟨Mv.refl _ _ _,(by first|(have e:s=mid:=by omega);rw [<- e];exact ZA|(have e:a=s:=by omega);rw [e];exact Oe),q⟩,Rv (by kernel_rfl) (trivial)⟩)
     |(have key:=ih l1 A c a s mid h (zU.lay [] zU.low) z.aA hA (q.on _ _) (by omega) (by omega) (by omega) (by omega) (by omega) (D4 aT Sx.perm) ZA Oe
       simp only [fR] at key
       refine key _ (λh' l2 x q1 Cb SC=>?_)
       replace z:=x
       rw [ao h']
       simp only [aa,seval,bS]
       (rw [W8];exact ⟨l2,_,rfl,z,⟨Cb,SC,q1⟩,Rv (by kernel_rfl) (trivial)⟩))
   case rest =>
   obtain ⟨Cb,SC,q⟩:=hinv
   have iE:=Cb.perm.length_eq
   have so6:=SQ so3 (λk g1 g2=>Cb.out k (.inr g1))
   have so7:=SQ SB (λk g1 g2=>Cb.out k (.inr (by omega)))
   have mvT:=(Sx.zn p1 p5).trans (Cb.zn (bj _) (show mid<=b by omega))
   repeat' (first|simp only [aa,seval,bS]|((with_reducible apply bn) <;> intro _))
   all_goals first
    |exact hk _ l2 z.aA (q.on _ _) mvT (zoX hcr Cb (Mv.refl l2 mid b) SC (by first|(have e:mid=mid+m - s:=by omega);rw [e];exact so7|(have e:mid+m - s=b:=by omega);rw [<- e];exact so6))
    |(have key:=ih l2 A c mid (mid+m - s) b h (RT.lay [] RT.low) z.aA hA (q.on _ _) (by omega) (by omega) (by omega) (by omega) (by omega) (D4 (D4 aT Sx.perm) Cb.perm) so6 so7
      simp only [iE,fR] at key
      refine key _ (λh' l3 x q1 mv3 so8=>?_)
      rw [ao h']
      repeat' (simp only [aa,seval,bS])
      exact hk _ l3 x.aA (q1.on _ _) (mvT.trans (mv3.zn (show a<=mid by omega) (bj _))) (zoX hcr Cb mv3 SC so8))
  have lk:r<=l.length:=by
   rcases lM mid m with g|g
   .have:=hinv.IX g;omega
   .have:=hinv.IW g;omega
  obtain ⟨e1,e2,e3,e4⟩:=Qq s r (by omega)
  repeat' (simp only [aa,seval,bS,e1])
  rw [AH rfl rfl rfl (QG _) rfl,e2]
  simp only [aa,seval,bS,e1]
  rw [QA (by decide),e4]
  simp only [aa,seval,bS,e1]
  rw [AH rfl rfl rfl (QH _) rfl,e3]
  repeat' (simp only [aa,seval,bS,e1])
  have vp:s<=(s+r) / 2/\(s+r) / 2 < r:=by omega
  have y4:IntKind.i64.wrap ((((s+r) / 2:Nat):Int)+1)=(((s+r) / 2+1:Nat):Int):=by rw [wrap_i64 (by omega) (by omega)];omega
  generalize (s+r) / 2=y at vp y4 ⊢
  have Sd:=zxA hinv vp.1 vp.2 Bv BE il kc
  have YP:IntKind.i64.wrap (((mid+m - 1:Nat):Int) - (y:Int))=((mid+m - 1 - y:Nat):Int):=by rw [wrap_i64 (by omega) (by omega)];omega
  have aO:(0:Int)<=(y:Int)/\(y:Int) < (l.length:Int):=by omega
  have gu:(0:Int)<=((mid+m - 1 - y:Nat):Int)/\((mid+m - 1 - y:Nat):Int) < (l.length:Int):=by omega
  have kR:=λ(bs:List ba) (w:Nat)=>oQ (bs:=bs) (w:=w) q (jM (l:=l) (i:=y) (by omega))
  have fG:=λ(bs:List ba) (w:Nat)=>oQ (bs:=bs) (w:=w) q (jM (l:=l) (i:=mid+m - 1 - y) (by omega))
  refine (dL (by simp only [bS])) z.aA ?_
  repeat' (simp only [aa,seval,bS,YP,aO,gu,and_self,if_true,↓kR,↓fG,dX])
  refine Er _ _ (se aT (by omega)) (se aT (by omega)) _ _ (λh' x=>?_)
  (((with_reducible refine cU ?_ ?_ ?_);(· exact (by (simp only [ck]);have:=z.size;omega));(· exact x));replace z:=z.an x;replace q:=q.over x;rw [ao h'])
  simp only [aa,seval,bS]
  refine bn (λhc=>?_) (λhc=>?_)
  .repeat' (first|simp only [aa,seval,bS]|((with_reducible apply bX);(· rfl))|((with_reducible refine ⟨z.cn.lay _ _,?_⟩);(intro _ h' zz x _);( simp only [bM,bu] at x );( replace q:=q.over x );(replace z:=zz);(clear zz);rw [ao h']))
   (rw [RZ];with_reducible refine cy (m:=_) ?_ ⟨s,y,_,rfl,z,⟨rfl,zrD hinv vp.1 vp.2 hc,q⟩,bl⟩;omega)
  .repeat' (first|simp only [aa,seval,bS]|((with_reducible apply bX);(· rfl))|((with_reducible refine ⟨z.cn.lay _ _,?_⟩);(intro _ h' zz x _);( simp only [bM,bu] at x );( replace q:=q.over x );(replace z:=zz);(clear zz);rw [ao h']))
   rw [y4]
   (rw [RZ];with_reducible refine cy (m:=_) ?_ ⟨y+1,r,_,rfl,z,⟨rfl,zxB hinv vp.1 vp.2 hc,q⟩,bl⟩;omega)
theorem Z4:∀ sz,Z0 sz
 |0=>by intro l A c a m b h hs z hA q h1 h2 h3;omega
 |sz+1=>zuq sz (Z4 sz)
theorem zw6 (l:aS) (A c:Nat) (h hs:Heap) (z:Ext h hs) (hA:h.size<=A) (q:Holds hs A (.row (aP l) 47 false)) (hn:l.length<=100000) (aT:∀ x∈l,x.aW=true) (K:aF)
 (hk:∀ h' l',Ext h h'->Holds h' A (.row (aP l') 47 false)->l'.Perm l->fb l l'->iA l' 0 l.length->K undef h'):Ok prog aD ov 136 [.slice (some ⟨A,0,none⟩) l.length c,.int .i64 l.length,.func (.func 91) ⟨[]⟩ ⟨[]⟩] hs K:=by
 rw [ao hs]
 refine Ok.aw 60 (bq EL) ?_
 simp only [aa,seval,gq]
 obtain ⟨I1,aU⟩:∃ I:Nat->Env->Heap->Prop,I=(λn e h'=>∃ (a:Nat) (l1:aS) (h1:Heap),h'=h1.lay [] h1.low/\Ext h h1/\(n=l.length - a/\a % 20=0/\a<=l.length/\l1.Perm l/\fb l l1/\Bl l1 20 l.length a/\Holds h1 A (.row (aP l1) 47 false))/\∃ J:Nat->ab,e=(.slice (some ⟨A,0,none⟩) l.length c::.int .i64 l.length::.func (.func 91) ⟨[]⟩ ⟨[]⟩::jr J 3 3 (.int .i64 20::.int .i64 a::.int .i64 (a+20:Nat)::jr J 9 54 ([])))):=⟨_,rfl⟩
 refine dA I1 _ (by rw [aU];exact ⟨0,l,_,rfl,z,⟨rfl,by omega,by omega,List.Perm.refl _,fb.refl _,λk _ hk=>absurd hk (by omega),q⟩,bl⟩) ?_
 intro n e h' aO
 rw [aU] at aO
 obtain ⟨a,l1,bC,rfl,z,hinv,J,rfl⟩:=aO
 clear q
 obtain ⟨rfl,Ms,han,hp,fj,wH,q⟩:=hinv
 have fR:=hp.length_eq
 have jw:=D4 aT hp
 simp only [aa,seval,gq]
 refine bn (λhle=>?_) (λhle=>?_)
 .have yZ:IntKind.i64.wrap (((a+20:Nat):Int)+20)=((a+20+20:Nat):Int):=by rw [wrap_i64 (by omega) (by omega)];omega
  repeat' (simp only [aa,seval,gq])
  have key:=λK hk=>zhY l1 A c a (a+20) h (bC.lay [] bC.low) z.aA hA (q.on _ _) (by omega) (by omega) (by omega) jw K hk
  simp only [fR] at key
  refine key _ (λh' l' x q' pZ vC kS IH=>?_)
  replace z:=x
  rw [ao h']
  repeat' (simp only [aa,seval,gq,yZ])
  (rw [aU];with_reducible refine cy (m:=_) ?_ ⟨a+20,l',_,rfl,z,⟨rfl,by omega,by omega,pZ.trans hp,fj.trans vC,zqp wH Ms (by rw [show min (a+20) l.length=a+20 by omega];exact kS) (by rw [show min (a+20) l.length=a+20 by omega];exact IH) _ (by omega),q'⟩,bl⟩;omega)
 repeat' (simp only [aa,seval,gq])
 have key:=λK hk=>zhY l1 A c a l.length h (bC.lay [] bC.low) z.aA hA (q.on _ _) (by omega) (by omega) (by omega) jw K hk
 simp only [fR] at key
 refine key _ (λh' l' x q' pZ vC kS IH=>?_)
 replace z:=x
 replace hp:=pZ.trans hp
 replace fj:=fj.trans vC
 replace wH:Bl l' 20 l.length l.length:=zqp wH Ms (by rw [show min (a+20) l.length=l.length by omega];exact kS) (by rw [show min (a+20) l.length=l.length by omega];exact IH) _ (by omega)
 clear key kS IH pZ vC fR jw q
 rw [ao h']
 repeat' (simp only [aa,seval,gq])
 obtain ⟨I2,fM⟩:∃ I:Nat->Env->Heap->Prop,I=(λn e h'=>∃ (w:Nat) (l1:aS) (h1:Heap),h'=h1.lay [] h1.low/\Ext h h1/\(n=l.length - w/\20<=w/\w<=200000/\l1.Perm l/\fb l l1/\Bl l1 w l.length l.length/\Holds h1 A (.row (aP l1) 47 false))/\∃ J:Nat->ab,e=(.slice (some ⟨A,0,none⟩) l.length c::.int .i64 l.length::.func (.func 91) ⟨[]⟩ ⟨[]⟩::jr J 3 3 (.int .i64 w::jr J 7 56 ([])))):=⟨_,rfl⟩
 refine dA I2 _ (by rw [fM];exact ⟨20,l',_,rfl,z,⟨rfl,by omega,by omega,hp,fj,wH,q'⟩,bl⟩) ?_
 intro n e h' aO
 rw [fM] at aO
 obtain ⟨w,l1,zT,rfl,z,hinv,J,rfl⟩:=aO
 clear q' wH hp fj
 obtain ⟨rfl,anA,anB,hp,fj,wH,q⟩:=hinv
 simp only [aa,seval,gq]
 refine bn (λjx=>?_) (λjx=>?_)
 rotate_left
 .repeat' ( simp only [aa,seval,gq])
  exact hk _ _ z.aA (q.on _ _) hp fj (zCd wH (by omega))
 have kc:IntKind.i64.wrap ((2:Int)*(w:Int))=((2*w:Nat):Int):=by rw [wrap_i64 (by omega) (by omega)];omega
 repeat' (simp only [aa,seval,gq,kc,TV])
 obtain ⟨I3,ny⟩:∃ I:Nat->Env->Heap->Prop,I=(λn e h'=>∃ (a b:Nat) (l2:aS) (h1:Heap),h'=h1.lay [] h1.low/\Ext h h1/\(n=l.length - a/\b=a+2*w/\a % (2*w)=0/\a<=l.length/\l2.Perm l/\fb l l2/\EJ l2 w l.length a/\Holds h1 A (.row (aP l2) 47 false))/\∃ J:Nat->ab,e=(.slice (some ⟨A,0,none⟩) l.length c::.int .i64 l.length::.func (.func 91) ⟨[]⟩ ⟨[]⟩::jr J 3 3 (.int .i64 w::.int .i64 a::.int .i64 b::jr J 9 54 ([])))):=⟨_,rfl⟩
 refine dA I3 _ (by rw [ny];exact ⟨0,2*w,l1,_,rfl,z,⟨rfl,by omega,Nat.zero_mod _,by omega,hp,fj,zvT wH,q⟩,bl⟩) ?_
 intro n e h' aO
 rw [ny] at aO
 obtain ⟨a,b,l2,zU,rfl,z,hinv,J,rfl⟩:=aO
 clear q wH hp fj
 obtain ⟨rfl,hb,pc,han,hp,fj,ML,q⟩:=hinv
 have iE:=hp.length_eq
 have Nb:=D4 aT hp
 have haw:IntKind.i64.wrap ((a:Int)+(w:Int))=((a+w:Nat):Int):=by rw [wrap_i64 (by omega) (by omega)];omega
 simp only [aa,seval,gq]
 refine bn (λhle=>?_) (λhle=>?_)
 .have hbw:IntKind.i64.wrap ((b:Int)+((2*w:Nat):Int))=((b+2*w:Nat):Int):=by rw [wrap_i64 (by omega) (by omega)];omega
  have yM:=zok ML (by omega) pc (by omega)
  rw [show min (a+2*w) l.length=b by omega] at yM
  repeat' (simp only [aa,seval,gq,haw])
  have key:=λK hk=>Z4 l.length l2 A c a (a+w) b h (zU.lay [] zU.low) z.aA hA (q.on _ _) (by omega) (by omega) (by omega) (by omega) (by omega) Nb yM.1 yM.2 K hk
  simp only [iE] at key
  refine key _ (λh' l' x q' wO kS=>?_)
  replace z:=x
  rw [ao h']
  repeat' (simp only [aa,seval,gq,kc,TV,hbw])
  have rj:=zsa (l':=l') ML (by omega) pc (by rw [show min (a+2*w) l.length=b by omega];exact kS) (by rw [show min (a+2*w) l.length=b by omega];exact wO)
  rw [show min (a+2*w) l.length=b by omega] at rj
  (rw [ny];with_reducible refine cy (m:=_) ?_ ⟨b,b+2*w,l',_,rfl,z,⟨rfl,by omega,by rw [hb,Nat.add_mod_right];exact pc,by omega,wO.perm.trans hp,fj.trans wO.zk,rj,q'⟩,bl⟩;omega)
 have vG:IntKind.i64.wrap ((w:Int)*(2:Int))=((2*w:Nat):Int):=by rw [wrap_i64 (by omega) (by omega)];omega
 repeat' (first|simp only [aa,seval,gq,haw]|((with_reducible apply bn) <;> intro _))
 .have yM:=zok ML (by omega) pc (by omega)
  rw [show min (a+2*w) l.length=l.length by omega] at yM
  have key:=λK hk=>Z4 l.length l2 A c a (a+w) l.length h (zU.lay [] zU.low) z.aA hA (q.on _ _) (by omega) (by omega) (by omega) (by omega) (by omega) Nb yM.1 yM.2 K hk
  simp only [iE] at key
  refine key _ (λh' l' x q' wO kS=>?_)
  replace z:=x
  rw [ao h']
  repeat' (simp only [aa,seval,gq,vG,TV])
  have rj:=zsa (l':=l') ML (by omega) pc (by rw [show min (a+2*w) l.length=l.length by omega];exact kS) (by rw [show min (a+2*w) l.length=l.length by omega];exact wO)
  rw [show min (a+2*w) l.length=l.length by omega] at rj
  (rw [fM];with_reducible refine cy (m:=_) ?_ ⟨2*w,l',_,rfl,z,⟨rfl,by omega,by omega,wO.perm.trans hp,fj.trans wO.zk,zAS rj (by omega),q'⟩,bl⟩;omega)
 .repeat' ( simp only [aa,seval,gq,vG,TV])
  (rw [fM];with_reducible refine cy (m:=_) ?_ ⟨2*w,l2,_,rfl,z,⟨rfl,by omega,by omega,hp,fj,zAT ML (by omega) pc (by omega),q⟩,bl⟩;omega)
theorem zm4 (l:aS) (A c:Nat) (h hs:Heap) (z:Ext h hs) (hA:h.size<=A) (q:Holds hs A (.row (aP l) 47 false)) (hn:l.length<=100000) (aT:∀ x∈l,x.aW=true) (K:aF)
 (hk:∀ h' l',Ext h h'->Holds h' A (.row (aP l') 47 false)->l'.Perm l->fb l l'->iA l' 0 l.length->K undef h'):Ok prog aD ov 90 [.slice (some ⟨A,0,none⟩) l.length c,.func (.func 91) ⟨[]⟩ ⟨[]⟩] hs K:=by
 rw [ao hs]
 refine Ok.aw 7 (bq Uy) ?_
 repeat' (simp only [aa,seval,Bn])
 refine zw6 l A c h (hs.lay [] hs.low) z.aA hA (q.on _ _) hn aT _ (λh' l' x q' pZ vC kS=>?_)
 rw [ao h']
 repeat' (simp only [aa,seval,Bn])
 exact hk _ _ x.aA (q'.on _ _) pZ vC kS
theorem zyK {h:Heap} {v:ab} {l:aS} (f:Sl aM.atom h v l):∃ b:Bool,cz prog aD .eql 38 v (.slice none 0 0)=some (.bool b)/\(b=true->l=[]):=by
 rcases f with ⟨rfl,rfl⟩|⟨A,o,c,row,u,ro,rfl,_⟩
 .exact ⟨true,by kernel_rfl,λ_=>rfl⟩
 .exact ⟨false,by kernel_rfl,nofun⟩
theorem zo3 (l:aS) (v:ab) (h:Heap) (hl:Sl aM.atom h v l) (hs:l.length<=100000) (K:aF)
 (hk:∀ h' w,Ext h h'->kY h h' 47 w l->K w h'):Ok prog aD ov 27 [v] h K:=by
 rw [ao h]
 obtain ⟨b,hb,jz⟩:=zyK hl
 refine Ok.aw 7 (bq Ut) ?_
 simp only [aa,seval,CZ,hb]
 cases b
 .simp only [aa,seval,CZ,mr,xp]
  obtain ⟨news,hs,nI⟩:=uF (A:=h.size+1) (r:=aM.atom) (by decide) (hl.lay [.row [] 47 false] h.low) (λcs y hr=>hr)
  have f:Ow aM.atom h (h.lay [.row [] 47 false] h.low) 47 (h.size+1) (.slice (some ⟨h.size+0,0,none⟩) 0 0) [] :=
   .inl ⟨by omega,rfl,.inr ⟨h.size+0,0,rfl,by omega,by rw [bc];simp,[],47,false,by rw [iB];rfl⟩⟩
  obtain ⟨w,h',A',e1,e2,e3,e4,e5⟩:=AF (t:=38) bJ tD rfl (by decide) (by rw [bc];omega) f hs nI (by simp only [dN];omega) (by simp only [dN];omega)
  rw [e1]
  simp only [aa,seval,CZ]
  exact hk _ _ ((Ext.refl h).cM e3 (by omega) (by omega)) (Tq (by simpa using e2))
 .simp only [aa,seval,CZ]
  rw [jz rfl] at hk
  exact hk _ _ ((Ext.refl h).kN _ _ (by omega)) (.inl ⟨rfl,sD.nil⟩)
theorem zw5 (a b:ak) (ha:a.aW=true) (hb:b.aW=true) (h:Heap) (K:aF) (hk:∀ h',Ext h h'->K (.bool (aX a b == 0)) h'):Ok prog aD ov 93 [a.val,b.val] h K:=by
 rw [ao h]
 have z:=Ext.refl h
 refine Ok.aw 7 (bq N93) ?_
 repeat' (simp only [aa,seval,RL,eE,↓eY,eJ,dX])
 refine Er a b ha hb _ _ (λh' x=>?_)
 (replace z:=z.an x;rw [ao h'])
 simp only [aa,seval,RL]
 refine lK (λhc=>?_) (λhc=>?_)
 .repeat' ( simp only [aa,seval,RL])
  rw [show (aX a b == 0)=true by rw [hc];rfl] at hk
  exact hk _ z.aA
 .repeat' ( simp only [aa,seval,RL])
  rw [show (aX a b == 0)=false by simpa using hc] at hk
  exact hk _ z.aA
theorem zub (l:aS) (A:Nat) (h hs:Heap) (z:Ext h hs) (hA:h.size<=A) (q:Holds hs A (.row (aP l) 47 false)) (hn:l.length<=100000) (aT:∀ x∈l,x.aW=true) (K:aF)
 (hk:∀ h' v,Ext h h'->dG h h' 47 v (pC l l.length)->K v h'):Ok prog aD ov 92 [.slice (some ⟨A,0,none⟩) l.length (G*11+l.length),.func (.func 93) ⟨[]⟩ ⟨[]⟩] hs K:=by
 rw [ao hs]
 obtain ⟨C,hC⟩:∃ C,C=G*11+l.length:=⟨_,rfl⟩
 rw [<- hC]
 refine Ok.aw 64 (bq Uz) ?_
 repeat' (first|simp only [aa,seval,lG]|((with_reducible apply bn) <;> intro _))
 .have e:=zrL (l:=l) (by omega)
  rw [e] at hk
  exact hk _ _ z.aA (Qu (q.on _ _) hA (by omega) hC)
 have hu1:pC l 1=l.take 1:=by
  rw [zj4 (m:=0) (by omega)]
  rfl
 obtain ⟨I1,aU⟩:∃ I:Nat->Env->Heap->Prop,I=(λn e h'=>∃ (k:Nat) (h1:Heap),h'=h1.lay [] h1.low/\Ext h h1/\(n=l.length - k/\1<=k/\k<=l.length/\pC l k=l.take k/\Holds h1 A (.row (aP l) 47 false))/\∃ J:Nat->ab,e=(.slice (some ⟨A,0,none⟩) l.length C::.func (.func 93) ⟨[]⟩ ⟨[]⟩::jr J 2 3 (.int .i64 k::jr J 6 60 ([])))):=⟨_,rfl⟩
 refine dA I1 _ (by rw [aU];exact ⟨1,_,rfl,z,⟨rfl,by omega,by omega,hu1,q⟩,bl⟩) ?_
 intro n e h' aO
 rw [aU] at aO
 obtain ⟨k,bC,rfl,z,hinv,J,rfl⟩:=aO
 clear q
 obtain ⟨rfl,yv,Sg,hu,q⟩:=hinv
 have qD:=ei k (by omega)
 have YN:IntKind.i64.wrap ((k:Int) - 1)=((k - 1:Nat):Int):=by rw [wrap_i64 (by omega) (by omega)];omega
 simp only [aa,seval,lG]
 refine bn (λjw=>?_) (λjw=>?_)
 rotate_left
 .repeat' ( simp only [aa,seval,lG])
  have lh:k=l.length:=by omega
  subst lh
  rw [hu,JW] at hk
  exact hk _ _ z.aA (Qu (q.on _ _) hA (by omega) hC)
 have aO:(0:Int)<=(k:Int)/\(k:Int) < (l.length:Int):=by omega
 have gu:(0:Int)<=((k - 1:Nat):Int)/\((k - 1:Nat):Int) < (l.length:Int):=by omega
 have kR:=λ(bs:List ba) (w:Nat)=>oQ (bs:=bs) (w:=w) q (jM (l:=l) (i:=k) (by omega))
 have fG:=λ(bs:List ba) (w:Nat)=>oQ (bs:=bs) (w:=w) q (jM (l:=l) (i:=k - 1) (by omega))
 simp only [aa,seval,lG]
 refine (dL (by simp only [lG])) z.aA ?_
 repeat' (simp only [aa,seval,lG,YN,aO,gu,and_self,if_true,↓kR,↓fG,dX])
 refine zw5 _ _ (se aT (by omega)) (se aT (by omega)) _ _ (λh' x=>?_)
 (((with_reducible refine cU ?_ ?_ ?_);(· exact (by (simp only [ck]);have:=z.size;omega));(· exact x));replace z:=z.an x;replace q:=q.over x;rw [ao h'])
 cases hc:(aX (l.getD k ae) (l.getD (k - 1) ae) == 0)
 .repeat' (first|simp only [aa,seval,lG]|((with_reducible refine ⟨z.cn.lay _ _,?_⟩);(intro _ h' zz x _);( simp only [bM,bu] at x );( replace q:=q.over x );(replace z:=zz);(clear zz);rw [ao h']))
  rw [qD]
  (rw [aU];with_reducible refine cy (m:=_) ?_ ⟨k+1,_,rfl,z,⟨rfl,by omega,by omega,zu6 (by omega) (by omega) hu (by simpa using hc),q⟩,bl⟩;omega)
 have hc:aX (l.getD k ae) (l.getD (k - 1) ae)=0:=by simpa using hc
 repeat' (first|simp only [aa,seval,lG]|((with_reducible refine ⟨z.cn.lay _ _,?_⟩);(intro _ h' zz x _);(simp only [bM,bu] at x);replace q:=q.over x;(replace z:=zz);(clear zz);rw [ao h']))
 rw [hC,zjx bJ bH (by omega) (bj _) (by omega),<- hC]
 repeat' (simp only [aa,seval,lG])
 obtain ⟨C2,hC2⟩:∃ C2,C2=G*11+(l.length - k):=⟨_,rfl⟩
 rw [<- hC2]
 obtain ⟨I2,fM⟩:∃ I:Nat->Env->Heap->Prop,I=(λn e h'=>∃ (b i:Nat) (cur:aS) (h1:Heap),h'=h1.lay [] h1.low/\Ext h h1/\(n=l.length - (k+b)/\1<=b/\k+b<=l.length/\cur.length=l.length/\i+1<=k+b/\cur.take i=pC l (k+b)/\(∀ p,k+b<=p+1->cur.getD p ae=l.getD p ae)/\Holds h1 A (.row (aP cur) 47 false))/\∃ J:Nat->ab,e=(.slice (some ⟨A,0,none⟩) l.length C::.func (.func 93) ⟨[]⟩ ⟨[]⟩::jr J 2 3 (.int .i64 i::.slice (some ⟨A,k*11,none⟩) (l.length - k) C2::.int .i64 b::jr J 8 58 ([])))):=⟨_,rfl⟩
 refine dA I2 _ (by rw [fM];exact ⟨1,k,l,_,rfl,z,⟨rfl,by omega,by omega,rfl,by omega,by rw [zs0 (by omega) hc];exact hu.symm,λ_ _=>rfl,q⟩,bl⟩) ?_
 intro n e h' aO
 rw [fM] at aO
 obtain ⟨b,i,cur,zT,rfl,z,hinv,J,rfl⟩:=aO
 clear q
 obtain ⟨rfl,Df,hbn,lI,vq,R4,Dh,q⟩:=hinv
 have BU:=ei b (by omega)
 have YJ:IntKind.i64.wrap ((b:Int) - 1)=((b - 1:Nat):Int):=by rw [wrap_i64 (by omega) (by omega)];omega
 have fH:=ei i (by omega)
 simp only [aa,seval,lG]
 refine bn (λjx=>?_) (λjx=>?_)
 rotate_left
 .have hkb:k+b=l.length:=by omega
  have iX:i<=l.length:=by omega
  simp only [aa,seval,lG]
  rw [hC,zjx bJ bH iX (bj _) (by omega),<- hC]
  obtain ⟨C3,hC3⟩:∃ C3,C3=G*11+(l.length - i):=⟨_,rfl⟩
  rw [<- hC3]
  simp only [aa,seval,lG,zxY]
  refine ztz q bJ tD (by omega) (by omega) (λh3 q3 c3=>?_)
  replace z:=z.cM c3 hA (by omega)
  rw [ao h3]
  clear q
  simp only [aa,seval,lG]
  rw [hC,zxb bJ bH iX (bj _) (by omega),<- hC]
  repeat' (simp only [aa,seval,lG])
  rw [R4,hkb] at q3
  have hlen:i=(pC l l.length).length:=by rw [<- hkb,<- R4,gh];omega
  have M7:(pC l l.length++List.replicate (cur.length - i) ae).length=l.length:=by rw [dy,HY];omega
  exact hk _ _ z.aA (zm7 (q3.on _ _) hA (by omega) hlen (by rw [M7];exact hC))
 have aO:(0:Int)<=(b:Int)/\(b:Int) < ((l.length - k:Nat):Int):=by omega
 have gu:(0:Int)<=((b - 1:Nat):Int)/\((b - 1:Nat):Int) < ((l.length - k:Nat):Int):=by omega
 have kR:=λ(bs:List ba) (w:Nat)=>oQ (bs:=bs) (w:=w) q (jM (l:=cur) (i:=k+b) (by omega))
 have fG:=λ(bs:List ba) (w:Nat)=>oQ (bs:=bs) (w:=w) q (jM (l:=cur) (i:=k+(b - 1)) (by omega))
 rw [rS] at kR fG
 rw [Dh _ (by omega)] at kR fG
 simp only [aa,seval,lG]
 refine (dL (by simp only [lG])) z.aA ?_
 repeat' (simp only [aa,seval,lG,YJ,aO,gu,and_self,if_true,↓kR,↓fG,dX])
 refine zw5 _ _ (se aT (by omega)) (se aT (by omega)) _ _ (λh' x=>?_)
 (((with_reducible refine cU ?_ ?_ ?_);(· exact (by (simp only [ck]);have:=z.size;omega));(· exact x));replace z:=z.an x;replace q:=q.over x;rw [ao h'])
 cases lH:(aX (l.getD (k+b) ae) (l.getD (k+(b - 1)) ae) == 0)
 rotate_left
 .have lH:aX (l.getD (k+b) ae) (l.getD (k+b - 1) ae)=0:=by rw [show k+b - 1=k+(b - 1) by omega];simpa using lH
  repeat' (first|simp only [aa,seval,lG]|((with_reducible apply bX);(· rfl))|((with_reducible refine ⟨z.cn.lay _ _,?_⟩);(intro _ h' zz x _);(simp only [bM,bu] at x);replace q:=q.over x;(replace z:=zz);(clear zz);rw [ao h']))
  rw [BU]
  (rw [fM];with_reducible refine cy (m:=_) ?_ ⟨b+1,i,cur,_,rfl,z,⟨rfl,by omega,by omega,lI,by omega,by rw [R4,show k+(b+1)=k+b+1 by omega,zs0 (by omega) lH],λp hp=>Dh p (by omega),q⟩,bl⟩;omega)
 have lH:aX (l.getD (k+b) ae) (l.getD (k+b - 1) ae)≠0:=by rw [show k+b - 1=k+(b - 1) by omega];simpa using lH
 repeat' (first|simp only [aa,seval,lG]|((with_reducible apply bX);(· rfl))|((with_reducible refine ⟨z.cn.lay _ _,?_⟩);(intro _ h' zz x _);(simp only [bM,bu] at x);replace q:=q.over x;(replace z:=zz);(clear zz);rw [ao h']))
 have kR:=λ(bs:List ba) (w:Nat)=>oQ (bs:=bs) (w:=w) q (jM (l:=cur) (i:=k+b) (by omega))
 rw [rS] at kR
 rw [Dh _ (by omega)] at kR
 have XU:(0:Int)<=(i:Int)/\(i:Int) < (l.length:Int):=by omega
 repeat' (simp only [aa,seval,lG,aO,XU,and_self,if_true,↓kR,dX])
 have hz:=z.size
 refine Cp q bH (by omega) (λh3 q3 c3=>?_)
 replace z:=z.cM c3 hA (by omega)
 rw [ao h3]
 clear q kR
 repeat' (simp only [aa,seval,lG])
 rw [fH,BU]
 have Xn:∀ p,k+(b+1)<=p+1->(cur.set i (l.getD (k+b) ae)).getD p ae=l.getD p ae:=by
  intro p hp
  have aQ:i≠p:=by omega
  rw [zmj aQ]
  exact Dh p (by omega)
 (rw [fM];with_reducible refine cy (m:=_) ?_ ⟨b+1,i+1,cur.set i (l.getD (k+b) ae),_,rfl,z,⟨rfl,by omega,by omega,by rw [nT];exact lI,by omega,by rw [zzB (by omega),R4,show k+(b+1)=k+b+1 by omega,zxS lH],Xn,q3⟩,bl⟩;omega)
theorem zup (v:ab) (h:Heap) (hl:Sl aM.atom h v []) (K:aF) (hk:∀ h',Ext h h'->K undef h'):Ok prog aD ov 90 [v,.func (.func 91) ⟨[]⟩ ⟨[]⟩] h K:=by
 rw [ao h]
 have z:=Ext.refl h
 have iF:=λ(hh:Heap)=>hl.bo bJ hh
 have bR:∀ (h:Heap) (K:aF),aC (some v) h K=K v h:=λ_ _=>rfl
 simp only [dN] at iF
 have oF:((0:Nat):Int)=0:=rfl
 refine Ok.aw 7 (bq Uy) ?_
 repeat' (simp only [aa,seval,gq,Bn,lG,fK,iF,bR,oF])
 refine Ok.aw 60 (bq EL) ?_
 simp only [aa,seval,gq,Bn,lG,fK,iF,bR,oF]
 refine Qv ?_
 simp only [aa,seval,gq,Bn,lG,fK,iF,bR,oF,decide_false,SZ]
 refine Ok.aw 49 (bq EN) ?_
 simp only [aa,seval,gq,Bn,lG,fK,iF,bR,oF]
 refine Qv ?_
 simp only [aa,seval,gq,Bn,lG,fK,iF,bR,oF,decide_false,SZ]
 refine Qv ?_
 simp only [aa,seval,gq,Bn,lG,fK,iF,bR,oF,decide_false,SZ]
 exact hk _ z.aA
theorem zm0 (v:ab) (h:Heap) (hl:Sl aM.atom h v []) (f:ab) (K:aF) (hk:∀ h',Ext h h'->K v h'):Ok prog aD ov 92 [v,f] h K:=by
 rw [ao h]
 have z:=Ext.refl h
 have iF:=λ(hh:Heap)=>hl.bo bJ hh
 have bR:∀ (h:Heap) (K:aF),aC (some v) h K=K v h:=λ_ _=>rfl
 simp only [dN] at iF
 have oF:((0:Nat):Int)=0:=rfl
 refine Ok.aw 64 (bq Uz) ?_
 simp only [aa,seval,gq,Bn,lG,fK,iF,bR,oF,decide_true,zls]
 exact hk _ z.aA
theorem zpb (l:aS) (v:ab) (h:Heap) (hl:Sl aM.atom h v l) (hn:l.length<=100000) (aT:∀ x∈l,x.aW=true) (K:aF)
 (hk:∀ h' w,Ext h h'->dG h h' 47 w (eo l)->K w h'):Ok prog aD ov 56 [v] h K:=by
 rw [ao h]
 have z:=Ext.refl h
 refine Ok.aw 9 (bq N56) ?_
 repeat' (simp only [aa,seval,Fj])
 refine zo3 l v _ (hl.lay _ _) (by omega) _ (λh' w x ho=>?_)
 rcases ho with ⟨rfl,ho⟩|⟨A,rfl,q,hA,aQ⟩
 .have bR:∀ (h:Heap) (K:aF),aC (some w) h K=K w h:=λ_ _=>rfl
  (replace z:=z.an x;rw [ao h'])
  repeat' (simp only [aa,seval,Fj,bR])
  refine zup w _ (ho.lay _ _).sl _ (λh' x=>?_)
  replace ho:=ho.over x
  (replace z:=z.an x;rw [ao h'])
  repeat' (simp only [aa,seval,Fj,bR])
  refine zm0 w _ (ho.lay _ _).sl _ _ (λh' x=>?_)
  replace ho:=ho.over x
  (replace z:=z.an x;rw [ao h'])
  repeat' (simp only [aa,seval,Fj,bR])
  exact hk _ _ z.aA (.inl ⟨rfl,ho.lay _ _⟩)
 ·(replace z:=z.an x;rw [ao h'])
  repeat' (simp only [aa,seval,Fj])
  refine zm4 l A (G*11+l.length) h _ z.aA hA (q.on _ _) hn aT _ (λh' l' x q' hp fj BP=>?_)
  replace z:=x
  rw [ao h']
  repeat' (simp only [aa,seval,Fj])
  have key:=λK hk=>zub l' A h (h'.lay [] h'.low) z.aA hA (q'.on _ _) (by rw [hp.length_eq];omega) (D4 aT hp) K hk
  rw [zu7 hp fj BP,hp.length_eq] at key
  refine key _ (λh' w x ho=>?_)
  replace z:=x
  have bR:∀ (h:Heap) (K:aF),aC (some w) h K=K w h:=λ_ _=>rfl
  rw [ao h']
  repeat' (simp only [aa,seval,Fj,bR])
  exact hk _ _ z.aA (ho.lay _ _)
theorem zES (l:aS) (v:ab) (h:Heap) (hl:Sl aM.atom h v l) (hn:l.length<=1000) (aT:∀ x∈l,x.aW=true) (K:aF)
 (hk:∀ h',Ext h h'->K (.bool (IU l)) h'):Ok prog aD ov 99 [v] h K:=by
 rw [ao h]
 have z:=Ext.refl h
 have iF:=λ(hh:Heap)=>hl.bo bJ hh
 refine Ok.aw 24 (bq N99) ?_
 simp only [aa,seval,wB,iF]
 obtain ⟨I1,aU⟩:∃ I:Nat->Env->Heap->Prop,I=(λn e h'=>∃ (i:Nat) (h1:Heap),h'=h1.lay [] h1.low/\Ext h h1/\(n=l.length - i/\i<=l.length/\(∀ k,0 < k->k < i->aX (l.getD (k - 1) ae) (l.getD k ae) < 0))/\∃ J:Nat->ab,e=(v::jr J 1 4 (.int .i64 l.length::.int .i64 i::jr J 7 18 ([])))):=⟨_,rfl⟩
 refine dA I1 _ (by rw [aU];exact ⟨0,_,rfl,z,⟨rfl,by omega,λk _ g=>by omega⟩,bl⟩) ?_
 intro n e h' aO
 rw [aU] at aO
 obtain ⟨i,bC,rfl,z,hinv,J,rfl⟩:=aO
 obtain ⟨rfl,aO,wQ⟩:=hinv
 have fH:=ei i (by omega)
 have BV:0 < i->IntKind.i64.wrap ((i:Int) - 1)=((i - 1:Nat):Int):=λ_=>by rw [wrap_i64 (by omega) (by omega)];omega
 simp only [aa,seval,wB]
 refine bn (λjw=>?_) (λjw=>?_)
 rotate_left
 .have hi:i=l.length:=by omega
  subst hi
  rw [qd.2 (iK.2 wQ)] at hk
  repeat' (simp only [aa,seval,wB])
  exact hk _ z.aA
 have hr:l[(i:Int).toNat]? = some (l.getD i ae):=jM (by omega)
 have IJ:l[((i - 1:Nat):Int).toNat]? = some (l.getD (i - 1) ae):=jM (by omega)
 simp only [aa,seval,wB]
 refine (dL (by simp only [wB])) z.aA ?_
 simp only [aa,seval,wB]
 refine bn (λlj=>?_) (λlj=>?_)
 rotate_left
 .have sY:i=0:=by omega
  subst sY
  repeat' (first|simp only [aa,seval,wB]|((with_reducible refine ⟨z.cn.lay _ _,?_⟩);(intro _ h' zz x _);(simp only [bM,bu] at x);(replace z:=zz);(clear zz);rw [ao h']))
  (rw [aU];with_reducible refine cy (m:=_) ?_ ⟨1,_,rfl,z,⟨rfl,by omega,λk _ g=>by omega⟩,bl⟩;omega)
 have BV:=BV (by omega)
 simp only [aa,seval,wB,BV]
 repeat' ((first|with_reducible refine qI (hl.mono z.inc) bJ bH (by omega) IJ (λp hp=>?_)|with_reducible refine qI (hl.mono z.inc) bJ bH (by omega) hr (λp hp=>?_)|with_reducible refine ma hp eP bH ?_) <;> simp only [aa,seval,wB,BV])
 refine Er _ _ (se aT (by omega)) (se aT (by omega)) _ _ (λh' x=>?_)
 (((with_reducible refine cU ?_ ?_ ?_);(· exact (by (simp only [ck]);have:=z.size;omega));(· exact x));replace z:=z.an x;rw [ao h'])
 simp only [aa,seval,wB]
 refine bn (λhc=>?_) (λhc=>?_)
 .rw [zCu (λg=>by have:=iK.1 g i (by omega) (by omega);omega)] at hk
  repeat' (first|simp only [aa,seval,wB]|((with_reducible refine ⟨z.cn.lay _ _,?_⟩);(intro _ h' zz x _);(simp only [bM,bu] at x);(replace z:=zz);(clear zz);rw [ao h']))
  exact hk _ z.aA
 .repeat' (first|simp only [aa,seval,wB]|((with_reducible refine ⟨z.cn.lay _ _,?_⟩);(intro _ h' zz x _);( simp only [bM,bu] at x );(replace z:=zz);(clear zz);rw [ao h']))
  rw [fH]
  (rw [aU];(with_reducible refine cy (m:=_) ?_ ⟨i+1,_,rfl,z,⟨rfl,by omega,λk g1 g2=>by
   rcases lM k i with e|e
   .exact wQ k g1 e
   .have e:k=i:=by omega
    subst e
    omega⟩,bl⟩);omega)
theorem zwN (l:aS) (v:ab) (h:Heap) (hl:Sl aM.atom h v l) (hn:l.length<=900) (aT:∀ x∈l,x.aW=true) (K:aF)
 (hk:∀ h' w,Ext h h'->dG h h' 47 w (eo l)->K w h'):Ok prog aD ov 59 [v] h K:=by
 rw [ao h]
 have z:=Ext.refl h
 refine Ok.aw 8 (bq N59) ?_
 repeat' (simp only [aa,seval,LL])
 refine zES l v _ (hl.lay _ _) (by omega) aT _ (λh' x=>?_)
 (replace z:=z.an x;rw [ao h'])
 cases hi:IU l
 .repeat' ( simp only [aa,seval,LL])
  refine zpb l v _ ((hl.mono z.inc).lay _ _) (by omega) aT _ (λh' w x ho=>?_)
  have dx:=z.size
  replace ho:=ho.down (h0:=h) (by rw [bc];omega)
  (replace z:=z.an x;rw [ao h'])
  have bR:∀ (h:Heap) (K:aF),aC (some w) h K=K w h:=λ_ _=>rfl
  repeat' (simp only [aa,seval,LL,bR])
  exact hk _ _ z.aA (ho.lay _ _)
 .repeat' ( simp only [aa,seval,LL])
  refine zo3 l v _ ((hl.mono z.inc).lay _ _) (by omega) _ (λh' w x ho=>?_)
  have dx:=z.size
  replace ho:=(ho.own (by omega)).down (h0:=h) (by rw [bc];omega)
  rw [<- Tm (qd.1 hi)] at ho
  (replace z:=z.an x;rw [ao h'])
  have bR:∀ (h:Heap) (K:aF),aC (some w) h K=K w h:=λ_ _=>rfl
  repeat' (simp only [aa,seval,LL,bR])
  exact hk _ _ z.aA (ho.lay _ _)
end Go.Proofs.YtiapegieocgmfaaGreatDoor
