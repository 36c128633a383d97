/- Walks: sorting in place: Am.one block Written out by fill2.py. No condition. -/
import Derived.Test.YtnkmeidmdaidhaaGreatDoorG27
set_option linter.unusedSimpArgs false
set_option linter.unusedVariables false
set_option maxRecDepth 100000
set_option maxHeartbeats 0
namespace Go.Proofs.YtnkmeidmdaidhaaGreatDoor
open Go.Am Tryz
theorem ZX (l:aU) (A c a b:Nat) (h hs:Heap) (z:Ext h hs) (hA:h.size<=A) (q:ak hs A (.row (bl l) 28 false)) (ta:a<=b) (hb:b<=l.length) (hn:l.length<=100000) (aW:∀ x∈l,x.bE=true) (K:aL)
 (hk:∀ h' l',Ext h h'->ak h' A (.row (bl l') 28 false)->l'.Perm l->dP l l'->fA l' a b->CW l l' a b->K undef h'):Ok prog aH ov 117 [.slice (some ⟨A,0,none⟩) l.length c,.int .i64 a,.int .i64 b,.func (.func 53) ⟨[]⟩ ⟨[]⟩] hs K:=by
 rw [aq hs]
 have xw:=fe a (by omega)
 refine Ok.aC 49 (bH Ai) ?_
 simp only [aa,seval,fH]
 rw [xw]
 obtain ⟨I1,aY⟩:∃ I:Nat->Env->Heap->Prop,I=(λn e h'=>∃ (i:Nat) (l1:aU) (h1:Heap),h'=h1.lay [] h1.low/\Ext h h1/\(n=b - i/\a < i/\(i<=b\/(i=a+1/\l1=l))/\l1.Perm l/\dP l l1/\fA l1 a i/\CW l l1 a i/\ak h1 A (.row (bl l1) 28 false))/\∃ J:Nat->ai,e=(.slice (some ⟨A,0,none⟩) l.length c::.int .i64 a::.int .i64 b::.func (.func 53) ⟨[]⟩ ⟨[]⟩::jr J 4 4 (.int .i64 i::jr J 9 44 ([])))):=⟨_,rfl⟩
 refine dV I1 _ (by rw [aY];exact ⟨a+1,l,_,rfl,z,⟨rfl,by omega,.inr ⟨rfl,rfl⟩,List.Perm.refl _,dP.refl _,λk g1 g2=>by omega,λk _=>rfl,q⟩,bw⟩) ?_
 intro n e h' aT
 rw [aY] at aT
 obtain ⟨i,l1,bW,rfl,z,hinv,J,rfl⟩:=aT
 clear q
 obtain ⟨rfl,Qa,Ld,q9,tT,BZ,BW,q⟩:=hinv
 have hw:=fe i (by omega)
 simp only [aa,seval,fH]
 refine b9 (λpf=>?_) (λpf=>?_)
 rotate_left
 .simp only [aa,seval,fH]
  repeat' ((first|((with_reducible first|apply b9|apply pK|apply se|apply C7|apply CZ) <;> intro _)|((with_reducible refine ⟨z.cI.lay _ _,?_⟩);(intro _ h' zz x _);(first|simp only [bK,bu] at x|skip);(replace z:=zz);(clear zz);rw [aq h'])) <;> simp only [aa,seval,fH])
  refine hk _ _ z.aw (q.on _ _) q9 tT (λk g1 g2=>BZ k g1 (by omega)) (λk g=>?_)
  rcases Ld with Ld|⟨_,rfl⟩
  .exact BW k (by omega)
  .rfl
 have ky:=q9.length_eq
 have G8:=zG aW q9
 repeat' (simp only [aa,seval,fH])
 obtain ⟨I2,fI⟩:∃ I:Nat->Env->Heap->Prop,I=(λn e h'=>∃ (j:Nat) (l2:aU) (h1:Heap),h'=h1.lay [] h1.low/\Ext h h1/\(n=j - a/\a<=j/\j<=i/\l2.Perm l/\dP l l2/\Kr l2 a i j/\CW l l2 a (i+1)/\ak h1 A (.row (bl l2) 28 false))/\∃ J:Nat->ai,e=(.slice (some ⟨A,0,none⟩) l.length c::.int .i64 a::.int .i64 b::.func (.func 53) ⟨[]⟩ ⟨[]⟩::jr J 4 4 (.int .i64 i::.int .i64 j::jr J 10 43 ([])))):=⟨_,rfl⟩
 refine dV I2 _ (by rw [fI];exact ⟨i,l1,_,rfl,z,⟨rfl,by omega,by omega,q9,tT,zp3 BZ,λk g=>BW k (by omega),q⟩,bw⟩) ?_
 intro n e h' aT
 rw [fI] at aT
 obtain ⟨j,l2,cK,rfl,z,hinv,J,rfl⟩:=aT
 clear q q9 tT BZ BW ky G8
 obtain ⟨rfl,Qb,rR,vu,tU,Rp,BX,q⟩:=hinv
 have lZ:=vu.length_eq
 have eM:=zG aW vu
 simp only [bM,seval,fH]
 refine (dO (by simp only [fH])) z.aw ?_
 simp only [aa,seval,fH]
 refine b9 (λw5=>?_) (λw5=>?_)
 rotate_left
 .repeat' (first|simp only [aa,seval,fH]|((with_reducible refine ⟨z.cI.lay _ _,?_⟩);(intro _ h' zz x _);( simp only [bK,bu] at x );( replace q:=q.over x );(replace z:=zz);(clear zz);rw [aq h']))
  rw [hw]
  (rw [aY];with_reducible refine cR (m:=_) ?_ ⟨i+1,l2,_,rfl,z,⟨rfl,by omega,.inl (by omega),vu,tU,zof Rp rR (λg=>absurd g (by omega)),BX,q⟩,bw⟩;omega)
 have vA:IntKind.i64.wrap ((j:Int) - 1)=((j - 1:Nat):Int):=by rw [ez (by omega) (by omega)];omega
 have aT:(0:Int)<=(j:Int)/\(j:Int) < (l.length:Int):=by omega
 have eL:(0:Int)<=((j - 1:Nat):Int)/\((j - 1:Nat):Int) < (l.length:Int):=by omega
 have iE:=λ(bs:List bc) (w:Nat)=>lK (bs:=bs) (w:=w) q (jO (l:=l2) (i:=j) (by omega))
 have ef:=λ(bs:List bc) (w:Nat)=>lK (bs:=bs) (w:=w) q (jO (l:=l2) (i:=j - 1) (by omega))
 repeat' (simp only [aa,seval,fH,vA,aT,eL,↓iE,↓ef,dt])
 refine Kf _ _ (rW eM (by omega)) (rW eM (by omega)) _ _ (λh' x=>?_)
 (((with_reducible refine fC ?_ ?_ ?_);(· exact (by (simp only [fT]);have:=z.size;omega));(· exact x));replace z:=z.ao x;replace q:=q.over x;rw [aq h'])
 simp only [aa,seval,fH]
 refine b9 (λhc=>?_) (λhc=>?_)
 rotate_left
 .repeat' (first|simp only [aa,seval,fH]|((with_reducible refine ⟨z.cI.lay _ _,?_⟩);(intro _ h' zz x _);( simp only [bK,bu] at x );( replace q:=q.over x );(replace z:=zz);(clear zz);rw [aq h']))
  rw [hw]
  (rw [aY];with_reducible refine cR (m:=_) ?_ ⟨i+1,l2,_,rfl,z,⟨rfl,by omega,.inl (by omega),vu,tU,zof Rp rR (λ_=>EG hc),BX,q⟩,bw⟩;omega)
 repeat' (first|simp only [aa,seval,fH]|((with_reducible refine ⟨z.cI.lay _ _,?_⟩);(intro _ h' zz x _);(simp only [bK,bu] at x);replace q:=q.over x;(replace z:=zz);(clear zz);rw [aq h']))
 have iE:=λ(bs:List bc) (w:Nat)=>lK (bs:=bs) (w:=w) q (jO (l:=l2) (i:=j) (by omega))
 have ef:=λ(bs:List bc) (w:Nat)=>lK (bs:=bs) (w:=w) q (jO (l:=l2) (i:=j - 1) (by omega))
 refine (dO (by simp only [fH])) z.aw ?_
 repeat' (simp only [aa,seval,fH,vA,aT,eL,↓iE,↓ef,dt])
 refine xT q cw (by omega) (λh3 q3 c3=>?_)
 have hz:=z.size
 refine gR (A:=A) (by kernel_rfl) (by rw [bo];omega) (by omega) (by simpa only [bK,bo,bu,dB,cW,gw] using c3) ?_
 replace z:=(z.iG [] (h'.size+0) (by omega)).step c3 hA
 rw [aq h3]
 clear q iE ef
 repeat' (simp only [aa,seval,fH,eL])
 refine xT q3 cw (by rw [ij];omega) (λh4 q4 c4=>?_)
 have hz:=z.size
 refine gR (A:=A) (by kernel_rfl) (by rw [bo];omega) (by omega) (by simpa only [bK,bo,bu,dB,cW,gw] using c4) ?_
 replace z:=(z.iG [] (h3.size+0) (by omega)).step c4 hA
 rw [aq h4]
 clear q3
 repeat' (first|simp only [aa,seval,fH,vA]|((with_reducible refine ⟨z.cI.lay _ _,?_⟩);(intro _ h' zz x _);(simp only [bK,bu] at x);replace q4:=q4.over x;(replace z:=zz);(clear zz);rw [aq h']))
 replace q4:ak _ A (.row (bl (i3 l2 j (j - 1))) 28 false):=q4
 (rw [fI];with_reducible refine cR (m:=_) ?_ ⟨j - 1,i3 l2 j (j - 1),_,rfl,z,⟨rfl,by omega,by omega,(TH (by omega) (by omega)).trans vu,tU.trans (zoj (by omega) (by omega) hc),zth Rp (by omega) rR (by omega) hc,zod BX (by omega) rR (by omega),q4⟩,bw⟩;omega)
theorem S7 (l:aU) (A c a b w:Nat) (fv:ai) (h hs:Heap) (z:Ext h hs) (hA:h.size<=A) (q:ak hs A (.row (bl l) 28 false)) (ta:a+w<=b) (hb:b+w<=l.length) (hn:l.length<=100000) (K:aL)
 (hk:∀ h' l',Ext h h'->ak h' A (.row (bl l') 28 false)->l'.Perm l->zS l l' a b w->K undef h'):Ok prog aH ov 150 [.slice (some ⟨A,0,none⟩) l.length c,.int .i64 a,.int .i64 b,.int .i64 w,fv] hs K:=by
 rw [aq hs]
 refine Ok.aC 33 (bH FO) ?_
 simp only [aa,seval,nu]
 obtain ⟨I1,aY⟩:∃ I:Nat->Env->Heap->Prop,I=(λn e h'=>∃ (i:Nat) (l1:aU) (h1:Heap),h'=h1.lay [] h1.low/\Ext h h1/\(n=w - i/\i<=w/\l1.Perm l/\zS l l1 a b i/\ak h1 A (.row (bl l1) 28 false))/\∃ J:Nat->ai,e=(.slice (some ⟨A,0,none⟩) l.length c::.int .i64 a::.int .i64 b::.int .i64 w::jr J 4 6 (.int .i64 i::jr J 11 27 ([])))):=⟨_,rfl⟩
 refine dV I1 _ (by rw [aY];exact ⟨0,l,_,rfl,z,⟨rfl,by omega,List.Perm.refl _,zqf l a b,q⟩,bw⟩) ?_
 intro n e h' aT
 rw [aY] at aT
 obtain ⟨i,l1,bW,rfl,z,hinv,J,rfl⟩:=aT
 clear q
 obtain ⟨rfl,hi,hp,HC,q⟩:=hinv
 have ky:=hp.length_eq
 have hw:=fe i (by omega)
 simp only [aa,seval,nu]
 refine b9 (λaW=>?_) (λaW=>?_)
 rotate_left
 .repeat' ( simp only [aa,seval,nu])
  have hiw:i=w:=by omega
  subst hiw
  exact hk _ _ z.aw (q.on _ _) hp HC
 have Ln:IntKind.i64.wrap ((a:Int)+(i:Int))=((a+i:Nat):Int):=by rw [ez (by omega) (by omega)];omega
 have rU:IntKind.i64.wrap ((b:Int)+(i:Int))=((b+i:Nat):Int):=by rw [ez (by omega) (by omega)];omega
 have aT:(0:Int)<=((a+i:Nat):Int)/\((a+i:Nat):Int) < (l.length:Int):=by omega
 have eL:(0:Int)<=((b+i:Nat):Int)/\((b+i:Nat):Int) < (l.length:Int):=by omega
 have iE:=λ(bs:List bc) (w:Nat)=>lK (bs:=bs) (w:=w) q (jO (l:=l1) (i:=a+i) (by omega))
 have ef:=λ(bs:List bc) (w:Nat)=>lK (bs:=bs) (w:=w) q (jO (l:=l1) (i:=b+i) (by omega))
 simp only [aa,seval,nu]
 refine (dO (by simp only [nu])) z.aw ?_
 repeat' (simp only [aa,seval,nu,Ln,rU,aT,eL,↓iE,↓ef,dt])
 have hz:=z.size
 refine xT q cw (by omega) (λh3 q3 c3=>?_)
 refine gR (A:=A) (by kernel_rfl) (by rw [bo];omega) (by omega) (by simpa only [bK,bo,bu,dB,cW,gw] using c3) ?_
 replace z:=(z.iG [] (bW.size+0) (by omega)).step c3 hA
 rw [aq h3]
 clear q iE ef
 repeat' (simp only [aa,seval,nu,eL])
 refine xT q3 cw (by rw [ij];omega) (λh4 q4 c4=>?_)
 have hz:=z.size
 refine gR (A:=A) (by kernel_rfl) (by rw [bo];omega) (by omega) (by simpa only [bK,bo,bu,dB,cW,gw] using c4) ?_
 replace z:=(z.iG [] (h3.size+0) (by omega)).step c4 hA
 rw [aq h4]
 clear q3
 repeat' (first|simp only [aa,seval,nu]|((with_reducible refine ⟨z.cI.lay _ _,?_⟩);(intro _ h' zz x _);(simp only [bK,bu] at x);replace q4:=q4.over x;(replace z:=zz);(clear zz);rw [aq h']))
 rw [hw]
 replace q4:ak _ A (.row (bl (i3 l1 (a+i) (b+i))) 28 false):=q4
 (rw [aY];with_reducible refine cR (m:=_) ?_ ⟨i+1,i3 l1 (a+i) (b+i),_,rfl,z,⟨rfl,by omega,(TH (by omega) (by omega)).trans hp,zqe HC ta (by omega) (by omega),q4⟩,bw⟩;omega)
theorem zvn (l:aU) (A c a m b:Nat) (fv:ai) (h hs:Heap) (z:Ext h hs) (hA:h.size<=A) (q:ak hs A (.row (bl l) 28 false)) (wJ:a < m) (xk:m < b) (hb:b<=l.length) (hn:l.length<=100000) (K:aL)
 (hk:∀ h',Ext h h'->ak h' A (.row (bl (wi l a m b)) 28 false)->(wi l a m b).Perm l->K undef h'):Ok prog aH ov 138 [.slice (some ⟨A,0,none⟩) l.length c,.int .i64 a,.int .i64 m,.int .i64 b,fv] hs K:=by
 rw [aq hs]
 have pn:IntKind.i64.wrap ((m:Int) - (a:Int))=((m - a:Nat):Int):=by rw [ez (by omega) (by omega)];omega
 have jL:IntKind.i64.wrap ((b:Int) - (m:Int))=((b - m:Nat):Int):=by rw [ez (by omega) (by omega)];omega
 refine Ok.aC 53 (bH FM) ?_
 simp only [aa,seval,mF,pn,jL]
 obtain ⟨I1,aY⟩:∃ I:Nat->Env->Heap->Prop,I=(λn e h'=>∃ (i j:Nat) (l1:aU) (h1:Heap),h'=h1.lay [] h1.low/\Ext h h1/\(n=i+j/\0 < i/\0 < j/\i<=m/\m+j<=l.length/\l1.Perm l/\Dj (wi l a m b) l1 m i j/\ak h1 A (.row (bl l1) 28 false))/\∃ J:Nat->ai,e=(.slice (some ⟨A,0,none⟩) l.length c::J 1::.int .i64 m::J 3::fv::jr J 5 5 (.int .i64 i::.int .i64 j::jr J 12 46 ([])))):=⟨_,rfl⟩
 refine dV I1 _ (by rw [aY];exact ⟨m - a,b - m,l,_,rfl,z,⟨rfl,by omega,by omega,by omega,by omega,List.Perm.refl _,zql (by omega) (by omega) hb,q⟩,bw⟩) ?_
 intro n e h' aT
 rw [aY] at aT
 obtain ⟨i,j,l1,bW,rfl,z,hinv,J,rfl⟩:=aT
 clear q
 obtain ⟨rfl,w9,hj0,qW,W9,hp,Rw,q⟩:=hinv
 have ky:=hp.length_eq
 simp only [aa,seval,mF]
 have Ca:IntKind.i64.wrap ((m:Int) - (i:Int))=((m - i:Nat):Int):=by rw [ez (by omega) (by omega)];omega
 refine se (λaO=>?_) (λheq=>?_)
 rotate_left
 .have ej:i=j:=by omega
  subst ej
  repeat' (simp only [aa,seval,mF,Ca])
  have key:=λK hk=>S7 l1 A c (m - i) m i fv h (bW.lay [] bW.low) z.aw hA (q.on _ _) (by omega) (by omega) (by omega) K hk
  simp only [ky] at key
  refine key _ (λh' l' x q' mO jl=>?_)
  have jJ:l'=wi l a m b:=Ub (by rw [ZM,mO.length_eq,ky]) (λk=>(zv2 Rw qW jl k).symm)
  subst jJ
  rw [aq h']
  repeat' (simp only [aa,seval,mF])
  exact hk _ x.aw (q'.on _ _) (mO.trans hp)
 simp only [aa,seval,mF]
 refine b9 (λw5=>?_) (λw5=>?_)
 .repeat' ( simp only [aa,seval,mF,Ca])
  have key:=λK hk=>S7 l1 A c (m - i) m j fv h (bW.lay [] bW.low) z.aw hA (q.on _ _) (by omega) (by omega) (by omega) K hk
  simp only [ky] at key
  refine key _ (λh' l' x q' mO jl=>?_)
  replace z:=x
  rw [aq h']
  have RP:IntKind.i64.wrap ((i:Int) - (j:Int))=((i - j:Nat):Int):=by rw [ez (by omega) (by omega)];omega
  repeat' (simp only [aa,seval,mF,RP])
  (rw [aY];with_reducible refine cR (m:=_) ?_ ⟨i - j,j,l',_,rfl,z,⟨rfl,by omega,by omega,by omega,by omega,mO.trans hp,ztA Rw qW (by omega) jl,q'⟩,bw⟩;omega)
 .have RT:IntKind.i64.wrap ((m:Int)+(j:Int))=((m+j:Nat):Int):=by rw [ez (by omega) (by omega)];omega
  have HK:IntKind.i64.wrap (((m+j:Nat):Int) - (i:Int))=((m+j - i:Nat):Int):=by rw [ez (by omega) (by omega)];omega
  repeat' (simp only [aa,seval,mF,Ca,RT,HK])
  have key:=λK hk=>S7 l1 A c (m - i) (m+j - i) i fv h (bW.lay [] bW.low) z.aw hA (q.on _ _) (by omega) (by omega) (by omega) K hk
  simp only [ky] at key
  refine key _ (λh' l' x q' mO jl=>?_)
  replace z:=x
  rw [aq h']
  have RQ:IntKind.i64.wrap ((j:Int) - (i:Int))=((j - i:Nat):Int):=by rw [ez (by omega) (by omega)];omega
  repeat' (simp only [aa,seval,mF,RQ])
  (rw [aY];with_reducible refine cR (m:=_) ?_ ⟨i,j - i,l',_,rfl,z,⟨rfl,by omega,by omega,by omega,by omega,mO.trans hp,zqk Rw qW (by omega) jl,q'⟩,bw⟩;omega)
def Vd (sz:Nat):Prop:=∀ (l:aU) (A c a m b:Nat) (h hs:Heap),Ext h hs->h.size<=A->ak hs A (.row (bl l) 28 false)->a < m->m < b->b - a<=sz->b<=l.length->l.length<=100000->(∀ x∈l,x.bE=true)->fA l a m->fA l m b->∀ (K:aL),
 (∀ h' l',Ext h h'->ak h' A (.row (bl l') 28 false)->Mv l l' a b->fA l' a b->K undef h')->Ok prog aH ov 118 [.slice (some ⟨A,0,none⟩) l.length c,.int .i64 a,.int .i64 m,.int .i64 b,.func (.func 53) ⟨[]⟩ ⟨[]⟩] hs K
theorem MH (x y:Nat) (h:x+y<=1000000):IntKind.i64.wrap ((x:Int)+(y:Int))=((x+y:Nat):Int)/\IntKind.u64.wrap ((x+y:Nat):Int)=((x+y:Nat):Int)/\IntKind.i64.wrap (((x+y) / 2:Nat):Int)=(((x+y) / 2:Nat):Int)/\Int.fdiv ((x+y:Nat):Int) (2 ^ (min (1:Int).toNat (IntKind.bits .u64)))=(((x+y) / 2:Nat):Int):=by
 refine ⟨by rw [ez (by omega) (by omega)];omega,by unfold IntKind.wrap;simp [IntKind.bits];omega,ez (by omega) (by omega),?_⟩
 show Int.fdiv ((x+y:Nat):Int) 2=_
 rw [Int.fdiv_eq_ediv_of_nonneg _ (by omega)]
 omega
theorem zs2 (sz:Nat) (ih:Vd sz):Vd (sz+1):=by
 intro l A c a m b h hs z hA q wJ xk dC hb hn aW h1 h2 K hk
 rw [aq hs]
 have pn:IntKind.i64.wrap ((m:Int) - (a:Int))=((m - a:Nat):Int):=by rw [ez (by omega) (by omega)];omega
 have jL:IntKind.i64.wrap ((b:Int) - (m:Int))=((b - m:Nat):Int):=by rw [ez (by omega) (by omega)];omega
 have Lf:l[a]? = some (l.getD a ah):=jO (by omega)
 have Lg:l[m]? = some (l.getD m ah):=jO (by omega)
 refine Ok.aC 215 (bH gV) ?_
 simp only [aa,seval,bA,pn]
 refine pK (λnI=>?_) (λnI=>?_)
 .-- Am.one element in front
  simp only [aa,seval,bA]
  obtain ⟨I1,aY⟩:∃ I:Nat->Env->Heap->Prop,I=(λn e h'=>∃ (i j:Nat) (h1:Heap),h'=h1.lay [] h1.low/\Ext h h1/\(n=j - i/\m<=i/\i<=j/\j<=b/\(i=m\/aZ (l.getD (i - 1) ah) (l.getD a ah) < 0)/\(j=b\/¬ aZ (l.getD j ah) (l.getD a ah) < 0)/\ak h1 A (.row (bl l) 28 false))/\∃ J:Nat->ai,e=(.slice (some ⟨A,0,none⟩) l.length c::.int .i64 a::.int .i64 m::.int .i64 b::.func (.func 53) ⟨[]⟩ ⟨[]⟩::jr J 5 5 (.int .i64 i::.int .i64 j::jr J 12 208 ([])))):=⟨_,rfl⟩
  refine dV I1 _ (by rw [aY];exact ⟨m,b,_,rfl,z,⟨rfl,by omega,by omega,by omega,.inl rfl,.inl rfl,q⟩,bw⟩) ?_
  intro n e h' aT
  rw [aY] at aT
  obtain ⟨i,j,bW,rfl,z,hinv,J,rfl⟩:=aT
  clear q
  obtain ⟨rfl,g1,g2,g3,g4,g5,q⟩:=hinv
  simp only [aa,seval,bA]
  refine b9 (λej=>?_) (λej=>?_)
  rotate_left
  .have Bw:i=j:=by omega
   subst Bw
   have DV:=g4
   have vx:=g5
   have jx:IntKind.i64.wrap ((i:Int) - 1)=((i - 1:Nat):Int):=by rw [ez (by omega) (by omega)];omega
   have Qc:m=a+1:=by omega
   subst Qc
   simp only [aa,seval,bA]
   obtain ⟨I2,fI⟩:∃ I:Nat->Env->Heap->Prop,I=(λn e h'=>∃ (k:Nat) (l1:aU) (h1:Heap),h'=h1.lay [] h1.low/\Ext h h1/\(n=i - 1 - k/\a<=k/\k<=i - 1/\Mv l l1 a b/\sG l l1 a k/\ak h1 A (.row (bl l1) 28 false))/\∃ J:Nat->ai,e=(.slice (some ⟨A,0,none⟩) l.length c::jr J 1 9 (.int .i64 i::jr J 11 2 (.int .i64 k::jr J 14 206 ([]))))):=⟨_,rfl⟩
   refine dV I2 _ (by rw [fI];exact ⟨a,l,_,rfl,z,⟨rfl,by omega,by omega,Mv.refl l a b,ztE l a,q⟩,bw⟩) ?_
   intro n e h' aT
   rw [fI] at aT
   obtain ⟨k,l1,cK,rfl,z,hinv,J,rfl⟩:=aT
   clear q
   obtain ⟨rfl,f1,f2,f3,f4,q⟩:=hinv
   have ky:=f3.perm.length_eq
   have xx:=fe k (by omega)
   simp only [aa,seval,bA,jx]
   refine b9 (λqX=>?_) (λqX=>?_)
   rotate_left
   .have Bx:k=i - 1:=by omega
    subst Bx
    repeat' (simp only [aa,seval,bA])
    exact hk _ _ z.aw (q.on _ _) f3 (zzb h2 (by omega) (by omega) DV vx f4)
   have aT:(0:Int)<=(k:Int)/\(k:Int) < (l.length:Int):=by omega
   have eL:(0:Int)<=((k+1:Nat):Int)/\((k+1:Nat):Int) < (l.length:Int):=by omega
   have iE:=λ(bs:List bc) (w:Nat)=>lK (bs:=bs) (w:=w) q (jO (l:=l1) (i:=k) (by omega))
   have ef:=λ(bs:List bc) (w:Nat)=>lK (bs:=bs) (w:=w) q (jO (l:=l1) (i:=k+1) (by omega))
   simp only [aa,seval,bA]
   refine (dO (by simp only [bA])) z.aw ?_
   repeat' (simp only [aa,seval,bA,xx,aT,eL,↓iE,↓ef,dt])
   have hz:=z.size
   refine xT q cw (by omega) (λh3 q3 c3=>?_)
   refine gR (A:=A) (by kernel_rfl) (by rw [bo];omega) (by omega) (by simpa only [bK,bo,bu,dB,cW,gw] using c3) ?_
   replace z:=(z.iG [] (cK.size+0) (by omega)).step c3 hA
   rw [aq h3]
   clear q iE ef
   repeat' (simp only [aa,seval,bA,eL])
   refine xT q3 cw (by rw [ij];omega) (λh4 q4 c4=>?_)
   have hz:=z.size
   refine gR (A:=A) (by kernel_rfl) (by rw [bo];omega) (by omega) (by simpa only [bK,bo,bu,dB,cW,gw] using c4) ?_
   replace z:=(z.iG [] (h3.size+0) (by omega)).step c4 hA
   rw [aq h4]
   clear q3
   repeat' (first|simp only [aa,seval,bA]|((with_reducible refine ⟨z.cI.lay _ _,?_⟩);(intro _ h' zz x _);(simp only [bK,bu] at x);replace q4:=q4.over x;(replace z:=zz);(clear zz);rw [aq h']))
   rw [xx]
   replace q4:ak _ A (.row (bl (i3 l1 k (k+1))) 28 false):=q4
   (rw [fI];with_reducible refine cR (m:=_) ?_ ⟨k+1,i3 l1 k (k+1),_,rfl,z,⟨rfl,by omega,by omega,f3.trans (Mv.swap (by omega) (by omega) (by omega) (zzE (by omega) (zv6 h2 g3 DV f1 (by omega) f4))),zv5 f4 f1 (by omega),q4⟩,bw⟩;omega)
  obtain ⟨e1,e2,e3,e4⟩:=MH i j (by omega)
  repeat' (simp only [aa,seval,bA,e1])
  rw [vV rfl rfl rfl (J0 _) rfl,e2]
  simp only [aa,seval,bA]
  rw [JR (by decide),e4]
  simp only [aa,seval,bA]
  rw [vV rfl rfl rfl (J1 _) rfl,e3]
  repeat' (simp only [aa,seval,bA])
  have tq:i<=(i+j) / 2/\(i+j) / 2 < j:=by omega
  have zh:IntKind.i64.wrap ((((i+j) / 2:Nat):Int)+1)=(((i+j) / 2+1:Nat):Int):=by rw [ez (by omega) (by omega)];omega
  generalize (i+j) / 2=y at tq zh ⊢
  have aT:(0:Int)<=(y:Int)/\(y:Int) < (l.length:Int):=by omega
  have eL:(0:Int)<=(a:Int)/\(a:Int) < (l.length:Int):=by omega
  have iE:=λ(bs:List bc) (w:Nat)=>lK (bs:=bs) (w:=w) q (jO (l:=l) (i:=y) (by omega))
  have ef:=λ(bs:List bc) (w:Nat)=>lK (bs:=bs) (w:=w) q (jO (l:=l) (i:=a) (by omega))
  refine (dO (by simp only [bA])) z.aw ?_
  repeat' (simp only [aa,seval,bA,aT,eL,↓iE,↓ef,dt])
  refine Kf _ _ (rW aW (by omega)) (rW aW (by omega)) _ _ (λh' x=>?_)
  (((with_reducible refine fC ?_ ?_ ?_);(· exact (by (simp only [fT]);have:=z.size;omega));(· exact x));replace z:=z.ao x;replace q:=q.over x;rw [aq h'])
  simp only [aa,seval,bA]
  refine b9 (λhc=>?_) (λhc=>?_)
  .repeat' (first|simp only [aa,seval,bA]|((with_reducible refine ⟨z.cI.lay _ _,?_⟩);(intro _ h' zz x _);( simp only [bK,bu] at x );( replace q:=q.over x );(replace z:=zz);(clear zz);rw [aq h']))
   rw [zh]
   (rw [aY];with_reducible refine cR (m:=_) ?_ ⟨y+1,j,_,rfl,z,⟨rfl,by omega,by omega,by omega,.inr (by rw [zW];exact hc),g5,q⟩,bw⟩;omega)
  .repeat' (first|simp only [aa,seval,bA]|((with_reducible refine ⟨z.cI.lay _ _,?_⟩);(intro _ h' zz x _);( simp only [bK,bu] at x );( replace q:=q.over x );(replace z:=zz);(clear zz);rw [aq h']))
   (rw [aY];with_reducible refine cR (m:=_) ?_ ⟨i,y,_,rfl,z,⟨rfl,by omega,by omega,by omega,g4,.inr hc,q⟩,bw⟩;omega)
 simp only [aa,seval,bA,jL]
 refine pK (λHl=>?_) (λHl=>?_)
 .-- Am.one element behind
  simp only [aa,seval,bA]
  obtain ⟨I3,rQ⟩:∃ I:Nat->Env->Heap->Prop,I=(λn e h'=>∃ (i j:Nat) (h1:Heap),h'=h1.lay [] h1.low/\Ext h h1/\(n=j - i/\a<=i/\i<=j/\j<=m/\(i=a\/¬ aZ (l.getD m ah) (l.getD (i - 1) ah) < 0)/\(j=m\/aZ (l.getD m ah) (l.getD j ah) < 0)/\ak h1 A (.row (bl l) 28 false))/\∃ J:Nat->ai,e=(.slice (some ⟨A,0,none⟩) l.length c::.int .i64 a::.int .i64 m::.int .i64 b::.func (.func 53) ⟨[]⟩ ⟨[]⟩::jr J 5 9 (.int .i64 i::.int .i64 j::jr J 16 204 ([])))):=⟨_,rfl⟩
  refine dV I3 _ (by rw [rQ];exact ⟨a,m,_,rfl,z,⟨rfl,by omega,by omega,by omega,.inl rfl,.inl rfl,q⟩,bw⟩) ?_
  intro n e h' aT
  rw [rQ] at aT
  obtain ⟨i,j,bW,rfl,z,hinv,J,rfl⟩:=aT
  clear q
  obtain ⟨rfl,g1,g2,g3,g4,g5,q⟩:=hinv
  simp only [aa,seval,bA]
  refine b9 (λej=>?_) (λej=>?_)
  rotate_left
  .have Bw:i=j:=by omega
   subst Bw
   have DV:=g4
   have vx:=g5
   have Qi:b=m+1:=by omega
   subst Qi
   simp only [aa,seval,bA]
   obtain ⟨I4,PV⟩:∃ I:Nat->Env->Heap->Prop,I=(λn e h'=>∃ (k:Nat) (l1:aU) (h1:Heap),h'=h1.lay [] h1.low/\Ext h h1/\(n=k - i/\i<=k/\k<=m/\Mv l l1 a (m+1)/\J9 l l1 m k/\ak h1 A (.row (bl l1) 28 false))/\∃ J:Nat->ai,e=(.slice (some ⟨A,0,none⟩) l.length c::jr J 1 13 (.int .i64 i::jr J 15 2 (.int .i64 k::jr J 18 202 ([]))))):=⟨_,rfl⟩
   refine dV I4 _ (by rw [PV];exact ⟨m,l,_,rfl,z,⟨rfl,by omega,by omega,Mv.refl l a _,znk l m,q⟩,bw⟩) ?_
   intro n e h' aT
   rw [PV] at aT
   obtain ⟨k,l1,cK,rfl,z,hinv,J,rfl⟩:=aT
   clear q
   obtain ⟨rfl,f1,f2,f3,f4,q⟩:=hinv
   have ky:=f3.perm.length_eq
   simp only [aa,seval,bA]
   refine b9 (λqX=>?_) (λqX=>?_)
   rotate_left
   .have Bx:k=i:=by omega
    subst Bx
    repeat' (simp only [aa,seval,bA])
    exact hk _ _ z.aw (q.on _ _) f3 (zwN h1 (by omega) (by omega) DV vx f4)
   have xx:IntKind.i64.wrap ((k:Int) - 1)=((k - 1:Nat):Int):=by rw [ez (by omega) (by omega)];omega
   have aT:(0:Int)<=(k:Int)/\(k:Int) < (l.length:Int):=by omega
   have eL:(0:Int)<=((k - 1:Nat):Int)/\((k - 1:Nat):Int) < (l.length:Int):=by omega
   have iE:=λ(bs:List bc) (w:Nat)=>lK (bs:=bs) (w:=w) q (jO (l:=l1) (i:=k) (by omega))
   have ef:=λ(bs:List bc) (w:Nat)=>lK (bs:=bs) (w:=w) q (jO (l:=l1) (i:=k - 1) (by omega))
   simp only [aa,seval,bA]
   refine (dO (by simp only [bA])) z.aw ?_
   repeat' (simp only [aa,seval,bA,xx,aT,eL,↓iE,↓ef,dt])
   have hz:=z.size
   refine xT q cw (by omega) (λh3 q3 c3=>?_)
   refine gR (A:=A) (by kernel_rfl) (by rw [bo];omega) (by omega) (by simpa only [bK,bo,bu,dB,cW,gw] using c3) ?_
   replace z:=(z.iG [] (cK.size+0) (by omega)).step c3 hA
   rw [aq h3]
   clear q iE ef
   repeat' (simp only [aa,seval,bA,eL])
   refine xT q3 cw (by rw [ij];omega) (λh4 q4 c4=>?_)
   have hz:=z.size
   refine gR (A:=A) (by kernel_rfl) (by rw [bo];omega) (by omega) (by simpa only [bK,bo,bu,dB,cW,gw] using c4) ?_
   replace z:=(z.iG [] (h3.size+0) (by omega)).step c4 hA
   rw [aq h4]
   clear q3
   repeat' (first|simp only [aa,seval,bA]|((with_reducible refine ⟨z.cI.lay _ _,?_⟩);(intro _ h' zz x _);(simp only [bK,bu] at x);replace q4:=q4.over x;(replace z:=zz);(clear zz);rw [aq h']))
   rw [xx]
   replace q4:ak _ A (.row (bl (i3 l1 k (k - 1))) 28 false):=q4
   (rw [PV];with_reducible refine cR (m:=_) ?_ ⟨k - 1,i3 l1 k (k - 1),_,rfl,z,⟨rfl,by omega,by omega,f3.trans (Mv.swap (by omega) (by omega) (by omega) (zoj (by omega) (by omega) (zpi h1 g1 vx (by omega) f2 f4))),zph f4 (by omega) f2 (by omega),q4⟩,bw⟩;omega)
  obtain ⟨e1,e2,e3,e4⟩:=MH i j (by omega)
  repeat' (simp only [aa,seval,bA,e1])
  rw [vV rfl rfl rfl (J0 _) rfl,e2]
  simp only [aa,seval,bA]
  rw [JR (by decide),e4]
  simp only [aa,seval,bA]
  rw [vV rfl rfl rfl (J1 _) rfl,e3]
  repeat' (simp only [aa,seval,bA])
  have tq:i<=(i+j) / 2/\(i+j) / 2 < j:=by omega
  have zh:IntKind.i64.wrap ((((i+j) / 2:Nat):Int)+1)=(((i+j) / 2+1:Nat):Int):=by rw [ez (by omega) (by omega)];omega
  generalize (i+j) / 2=y at tq zh ⊢
  have aT:(0:Int)<=(y:Int)/\(y:Int) < (l.length:Int):=by omega
  have eL:(0:Int)<=(m:Int)/\(m:Int) < (l.length:Int):=by omega
  have iE:=λ(bs:List bc) (w:Nat)=>lK (bs:=bs) (w:=w) q (jO (l:=l) (i:=y) (by omega))
  have ef:=λ(bs:List bc) (w:Nat)=>lK (bs:=bs) (w:=w) q (jO (l:=l) (i:=m) (by omega))
  refine (dO (by simp only [bA])) z.aw ?_
  repeat' (simp only [aa,seval,bA,aT,eL,↓iE,↓ef,dt])
  refine Kf _ _ (rW aW (by omega)) (rW aW (by omega)) _ _ (λh' x=>?_)
  (((with_reducible refine fC ?_ ?_ ?_);(· exact (by (simp only [fT]);have:=z.size;omega));(· exact x));replace z:=z.ao x;replace q:=q.over x;rw [aq h'])
  simp only [aa,seval,bA]
  refine b9 (λhc=>?_) (λhc=>?_)
  .repeat' (first|simp only [aa,seval,bA]|((with_reducible apply cn);(· rfl))|((with_reducible refine ⟨z.cI.lay _ _,?_⟩);(intro _ h' zz x _);( simp only [bK,bu] at x );( replace q:=q.over x );(replace z:=zz);(clear zz);rw [aq h']))
   (rw [rQ];with_reducible refine cR (m:=_) ?_ ⟨i,y,_,rfl,z,⟨rfl,by omega,by omega,by omega,g4,.inr hc,q⟩,bw⟩;omega)
  .repeat' (first|simp only [aa,seval,bA]|((with_reducible apply cn);(· rfl))|((with_reducible refine ⟨z.cI.lay _ _,?_⟩);(intro _ h' zz x _);( simp only [bK,bu] at x );( replace q:=q.over x );(replace z:=zz);(clear zz);rw [aq h']))
   rw [zh]
   (rw [rQ];with_reducible refine cR (m:=_) ?_ ⟨y+1,j,_,rfl,z,⟨rfl,by omega,by omega,by omega,.inr (by rw [zW];exact hc),g5,q⟩,bw⟩;omega)
 -- both parts longer
 obtain ⟨e1,e2,e3,e4⟩:=MH a b (by omega)
 repeat' (simp only [aa,seval,bA,e1])
 rw [vV rfl rfl rfl (J0 _) rfl,e2]
 simp only [aa,seval,bA]
 rw [JR (by decide),e4]
 simp only [aa,seval,bA]
 rw [vV rfl rfl rfl (J1 _) rfl,e3]
 have ga:2*((a+b) / 2)<=a+b:=by omega
 have iF:a+b<=2*((a+b) / 2)+1:=by omega
 generalize (a+b) / 2=mid at ga iF ⊢
 have hwn:IntKind.i64.wrap ((mid:Int)+(m:Int))=((mid+m:Nat):Int):=by rw [ez (by omega) (by omega)];omega
 have Xu:IntKind.i64.wrap (((mid+m:Nat):Int) - 1)=((mid+m - 1:Nat):Int):=by rw [ez (by omega) (by omega)];omega
 have rU:mid < m->IntKind.i64.wrap (((mid+m:Nat):Int) - (b:Int))=((mid+m - b:Nat):Int):=λ_=>by rw [ez (by omega) (by omega)];omega
 simp only [aa,seval,bA,hwn]
 refine b9 (λBt=>?_) (λBt=>?_)
 focus
  have rU:=rU (by omega)
  simp only [aa,seval,bA,rU,Xu]
  have nF:=zxw (l:=l) (a:=a) xk (show mid < m by omega)
 rotate_left
 focus
  simp only [aa,seval,bA,Xu]
  have nF:=zxv (l:=l) (b:=b) wJ (show m<=mid by omega)
 all_goals
  obtain ⟨I5,KZ⟩:∃ I:Nat->Env->Heap->Prop,I=(λn e h'=>∃ (s r:Nat) (h1:Heap),h'=h1.lay [] h1.low/\Ext h h1/\(n=r - s/\fG l a m b mid s r/\ak h1 A (.row (bl l) 28 false))/\∃ J:Nat->ai,e=(.slice (some ⟨A,0,none⟩) l.length c::.int .i64 a::.int .i64 m::.int .i64 b::.func (.func 53) ⟨[]⟩ ⟨[]⟩::jr J 5 13 (.int .i64 mid::.int .i64 ((mid+m:Nat):Int)::.int .i64 s::.int .i64 r::.int .i64 ((mid+m - 1:Nat):Int)::jr J 23 197 ([])))):=⟨_,rfl⟩
  refine dV I5 _ (by rw [KZ];exact ⟨_,_,_,rfl,z,⟨rfl,nF,q⟩,bw⟩) ?_
  intro n e h' aT
  rw [KZ] at aT
  obtain ⟨s,r,bW,rfl,z,hinv,J,rfl⟩:=aT
  clear q nF
  obtain ⟨rfl,hinv,q⟩:=hinv
  simp only [aa,seval,bA]
  refine b9 (λlA=>?_) (λlA=>?_)
  rotate_left
  .have tS:s=r:=by have:=hinv.sr;omega
   subst tS
   have sp:=zkY hinv wJ xk ga iF
   obtain ⟨p1,p2,p3,p4,p5,_,_⟩:=sp
   have sp:=zkY hinv wJ xk ga iF
   have hwe:IntKind.i64.wrap (((mid+m:Nat):Int) - (s:Int))=((mid+m - s:Nat):Int):=by rw [ez (by omega) (by omega)];omega
   simp only [aa,seval,H5 (iY (gV 107)) 3 rfl,Ze (gV 108) (gV 109) (gV 110) rfl,Zg (gV 110) rfl]
   rw [ry (gV 119) (gV 120) (gV 121) rfl]
   obtain ⟨R6,WM⟩:∃ R:Env->Heap->Prop,R=(λe h'=>∃ (h1:Heap),h'=h1.lay [] h1.low/\Ext h h1/\(ak h1 A (.row (bl l) 28 false))/\∃ J:Nat->ai,e=(.slice (some ⟨A,0,none⟩) l.length c::.int .i64 a::.int .i64 m::.int .i64 b::.func (.func 53) ⟨[]⟩ ⟨[]⟩::jr J 5 13 (.int .i64 mid::J 19::.int .i64 s::jr J 21 3 (.int .i64 ((mid+m - s:Nat):Int)::jr J 25 195 ([]))))/\True):=⟨_,rfl⟩
   refine Nc R6 ?cut ?rest
   case' rest =>
    intro e h' aT
    rw [WM] at aT
    obtain ⟨cK,rfl,z,hinv,J,rfl,_⟩:=aT
   case cut =>
    simp only [aa,seval,bA,hwe]
    (rw [WM];exact ⟨_,rfl,z,q,Dx (by kernel_rfl) (trivial)⟩)
   case rest =>
   have q:=hinv
   simp only [aa,seval]
   rw [ry (gV 121) (gV 122) (gV 127) rfl]
   obtain ⟨R7,P1⟩:∃ R:Env->Heap->Prop,R=(λe h'=>∃ (l1:aU) (h1:Heap),h'=h1.lay [] h1.low/\Ext h h1/\(Mv l l1 s (mid+m - s)/\zY l l1 s m (mid+m - s)/\ak h1 A (.row (bl l1) 28 false))/\∃ J:Nat->ai,e=(.slice (some ⟨A,0,none⟩) l.length c::.int .i64 a::.int .i64 m::.int .i64 b::.func (.func 53) ⟨[]⟩ ⟨[]⟩::jr J 5 13 (.int .i64 mid::J 19::.int .i64 s::jr J 21 3 (.int .i64 ((mid+m - s:Nat):Int)::jr J 25 195 ([]))))/\True):=⟨_,rfl⟩
   refine Nc R7 ?cut ?rest
   case' rest =>
    intro e h' aT
    rw [P1] at aT
    obtain ⟨l1,sT,rfl,z,hinv,J,rfl,_⟩:=aT
   case cut =>
    repeat' (first|simp only [aa,seval,bA]|((with_reducible apply b9) <;> intro _))
    all_goals first
     |(rw [P1];exact ⟨l,_,rfl,z,⟨Mv.refl _ _ _,zxC (by omega) (by omega) (by omega),q⟩,Dx (by kernel_rfl) (trivial)⟩)
     |(refine zvn l A c s m (mid+m - s) _ h _ z.aw hA (q.on _ _) (by omega) (by omega) (by omega) hn _ (λh' x q1 q9=>?_)
       replace z:=x
       rw [aq h']
       simp only [aa,seval,bA]
       (rw [P1];exact ⟨wi l s m (mid+m - s),_,rfl,z,⟨zxB (λk=>Mq (by omega) k) (by omega) (by omega) q9 (ztm h1 h2 sp (λk=>Mq (by omega) k) (by omega) q9.length_eq),λk=>Mq (by omega) k,q1⟩,Dx (by kernel_rfl) (trivial)⟩))
   case rest =>
   obtain ⟨Lt,t1,q⟩:=hinv
   obtain ⟨SA,Il,XX,LD⟩:=zp8 h1 h2 sp t1
   have W1:=λ(i j:Nat) (g1:a<=i) (g2:i < mid) (g3:mid<=j) (g4:j < b)=>zp7 h1 h2 sp t1 g1 g2 g3 g4
   have ky:=Lt.perm.length_eq
   simp only [aa,seval]
   rw [ry (gV 127) (gV 128) (gV 133) rfl]
   obtain ⟨R8,P2⟩:∃ R:Env->Heap->Prop,R=(λe h'=>∃ (l2:aU) (h1:Heap),h'=h1.lay [] h1.low/\Ext h h1/\(Mv l1 l2 a mid/\fA l2 a mid/\ak h1 A (.row (bl l2) 28 false))/\∃ J:Nat->ai,e=(.slice (some ⟨A,0,none⟩) l.length c::.int .i64 a::.int .i64 m::.int .i64 b::.func (.func 53) ⟨[]⟩ ⟨[]⟩::jr J 5 13 (.int .i64 mid::J 19::.int .i64 s::jr J 21 3 (.int .i64 ((mid+m - s:Nat):Int)::jr J 25 195 ([]))))/\True):=⟨_,rfl⟩
   refine Nc R8 ?cut ?rest
   case' rest =>
    intro e h' aT
    rw [P2] at aT
    obtain ⟨l2,KU,rfl,z,hinv,J,rfl,_⟩:=aT
   case cut =>
    repeat' (first|simp only [aa,seval,bA]|((with_reducible apply b9) <;> intro _))
    all_goals first
     |(rw [P2];exact ⟨l1,_,rfl,z,⟨Mv.refl _ _ _,(by first|(have e:s=mid:=by omega);rw [<- e];exact SA|(have e:a=s:=by omega);rw [e];exact Il),q⟩,Dx (by kernel_rfl) (trivial)⟩)
     |(have key:=ih l1 A c a s mid h (sT.lay [] sT.low) z.aw hA (q.on _ _) (by omega) (by omega) (by omega) (by omega) (by omega) (zG aW Lt.perm) SA Il
       simp only [ky] at key
       refine key _ (λh' l2 x q1 xI LF=>?_)
       replace z:=x
       rw [aq h']
       simp only [aa,seval,bA]
       (rw [P2];exact ⟨l2,_,rfl,z,⟨xI,LF,q1⟩,Dx (by kernel_rfl) (trivial)⟩))
   case rest =>
   obtain ⟨xI,LF,q⟩:=hinv
   have lZ:=xI.perm.length_eq
   have XY:=LR XX (λk g1 g2=>xI.out k (.inr g1))
   have XZ:=LR LD (λk g1 g2=>xI.out k (.inr (by omega)))
   have XE:=(Lt.uD p1 p5).trans (xI.uD (aS _) (show mid<=b by omega))
   repeat' (first|simp only [aa,seval,bA]|((with_reducible apply b9) <;> intro _))
   all_goals first
    |exact hk _ l2 z.aw (q.on _ _) XE (znL W1 xI (Mv.refl l2 mid b) LF (by first|(have e:mid=mid+m - s:=by omega);rw [e];exact XZ|(have e:mid+m - s=b:=by omega);rw [<- e];exact XY))
    |(have key:=ih l2 A c mid (mid+m - s) b h (KU.lay [] KU.low) z.aw hA (q.on _ _) (by omega) (by omega) (by omega) (by omega) (by omega) (zG (zG aW Lt.perm) xI.perm) XY XZ
      simp only [lZ,ky] at key
      refine key _ (λh' l3 x q1 XD so8=>?_)
      rw [aq h']
      repeat' (simp only [aa,seval,bA])
      exact hk _ l3 x.aw (q1.on _ _) (XE.trans (XD.uD (show a<=mid by omega) (aS _))) (znL W1 xI XD LF so8))
  have Lk:r<=l.length:=by
   rcases ln mid m with g|g
   .have:=hinv.D5 g;omega
   .have:=hinv.D4 g;omega
  obtain ⟨e1,e2,e3,e4⟩:=MH s r (by omega)
  repeat' (simp only [aa,seval,bA,e1])
  rw [vV rfl rfl rfl (J0 _) rfl,e2]
  simp only [aa,seval,bA]
  rw [JR (by decide),e4]
  simp only [aa,seval,bA]
  rw [vV rfl rfl rfl (J1 _) rfl,e3]
  repeat' (simp only [aa,seval,bA])
  have tq:s<=(s+r) / 2/\(s+r) / 2 < r:=by omega
  have zh:IntKind.i64.wrap ((((s+r) / 2:Nat):Int)+1)=(((s+r) / 2+1:Nat):Int):=by rw [ez (by omega) (by omega)];omega
  generalize (s+r) / 2=y at tq zh ⊢
  have hix:=zvP hinv tq.1 tq.2 wJ xk ga iF
  have RU:IntKind.i64.wrap (((mid+m - 1:Nat):Int) - (y:Int))=((mid+m - 1 - y:Nat):Int):=by rw [ez (by omega) (by omega)];omega
  have aT:(0:Int)<=(y:Int)/\(y:Int) < (l.length:Int):=by omega
  have eL:(0:Int)<=((mid+m - 1 - y:Nat):Int)/\((mid+m - 1 - y:Nat):Int) < (l.length:Int):=by omega
  have iE:=λ(bs:List bc) (w:Nat)=>lK (bs:=bs) (w:=w) q (jO (l:=l) (i:=y) (by omega))
  have ef:=λ(bs:List bc) (w:Nat)=>lK (bs:=bs) (w:=w) q (jO (l:=l) (i:=mid+m - 1 - y) (by omega))
  refine (dO (by simp only [bA])) z.aw ?_
  repeat' (simp only [aa,seval,bA,RU,aT,eL,↓iE,↓ef,dt])
  refine Kf _ _ (rW aW (by omega)) (rW aW (by omega)) _ _ (λh' x=>?_)
  (((with_reducible refine fC ?_ ?_ ?_);(· exact (by (simp only [fT]);have:=z.size;omega));(· exact x));replace z:=z.ao x;replace q:=q.over x;rw [aq h'])
  simp only [aa,seval,bA]
  refine b9 (λhc=>?_) (λhc=>?_)
  .repeat' (first|simp only [aa,seval,bA]|((with_reducible apply cn);(· rfl))|((with_reducible refine ⟨z.cI.lay _ _,?_⟩);(intro _ h' zz x _);( simp only [bK,bu] at x );( replace q:=q.over x );(replace z:=zz);(clear zz);rw [aq h']))
   (rw [KZ];with_reducible refine cR (m:=_) ?_ ⟨s,y,_,rfl,z,⟨rfl,zqg hinv tq.1 tq.2 hc,q⟩,bw⟩;omega)
  .repeat' (first|simp only [aa,seval,bA]|((with_reducible apply cn);(· rfl))|((with_reducible refine ⟨z.cI.lay _ _,?_⟩);(intro _ h' zz x _);( simp only [bK,bu] at x );( replace q:=q.over x );(replace z:=zz);(clear zz);rw [aq h']))
   rw [zh]
   (rw [KZ];with_reducible refine cR (m:=_) ?_ ⟨y+1,r,_,rfl,z,⟨rfl,zvQ hinv tq.1 tq.2 hc,q⟩,bw⟩;omega)
theorem Vf:∀ sz,Vd sz
 |0=>by intro l A c a m b h hs z hA q h1 h2 h3;omega
 |sz+1=>zs2 sz (Vf sz)
theorem zvq (l:aU) (A c:Nat) (h hs:Heap) (z:Ext h hs) (hA:h.size<=A) (q:ak hs A (.row (bl l) 28 false)) (hn:l.length<=100000) (aW:∀ x∈l,x.bE=true) (K:aL)
 (hk:∀ h' l',Ext h h'->ak h' A (.row (bl l') 28 false)->l'.Perm l->dP l l'->fA l' 0 l.length->K undef h'):Ok prog aH ov 86 [.slice (some ⟨A,0,none⟩) l.length c,.int .i64 l.length,.func (.func 53) ⟨[]⟩ ⟨[]⟩] hs K:=by
 rw [aq hs]
 refine Ok.aC 60 (bH Np) ?_
 simp only [aa,seval,mG]
 obtain ⟨I1,aY⟩:∃ I:Nat->Env->Heap->Prop,I=(λn e h'=>∃ (a:Nat) (l1:aU) (h1:Heap),h'=h1.lay [] h1.low/\Ext h h1/\(n=l.length - a/\a % 20=0/\a<=l.length/\l1.Perm l/\dP l l1/\Bl l1 20 l.length a/\ak h1 A (.row (bl l1) 28 false))/\∃ J:Nat->ai,e=(.slice (some ⟨A,0,none⟩) l.length c::.int .i64 l.length::.func (.func 53) ⟨[]⟩ ⟨[]⟩::jr J 3 3 (.int .i64 20::.int .i64 a::.int .i64 (a+20:Nat)::jr J 9 54 ([])))):=⟨_,rfl⟩
 refine dV I1 _ (by rw [aY];exact ⟨0,l,_,rfl,z,⟨rfl,by omega,by omega,List.Perm.refl _,dP.refl _,λk _ hk=>absurd hk (by omega),q⟩,bw⟩) ?_
 intro n e h' aT
 rw [aY] at aT
 obtain ⟨a,l1,bW,rfl,z,hinv,J,rfl⟩:=aT
 clear q
 obtain ⟨rfl,Gw,WU,hp,dh,jh,q⟩:=hinv
 have ky:=hp.length_eq
 have pf:=zG aW hp
 simp only [aa,seval,mG]
 refine b9 (λhle=>?_) (λhle=>?_)
 .have pn:IntKind.i64.wrap (((a+20:Nat):Int)+20)=((a+20+20:Nat):Int):=by rw [ez (by omega) (by omega)];omega
  repeat' (simp only [aa,seval,mG])
  have key:=λK hk=>ZX l1 A c a (a+20) h (bW.lay [] bW.low) z.aw hA (q.on _ _) (by omega) (by omega) (by omega) pf K hk
  simp only [ky] at key
  refine key _ (λh' l' x q' mO ri jl Lj=>?_)
  replace z:=x
  rw [aq h']
  repeat' (simp only [aa,seval,mG,pn])
  (rw [aY];with_reducible refine cR (m:=_) ?_ ⟨a+20,l',_,rfl,z,⟨rfl,by omega,by omega,mO.trans hp,dh.trans ri,Us jh Gw (by rw [show min (a+20) l.length=a+20 by omega];exact jl) (by rw [show min (a+20) l.length=a+20 by omega];exact Lj) _ (by omega),q'⟩,bw⟩;omega)
 repeat' (simp only [aa,seval,mG])
 have key:=λK hk=>ZX l1 A c a l.length h (bW.lay [] bW.low) z.aw hA (q.on _ _) (by omega) (by omega) (by omega) pf K hk
 simp only [ky] at key
 refine key _ (λh' l' x q' mO ri jl Lj=>?_)
 replace z:=x
 replace hp:=mO.trans hp
 replace dh:=dh.trans ri
 replace jh:Bl l' 20 l.length l.length:=Us jh Gw (by rw [show min (a+20) l.length=l.length by omega];exact jl) (by rw [show min (a+20) l.length=l.length by omega];exact Lj) _ (by omega)
 clear key jl Lj mO ri ky pf q
 rw [aq h']
 repeat' (simp only [aa,seval,mG])
 obtain ⟨I2,fI⟩:∃ I:Nat->Env->Heap->Prop,I=(λn e h'=>∃ (w:Nat) (l1:aU) (h1:Heap),h'=h1.lay [] h1.low/\Ext h h1/\(n=l.length - w/\20<=w/\w<=200000/\l1.Perm l/\dP l l1/\Bl l1 w l.length l.length/\ak h1 A (.row (bl l1) 28 false))/\∃ J:Nat->ai,e=(.slice (some ⟨A,0,none⟩) l.length c::.int .i64 l.length::.func (.func 53) ⟨[]⟩ ⟨[]⟩::jr J 3 3 (.int .i64 w::jr J 7 56 ([])))):=⟨_,rfl⟩
 refine dV I2 _ (by rw [fI];exact ⟨20,l',_,rfl,z,⟨rfl,by omega,by omega,hp,dh,jh,q'⟩,bw⟩) ?_
 intro n e h' aT
 rw [fI] at aT
 obtain ⟨w,l1,cK,rfl,z,hinv,J,rfl⟩:=aT
 clear q' jh hp dh
 obtain ⟨rfl,agk,agl,hp,dh,jh,q⟩:=hinv
 simp only [aa,seval,mG]
 refine b9 (λeM=>?_) (λeM=>?_)
 rotate_left
 .repeat' ( simp only [aa,seval,mG])
  exact hk _ _ z.aw (q.on _ _) hp dh (zz2 jh (by omega))
 have iF:IntKind.i64.wrap ((2:Int)*(w:Int))=((2*w:Nat):Int):=by rw [ez (by omega) (by omega)];omega
 repeat' (simp only [aa,seval,mG,iF,MT])
 obtain ⟨I3,rQ⟩:∃ I:Nat->Env->Heap->Prop,I=(λn e h'=>∃ (a b:Nat) (l2:aU) (h1:Heap),h'=h1.lay [] h1.low/\Ext h h1/\(n=l.length - a/\b=a+2*w/\a % (2*w)=0/\a<=l.length/\l2.Perm l/\dP l l2/\Af l2 w l.length a/\ak h1 A (.row (bl l2) 28 false))/\∃ J:Nat->ai,e=(.slice (some ⟨A,0,none⟩) l.length c::.int .i64 l.length::.func (.func 53) ⟨[]⟩ ⟨[]⟩::jr J 3 3 (.int .i64 w::.int .i64 a::.int .i64 b::jr J 9 54 ([])))):=⟨_,rfl⟩
 refine dV I3 _ (by rw [rQ];exact ⟨0,2*w,l1,_,rfl,z,⟨rfl,by omega,Nat.zero_mod _,by omega,hp,dh,zuu jh,q⟩,bw⟩) ?_
 intro n e h' aT
 rw [rQ] at aT
 obtain ⟨a,b,l2,sT,rfl,z,hinv,J,rfl⟩:=aT
 clear q jh hp dh
 obtain ⟨rfl,hb,lT,WU,hp,dh,ti,q⟩:=hinv
 have lZ:=hp.length_eq
 have xh:=zG aW hp
 have WV:IntKind.i64.wrap ((a:Int)+(w:Int))=((a+w:Nat):Int):=by rw [ez (by omega) (by omega)];omega
 simp only [aa,seval,mG]
 refine b9 (λhle=>?_) (λhle=>?_)
 .have hbw:IntKind.i64.wrap ((b:Int)+((2*w:Nat):Int))=((b+2*w:Nat):Int):=by rw [ez (by omega) (by omega)];omega
  have BO:=znf ti (by omega) lT (by omega)
  rw [show min (a+2*w) l.length=b by omega] at BO
  repeat' (simp only [aa,seval,mG,WV])
  have key:=λK hk=>Vf l.length l2 A c a (a+w) b h (sT.lay [] sT.low) z.aw hA (q.on _ _) (by omega) (by omega) (by omega) (by omega) (by omega) xh BO.1 BO.2 K hk
  simp only [lZ] at key
  refine key _ (λh' l' x q' tC jl=>?_)
  replace z:=x
  rw [aq h']
  repeat' (simp only [aa,seval,mG,iF,MT,hbw])
  have nK:=zqR (l':=l') ti (by omega) lT (by rw [show min (a+2*w) l.length=b by omega];exact jl) (by rw [show min (a+2*w) l.length=b by omega];exact tC)
  rw [show min (a+2*w) l.length=b by omega] at nK
  (rw [rQ];with_reducible refine cR (m:=_) ?_ ⟨b,b+2*w,l',_,rfl,z,⟨rfl,by omega,by rw [hb,Nat.add_mod_right];exact lT,by omega,tC.perm.trans hp,dh.trans tC.uA,nK,q'⟩,bw⟩;omega)
 have jL:IntKind.i64.wrap ((w:Int)*(2:Int))=((2*w:Nat):Int):=by rw [ez (by omega) (by omega)];omega
 repeat' (first|simp only [aa,seval,mG,WV]|((with_reducible apply b9) <;> intro _))
 .have BO:=znf ti (by omega) lT (by omega)
  rw [show min (a+2*w) l.length=l.length by omega] at BO
  have key:=λK hk=>Vf l.length l2 A c a (a+w) l.length h (sT.lay [] sT.low) z.aw hA (q.on _ _) (by omega) (by omega) (by omega) (by omega) (by omega) xh BO.1 BO.2 K hk
  simp only [lZ] at key
  refine key _ (λh' l' x q' tC jl=>?_)
  replace z:=x
  rw [aq h']
  repeat' (simp only [aa,seval,mG,jL,MT])
  have nK:=zqR (l':=l') ti (by omega) lT (by rw [show min (a+2*w) l.length=l.length by omega];exact jl) (by rw [show min (a+2*w) l.length=l.length by omega];exact tC)
  rw [show min (a+2*w) l.length=l.length by omega] at nK
  (rw [fI];with_reducible refine cR (m:=_) ?_ ⟨2*w,l',_,rfl,z,⟨rfl,by omega,by omega,tC.perm.trans hp,dh.trans tC.uA,zyW nK (by omega),q'⟩,bw⟩;omega)
 .repeat' ( simp only [aa,seval,mG,jL,MT])
  (rw [fI];with_reducible refine cR (m:=_) ?_ ⟨2*w,l2,_,rfl,z,⟨rfl,by omega,by omega,hp,dh,zyX ti (by omega) lT (by omega),q⟩,bw⟩;omega)
theorem zlZ (l:aU) (A c:Nat) (h hs:Heap) (z:Ext h hs) (hA:h.size<=A) (q:ak hs A (.row (bl l) 28 false)) (hn:l.length<=100000) (aW:∀ x∈l,x.bE=true) (K:aL)
 (hk:∀ h' l',Ext h h'->ak h' A (.row (bl l') 28 false)->l'.Perm l->dP l l'->fA l' 0 l.length->K undef h'):Ok prog aH ov 52 [.slice (some ⟨A,0,none⟩) l.length c,.func (.func 53) ⟨[]⟩ ⟨[]⟩] hs K:=by
 rw [aq hs]
 refine Ok.aC 7 (bH Nl) ?_
 repeat' (simp only [aa,seval,KJ])
 refine zvq l A c h (hs.lay [] hs.low) z.aw hA (q.on _ _) hn aW _ (λh' l' x q' mO ri jl=>?_)
 rw [aq h']
 repeat' (simp only [aa,seval,KJ])
 exact hk _ _ x.aw (q'.on _ _) mO ri jl
theorem zwU {h:Heap} {v:ai} {l:aU} (f:Sl aF.atom h v l):∃ b:Bool,bZ prog aH .eql 23 v (.slice none 0 0)=some (.bool b)/\(b=true->l=[]):=by
 rcases f with ⟨rfl,rfl⟩|⟨A,o,c,row,u,ro,rfl,_⟩
 .exact ⟨true,by kernel_rfl,λ_=>rfl⟩
 .exact ⟨false,by kernel_rfl,nofun⟩
theorem zvf (l:aU) (v:ai) (h:Heap) (hl:Sl aF.atom h v l) (hs:l.length<=100000) (K:aL)
 (hk:∀ h' w,Ext h h'->FQ h h' 28 w l->K w h'):Ok prog aH ov 51 [v] h K:=by
 rw [aq h]
 obtain ⟨b,hb,pg⟩:=zwU hl
 refine Ok.aC 7 (bH Nk) ?_
 simp only [aa,seval,yH,hb]
 cases b
 .simp only [aa,seval,yH,j4,Y9]
  obtain ⟨news,hs,lA⟩:=ym (A:=h.size+1) (r:=aF.atom) (by decide) (hl.lay [.row [] 28 false] h.low) (λcs y hr=>hr)
  have f:Ow aF.atom h (h.lay [.row [] 28 false] h.low) 28 (h.size+1) (.slice (some ⟨h.size+0,0,none⟩) 0 0) [] :=
   .inl ⟨by omega,rfl,.inr ⟨h.size+0,0,rfl,by omega,by rw [bo];simp,[],28,false,by rw [kM];rfl⟩⟩
  obtain ⟨w,h',A',e1,e2,e3,e4,e5⟩:=uS (t:=23) cF xU rfl (by decide) (by rw [bo];omega) f hs lA (by simp only [cW];omega) (by simp only [cW];omega)
  rw [e1]
  simp only [aa,seval,yH]
  exact hk _ _ ((Ext.refl h).bY e3 (by omega) (by omega)) (zvA (by simpa using e2))
 .simp only [aa,seval,yH]
  rw [pg rfl] at hk
  exact hk _ _ ((Ext.refl h).iG _ _ (by omega)) (.inl ⟨rfl,oI.nil⟩)
theorem zvo (a b:ae) (ha:a.bE=true) (hb:b.bE=true) (h:Heap) (K:aL) (hk:∀ h',Ext h h'->K (.bool (aZ a b == 0)) h'):Ok prog aH ov 55 [a.val,b.val] h K:=by
 rw [aq h]
 have z:=Ext.refl h
 refine Ok.aC 7 (bH VJ) ?_
 repeat' (simp only [aa,seval,KK,iB,↓eH,dJ,dt])
 refine Kf a b ha hb _ _ (λh' x=>?_)
 (replace z:=z.ao x;rw [aq h'])
 simp only [aa,seval,KK]
 refine pK (λhc=>?_) (λhc=>?_)
 .repeat' ( simp only [aa,seval,KK])
  rw [show (aZ a b == 0)=true by rw [hc];rfl] at hk
  exact hk _ z.aw
 .repeat' ( simp only [aa,seval,KK])
  rw [show (aZ a b == 0)=false by simpa using hc] at hk
  exact hk _ z.aw
theorem zsS (l:aU) (A:Nat) (h hs:Heap) (z:Ext h hs) (hA:h.size<=A) (q:ak hs A (.row (bl l) 28 false)) (hn:l.length<=100000) (aW:∀ x∈l,x.bE=true) (K:aL)
 (hk:∀ h' v,Ext h h'->im h h' 28 v (mw l l.length)->K v h'):Ok prog aH ov 54 [.slice (some ⟨A,0,none⟩) l.length (G*11+l.length),.func (.func 55) ⟨[]⟩ ⟨[]⟩] hs K:=by
 rw [aq hs]
 obtain ⟨C,hC⟩:∃ C,C=G*11+l.length:=⟨_,rfl⟩
 rw [<- hC]
 refine Ok.aC 64 (bH Nn) ?_
 repeat' (first|simp only [aa,seval,kZ]|((with_reducible apply b9) <;> intro _))
 .have e:=zqn (l:=l) (by omega)
  rw [e] at hk
  exact hk _ _ z.aw (zru (q.on _ _) hA (by omega) hC)
 have Ll:mw l 1=l.take 1:=by
  rw [TR (m:=0) (by omega)]
  rfl
 obtain ⟨I1,aY⟩:∃ I:Nat->Env->Heap->Prop,I=(λn e h'=>∃ (k:Nat) (h1:Heap),h'=h1.lay [] h1.low/\Ext h h1/\(n=l.length - k/\1<=k/\k<=l.length/\mw l k=l.take k/\ak h1 A (.row (bl l) 28 false))/\∃ J:Nat->ai,e=(.slice (some ⟨A,0,none⟩) l.length C::.func (.func 55) ⟨[]⟩ ⟨[]⟩::jr J 2 3 (.int .i64 k::jr J 6 60 ([])))):=⟨_,rfl⟩
 refine dV I1 _ (by rw [aY];exact ⟨1,_,rfl,z,⟨rfl,by omega,by omega,Ll,q⟩,bw⟩) ?_
 intro n e h' aT
 rw [aY] at aT
 obtain ⟨k,bW,rfl,z,hinv,J,rfl⟩:=aT
 clear q
 obtain ⟨rfl,hk1,G5,hu,q⟩:=hinv
 have xx:=fe k (by omega)
 have RR:IntKind.i64.wrap ((k:Int) - 1)=((k - 1:Nat):Int):=by rw [ez (by omega) (by omega)];omega
 simp only [aa,seval,kZ]
 refine b9 (λpf=>?_) (λpf=>?_)
 rotate_left
 .repeat' ( simp only [aa,seval,kZ])
  have xb:k=l.length:=by omega
  subst xb
  rw [hu,List.take_length] at hk
  exact hk _ _ z.aw (zru (q.on _ _) hA (by omega) hC)
 have aT:(0:Int)<=(k:Int)/\(k:Int) < (l.length:Int):=by omega
 have eL:(0:Int)<=((k - 1:Nat):Int)/\((k - 1:Nat):Int) < (l.length:Int):=by omega
 have iE:=λ(bs:List bc) (w:Nat)=>lK (bs:=bs) (w:=w) q (jO (l:=l) (i:=k) (by omega))
 have ef:=λ(bs:List bc) (w:Nat)=>lK (bs:=bs) (w:=w) q (jO (l:=l) (i:=k - 1) (by omega))
 simp only [aa,seval,kZ]
 refine (dO (by simp only [kZ])) z.aw ?_
 repeat' (simp only [aa,seval,kZ,RR,aT,eL,↓iE,↓ef,dt])
 refine zvo _ _ (rW aW (by omega)) (rW aW (by omega)) _ _ (λh' x=>?_)
 (((with_reducible refine fC ?_ ?_ ?_);(· exact (by (simp only [fT]);have:=z.size;omega));(· exact x));replace z:=z.ao x;replace q:=q.over x;rw [aq h'])
 cases hc:(aZ (l.getD k ah) (l.getD (k - 1) ah) == 0)
 .repeat' (first|simp only [aa,seval,kZ]|((with_reducible refine ⟨z.cI.lay _ _,?_⟩);(intro _ h' zz x _);( simp only [bK,bu] at x );( replace q:=q.over x );(replace z:=zz);(clear zz);rw [aq h']))
  rw [xx]
  (rw [aY];with_reducible refine cR (m:=_) ?_ ⟨k+1,_,rfl,z,⟨rfl,by omega,by omega,ztC (by omega) (by omega) hu (by simpa using hc),q⟩,bw⟩;omega)
 have hc:aZ (l.getD k ah) (l.getD (k - 1) ah)=0:=by simpa using hc
 repeat' (first|simp only [aa,seval,kZ]|((with_reducible refine ⟨z.cI.lay _ _,?_⟩);(intro _ h' zz x _);(simp only [bK,bu] at x);replace q:=q.over x;(replace z:=zz);(clear zz);rw [aq h']))
 rw [hC,zn5 cF cw (by omega) (aS _) (by omega),<- hC]
 repeat' (simp only [aa,seval,kZ])
 obtain ⟨C2,WE⟩:∃ C2,C2=G*11+(l.length - k):=⟨_,rfl⟩
 rw [<- WE]
 obtain ⟨I2,fI⟩:∃ I:Nat->Env->Heap->Prop,I=(λn e h'=>∃ (b i:Nat) (cur:aU) (h1:Heap),h'=h1.lay [] h1.low/\Ext h h1/\(n=l.length - (k+b)/\1<=b/\k+b<=l.length/\cur.length=l.length/\i+1<=k+b/\cur.take i=mw l (k+b)/\(∀ p,k+b<=p+1->cur.getD p ah=l.getD p ah)/\ak h1 A (.row (bl cur) 28 false))/\∃ J:Nat->ai,e=(.slice (some ⟨A,0,none⟩) l.length C::.func (.func 55) ⟨[]⟩ ⟨[]⟩::jr J 2 3 (.int .i64 i::.slice (some ⟨A,k*11,none⟩) (l.length - k) C2::.int .i64 b::jr J 8 58 ([])))):=⟨_,rfl⟩
 refine dV I2 _ (by rw [fI];exact ⟨1,k,l,_,rfl,z,⟨rfl,by omega,by omega,rfl,by omega,by rw [zrE (by omega) hc];exact hu.symm,λ_ _=>rfl,q⟩,bw⟩) ?_
 intro n e h' aT
 rw [fI] at aT
 obtain ⟨b,i,cur,cK,rfl,z,hinv,J,rfl⟩:=aT
 clear q
 obtain ⟨rfl,ng,K3,kn,tt,K5,DP,q⟩:=hinv
 have rU:=fe b (by omega)
 have RN:IntKind.i64.wrap ((b:Int) - 1)=((b - 1:Nat):Int):=by rw [ez (by omega) (by omega)];omega
 have jx:=fe i (by omega)
 simp only [aa,seval,kZ]
 refine b9 (λeM=>?_) (λeM=>?_)
 rotate_left
 .have Le:k+b=l.length:=by omega
  have ey:i<=l.length:=by omega
  simp only [aa,seval,kZ]
  rw [hC,zn5 cF cw ey (aS _) (by omega),<- hC]
  obtain ⟨C3,hC3⟩:∃ C3,C3=G*11+(l.length - i):=⟨_,rfl⟩
  rw [<- hC3]
  simp only [aa,seval,kZ,zzM]
  refine zsi q cF xU (by omega) (by omega) (λh3 q3 c3=>?_)
  replace z:=z.bY c3 hA (by omega)
  rw [aq h3]
  clear q
  simp only [aa,seval,kZ]
  rw [hC,zzz cF cw ey (aS _) (by omega),<- hC]
  repeat' (simp only [aa,seval,kZ])
  rw [K5,Le] at q3
  have hlen:i=(mw l l.length).length:=by rw [<- Le,<- K5,hZ];omega
  have G6:(mw l l.length++List.replicate (cur.length - i) ah).length=l.length:=by rw [dx,List.length_replicate];omega
  exact hk _ _ z.aw (zrt (q3.on _ _) hA (by omega) hlen (by rw [G6];exact hC))
 have aT:(0:Int)<=(b:Int)/\(b:Int) < ((l.length - k:Nat):Int):=by omega
 have eL:(0:Int)<=((b - 1:Nat):Int)/\((b - 1:Nat):Int) < ((l.length - k:Nat):Int):=by omega
 have iE:=λ(bs:List bc) (w:Nat)=>lK (bs:=bs) (w:=w) q (jO (l:=cur) (i:=k+b) (by omega))
 have ef:=λ(bs:List bc) (w:Nat)=>lK (bs:=bs) (w:=w) q (jO (l:=cur) (i:=k+(b - 1)) (by omega))
 rw [oH] at iE ef
 rw [DP _ (by omega)] at iE ef
 simp only [aa,seval,kZ]
 refine (dO (by simp only [kZ])) z.aw ?_
 repeat' (simp only [aa,seval,kZ,RN,aT,eL,↓iE,↓ef,dt])
 refine zvo _ _ (rW aW (by omega)) (rW aW (by omega)) _ _ (λh' x=>?_)
 (((with_reducible refine fC ?_ ?_ ?_);(· exact (by (simp only [fT]);have:=z.size;omega));(· exact x));replace z:=z.ao x;replace q:=q.over x;rw [aq h'])
 cases oW:(aZ (l.getD (k+b) ah) (l.getD (k+(b - 1)) ah) == 0)
 rotate_left
 .have oW:aZ (l.getD (k+b) ah) (l.getD (k+b - 1) ah)=0:=by rw [show k+b - 1=k+(b - 1) by omega];simpa using oW
  repeat' (first|simp only [aa,seval,kZ]|((with_reducible apply cn);(· rfl))|((with_reducible refine ⟨z.cI.lay _ _,?_⟩);(intro _ h' zz x _);(simp only [bK,bu] at x);replace q:=q.over x;(replace z:=zz);(clear zz);rw [aq h']))
  rw [rU]
  (rw [fI];with_reducible refine cR (m:=_) ?_ ⟨b+1,i,cur,_,rfl,z,⟨rfl,by omega,by omega,kn,by omega,by rw [K5,show k+(b+1)=k+b+1 by omega,zrE (by omega) oW],λp hp=>DP p (by omega),q⟩,bw⟩;omega)
 have oW:aZ (l.getD (k+b) ah) (l.getD (k+b - 1) ah)≠0:=by rw [show k+b - 1=k+(b - 1) by omega];simpa using oW
 repeat' (first|simp only [aa,seval,kZ]|((with_reducible apply cn);(· rfl))|((with_reducible refine ⟨z.cI.lay _ _,?_⟩);(intro _ h' zz x _);(simp only [bK,bu] at x);replace q:=q.over x;(replace z:=zz);(clear zz);rw [aq h']))
 have iE:=λ(bs:List bc) (w:Nat)=>lK (bs:=bs) (w:=w) q (jO (l:=cur) (i:=k+b) (by omega))
 rw [oH] at iE
 rw [DP _ (by omega)] at iE
 have QG:(0:Int)<=(i:Int)/\(i:Int) < (l.length:Int):=by omega
 repeat' (simp only [aa,seval,kZ,aT,QG,↓iE,dt])
 have hz:=z.size
 refine xT q cw (by omega) (λh3 q3 c3=>?_)
 replace z:=z.bY c3 hA (by omega)
 rw [aq h3]
 clear q iE
 repeat' (simp only [aa,seval,kZ])
 rw [jx,rU]
 have Qm:∀ p,k+(b+1)<=p+1->(cur.set i (l.getD (k+b) ah)).getD p ah=l.getD p ah:=by
  intro p hp
  have aO:i≠p:=by omega
  rw [zlg aO]
  exact DP p (by omega)
 (rw [fI];with_reducible refine cR (m:=_) ?_ ⟨b+1,i+1,cur.set i (l.getD (k+b) ah),_,rfl,z,⟨rfl,by omega,by omega,by rw [ij];exact kn,by omega,by rw [zxx (by omega),K5,show k+(b+1)=k+b+1 by omega,zv3 oW],Qm,q3⟩,bw⟩;omega)
theorem zs1 (v:ai) (h:Heap) (hl:Sl aF.atom h v []) (K:aL) (hk:∀ h',Ext h h'->K undef h'):Ok prog aH ov 52 [v,.func (.func 53) ⟨[]⟩ ⟨[]⟩] h K:=by
 rw [aq h]
 have z:=Ext.refl h
 have DX:=λ(hh:Heap)=>hl.bP cF hh
 simp only [cW] at DX
 have xm:((0:Nat):Int)=0:=rfl
 refine Ok.aC 7 (bH Nl) ?_
 repeat' (simp only [aa,seval,KJ,DX,xm])
 refine Ok.aC 60 (bH Np) ?_
 simp only [aa,seval,mG]
 refine Mz ?_
 simp only [aa,seval,mG]
 refine Ok.aC 49 (bH Ai) ?_
 simp only [aa,seval,fH]
 refine Mz ?_
 simp only [aa,seval,mG,fH]
 refine Mz ?_
 simp only [aa,seval,mG,KJ]
 exact hk _ z.aw
theorem zlV (v:ai) (h:Heap) (hl:Sl aF.atom h v []) (f:ai) (K:aL) (hk:∀ h',Ext h h'->K v h'):Ok prog aH ov 54 [v,f] h K:=by
 rw [aq h]
 have z:=Ext.refl h
 have DX:=λ(hh:Heap)=>hl.bP cF hh
 simp only [cW] at DX
 have xm:((0:Nat):Int)=0:=rfl
 refine Ok.aC 64 (bH Nn) ?_
 simp only [aa,seval,kZ,DX,xm]
 exact hk _ z.aw
theorem znZ (l:aU) (v:ai) (h:Heap) (hl:Sl aF.atom h v l) (hn:l.length<=100000) (aW:∀ x∈l,x.bE=true) (K:aL)
 (hk:∀ h' w,Ext h h'->im h h' 28 w (j8 l)->K w h'):Ok prog aH ov 27 [v] h K:=by
 rw [aq h]
 have z:=Ext.refl h
 refine Ok.aC 9 (bH Vq) ?_
 repeat' (simp only [aa,seval,AA])
 refine zvf l v _ (hl.lay _ _) (by omega) _ (λh' w x ho=>?_)
 rcases ho with ⟨rfl,ho⟩|⟨A,rfl,q,hA,aO⟩
 .have cu:∀ (h:Heap) (K:aL),aK (some w) h K=K w h:=λ_ _=>rfl
  (replace z:=z.ao x;rw [aq h'])
  repeat' (simp only [aa,seval,AA])
  refine zs1 w _ (ho.lay _ _).sl _ (λh' x=>?_)
  replace ho:=ho.over x
  (replace z:=z.ao x;rw [aq h'])
  repeat' (simp only [aa,seval,AA])
  refine zlV w _ (ho.lay _ _).sl _ _ (λh' x=>?_)
  replace ho:=ho.over x
  (replace z:=z.ao x;rw [aq h'])
  repeat' (simp only [aa,seval,AA])
  exact hk _ _ z.aw (.inl ⟨rfl,ho.lay _ _⟩)
 ·(replace z:=z.ao x;rw [aq h'])
  repeat' (simp only [aa,seval,AA])
  refine zlZ l A (G*11+l.length) h _ z.aw hA (q.on _ _) hn aW _ (λh' l' x q' hp dh Rs=>?_)
  replace z:=x
  rw [aq h']
  repeat' (simp only [aa,seval,AA])
  have key:=λK hk=>zsS l' A h (h'.lay [] h'.low) z.aw hA (q'.on _ _) (by rw [hp.length_eq];omega) (zG aW hp) K hk
  rw [ztD hp dh Rs,hp.length_eq] at key
  refine key _ (λh' w x ho=>?_)
  replace z:=x
  have cu:∀ (h:Heap) (K:aL),aK (some w) h K=K w h:=λ_ _=>rfl
  rw [aq h']
  repeat' (simp only [aa,seval,AA])
  exact hk _ _ z.aw (ho.lay _ _)
end Go.Proofs.YtnkmeidmdaidhaaGreatDoor
