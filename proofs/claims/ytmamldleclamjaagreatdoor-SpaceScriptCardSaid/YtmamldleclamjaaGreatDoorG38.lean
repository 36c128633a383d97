/- Walks: sorting in place: Am.one block Written out by fill2.py. No condition. -/
import Derived.Test.YtmamldleclamjaaGreatDoorG24
set_option linter.unusedSimpArgs false
set_option linter.unusedVariables false
set_option maxRecDepth 100000
set_option maxHeartbeats 0
namespace Go.Proofs.YtmamldleclamjaaGreatDoor
open Go.Am Tryz
theorem zh3 (l:aN) (A c a b:Nat) (h hs:Heap) (z:Ext h hs) (hA:h.size<=A) (q:Holds hs A (.row (aQ l) 47 false)) (tS:a<=b) (hb:b<=l.length) (hn:l.length<=100000) (aW:∀ x∈l,x.aY=true) (K:aI)
 (hk:∀ h' l',Ext h h'->Holds h' A (.row (aQ l') 47 false)->l'.Perm l->ff l l'->iw l' a b->G8 l l' a b->K undef h'):Ok prog aG ov 165 [.slice (some ⟨A,0,none⟩) l.length c,.int .i64 a,.int .i64 b,.func (.func 110) ⟨[]⟩ ⟨[]⟩] hs K:=by
 rw [ao hs]
 have hw0:=ei a (by omega)
 refine Ok.aw 49 (bu Ec) ?_
 simp only [aa,seval,iJ]
 rw [hw0]
 obtain ⟨I1,aX⟩:∃ I:Nat->Env->Heap->Prop,I=(λn e h'=>∃ (i:Nat) (l1:aN) (h1:Heap),h'=h1.lay [] h1.low/\Ext h h1/\(n=b - i/\a < i/\(i<=b\/(i=a+1/\l1=l))/\l1.Perm l/\ff l l1/\iw l1 a i/\G8 l l1 a i/\Holds h1 A (.row (aQ l1) 47 false))/\∃ J:Nat->ah,e=(.slice (some ⟨A,0,none⟩) l.length c::.int .i64 a::.int .i64 b::.func (.func 110) ⟨[]⟩ ⟨[]⟩::jr J 4 4 (.int .i64 i::jr J 9 44 ([])))):=⟨_,rfl⟩
 refine du I1 _ (by rw [aX];exact ⟨a+1,l,_,rfl,z,⟨rfl,by omega,.inr ⟨rfl,rfl⟩,List.Perm.refl _,ff.refl _,λk g1 g2=>by omega,λk _=>rfl,q⟩,bm⟩) ?_
 intro n e h' aP
 rw [aX] at aP
 obtain ⟨i,l1,bx,rfl,z,hinv,J,rfl⟩:=aP
 clear q
 obtain ⟨rfl,Rx,RG,CU,F4,F1,FZ,q⟩:=hinv
 have hw:=ei i (by omega)
 simp only [aa,seval,iJ]
 refine bq (λkr=>?_) (λkr=>?_)
 rotate_left
 .simp only [aa,seval,iJ]
  repeat' ((first|((with_reducible first|apply bq|apply qh|apply iS|apply Hk|apply zqT) <;> intro _)|((with_reducible refine ⟨z.cK.lay _ _,?_⟩);(intro _ h' zz x _);(first|simp only [b9,bG] at x|skip);(replace z:=zz);(clear zz);rw [ao h'])) <;> simp only [aa,seval,iJ])
  refine hk _ _ z.aC (q.on _ _) CU F4 (λk g1 g2=>F1 k g1 (by omega)) (λk g=>?_)
  rcases RG with RG|⟨_,rfl⟩
  .exact FZ k (by omega)
  .rfl
 have jt:=CU.length_eq
 have MM:=Dp aW CU
 repeat' (simp only [aa,seval,iJ])
 obtain ⟨I2,fF⟩:∃ I:Nat->Env->Heap->Prop,I=(λn e h'=>∃ (j:Nat) (l2:aN) (h1:Heap),h'=h1.lay [] h1.low/\Ext h h1/\(n=j - a/\a<=j/\j<=i/\l2.Perm l/\ff l l2/\QU l2 a i j/\G8 l l2 a (i+1)/\Holds h1 A (.row (aQ l2) 47 false))/\∃ J:Nat->ah,e=(.slice (some ⟨A,0,none⟩) l.length c::.int .i64 a::.int .i64 b::.func (.func 110) ⟨[]⟩ ⟨[]⟩::jr J 4 4 (.int .i64 i::.int .i64 j::jr J 10 43 ([])))):=⟨_,rfl⟩
 refine du I2 _ (by rw [fF];exact ⟨i,l1,_,rfl,z,⟨rfl,by omega,by omega,CU,F4,zrs F1,λk g=>FZ k (by omega),q⟩,bm⟩) ?_
 intro n e h' aP
 rw [fF] at aP
 obtain ⟨j,l2,zr,rfl,z,hinv,J,rfl⟩:=aP
 clear q CU F4 F1 FZ jt MM
 obtain ⟨rfl,W4,lx,CV,F5,RV,F0,q⟩:=hinv
 have kq:=CV.length_eq
 have jc:=Dp aW CV
 simp only [dx,seval,iJ]
 refine (dL (by simp only [iJ])) z.aC ?_
 simp only [aa,seval,iJ]
 refine bq (λsS=>?_) (λsS=>?_)
 rotate_left
 .repeat' (first|simp only [aa,seval,iJ]|((with_reducible refine ⟨z.cK.lay _ _,?_⟩);(intro _ h' zz x _);( simp only [b9,bG] at x );( replace q:=q.over x );(replace z:=zz);(clear zz);rw [ao h']))
  rw [hw]
  (rw [aX];with_reducible refine cy (m:=_) ?_ ⟨i+1,l2,_,rfl,z,⟨rfl,by omega,.inl (by omega),CV,F5,zpH RV lx (λg=>absurd g (by omega)),F0,q⟩,bm⟩;omega)
 have Nl:IntKind.i64.wrap ((j:Int) - 1)=((j - 1:Nat):Int):=by rw [wrap_i64 (by omega) (by omega)];omega
 have aP:(0:Int)<=(j:Int)/\(j:Int) < (l.length:Int):=by omega
 have gF:(0:Int)<=((j - 1:Nat):Int)/\((j - 1:Nat):Int) < (l.length:Int):=by omega
 have kK:=λ(bs:List ba) (w:Nat)=>oD (bs:=bs) (w:=w) q (jJ (l:=l2) (i:=j) (by omega))
 have fL:=λ(bs:List ba) (w:Nat)=>oD (bs:=bs) (w:=w) q (jJ (l:=l2) (i:=j - 1) (by omega))
 repeat' (simp only [aa,seval,iJ,Nl,aP,gF,↓kK,↓fL,dy])
 refine DB _ _ (rX jc (by omega)) (rX jc (by omega)) _ _ (λh' x=>?_)
 (((with_reducible refine cW ?_ ?_ ?_);(· exact (by (simp only [cV]);have:=z.size;omega));(· exact x));replace z:=z.an x;replace q:=q.over x;rw [ao h'])
 simp only [aa,seval,iJ]
 refine bq (λhc=>?_) (λhc=>?_)
 rotate_left
 .repeat' (first|simp only [aa,seval,iJ]|((with_reducible refine ⟨z.cK.lay _ _,?_⟩);(intro _ h' zz x _);( simp only [b9,bG] at x );( replace q:=q.over x );(replace z:=zz);(clear zz);rw [ao h']))
  rw [hw]
  (rw [aX];with_reducible refine cy (m:=_) ?_ ⟨i+1,l2,_,rfl,z,⟨rfl,by omega,.inl (by omega),CV,F5,zpH RV lx (λ_=>Je hc),F0,q⟩,bm⟩;omega)
 repeat' (first|simp only [aa,seval,iJ]|((with_reducible refine ⟨z.cK.lay _ _,?_⟩);(intro _ h' zz x _);(simp only [b9,bG] at x);replace q:=q.over x;(replace z:=zz);(clear zz);rw [ao h']))
 have kK:=λ(bs:List ba) (w:Nat)=>oD (bs:=bs) (w:=w) q (jJ (l:=l2) (i:=j) (by omega))
 have fL:=λ(bs:List ba) (w:Nat)=>oD (bs:=bs) (w:=w) q (jJ (l:=l2) (i:=j - 1) (by omega))
 refine (dL (by simp only [iJ])) z.aC ?_
 repeat' (simp only [aa,seval,iJ,Nl,aP,gF,↓kK,↓fL,dy])
 refine BT q bN (by omega) (λh3 q3 c3=>?_)
 have hz:=z.size
 refine nM (A:=A) (by kernel_rfl) (by rw [bd];omega) (by omega) (by simpa only [b9,bd,bG,dY,dK,i0] using c3) ?_
 replace z:=(z.lk [] (h'.size+0) (by omega)).step c3 hA
 rw [ao h3]
 clear q kK fL
 repeat' (simp only [aa,seval,iJ,gF])
 refine BT q3 bN (by rw [nB];omega) (λh4 q4 c4=>?_)
 have hz:=z.size
 refine nM (A:=A) (by kernel_rfl) (by rw [bd];omega) (by omega) (by simpa only [b9,bd,bG,dY,dK,i0] using c4) ?_
 replace z:=(z.lk [] (h3.size+0) (by omega)).step c4 hA
 rw [ao h4]
 clear q3
 repeat' (first|simp only [aa,seval,iJ,Nl]|((with_reducible refine ⟨z.cK.lay _ _,?_⟩);(intro _ h' zz x _);(simp only [b9,bG] at x);replace q4:=q4.over x;(replace z:=zz);(clear zz);rw [ao h']))
 replace q4:Holds _ A (.row (aQ (lp l2 j (j - 1))) 47 false):=q4
 (rw [fF];with_reducible refine cy (m:=_) ?_ ⟨j - 1,lp l2 j (j - 1),_,rfl,z,⟨rfl,by omega,by omega,(zhF (by omega) (by omega)).trans CV,F5.trans (zpO (by omega) (by omega) hc),zuR RV (by omega) lx (by omega) hc,zpE F0 (by omega) lx (by omega),q4⟩,bm⟩;omega)
theorem zft (l:aN) (A c a b w:Nat) (fv:ah) (h hs:Heap) (z:Ext h hs) (hA:h.size<=A) (q:Holds hs A (.row (aQ l) 47 false)) (tS:a+w<=b) (hb:b+w<=l.length) (hn:l.length<=100000) (K:aI)
 (hk:∀ h' l',Ext h h'->Holds h' A (.row (aQ l') 47 false)->l'.Perm l->DF l l' a b w->K undef h'):Ok prog aG ov 181 [.slice (some ⟨A,0,none⟩) l.length c,.int .i64 a,.int .i64 b,.int .i64 w,fv] hs K:=by
 rw [ao hs]
 refine Ok.aw 33 (bu KP) ?_
 simp only [aa,seval,qJ]
 obtain ⟨I1,aX⟩:∃ I:Nat->Env->Heap->Prop,I=(λn e h'=>∃ (i:Nat) (l1:aN) (h1:Heap),h'=h1.lay [] h1.low/\Ext h h1/\(n=w - i/\i<=w/\l1.Perm l/\DF l l1 a b i/\Holds h1 A (.row (aQ l1) 47 false))/\∃ J:Nat->ah,e=(.slice (some ⟨A,0,none⟩) l.length c::.int .i64 a::.int .i64 b::.int .i64 w::jr J 4 6 (.int .i64 i::jr J 11 27 ([])))):=⟨_,rfl⟩
 refine du I1 _ (by rw [aX];exact ⟨0,l,_,rfl,z,⟨rfl,by omega,List.Perm.refl _,zrE l a b,q⟩,bm⟩) ?_
 intro n e h' aP
 rw [aX] at aP
 obtain ⟨i,l1,bx,rfl,z,hinv,J,rfl⟩:=aP
 clear q
 obtain ⟨rfl,hi,hp,yv,q⟩:=hinv
 have jt:=hp.length_eq
 have hw:=ei i (by omega)
 simp only [aa,seval,qJ]
 refine bq (λaW=>?_) (λaW=>?_)
 rotate_left
 .repeat' ( simp only [aa,seval,qJ])
  have hiw:i=w:=by omega
  subst hiw
  exact hk _ _ z.aC (q.on _ _) hp yv
 have hwa:IntKind.i64.wrap ((a:Int)+(i:Int))=((a+i:Nat):Int):=by rw [wrap_i64 (by omega) (by omega)];omega
 have C6:IntKind.i64.wrap ((b:Int)+(i:Int))=((b+i:Nat):Int):=by rw [wrap_i64 (by omega) (by omega)];omega
 have aP:(0:Int)<=((a+i:Nat):Int)/\((a+i:Nat):Int) < (l.length:Int):=by omega
 have gF:(0:Int)<=((b+i:Nat):Int)/\((b+i:Nat):Int) < (l.length:Int):=by omega
 have kK:=λ(bs:List ba) (w:Nat)=>oD (bs:=bs) (w:=w) q (jJ (l:=l1) (i:=a+i) (by omega))
 have fL:=λ(bs:List ba) (w:Nat)=>oD (bs:=bs) (w:=w) q (jJ (l:=l1) (i:=b+i) (by omega))
 simp only [aa,seval,qJ]
 refine (dL (by simp only [qJ])) z.aC ?_
 repeat' (simp only [aa,seval,qJ,hwa,C6,aP,gF,↓kK,↓fL,dy])
 have hz:=z.size
 refine BT q bN (by omega) (λh3 q3 c3=>?_)
 refine nM (A:=A) (by kernel_rfl) (by rw [bd];omega) (by omega) (by simpa only [b9,bd,bG,dY,dK,i0] using c3) ?_
 replace z:=(z.lk [] (bx.size+0) (by omega)).step c3 hA
 rw [ao h3]
 clear q kK fL
 repeat' (simp only [aa,seval,qJ,gF])
 refine BT q3 bN (by rw [nB];omega) (λh4 q4 c4=>?_)
 have hz:=z.size
 refine nM (A:=A) (by kernel_rfl) (by rw [bd];omega) (by omega) (by simpa only [b9,bd,bG,dY,dK,i0] using c4) ?_
 replace z:=(z.lk [] (h3.size+0) (by omega)).step c4 hA
 rw [ao h4]
 clear q3
 repeat' (first|simp only [aa,seval,qJ]|((with_reducible refine ⟨z.cK.lay _ _,?_⟩);(intro _ h' zz x _);(simp only [b9,bG] at x);replace q4:=q4.over x;(replace z:=zz);(clear zz);rw [ao h']))
 rw [hw]
 replace q4:Holds _ A (.row (aQ (lp l1 (a+i) (b+i))) 47 false):=q4
 (rw [aX];with_reducible refine cy (m:=_) ?_ ⟨i+1,lp l1 (a+i) (b+i),_,rfl,z,⟨rfl,by omega,(zhF (by omega) (by omega)).trans hp,zrD yv tS (by omega) (by omega),q4⟩,bm⟩;omega)
theorem zxh (l:aN) (A c a m b:Nat) (fv:ah) (h hs:Heap) (z:Ext h hs) (hA:h.size<=A) (q:Holds hs A (.row (aQ l) 47 false)) (AZ:a < m) (Bi:m < b) (hb:b<=l.length) (hn:l.length<=100000) (K:aI)
 (hk:∀ h',Ext h h'->Holds h' A (.row (aQ (An l a m b)) 47 false)->(An l a m b).Perm l->K undef h'):Ok prog aG ov 177 [.slice (some ⟨A,0,none⟩) l.length c,.int .i64 a,.int .i64 m,.int .i64 b,fv] hs K:=by
 rw [ao hs]
 have yx:IntKind.i64.wrap ((m:Int) - (a:Int))=((m - a:Nat):Int):=by rw [wrap_i64 (by omega) (by omega)];omega
 have zM:IntKind.i64.wrap ((b:Int) - (m:Int))=((b - m:Nat):Int):=by rw [wrap_i64 (by omega) (by omega)];omega
 refine Ok.aw 53 (bu KO) ?_
 simp only [aa,seval,pz,yx,zM]
 obtain ⟨I1,aX⟩:∃ I:Nat->Env->Heap->Prop,I=(λn e h'=>∃ (i j:Nat) (l1:aN) (h1:Heap),h'=h1.lay [] h1.low/\Ext h h1/\(n=i+j/\0 < i/\0 < j/\i<=m/\m+j<=l.length/\l1.Perm l/\HH (An l a m b) l1 m i j/\Holds h1 A (.row (aQ l1) 47 false))/\∃ J:Nat->ah,e=(.slice (some ⟨A,0,none⟩) l.length c::J 1::.int .i64 m::J 3::fv::jr J 5 5 (.int .i64 i::.int .i64 j::jr J 12 46 ([])))):=⟨_,rfl⟩
 refine du I1 _ (by rw [aX];exact ⟨m - a,b - m,l,_,rfl,z,⟨rfl,by omega,by omega,by omega,by omega,List.Perm.refl _,zrK (by omega) (by omega) hb,q⟩,bm⟩) ?_
 intro n e h' aP
 rw [aX] at aP
 obtain ⟨i,j,l1,bx,rfl,z,hinv,J,rfl⟩:=aP
 clear q
 obtain ⟨rfl,sU,hj0,vf,ME,hp,Yq,q⟩:=hinv
 have jt:=hp.length_eq
 simp only [aa,seval,pz]
 have Ge:IntKind.i64.wrap ((m:Int) - (i:Int))=((m - i:Nat):Int):=by rw [wrap_i64 (by omega) (by omega)];omega
 refine iS (λaS=>?_) (λheq=>?_)
 rotate_left
 .have dp:i=j:=by omega
  subst dp
  repeat' (simp only [aa,seval,pz,Ge])
  have key:=λK hk=>zft l1 A c (m - i) m i fv h (bx.lay [] bx.low) z.aC hA (q.on _ _) (by omega) (by omega) (by omega) K hk
  simp only [jt] at key
  refine key _ (λh' l' x q' mn lL=>?_)
  have lI:l'=An l a m b:=zmQ (by rw [zie,mn.length_eq,jt]) (λk=>(zye Yq vf lL k).symm)
  subst lI
  rw [ao h']
  repeat' (simp only [aa,seval,pz])
  exact hk _ x.aC (q'.on _ _) (mn.trans hp)
 simp only [aa,seval,pz]
 refine bq (λsS=>?_) (λsS=>?_)
 .repeat' ( simp only [aa,seval,pz,Ge])
  have key:=λK hk=>zft l1 A c (m - i) m j fv h (bx.lay [] bx.low) z.aC hA (q.on _ _) (by omega) (by omega) (by omega) K hk
  simp only [jt] at key
  refine key _ (λh' l' x q' mn lL=>?_)
  replace z:=x
  rw [ao h']
  have YE:IntKind.i64.wrap ((i:Int) - (j:Int))=((i - j:Nat):Int):=by rw [wrap_i64 (by omega) (by omega)];omega
  repeat' (simp only [aa,seval,pz,YE])
  (rw [aX];with_reducible refine cy (m:=_) ?_ ⟨i - j,j,l',_,rfl,z,⟨rfl,by omega,by omega,by omega,by omega,mn.trans hp,zve Yq vf (by omega) lL,q'⟩,bm⟩;omega)
 .have YH:IntKind.i64.wrap ((m:Int)+(j:Int))=((m+j:Nat):Int):=by rw [wrap_i64 (by omega) (by omega)];omega
  have Nn:IntKind.i64.wrap (((m+j:Nat):Int) - (i:Int))=((m+j - i:Nat):Int):=by rw [wrap_i64 (by omega) (by omega)];omega
  repeat' (simp only [aa,seval,pz,Ge,YH,Nn])
  have key:=λK hk=>zft l1 A c (m - i) (m+j - i) i fv h (bx.lay [] bx.low) z.aC hA (q.on _ _) (by omega) (by omega) (by omega) K hk
  simp only [jt] at key
  refine key _ (λh' l' x q' mn lL=>?_)
  replace z:=x
  rw [ao h']
  have YF:IntKind.i64.wrap ((j:Int) - (i:Int))=((j - i:Nat):Int):=by rw [wrap_i64 (by omega) (by omega)];omega
  repeat' (simp only [aa,seval,pz,YF])
  (rw [aX];with_reducible refine cy (m:=_) ?_ ⟨i,j - i,l',_,rfl,z,⟨rfl,by omega,by omega,by omega,by omega,mn.trans hp,zrJ Yq vf (by omega) lL,q'⟩,bm⟩;omega)
def ZE (sz:Nat):Prop:=∀ (l:aN) (A c a m b:Nat) (h hs:Heap),Ext h hs->h.size<=A->Holds hs A (.row (aQ l) 47 false)->a < m->m < b->b - a<=sz->b<=l.length->l.length<=100000->(∀ x∈l,x.aY=true)->iw l a m->iw l m b->∀ (K:aI),
 (∀ h' l',Ext h h'->Holds h' A (.row (aQ l') 47 false)->Mv l l' a b->iw l' a b->K undef h')->Ok prog aG ov 166 [.slice (some ⟨A,0,none⟩) l.length c,.int .i64 a,.int .i64 m,.int .i64 b,.func (.func 110) ⟨[]⟩ ⟨[]⟩] hs K
theorem PX (x y:Nat) (h:x+y<=1000000):IntKind.i64.wrap ((x:Int)+(y:Int))=((x+y:Nat):Int)/\IntKind.u64.wrap ((x+y:Nat):Int)=((x+y:Nat):Int)/\IntKind.i64.wrap (((x+y) / 2:Nat):Int)=(((x+y) / 2:Nat):Int)/\Int.fdiv ((x+y:Nat):Int) (2 ^ (min (1:Int).toNat (IntKind.bits .u64)))=(((x+y) / 2:Nat):Int):=by
 refine ⟨by rw [wrap_i64 (by omega) (by omega)];omega,by unfold IntKind.wrap;simp [IntKind.bits];omega,wrap_i64 (by omega) (by omega),?_⟩
 show Int.fdiv ((x+y:Nat):Int) 2=_
 rw [Int.fdiv_eq_ediv_of_nonneg _ (by omega)]
 omega
theorem zuz (sz:Nat) (ih:ZE sz):ZE (sz+1):=by
 intro l A c a m b h hs z hA q AZ Bi dF hb hn aW h1 h2 K hk
 rw [ao hs]
 have yx:IntKind.i64.wrap ((m:Int) - (a:Int))=((m - a:Nat):Int):=by rw [wrap_i64 (by omega) (by omega)];omega
 have zM:IntKind.i64.wrap ((b:Int) - (m:Int))=((b - m:Nat):Int):=by rw [wrap_i64 (by omega) (by omega)];omega
 have Ih:l[a]? = some (l.getD a ae):=jJ (by omega)
 have Ii:l[m]? = some (l.getD m ae):=jJ (by omega)
 refine Ok.aw 215 (bu jP) ?_
 simp only [aa,seval,bX,yx]
 refine qh (λbt=>?_) (λbt=>?_)
 .-- Am.one element in front
  simp only [aa,seval,bX]
  obtain ⟨I1,aX⟩:∃ I:Nat->Env->Heap->Prop,I=(λn e h'=>∃ (i j:Nat) (h1:Heap),h'=h1.lay [] h1.low/\Ext h h1/\(n=j - i/\m<=i/\i<=j/\j<=b/\(i=m\/aU (l.getD (i - 1) ae) (l.getD a ae) < 0)/\(j=b\/¬ aU (l.getD j ae) (l.getD a ae) < 0)/\Holds h1 A (.row (aQ l) 47 false))/\∃ J:Nat->ah,e=(.slice (some ⟨A,0,none⟩) l.length c::.int .i64 a::.int .i64 m::.int .i64 b::.func (.func 110) ⟨[]⟩ ⟨[]⟩::jr J 5 5 (.int .i64 i::.int .i64 j::jr J 12 208 ([])))):=⟨_,rfl⟩
  refine du I1 _ (by rw [aX];exact ⟨m,b,_,rfl,z,⟨rfl,by omega,by omega,by omega,.inl rfl,.inl rfl,q⟩,bm⟩) ?_
  intro n e h' aP
  rw [aX] at aP
  obtain ⟨i,j,bx,rfl,z,hinv,J,rfl⟩:=aP
  clear q
  obtain ⟨rfl,g1,g2,g3,g4,g5,q⟩:=hinv
  simp only [aa,seval,bX]
  refine bq (λdp=>?_) (λdp=>?_)
  rotate_left
  .have Fz:i=j:=by omega
   subst Fz
   have CN:=g4
   have wB:=g5
   have gk:IntKind.i64.wrap ((i:Int) - 1)=((i - 1:Nat):Int):=by rw [wrap_i64 (by omega) (by omega)];omega
   have W6:m=a+1:=by omega
   subst W6
   simp only [aa,seval,bX]
   obtain ⟨I2,fF⟩:∃ I:Nat->Env->Heap->Prop,I=(λn e h'=>∃ (k:Nat) (l1:aN) (h1:Heap),h'=h1.lay [] h1.low/\Ext h h1/\(n=i - 1 - k/\a<=k/\k<=i - 1/\Mv l l1 a b/\xg l l1 a k/\Holds h1 A (.row (aQ l1) 47 false))/\∃ J:Nat->ah,e=(.slice (some ⟨A,0,none⟩) l.length c::jr J 1 9 (.int .i64 i::jr J 11 2 (.int .i64 k::jr J 14 206 ([]))))):=⟨_,rfl⟩
   refine du I2 _ (by rw [fF];exact ⟨a,l,_,rfl,z,⟨rfl,by omega,by omega,Mv.refl l a b,zvh l a,q⟩,bm⟩) ?_
   intro n e h' aP
   rw [fF] at aP
   obtain ⟨k,l1,zr,rfl,z,hinv,J,rfl⟩:=aP
   clear q
   obtain ⟨rfl,f1,f2,f3,f4,q⟩:=hinv
   have jt:=f3.perm.length_eq
   have qt:=ei k (by omega)
   simp only [aa,seval,bX,gk]
   refine bq (λsX=>?_) (λsX=>?_)
   rotate_left
   .have FB:k=i - 1:=by omega
    subst FB
    repeat' (simp only [aa,seval,bX])
    exact hk _ _ z.aC (q.on _ _) f3 (zBF h2 (by omega) (by omega) CN wB f4)
   have aP:(0:Int)<=(k:Int)/\(k:Int) < (l.length:Int):=by omega
   have gF:(0:Int)<=((k+1:Nat):Int)/\((k+1:Nat):Int) < (l.length:Int):=by omega
   have kK:=λ(bs:List ba) (w:Nat)=>oD (bs:=bs) (w:=w) q (jJ (l:=l1) (i:=k) (by omega))
   have fL:=λ(bs:List ba) (w:Nat)=>oD (bs:=bs) (w:=w) q (jJ (l:=l1) (i:=k+1) (by omega))
   simp only [aa,seval,bX]
   refine (dL (by simp only [bX])) z.aC ?_
   repeat' (simp only [aa,seval,bX,qt,aP,gF,↓kK,↓fL,dy])
   have hz:=z.size
   refine BT q bN (by omega) (λh3 q3 c3=>?_)
   refine nM (A:=A) (by kernel_rfl) (by rw [bd];omega) (by omega) (by simpa only [b9,bd,bG,dY,dK,i0] using c3) ?_
   replace z:=(z.lk [] (zr.size+0) (by omega)).step c3 hA
   rw [ao h3]
   clear q kK fL
   repeat' (simp only [aa,seval,bX,gF])
   refine BT q3 bN (by rw [nB];omega) (λh4 q4 c4=>?_)
   have hz:=z.size
   refine nM (A:=A) (by kernel_rfl) (by rw [bd];omega) (by omega) (by simpa only [b9,bd,bG,dY,dK,i0] using c4) ?_
   replace z:=(z.lk [] (h3.size+0) (by omega)).step c4 hA
   rw [ao h4]
   clear q3
   repeat' (first|simp only [aa,seval,bX]|((with_reducible refine ⟨z.cK.lay _ _,?_⟩);(intro _ h' zz x _);(simp only [b9,bG] at x);replace q4:=q4.over x;(replace z:=zz);(clear zz);rw [ao h']))
   rw [qt]
   replace q4:Holds _ A (.row (aQ (lp l1 k (k+1))) 47 false):=q4
   (rw [fF];with_reducible refine cy (m:=_) ?_ ⟨k+1,lp l1 k (k+1),_,rfl,z,⟨rfl,by omega,by omega,f3.trans (Mv.swap (by omega) (by omega) (by omega) (zCj (by omega) (zyj h2 g3 CN f1 (by omega) f4))),zyi f4 f1 (by omega),q4⟩,bm⟩;omega)
  obtain ⟨e1,e2,e3,e4⟩:=PX i j (by omega)
  repeat' (simp only [aa,seval,bX,e1])
  rw [Ah rfl rfl rfl (Qo _) rfl,e2]
  simp only [aa,seval,bX]
  rw [Qi (by decide),e4]
  simp only [aa,seval,bX]
  rw [Ah rfl rfl rfl (Qp _) rfl,e3]
  repeat' (simp only [aa,seval,bX])
  have u9:i<=(i+j) / 2/\(i+j) / 2 < j:=by omega
  have yy:IntKind.i64.wrap ((((i+j) / 2:Nat):Int)+1)=(((i+j) / 2+1:Nat):Int):=by rw [wrap_i64 (by omega) (by omega)];omega
  generalize (i+j) / 2=y at u9 yy ⊢
  have aP:(0:Int)<=(y:Int)/\(y:Int) < (l.length:Int):=by omega
  have gF:(0:Int)<=(a:Int)/\(a:Int) < (l.length:Int):=by omega
  have kK:=λ(bs:List ba) (w:Nat)=>oD (bs:=bs) (w:=w) q (jJ (l:=l) (i:=y) (by omega))
  have fL:=λ(bs:List ba) (w:Nat)=>oD (bs:=bs) (w:=w) q (jJ (l:=l) (i:=a) (by omega))
  refine (dL (by simp only [bX])) z.aC ?_
  repeat' (simp only [aa,seval,bX,aP,gF,↓kK,↓fL,dy])
  refine DB _ _ (rX aW (by omega)) (rX aW (by omega)) _ _ (λh' x=>?_)
  (((with_reducible refine cW ?_ ?_ ?_);(· exact (by (simp only [cV]);have:=z.size;omega));(· exact x));replace z:=z.an x;replace q:=q.over x;rw [ao h'])
  simp only [aa,seval,bX]
  refine bq (λhc=>?_) (λhc=>?_)
  .repeat' (first|simp only [aa,seval,bX]|((with_reducible refine ⟨z.cK.lay _ _,?_⟩);(intro _ h' zz x _);( simp only [b9,bG] at x );( replace q:=q.over x );(replace z:=zz);(clear zz);rw [ao h']))
   rw [yy]
   (rw [aX];with_reducible refine cy (m:=_) ?_ ⟨y+1,j,_,rfl,z,⟨rfl,by omega,by omega,by omega,.inr (by rw [Cd];exact hc),g5,q⟩,bm⟩;omega)
  .repeat' (first|simp only [aa,seval,bX]|((with_reducible refine ⟨z.cK.lay _ _,?_⟩);(intro _ h' zz x _);( simp only [b9,bG] at x );( replace q:=q.over x );(replace z:=zz);(clear zz);rw [ao h']))
   (rw [aX];with_reducible refine cy (m:=_) ?_ ⟨i,y,_,rfl,z,⟨rfl,by omega,by omega,by omega,g4,.inr hc,q⟩,bm⟩;omega)
 simp only [aa,seval,bX,zM]
 refine qh (λCR=>?_) (λCR=>?_)
 .-- Am.one element behind
  simp only [aa,seval,bX]
  obtain ⟨I3,lE⟩:∃ I:Nat->Env->Heap->Prop,I=(λn e h'=>∃ (i j:Nat) (h1:Heap),h'=h1.lay [] h1.low/\Ext h h1/\(n=j - i/\a<=i/\i<=j/\j<=m/\(i=a\/¬ aU (l.getD m ae) (l.getD (i - 1) ae) < 0)/\(j=m\/aU (l.getD m ae) (l.getD j ae) < 0)/\Holds h1 A (.row (aQ l) 47 false))/\∃ J:Nat->ah,e=(.slice (some ⟨A,0,none⟩) l.length c::.int .i64 a::.int .i64 m::.int .i64 b::.func (.func 110) ⟨[]⟩ ⟨[]⟩::jr J 5 9 (.int .i64 i::.int .i64 j::jr J 16 204 ([])))):=⟨_,rfl⟩
  refine du I3 _ (by rw [lE];exact ⟨a,m,_,rfl,z,⟨rfl,by omega,by omega,by omega,.inl rfl,.inl rfl,q⟩,bm⟩) ?_
  intro n e h' aP
  rw [lE] at aP
  obtain ⟨i,j,bx,rfl,z,hinv,J,rfl⟩:=aP
  clear q
  obtain ⟨rfl,g1,g2,g3,g4,g5,q⟩:=hinv
  simp only [aa,seval,bX]
  refine bq (λdp=>?_) (λdp=>?_)
  rotate_left
  .have Fz:i=j:=by omega
   subst Fz
   have CN:=g4
   have wB:=g5
   have W8:b=m+1:=by omega
   subst W8
   simp only [aa,seval,bX]
   obtain ⟨I4,E1⟩:∃ I:Nat->Env->Heap->Prop,I=(λn e h'=>∃ (k:Nat) (l1:aN) (h1:Heap),h'=h1.lay [] h1.low/\Ext h h1/\(n=k - i/\i<=k/\k<=m/\Mv l l1 a (m+1)/\Qy l l1 m k/\Holds h1 A (.row (aQ l1) 47 false))/\∃ J:Nat->ah,e=(.slice (some ⟨A,0,none⟩) l.length c::jr J 1 13 (.int .i64 i::jr J 15 2 (.int .i64 k::jr J 18 202 ([]))))):=⟨_,rfl⟩
   refine du I4 _ (by rw [E1];exact ⟨m,l,_,rfl,z,⟨rfl,by omega,by omega,Mv.refl l a _,zov l m,q⟩,bm⟩) ?_
   intro n e h' aP
   rw [E1] at aP
   obtain ⟨k,l1,zr,rfl,z,hinv,J,rfl⟩:=aP
   clear q
   obtain ⟨rfl,f1,f2,f3,f4,q⟩:=hinv
   have jt:=f3.perm.length_eq
   simp only [aa,seval,bX]
   refine bq (λsX=>?_) (λsX=>?_)
   rotate_left
   .have FB:k=i:=by omega
    subst FB
    repeat' (simp only [aa,seval,bX])
    exact hk _ _ z.aC (q.on _ _) f3 (zyX h1 (by omega) (by omega) CN wB f4)
   have qt:IntKind.i64.wrap ((k:Int) - 1)=((k - 1:Nat):Int):=by rw [wrap_i64 (by omega) (by omega)];omega
   have aP:(0:Int)<=(k:Int)/\(k:Int) < (l.length:Int):=by omega
   have gF:(0:Int)<=((k - 1:Nat):Int)/\((k - 1:Nat):Int) < (l.length:Int):=by omega
   have kK:=λ(bs:List ba) (w:Nat)=>oD (bs:=bs) (w:=w) q (jJ (l:=l1) (i:=k) (by omega))
   have fL:=λ(bs:List ba) (w:Nat)=>oD (bs:=bs) (w:=w) q (jJ (l:=l1) (i:=k - 1) (by omega))
   simp only [aa,seval,bX]
   refine (dL (by simp only [bX])) z.aC ?_
   repeat' (simp only [aa,seval,bX,qt,aP,gF,↓kK,↓fL,dy])
   have hz:=z.size
   refine BT q bN (by omega) (λh3 q3 c3=>?_)
   refine nM (A:=A) (by kernel_rfl) (by rw [bd];omega) (by omega) (by simpa only [b9,bd,bG,dY,dK,i0] using c3) ?_
   replace z:=(z.lk [] (zr.size+0) (by omega)).step c3 hA
   rw [ao h3]
   clear q kK fL
   repeat' (simp only [aa,seval,bX,gF])
   refine BT q3 bN (by rw [nB];omega) (λh4 q4 c4=>?_)
   have hz:=z.size
   refine nM (A:=A) (by kernel_rfl) (by rw [bd];omega) (by omega) (by simpa only [b9,bd,bG,dY,dK,i0] using c4) ?_
   replace z:=(z.lk [] (h3.size+0) (by omega)).step c4 hA
   rw [ao h4]
   clear q3
   repeat' (first|simp only [aa,seval,bX]|((with_reducible refine ⟨z.cK.lay _ _,?_⟩);(intro _ h' zz x _);(simp only [b9,bG] at x);replace q4:=q4.over x;(replace z:=zz);(clear zz);rw [ao h']))
   rw [qt]
   replace q4:Holds _ A (.row (aQ (lp l1 k (k - 1))) 47 false):=q4
   (rw [E1];with_reducible refine cy (m:=_) ?_ ⟨k - 1,lp l1 k (k - 1),_,rfl,z,⟨rfl,by omega,by omega,f3.trans (Mv.swap (by omega) (by omega) (by omega) (zpO (by omega) (by omega) (zqJ h1 g1 wB (by omega) f2 f4))),zqI f4 (by omega) f2 (by omega),q4⟩,bm⟩;omega)
  obtain ⟨e1,e2,e3,e4⟩:=PX i j (by omega)
  repeat' (simp only [aa,seval,bX,e1])
  rw [Ah rfl rfl rfl (Qo _) rfl,e2]
  simp only [aa,seval,bX]
  rw [Qi (by decide),e4]
  simp only [aa,seval,bX]
  rw [Ah rfl rfl rfl (Qp _) rfl,e3]
  repeat' (simp only [aa,seval,bX])
  have u9:i<=(i+j) / 2/\(i+j) / 2 < j:=by omega
  have yy:IntKind.i64.wrap ((((i+j) / 2:Nat):Int)+1)=(((i+j) / 2+1:Nat):Int):=by rw [wrap_i64 (by omega) (by omega)];omega
  generalize (i+j) / 2=y at u9 yy ⊢
  have aP:(0:Int)<=(y:Int)/\(y:Int) < (l.length:Int):=by omega
  have gF:(0:Int)<=(m:Int)/\(m:Int) < (l.length:Int):=by omega
  have kK:=λ(bs:List ba) (w:Nat)=>oD (bs:=bs) (w:=w) q (jJ (l:=l) (i:=y) (by omega))
  have fL:=λ(bs:List ba) (w:Nat)=>oD (bs:=bs) (w:=w) q (jJ (l:=l) (i:=m) (by omega))
  refine (dL (by simp only [bX])) z.aC ?_
  repeat' (simp only [aa,seval,bX,aP,gF,↓kK,↓fL,dy])
  refine DB _ _ (rX aW (by omega)) (rX aW (by omega)) _ _ (λh' x=>?_)
  (((with_reducible refine cW ?_ ?_ ?_);(· exact (by (simp only [cV]);have:=z.size;omega));(· exact x));replace z:=z.an x;replace q:=q.over x;rw [ao h'])
  simp only [aa,seval,bX]
  refine bq (λhc=>?_) (λhc=>?_)
  .repeat' (first|simp only [aa,seval,bX]|((with_reducible apply ct);(· rfl))|((with_reducible refine ⟨z.cK.lay _ _,?_⟩);(intro _ h' zz x _);( simp only [b9,bG] at x );( replace q:=q.over x );(replace z:=zz);(clear zz);rw [ao h']))
   (rw [lE];with_reducible refine cy (m:=_) ?_ ⟨i,y,_,rfl,z,⟨rfl,by omega,by omega,by omega,g4,.inr hc,q⟩,bm⟩;omega)
  .repeat' (first|simp only [aa,seval,bX]|((with_reducible apply ct);(· rfl))|((with_reducible refine ⟨z.cK.lay _ _,?_⟩);(intro _ h' zz x _);( simp only [b9,bG] at x );( replace q:=q.over x );(replace z:=zz);(clear zz);rw [ao h']))
   rw [yy]
   (rw [lE];with_reducible refine cy (m:=_) ?_ ⟨y+1,j,_,rfl,z,⟨rfl,by omega,by omega,by omega,.inr (by rw [Cd];exact hc),g5,q⟩,bm⟩;omega)
 -- both parts longer
 obtain ⟨e1,e2,e3,e4⟩:=PX a b (by omega)
 repeat' (simp only [aa,seval,bX,e1])
 rw [Ah rfl rfl rfl (Qo _) rfl,e2]
 simp only [aa,seval,bX]
 rw [Qi (by decide),e4]
 simp only [aa,seval,bX]
 rw [Ah rfl rfl rfl (Qp _) rfl,e3]
 have il:2*((a+b) / 2)<=a+b:=by omega
 have fS:a+b<=2*((a+b) / 2)+1:=by omega
 generalize (a+b) / 2=mid at il fS ⊢
 have RZ:IntKind.i64.wrap ((mid:Int)+(m:Int))=((mid+m:Nat):Int):=by rw [wrap_i64 (by omega) (by omega)];omega
 have hwp:IntKind.i64.wrap (((mid+m:Nat):Int) - 1)=((mid+m - 1:Nat):Int):=by rw [wrap_i64 (by omega) (by omega)];omega
 have C6:mid < m->IntKind.i64.wrap (((mid+m:Nat):Int) - (b:Int))=((mid+m - b:Nat):Int):=λ_=>by rw [wrap_i64 (by omega) (by omega)];omega
 simp only [aa,seval,bX,RZ]
 refine bq (λhgm=>?_) (λhgm=>?_)
 focus
  have C6:=C6 (by omega)
  simp only [aa,seval,bX,C6,hwp]
  have qW:=zzX (l:=l) (a:=a) Bi (show mid < m by omega)
 rotate_left
 focus
  simp only [aa,seval,bX,hwp]
  have qW:=zzW (l:=l) (b:=b) AZ (show m<=mid by omega)
 all_goals
  obtain ⟨I5,Ru⟩:∃ I:Nat->Env->Heap->Prop,I=(λn e h'=>∃ (s r:Nat) (h1:Heap),h'=h1.lay [] h1.low/\Ext h h1/\(n=r - s/\iG l a m b mid s r/\Holds h1 A (.row (aQ l) 47 false))/\∃ J:Nat->ah,e=(.slice (some ⟨A,0,none⟩) l.length c::.int .i64 a::.int .i64 m::.int .i64 b::.func (.func 110) ⟨[]⟩ ⟨[]⟩::jr J 5 13 (.int .i64 mid::.int .i64 ((mid+m:Nat):Int)::.int .i64 s::.int .i64 r::.int .i64 ((mid+m - 1:Nat):Int)::jr J 23 197 ([])))):=⟨_,rfl⟩
  refine du I5 _ (by rw [Ru];exact ⟨_,_,_,rfl,z,⟨rfl,qW,q⟩,bm⟩) ?_
  intro n e h' aP
  rw [Ru] at aP
  obtain ⟨s,r,bx,rfl,z,hinv,J,rfl⟩:=aP
  clear q qW
  obtain ⟨rfl,hinv,q⟩:=hinv
  simp only [aa,seval,bX]
  refine bq (λmI=>?_) (λmI=>?_)
  rotate_left
  .have yu:s=r:=by have:=hinv.sr;omega
   subst yu
   have sp:=zl3 hinv AZ Bi il fS
   obtain ⟨p1,p2,p3,p4,p5,_,_⟩:=sp
   have sp:=zl3 hinv AZ Bi il fS
   have RX:IntKind.i64.wrap (((mid+m:Nat):Int) - (s:Int))=((mid+m - s:Nat):Int):=by rw [wrap_i64 (by omega) (by omega)];omega
   simp only [aa,seval,Nz (en (jP 107)) 3 rfl,zC0 (jP 108) (jP 109) (jP 110) rfl,zC5 (jP 110) rfl]
   rw [BJ (jP 119) (jP 120) (jP 121) rfl]
   obtain ⟨R6,hR6⟩:∃ R:Env->Heap->Prop,R=(λe h'=>∃ (h1:Heap),h'=h1.lay [] h1.low/\Ext h h1/\(Holds h1 A (.row (aQ l) 47 false))/\∃ J:Nat->ah,e=(.slice (some ⟨A,0,none⟩) l.length c::.int .i64 a::.int .i64 m::.int .i64 b::.func (.func 110) ⟨[]⟩ ⟨[]⟩::jr J 5 13 (.int .i64 mid::J 19::.int .i64 s::jr J 21 3 (.int .i64 ((mid+m - s:Nat):Int)::jr J 25 195 ([]))))/\True):=⟨_,rfl⟩
   refine ZF R6 ?cut ?rest
   case' rest =>
    intro e h' aP
    rw [hR6] at aP
    obtain ⟨zr,rfl,z,hinv,J,rfl,_⟩:=aP
   case cut =>
    simp only [aa,seval,bX,RX]
    (rw [hR6];exact ⟨_,rfl,z,q,QW (by kernel_rfl) (trivial)⟩)
   case rest =>
   have q:=hinv
   simp only [aa,seval]
   rw [BJ (jP 121) (jP 122) (jP 127) rfl]
   obtain ⟨R7,WV⟩:∃ R:Env->Heap->Prop,R=(λe h'=>∃ (l1:aN) (h1:Heap),h'=h1.lay [] h1.low/\Ext h h1/\(Mv l l1 s (mid+m - s)/\DR l l1 s m (mid+m - s)/\Holds h1 A (.row (aQ l1) 47 false))/\∃ J:Nat->ah,e=(.slice (some ⟨A,0,none⟩) l.length c::.int .i64 a::.int .i64 m::.int .i64 b::.func (.func 110) ⟨[]⟩ ⟨[]⟩::jr J 5 13 (.int .i64 mid::J 19::.int .i64 s::jr J 21 3 (.int .i64 ((mid+m - s:Nat):Int)::jr J 25 195 ([]))))/\True):=⟨_,rfl⟩
   refine ZF R7 ?cut ?rest
   case' rest =>
    intro e h' aP
    rw [WV] at aP
    obtain ⟨l1,zs,rfl,z,hinv,J,rfl,_⟩:=aP
   case cut =>
    repeat' (first|simp only [aa,seval,bX]|((with_reducible apply bq) <;> intro _))
    all_goals first
     |(rw [WV];exact ⟨l,_,rfl,z,⟨Mv.refl _ _ _,zz4 (by omega) (by omega) (by omega),q⟩,QW (by kernel_rfl) (trivial)⟩)
     |(refine zxh l A c s m (mid+m - s) _ h _ z.aC hA (q.on _ _) (by omega) (by omega) (by omega) hn _ (λh' x q1 CU=>?_)
       replace z:=x
       rw [ao h']
       simp only [aa,seval,bX]
       (rw [WV];exact ⟨An l s m (mid+m - s),_,rfl,z,⟨zz3 (λk=>SX (by omega) k) (by omega) (by omega) CU (zuW h1 h2 sp (λk=>SX (by omega) k) (by omega) CU.length_eq),λk=>SX (by omega) k,q1⟩,QW (by kernel_rfl) (trivial)⟩))
   case rest =>
   obtain ⟨R4,t1,q⟩:=hinv
   obtain ⟨so1,so2,so3,so4⟩:=zrx h1 h2 sp t1
   have hcr:=λ(i j:Nat) (g1:a<=i) (g2:i < mid) (g3:mid<=j) (g4:j < b)=>zrw h1 h2 sp t1 g1 g2 g3 g4
   have jt:=R4.perm.length_eq
   simp only [aa,seval]
   rw [BJ (jP 127) (jP 128) (jP 133) rfl]
   obtain ⟨R8,WW⟩:∃ R:Env->Heap->Prop,R=(λe h'=>∃ (l2:aN) (h1:Heap),h'=h1.lay [] h1.low/\Ext h h1/\(Mv l1 l2 a mid/\iw l2 a mid/\Holds h1 A (.row (aQ l2) 47 false))/\∃ J:Nat->ah,e=(.slice (some ⟨A,0,none⟩) l.length c::.int .i64 a::.int .i64 m::.int .i64 b::.func (.func 110) ⟨[]⟩ ⟨[]⟩::jr J 5 13 (.int .i64 mid::J 19::.int .i64 s::jr J 21 3 (.int .i64 ((mid+m - s:Nat):Int)::jr J 25 195 ([]))))/\True):=⟨_,rfl⟩
   refine ZF R8 ?cut ?rest
   case' rest =>
    intro e h' aP
    rw [WW] at aP
    obtain ⟨l2,Rp,rfl,z,hinv,J,rfl,_⟩:=aP
   case cut =>
    repeat' (first|simp only [aa,seval,bX]|((with_reducible apply bq) <;> intro _))
    all_goals first
     |(rw [WW];exact ⟨l1,_,rfl,z,⟨Mv.refl _ _ _,(by first|(have e:s=mid:=by omega);rw [<- e];exact so1|(have e:a=s:=by omega);rw [e];exact so2),q⟩,QW (by kernel_rfl) (trivial)⟩)
     |(have key:=ih l1 A c a s mid h (zs.lay [] zs.low) z.aC hA (q.on _ _) (by omega) (by omega) (by omega) (by omega) (by omega) (Dp aW R4.perm) so1 so2
       simp only [jt] at key
       refine key _ (λh' l2 x q1 BI Sc=>?_)
       replace z:=x
       rw [ao h']
       simp only [aa,seval,bX]
       (rw [WW];exact ⟨l2,_,rfl,z,⟨BI,Sc,q1⟩,QW (by kernel_rfl) (trivial)⟩))
   case rest =>
   obtain ⟨BI,Sc,q⟩:=hinv
   have kq:=BI.perm.length_eq
   have so6:=Sq so3 (λk g1 g2=>BI.out k (.inr g1))
   have so7:=Sq so4 (λk g1 g2=>BI.out k (.inr (by omega)))
   have mvT:=(R4.yR p1 p5).trans (BI.yR (bo _) (show mid<=b by omega))
   repeat' (first|simp only [aa,seval,bX]|((with_reducible apply bq) <;> intro _))
   all_goals first
    |exact hk _ l2 z.aC (q.on _ _) mvT (zo6 hcr BI (Mv.refl l2 mid b) Sc (by first|(have e:mid=mid+m - s:=by omega);rw [e];exact so7|(have e:mid+m - s=b:=by omega);rw [<- e];exact so6))
    |(have key:=ih l2 A c mid (mid+m - s) b h (Rp.lay [] Rp.low) z.aC hA (q.on _ _) (by omega) (by omega) (by omega) (by omega) (by omega) (Dp (Dp aW R4.perm) BI.perm) so6 so7
      simp only [kq,jt] at key
      refine key _ (λh' l3 x q1 mv3 so8=>?_)
      rw [ao h']
      repeat' (simp only [aa,seval,bX])
      exact hk _ l3 x.aC (q1.on _ _) (mvT.trans (mv3.yR (show a<=mid by omega) (bo _))) (zo6 hcr BI mv3 Sc so8))
  have Ir:r<=l.length:=by
   rcases lB mid m with g|g
   .have:=hinv.Iz g;omega
   .have:=hinv.Iy g;omega
  obtain ⟨e1,e2,e3,e4⟩:=PX s r (by omega)
  repeat' (simp only [aa,seval,bX,e1])
  rw [Ah rfl rfl rfl (Qo _) rfl,e2]
  simp only [aa,seval,bX]
  rw [Qi (by decide),e4]
  simp only [aa,seval,bX]
  rw [Ah rfl rfl rfl (Qp _) rfl,e3]
  repeat' (simp only [aa,seval,bX])
  have u9:s<=(s+r) / 2/\(s+r) / 2 < r:=by omega
  have yy:IntKind.i64.wrap ((((s+r) / 2:Nat):Int)+1)=(((s+r) / 2+1:Nat):Int):=by rw [wrap_i64 (by omega) (by omega)];omega
  generalize (s+r) / 2=y at u9 yy ⊢
  have RH:=zxV hinv u9.1 u9.2 AZ Bi il fS
  have YI:IntKind.i64.wrap (((mid+m - 1:Nat):Int) - (y:Int))=((mid+m - 1 - y:Nat):Int):=by rw [wrap_i64 (by omega) (by omega)];omega
  have aP:(0:Int)<=(y:Int)/\(y:Int) < (l.length:Int):=by omega
  have gF:(0:Int)<=((mid+m - 1 - y:Nat):Int)/\((mid+m - 1 - y:Nat):Int) < (l.length:Int):=by omega
  have kK:=λ(bs:List ba) (w:Nat)=>oD (bs:=bs) (w:=w) q (jJ (l:=l) (i:=y) (by omega))
  have fL:=λ(bs:List ba) (w:Nat)=>oD (bs:=bs) (w:=w) q (jJ (l:=l) (i:=mid+m - 1 - y) (by omega))
  refine (dL (by simp only [bX])) z.aC ?_
  repeat' (simp only [aa,seval,bX,YI,aP,gF,↓kK,↓fL,dy])
  refine DB _ _ (rX aW (by omega)) (rX aW (by omega)) _ _ (λh' x=>?_)
  (((with_reducible refine cW ?_ ?_ ?_);(· exact (by (simp only [cV]);have:=z.size;omega));(· exact x));replace z:=z.an x;replace q:=q.over x;rw [ao h'])
  simp only [aa,seval,bX]
  refine bq (λhc=>?_) (λhc=>?_)
  .repeat' (first|simp only [aa,seval,bX]|((with_reducible apply ct);(· rfl))|((with_reducible refine ⟨z.cK.lay _ _,?_⟩);(intro _ h' zz x _);( simp only [b9,bG] at x );( replace q:=q.over x );(replace z:=zz);(clear zz);rw [ao h']))
   (rw [Ru];with_reducible refine cy (m:=_) ?_ ⟨s,y,_,rfl,z,⟨rfl,zrF hinv u9.1 u9.2 hc,q⟩,bm⟩;omega)
  .repeat' (first|simp only [aa,seval,bX]|((with_reducible apply ct);(· rfl))|((with_reducible refine ⟨z.cK.lay _ _,?_⟩);(intro _ h' zz x _);( simp only [b9,bG] at x );( replace q:=q.over x );(replace z:=zz);(clear zz);rw [ao h']))
   rw [yy]
   (rw [Ru];with_reducible refine cy (m:=_) ?_ ⟨y+1,r,_,rfl,z,⟨rfl,zxW hinv u9.1 u9.2 hc,q⟩,bm⟩;omega)
theorem ZW:∀ sz,ZE sz
 |0=>by intro l A c a m b h hs z hA q h1 h2 h3;omega
 |sz+1=>zuz sz (ZW sz)
theorem zxo (l:aN) (A c:Nat) (h hs:Heap) (z:Ext h hs) (hA:h.size<=A) (q:Holds hs A (.row (aQ l) 47 false)) (hn:l.length<=100000) (aW:∀ x∈l,x.aY=true) (K:aI)
 (hk:∀ h' l',Ext h h'->Holds h' A (.row (aQ l') 47 false)->l'.Perm l->ff l l'->iw l' 0 l.length->K undef h'):Ok prog aG ov 155 [.slice (some ⟨A,0,none⟩) l.length c,.int .i64 l.length,.func (.func 110) ⟨[]⟩ ⟨[]⟩] hs K:=by
 rw [ao hs]
 refine Ok.aw 60 (bu Eb) ?_
 simp only [aa,seval,iI]
 obtain ⟨I1,aX⟩:∃ I:Nat->Env->Heap->Prop,I=(λn e h'=>∃ (a:Nat) (l1:aN) (h1:Heap),h'=h1.lay [] h1.low/\Ext h h1/\(n=l.length - a/\a % 20=0/\a<=l.length/\l1.Perm l/\ff l l1/\Bl l1 20 l.length a/\Holds h1 A (.row (aQ l1) 47 false))/\∃ J:Nat->ah,e=(.slice (some ⟨A,0,none⟩) l.length c::.int .i64 l.length::.func (.func 110) ⟨[]⟩ ⟨[]⟩::jr J 3 3 (.int .i64 20::.int .i64 a::.int .i64 (a+20:Nat)::jr J 9 54 ([])))):=⟨_,rfl⟩
 refine du I1 _ (by rw [aX];exact ⟨0,l,_,rfl,z,⟨rfl,by omega,by omega,List.Perm.refl _,ff.refl _,λk _ hk=>absurd hk (by omega),q⟩,bm⟩) ?_
 intro n e h' aP
 rw [aX] at aP
 obtain ⟨a,l1,bx,rfl,z,hinv,J,rfl⟩:=aP
 clear q
 obtain ⟨rfl,L9,han,hp,eG,wq,q⟩:=hinv
 have jt:=hp.length_eq
 have kr:=Dp aW hp
 simp only [aa,seval,iI]
 refine bq (λhle=>?_) (λhle=>?_)
 .have yx:IntKind.i64.wrap (((a+20:Nat):Int)+20)=((a+20+20:Nat):Int):=by rw [wrap_i64 (by omega) (by omega)];omega
  repeat' (simp only [aa,seval,iI])
  have key:=λK hk=>zh3 l1 A c a (a+20) h (bx.lay [] bx.low) z.aC hA (q.on _ _) (by omega) (by omega) (by omega) kr K hk
  simp only [jt] at key
  refine key _ (λh' l' x q' mn vw lL Il=>?_)
  replace z:=x
  rw [ao h']
  repeat' (simp only [aa,seval,iI,yx])
  (rw [aX];with_reducible refine cy (m:=_) ?_ ⟨a+20,l',_,rfl,z,⟨rfl,by omega,by omega,mn.trans hp,eG.trans vw,zqt wq L9 (by rw [show min (a+20) l.length=a+20 by omega];exact lL) (by rw [show min (a+20) l.length=a+20 by omega];exact Il) _ (by omega),q'⟩,bm⟩;omega)
 repeat' (simp only [aa,seval,iI])
 have key:=λK hk=>zh3 l1 A c a l.length h (bx.lay [] bx.low) z.aC hA (q.on _ _) (by omega) (by omega) (by omega) kr K hk
 simp only [jt] at key
 refine key _ (λh' l' x q' mn vw lL Il=>?_)
 replace z:=x
 replace hp:=mn.trans hp
 replace eG:=eG.trans vw
 replace wq:Bl l' 20 l.length l.length:=zqt wq L9 (by rw [show min (a+20) l.length=l.length by omega];exact lL) (by rw [show min (a+20) l.length=l.length by omega];exact Il) _ (by omega)
 clear key lL Il mn vw jt kr q
 rw [ao h']
 repeat' (simp only [aa,seval,iI])
 obtain ⟨I2,fF⟩:∃ I:Nat->Env->Heap->Prop,I=(λn e h'=>∃ (w:Nat) (l1:aN) (h1:Heap),h'=h1.lay [] h1.low/\Ext h h1/\(n=l.length - w/\20<=w/\w<=200000/\l1.Perm l/\ff l l1/\Bl l1 w l.length l.length/\Holds h1 A (.row (aQ l1) 47 false))/\∃ J:Nat->ah,e=(.slice (some ⟨A,0,none⟩) l.length c::.int .i64 l.length::.func (.func 110) ⟨[]⟩ ⟨[]⟩::jr J 3 3 (.int .i64 w::jr J 7 56 ([])))):=⟨_,rfl⟩
 refine du I2 _ (by rw [fF];exact ⟨20,l',_,rfl,z,⟨rfl,by omega,by omega,hp,eG,wq,q'⟩,bm⟩) ?_
 intro n e h' aP
 rw [fF] at aP
 obtain ⟨w,l1,zr,rfl,z,hinv,J,rfl⟩:=aP
 clear q' wq hp eG
 obtain ⟨rfl,aoa,aob,hp,eG,wq,q⟩:=hinv
 simp only [aa,seval,iI]
 refine bq (λjc=>?_) (λjc=>?_)
 rotate_left
 .repeat' ( simp only [aa,seval,iI])
  exact hk _ _ z.aC (q.on _ _) hp eG (zCT wq (by omega))
 have fS:IntKind.i64.wrap ((2:Int)*(w:Int))=((2*w:Nat):Int):=by rw [wrap_i64 (by omega) (by omega)];omega
 repeat' (simp only [aa,seval,iI,fS,Ty])
 obtain ⟨I3,lE⟩:∃ I:Nat->Env->Heap->Prop,I=(λn e h'=>∃ (a b:Nat) (l2:aN) (h1:Heap),h'=h1.lay [] h1.low/\Ext h h1/\(n=l.length - a/\b=a+2*w/\a % (2*w)=0/\a<=l.length/\l2.Perm l/\ff l l2/\D6 l2 w l.length a/\Holds h1 A (.row (aQ l2) 47 false))/\∃ J:Nat->ah,e=(.slice (some ⟨A,0,none⟩) l.length c::.int .i64 l.length::.func (.func 110) ⟨[]⟩ ⟨[]⟩::jr J 3 3 (.int .i64 w::.int .i64 a::.int .i64 b::jr J 9 54 ([])))):=⟨_,rfl⟩
 refine du I3 _ (by rw [lE];exact ⟨0,2*w,l1,_,rfl,z,⟨rfl,by omega,Nat.zero_mod _,by omega,hp,eG,zv8 wq,q⟩,bm⟩) ?_
 intro n e h' aP
 rw [lE] at aP
 obtain ⟨a,b,l2,zs,rfl,z,hinv,J,rfl⟩:=aP
 clear q wq hp eG
 obtain ⟨rfl,hb,oO,han,hp,eG,Ib,q⟩:=hinv
 have kq:=hp.length_eq
 have FG:=Dp aW hp
 have haw:IntKind.i64.wrap ((a:Int)+(w:Int))=((a+w:Nat):Int):=by rw [wrap_i64 (by omega) (by omega)];omega
 simp only [aa,seval,iI]
 refine bq (λhle=>?_) (λhle=>?_)
 .have hbw:IntKind.i64.wrap ((b:Int)+((2*w:Nat):Int))=((b+2*w:Nat):Int):=by rw [wrap_i64 (by omega) (by omega)];omega
  have FR:=zor Ib (by omega) oO (by omega)
  rw [show min (a+2*w) l.length=b by omega] at FR
  repeat' (simp only [aa,seval,iI,haw])
  have key:=λK hk=>ZW l.length l2 A c a (a+w) b h (zs.lay [] zs.low) z.aC hA (q.on _ _) (by omega) (by omega) (by omega) (by omega) (by omega) FG FR.1 FR.2 K hk
  simp only [kq] at key
  refine key _ (λh' l' x q' wz lL=>?_)
  replace z:=x
  rw [ao h']
  repeat' (simp only [aa,seval,iI,fS,Ty,hbw])
  have qX:=zsa (l':=l') Ib (by omega) oO (by rw [show min (a+2*w) l.length=b by omega];exact lL) (by rw [show min (a+2*w) l.length=b by omega];exact wz)
  rw [show min (a+2*w) l.length=b by omega] at qX
  (rw [lE];with_reducible refine cy (m:=_) ?_ ⟨b,b+2*w,l',_,rfl,z,⟨rfl,by omega,by rw [hb,Nat.add_mod_right];exact oO,by omega,wz.perm.trans hp,eG.trans wz.yO,qX,q'⟩,bm⟩;omega)
 have zM:IntKind.i64.wrap ((w:Int)*(2:Int))=((2*w:Nat):Int):=by rw [wrap_i64 (by omega) (by omega)];omega
 repeat' (first|simp only [aa,seval,iI,haw]|((with_reducible apply bq) <;> intro _))
 .have FR:=zor Ib (by omega) oO (by omega)
  rw [show min (a+2*w) l.length=l.length by omega] at FR
  have key:=λK hk=>ZW l.length l2 A c a (a+w) l.length h (zs.lay [] zs.low) z.aC hA (q.on _ _) (by omega) (by omega) (by omega) (by omega) (by omega) FG FR.1 FR.2 K hk
  simp only [kq] at key
  refine key _ (λh' l' x q' wz lL=>?_)
  replace z:=x
  rw [ao h']
  repeat' (simp only [aa,seval,iI,zM,Ty])
  have qX:=zsa (l':=l') Ib (by omega) oO (by rw [show min (a+2*w) l.length=l.length by omega];exact lL) (by rw [show min (a+2*w) l.length=l.length by omega];exact wz)
  rw [show min (a+2*w) l.length=l.length by omega] at qX
  (rw [fF];with_reducible refine cy (m:=_) ?_ ⟨2*w,l',_,rfl,z,⟨rfl,by omega,by omega,wz.perm.trans hp,eG.trans wz.yO,zBp qX (by omega),q'⟩,bm⟩;omega)
 .repeat' ( simp only [aa,seval,iI,zM,Ty])
  (rw [fF];with_reducible refine cy (m:=_) ?_ ⟨2*w,l2,_,rfl,z,⟨rfl,by omega,by omega,hp,eG,zBq Ib (by omega) oO (by omega),q⟩,bm⟩;omega)
theorem znc (l:aN) (A c:Nat) (h hs:Heap) (z:Ext h hs) (hA:h.size<=A) (q:Holds hs A (.row (aQ l) 47 false)) (hn:l.length<=100000) (aW:∀ x∈l,x.aY=true) (K:aI)
 (hk:∀ h' l',Ext h h'->Holds h' A (.row (aQ l') 47 false)->l'.Perm l->ff l l'->iw l' 0 l.length->K undef h'):Ok prog aG ov 137 [.slice (some ⟨A,0,none⟩) l.length c,.func (.func 110) ⟨[]⟩ ⟨[]⟩] hs K:=by
 rw [ao hs]
 refine Ok.aw 7 (bu D7) ?_
 repeat' (simp only [aa,seval,AH])
 refine zxo l A c h (hs.lay [] hs.low) z.aC hA (q.on _ _) hn aW _ (λh' l' x q' mn vw lL=>?_)
 rw [ao h']
 repeat' (simp only [aa,seval,AH])
 exact hk _ _ x.aC (q'.on _ _) mn vw lL
theorem zzd {h:Heap} {v:ah} {l:aN} (f:Sl aK.atom h v l):∃ b:Bool,cm prog aG .eql 51 v (.slice none 0 0)=some (.bool b)/\(b=true->l=[]):=by
 rcases f with ⟨rfl,rfl⟩|⟨A,o,c,row,u,ro,rfl,_⟩
 .exact ⟨true,by kernel_rfl,λ_=>rfl⟩
 .exact ⟨false,by kernel_rfl,nofun⟩
theorem zpb (l:aN) (v:ah) (h:Heap) (hl:Sl aK.atom h v l) (hs:l.length<=100000) (K:aI)
 (hk:∀ h' w,Ext h h'->kN h h' 47 w l->K w h'):Ok prog aG ov 34 [v] h K:=by
 rw [ao h]
 obtain ⟨b,hb,s9⟩:=zzd hl
 refine Ok.aw 7 (bu Ub) ?_
 simp only [aa,seval,Cq,hb]
 cases b
 .simp only [aa,seval,Cq,ly,zi]
  obtain ⟨news,hs,mI⟩:=vT (A:=h.size+1) (r:=aK.atom) (by decide) (hl.lay [.row [] 47 false] h.low) (λcs y hr=>hr)
  have f:Ow aK.atom h (h.lay [.row [] 47 false] h.low) 47 (h.size+1) (.slice (some ⟨h.size+0,0,none⟩) 0 0) [] :=
   .inl ⟨by omega,rfl,.inr ⟨h.size+0,0,rfl,by omega,by rw [bd];simp,[],47,false,by rw [iB];rfl⟩⟩
  obtain ⟨w,h',A',e1,e2,e3,e4,e5⟩:=uy (t:=51) bF r6 rfl (by decide) (by rw [bd];omega) f hs mI (by simp only [dK];omega) (by simp only [dK];omega)
  rw [e1]
  simp only [aa,seval,Cq]
  exact hk _ _ ((Ext.refl h).cw e3 (by omega) (by omega)) (S8 (by simpa using e2))
 .simp only [aa,seval,Cq]
  rw [s9 rfl] at hk
  exact hk _ _ ((Ext.refl h).lk _ _ (by omega)) (.inl ⟨rfl,sx.nil⟩)
theorem zxm (a b:aj) (ha:a.aY=true) (hb:b.aY=true) (h:Heap) (K:aI) (hk:∀ h',Ext h h'->K (.bool (aU a b == 0)) h'):Ok prog aG ov 139 [a.val,b.val] h K:=by
 rw [ao h]
 have z:=Ext.refl h
 refine Ok.aw 7 (bu Kt) ?_
 repeat' (simp only [aa,seval,AJ,gI,↓eP,ef,dy])
 refine DB a b ha hb _ _ (λh' x=>?_)
 (replace z:=z.an x;rw [ao h'])
 simp only [aa,seval,AJ]
 refine qh (λhc=>?_) (λhc=>?_)
 .repeat' ( simp only [aa,seval,AJ])
  rw [show (aU a b == 0)=true by rw [hc];rfl] at hk
  exact hk _ z.aC
 .repeat' ( simp only [aa,seval,AJ])
  rw [show (aU a b == 0)=false by simpa using hc] at hk
  exact hk _ z.aC
theorem zuk (l:aN) (A:Nat) (h hs:Heap) (z:Ext h hs) (hA:h.size<=A) (q:Holds hs A (.row (aQ l) 47 false)) (hn:l.length<=100000) (aW:∀ x∈l,x.aY=true) (K:aI)
 (hk:∀ h' v,Ext h h'->eF h h' 47 v (pf l l.length)->K v h'):Ok prog aG ov 138 [.slice (some ⟨A,0,none⟩) l.length (G*11+l.length),.func (.func 139) ⟨[]⟩ ⟨[]⟩] hs K:=by
 rw [ao hs]
 obtain ⟨C,hC⟩:∃ C,C=G*11+l.length:=⟨_,rfl⟩
 rw [<- hC]
 refine Ok.aw 64 (bu D8) ?_
 repeat' (first|simp only [aa,seval,gE]|((with_reducible apply bq) <;> intro _))
 .have e:=zrM (l:=l) (by omega)
  rw [e] at hk
  exact hk _ _ z.aC (P4 (q.on _ _) hA (by omega) hC)
 have hu1:pf l 1=l.take 1:=by
  rw [zkP (m:=0) (by omega)]
  rfl
 obtain ⟨I1,aX⟩:∃ I:Nat->Env->Heap->Prop,I=(λn e h'=>∃ (k:Nat) (h1:Heap),h'=h1.lay [] h1.low/\Ext h h1/\(n=l.length - k/\1<=k/\k<=l.length/\pf l k=l.take k/\Holds h1 A (.row (aQ l) 47 false))/\∃ J:Nat->ah,e=(.slice (some ⟨A,0,none⟩) l.length C::.func (.func 139) ⟨[]⟩ ⟨[]⟩::jr J 2 3 (.int .i64 k::jr J 6 60 ([])))):=⟨_,rfl⟩
 refine du I1 _ (by rw [aX];exact ⟨1,_,rfl,z,⟨rfl,by omega,by omega,hu1,q⟩,bm⟩) ?_
 intro n e h' aP
 rw [aX] at aP
 obtain ⟨k,bx,rfl,z,hinv,J,rfl⟩:=aP
 clear q
 obtain ⟨rfl,xU,RM,hu,q⟩:=hinv
 have qt:=ei k (by omega)
 have YG:IntKind.i64.wrap ((k:Int) - 1)=((k - 1:Nat):Int):=by rw [wrap_i64 (by omega) (by omega)];omega
 simp only [aa,seval,gE]
 refine bq (λkr=>?_) (λkr=>?_)
 rotate_left
 .repeat' ( simp only [aa,seval,gE])
  have kX:k=l.length:=by omega
  subst kX
  rw [hu,JK] at hk
  exact hk _ _ z.aC (P4 (q.on _ _) hA (by omega) hC)
 have aP:(0:Int)<=(k:Int)/\(k:Int) < (l.length:Int):=by omega
 have gF:(0:Int)<=((k - 1:Nat):Int)/\((k - 1:Nat):Int) < (l.length:Int):=by omega
 have kK:=λ(bs:List ba) (w:Nat)=>oD (bs:=bs) (w:=w) q (jJ (l:=l) (i:=k) (by omega))
 have fL:=λ(bs:List ba) (w:Nat)=>oD (bs:=bs) (w:=w) q (jJ (l:=l) (i:=k - 1) (by omega))
 simp only [aa,seval,gE]
 refine (dL (by simp only [gE])) z.aC ?_
 repeat' (simp only [aa,seval,gE,YG,aP,gF,↓kK,↓fL,dy])
 refine zxm _ _ (rX aW (by omega)) (rX aW (by omega)) _ _ (λh' x=>?_)
 (((with_reducible refine cW ?_ ?_ ?_);(· exact (by (simp only [cV]);have:=z.size;omega));(· exact x));replace z:=z.an x;replace q:=q.over x;rw [ao h'])
 cases hc:(aU (l.getD k ae) (l.getD (k - 1) ae) == 0)
 .repeat' (first|simp only [aa,seval,gE]|((with_reducible refine ⟨z.cK.lay _ _,?_⟩);(intro _ h' zz x _);( simp only [b9,bG] at x );( replace q:=q.over x );(replace z:=zz);(clear zz);rw [ao h']))
  rw [qt]
  (rw [aX];with_reducible refine cy (m:=_) ?_ ⟨k+1,_,rfl,z,⟨rfl,by omega,by omega,zvf (by omega) (by omega) hu (by simpa using hc),q⟩,bm⟩;omega)
 have hc:aU (l.getD k ae) (l.getD (k - 1) ae)=0:=by simpa using hc
 repeat' (first|simp only [aa,seval,gE]|((with_reducible refine ⟨z.cK.lay _ _,?_⟩);(intro _ h' zz x _);(simp only [b9,bG] at x);replace q:=q.over x;(replace z:=zz);(clear zz);rw [ao h']))
 rw [hC,zj6 bF bN (by omega) (bo _) (by omega),<- hC]
 repeat' (simp only [aa,seval,gE])
 obtain ⟨C2,hC2⟩:∃ C2,C2=G*11+(l.length - k):=⟨_,rfl⟩
 rw [<- hC2]
 obtain ⟨I2,fF⟩:∃ I:Nat->Env->Heap->Prop,I=(λn e h'=>∃ (b i:Nat) (cur:aN) (h1:Heap),h'=h1.lay [] h1.low/\Ext h h1/\(n=l.length - (k+b)/\1<=b/\k+b<=l.length/\cur.length=l.length/\i+1<=k+b/\cur.take i=pf l (k+b)/\(∀ p,k+b<=p+1->cur.getD p ae=l.getD p ae)/\Holds h1 A (.row (aQ cur) 47 false))/\∃ J:Nat->ah,e=(.slice (some ⟨A,0,none⟩) l.length C::.func (.func 139) ⟨[]⟩ ⟨[]⟩::jr J 2 3 (.int .i64 i::.slice (some ⟨A,k*11,none⟩) (l.length - k) C2::.int .i64 b::jr J 8 58 ([])))):=⟨_,rfl⟩
 refine du I2 _ (by rw [fF];exact ⟨1,k,l,_,rfl,z,⟨rfl,by omega,by omega,rfl,by omega,by rw [zs6 (by omega) hc];exact hu.symm,λ_ _=>rfl,q⟩,bm⟩) ?_
 intro n e h' aP
 rw [fF] at aP
 obtain ⟨b,i,cur,zr,rfl,z,hinv,J,rfl⟩:=aP
 clear q
 obtain ⟨rfl,CE,tU,A8,vd,RA,CH,q⟩:=hinv
 have C6:=ei b (by omega)
 have YD:IntKind.i64.wrap ((b:Int) - 1)=((b - 1:Nat):Int):=by rw [wrap_i64 (by omega) (by omega)];omega
 have gk:=ei i (by omega)
 simp only [aa,seval,gE]
 refine bq (λjc=>?_) (λjc=>?_)
 rotate_left
 .have hkb:k+b=l.length:=by omega
  have iK:i<=l.length:=by omega
  simp only [aa,seval,gE]
  rw [hC,zj6 bF bN iK (bo _) (by omega),<- hC]
  obtain ⟨C3,hC3⟩:∃ C3,C3=G*11+(l.length - i):=⟨_,rfl⟩
  rw [<- hC3]
  simp only [aa,seval,gE,zyn]
  refine ztG q bF r6 (by omega) (by omega) (λh3 q3 c3=>?_)
  replace z:=z.cw c3 hA (by omega)
  rw [ao h3]
  clear q
  simp only [aa,seval,gE]
  rw [hC,zxt bF bN iK (bo _) (by omega),<- hC]
  repeat' (simp only [aa,seval,gE])
  rw [RA,hkb] at q3
  have hlen:i=(pf l l.length).length:=by rw [<- hkb,<- RA,fw];omega
  have MJ:(pf l l.length++List.replicate (cur.length - i) ae).length=l.length:=by rw [dI,Jm];omega
  exact hk _ _ z.aC (znf (q3.on _ _) hA (by omega) hlen (by rw [MJ];exact hC))
 have aP:(0:Int)<=(b:Int)/\(b:Int) < ((l.length - k:Nat):Int):=by omega
 have gF:(0:Int)<=((b - 1:Nat):Int)/\((b - 1:Nat):Int) < ((l.length - k:Nat):Int):=by omega
 have kK:=λ(bs:List ba) (w:Nat)=>oD (bs:=bs) (w:=w) q (jJ (l:=cur) (i:=k+b) (by omega))
 have fL:=λ(bs:List ba) (w:Nat)=>oD (bs:=bs) (w:=w) q (jJ (l:=cur) (i:=k+(b - 1)) (by omega))
 rw [tH] at kK fL
 rw [CH _ (by omega)] at kK fL
 simp only [aa,seval,gE]
 refine (dL (by simp only [gE])) z.aC ?_
 repeat' (simp only [aa,seval,gE,YD,aP,gF,↓kK,↓fL,dy])
 refine zxm _ _ (rX aW (by omega)) (rX aW (by omega)) _ _ (λh' x=>?_)
 (((with_reducible refine cW ?_ ?_ ?_);(· exact (by (simp only [cV]);have:=z.size;omega));(· exact x));replace z:=z.an x;replace q:=q.over x;rw [ao h'])
 cases lu:(aU (l.getD (k+b) ae) (l.getD (k+(b - 1)) ae) == 0)
 rotate_left
 .have lu:aU (l.getD (k+b) ae) (l.getD (k+b - 1) ae)=0:=by rw [show k+b - 1=k+(b - 1) by omega];simpa using lu
  repeat' (first|simp only [aa,seval,gE]|((with_reducible apply ct);(· rfl))|((with_reducible refine ⟨z.cK.lay _ _,?_⟩);(intro _ h' zz x _);(simp only [b9,bG] at x);replace q:=q.over x;(replace z:=zz);(clear zz);rw [ao h']))
  rw [C6]
  (rw [fF];with_reducible refine cy (m:=_) ?_ ⟨b+1,i,cur,_,rfl,z,⟨rfl,by omega,by omega,A8,by omega,by rw [RA,show k+(b+1)=k+b+1 by omega,zs6 (by omega) lu],λp hp=>CH p (by omega),q⟩,bm⟩;omega)
 have lu:aU (l.getD (k+b) ae) (l.getD (k+b - 1) ae)≠0:=by rw [show k+b - 1=k+(b - 1) by omega];simpa using lu
 repeat' (first|simp only [aa,seval,gE]|((with_reducible apply ct);(· rfl))|((with_reducible refine ⟨z.cK.lay _ _,?_⟩);(intro _ h' zz x _);(simp only [b9,bG] at x);replace q:=q.over x;(replace z:=zz);(clear zz);rw [ao h']))
 have kK:=λ(bs:List ba) (w:Nat)=>oD (bs:=bs) (w:=w) q (jJ (l:=cur) (i:=k+b) (by omega))
 rw [tH] at kK
 rw [CH _ (by omega)] at kK
 have XH:(0:Int)<=(i:Int)/\(i:Int) < (l.length:Int):=by omega
 repeat' (simp only [aa,seval,gE,aP,XH,↓kK,dy])
 have hz:=z.size
 refine BT q bN (by omega) (λh3 q3 c3=>?_)
 replace z:=z.cw c3 hA (by omega)
 rw [ao h3]
 clear q kK
 repeat' (simp only [aa,seval,gE])
 rw [gk,C6]
 have Xa:∀ p,k+(b+1)<=p+1->(cur.set i (l.getD (k+b) ae)).getD p ae=l.getD p ae:=by
  intro p hp
  have aS:i≠p:=by omega
  rw [zmu aS]
  exact CH p (by omega)
 (rw [fF];with_reducible refine cy (m:=_) ?_ ⟨b+1,i+1,cur.set i (l.getD (k+b) ae),_,rfl,z,⟨rfl,by omega,by omega,by rw [nB];exact A8,by omega,by rw [zzZ (by omega),RA,show k+(b+1)=k+b+1 by omega,zyg lu],Xa,q3⟩,bm⟩;omega)
theorem zuy (v:ah) (h:Heap) (hl:Sl aK.atom h v []) (K:aI) (hk:∀ h',Ext h h'->K undef h'):Ok prog aG ov 137 [v,.func (.func 110) ⟨[]⟩ ⟨[]⟩] h K:=by
 rw [ao h]
 have z:=Ext.refl h
 have gv:=λ(hh:Heap)=>hl.bn bF hh
 simp only [dK] at gv
 have vk:((0:Nat):Int)=0:=rfl
 refine Ok.aw 7 (bu D7) ?_
 repeat' (simp only [aa,seval,AH,gv,vk])
 refine Ok.aw 60 (bu Eb) ?_
 simp only [aa,seval,iI]
 refine P6 ?_
 simp only [aa,seval,iI]
 refine Ok.aw 49 (bu Ec) ?_
 simp only [aa,seval,iJ]
 refine P6 ?_
 simp only [aa,seval,iI,iJ]
 refine P6 ?_
 simp only [aa,seval,iI,AH]
 exact hk _ z.aC
theorem zm8 (v:ah) (h:Heap) (hl:Sl aK.atom h v []) (f:ah) (K:aI) (hk:∀ h',Ext h h'->K v h'):Ok prog aG ov 138 [v,f] h K:=by
 rw [ao h]
 have z:=Ext.refl h
 have gv:=λ(hh:Heap)=>hl.bn bF hh
 simp only [dK] at gv
 have vk:((0:Nat):Int)=0:=rfl
 refine Ok.aw 64 (bu D8) ?_
 simp only [aa,seval,gE,gv,vk]
 exact hk _ z.aC
theorem zxn (l:aN) (v:ah) (h:Heap) (hl:Sl aK.atom h v l) (hn:l.length<=100000) (aW:∀ x∈l,x.aY=true) (K:aI)
 (hk:∀ h' w,Ext h h'->eF h h' 47 w (eW l)->K w h'):Ok prog aG ov 108 [v] h K:=by
 rw [ao h]
 have z:=Ext.refl h
 refine Ok.aw 9 (bu J0) ?_
 repeat' (simp only [aa,seval,sE])
 refine zpb l v _ (hl.lay _ _) (by omega) _ (λh' w x ho=>?_)
 rcases ho with ⟨rfl,ho⟩|⟨A,rfl,q,hA,aS⟩
 .have el:∀ (h:Heap) (K:aI),aH (some w) h K=K w h:=λ_ _=>rfl
  (replace z:=z.an x;rw [ao h'])
  repeat' (simp only [aa,seval,sE])
  refine zuy w _ (ho.lay _ _).sl _ (λh' x=>?_)
  replace ho:=ho.over x
  (replace z:=z.an x;rw [ao h'])
  repeat' (simp only [aa,seval,sE])
  refine zm8 w _ (ho.lay _ _).sl _ _ (λh' x=>?_)
  replace ho:=ho.over x
  (replace z:=z.an x;rw [ao h'])
  repeat' (simp only [aa,seval,sE])
  exact hk _ _ z.aC (.inl ⟨rfl,ho.lay _ _⟩)
 ·(replace z:=z.an x;rw [ao h'])
  repeat' (simp only [aa,seval,sE])
  refine znc l A (G*11+l.length) h _ z.aC hA (q.on _ _) hn aW _ (λh' l' x q' hp eG vu=>?_)
  replace z:=x
  rw [ao h']
  repeat' (simp only [aa,seval,sE])
  have key:=λK hk=>zuk l' A h (h'.lay [] h'.low) z.aC hA (q'.on _ _) (by rw [hp.length_eq];omega) (Dp aW hp) K hk
  rw [zvg hp eG vu,hp.length_eq] at key
  refine key _ (λh' w x ho=>?_)
  replace z:=x
  have el:∀ (h:Heap) (K:aI),aH (some w) h K=K w h:=λ_ _=>rfl
  rw [ao h']
  repeat' (simp only [aa,seval,sE])
  exact hk _ _ z.aC (ho.lay _ _)
theorem zFj (l:aN) (v:ah) (h:Heap) (hl:Sl aK.atom h v l) (hn:l.length<=1000) (aW:∀ x∈l,x.aY=true) (K:aI)
 (hk:∀ h',Ext h h'->K (.bool (Iw l)) h'):Ok prog aG ov 107 [v] h K:=by
 rw [ao h]
 have z:=Ext.refl h
 have gv:=λ(hh:Heap)=>hl.bn bF hh
 refine Ok.aw 24 (bu JZ) ?_
 simp only [aa,seval,mf,gv]
 obtain ⟨I1,aX⟩:∃ I:Nat->Env->Heap->Prop,I=(λn e h'=>∃ (i:Nat) (h1:Heap),h'=h1.lay [] h1.low/\Ext h h1/\(n=l.length - i/\i<=l.length/\(∀ k,0 < k->k < i->aU (l.getD (k - 1) ae) (l.getD k ae) < 0))/\∃ J:Nat->ah,e=(v::jr J 1 4 (.int .i64 l.length::.int .i64 i::jr J 7 18 ([])))):=⟨_,rfl⟩
 refine du I1 _ (by rw [aX];exact ⟨0,_,rfl,z,⟨rfl,by omega,λk _ g=>by omega⟩,bm⟩) ?_
 intro n e h' aP
 rw [aX] at aP
 obtain ⟨i,bx,rfl,z,hinv,J,rfl⟩:=aP
 obtain ⟨rfl,aP,mJ⟩:=hinv
 have gk:=ei i (by omega)
 have Gc:0 < i->IntKind.i64.wrap ((i:Int) - 1)=((i - 1:Nat):Int):=λ_=>by rw [wrap_i64 (by omega) (by omega)];omega
 simp only [aa,seval,mf]
 refine bq (λkr=>?_) (λkr=>?_)
 rotate_left
 .have hi:i=l.length:=by omega
  subst hi
  rw [pS.2 (iH.2 mJ)] at hk
  repeat' (simp only [aa,seval,mf])
  exact hk _ z.aC
 have hr:l[(i:Int).toNat]? = some (l.getD i ae):=jJ (by omega)
 have Ip:l[((i - 1:Nat):Int).toNat]? = some (l.getD (i - 1) ae):=jJ (by omega)
 simp only [aa,seval,mf]
 refine (dL (by simp only [mf])) z.aC ?_
 simp only [aa,seval,mf]
 refine bq (λk6=>?_) (λk6=>?_)
 rotate_left
 .have sU:i=0:=by omega
  subst sU
  repeat' (first|simp only [aa,seval,mf]|((with_reducible refine ⟨z.cK.lay _ _,?_⟩);(intro _ h' zz x _);(simp only [b9,bG] at x);(replace z:=zz);(clear zz);rw [ao h']))
  (rw [aX];with_reducible refine cy (m:=_) ?_ ⟨1,_,rfl,z,⟨rfl,by omega,λk _ g=>by omega⟩,bm⟩;omega)
 have Gc:=Gc (by omega)
 simp only [aa,seval,mf,Gc]
 repeat' ((first|with_reducible refine oG (hl.mono z.inc) bF bN (by omega) Ip (λp hp=>?_)|with_reducible refine oG (hl.mono z.inc) bF bN (by omega) hr (λp hp=>?_)|with_reducible refine mw hp fD bN ?_) <;> simp only [aa,seval,mf])
 refine DB _ _ (rX aW (by omega)) (rX aW (by omega)) _ _ (λh' x=>?_)
 (((with_reducible refine cW ?_ ?_ ?_);(· exact (by (simp only [cV]);have:=z.size;omega));(· exact x));replace z:=z.an x;rw [ao h'])
 simp only [aa,seval,mf]
 refine bq (λhc=>?_) (λhc=>?_)
 .rw [zDb (λg=>by have:=iH.1 g i (by omega) (by omega);omega)] at hk
  repeat' (first|simp only [aa,seval,mf]|((with_reducible refine ⟨z.cK.lay _ _,?_⟩);(intro _ h' zz x _);(simp only [b9,bG] at x);(replace z:=zz);(clear zz);rw [ao h']))
  exact hk _ z.aC
 .repeat' (first|simp only [aa,seval,mf]|((with_reducible refine ⟨z.cK.lay _ _,?_⟩);(intro _ h' zz x _);( simp only [b9,bG] at x );(replace z:=zz);(clear zz);rw [ao h']))
  rw [gk]
  (rw [aX];(with_reducible refine cy (m:=_) ?_ ⟨i+1,_,rfl,z,⟨rfl,by omega,λk g1 g2=>by
   rcases lB k i with e|e
   .exact mJ k g1 e
   .have e:k=i:=by omega
    subst e
    omega⟩,bm⟩);omega)
theorem zw7 (l:aN) (v:ah) (h:Heap) (hl:Sl aK.atom h v l) (hn:l.length<=900) (aW:∀ x∈l,x.aY=true) (K:aI)
 (hk:∀ h' w,Ext h h'->eF h h' 47 w (eW l)->K w h'):Ok prog aG ov 72 [v] h K:=by
 rw [ao h]
 have z:=Ext.refl h
 refine Ok.aw 8 (bu N72) ?_
 repeat' (simp only [aa,seval,Lp])
 refine zFj l v _ (hl.lay _ _) (by omega) aW _ (λh' x=>?_)
 (replace z:=z.an x;rw [ao h'])
 cases hi:Iw l
 .repeat' ( simp only [aa,seval,Lp])
  refine zxn l v _ ((hl.mono z.inc).lay _ _) (by omega) aW _ (λh' w x ho=>?_)
  have dF:=z.size
  replace ho:=ho.down (h0:=h) (by rw [bd];omega)
  (replace z:=z.an x;rw [ao h'])
  have el:∀ (h:Heap) (K:aI),aH (some w) h K=K w h:=λ_ _=>rfl
  repeat' (simp only [aa,seval,Lp])
  exact hk _ _ z.aC (ho.lay _ _)
 .repeat' ( simp only [aa,seval,Lp])
  refine zpb l v _ ((hl.mono z.inc).lay _ _) (by omega) _ (λh' w x ho=>?_)
  have dF:=z.size
  replace ho:=(ho.own (by omega)).down (h0:=h) (by rw [bd];omega)
  rw [<- SV (pS.1 hi)] at ho
  (replace z:=z.an x;rw [ao h'])
  have el:∀ (h:Heap) (K:aI),aH (some w) h K=K w h:=λ_ _=>rfl
  repeat' (simp only [aa,seval,Lp])
  exact hk _ _ z.aC (ho.lay _ _)
end Go.Proofs.YtmamldleclamjaaGreatDoor
