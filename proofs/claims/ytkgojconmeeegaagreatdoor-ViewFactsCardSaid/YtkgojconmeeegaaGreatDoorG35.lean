/- Walks: sorting in place: Am.one block Written out by fill2.py. No condition. -/
import Derived.Test.YtkgojconmeeegaaGreatDoorG30
set_option linter.unusedSimpArgs false
set_option linter.unusedVariables false
set_option maxRecDepth 100000
set_option maxHeartbeats 0
namespace Go.Proofs.YtkgojconmeeegaaGreatDoor
open Go.Am Tryz
theorem zin (l:aW) (A c a b:Nat) (h hs:Heap) (z:Ext h hs) (hA:h.size<=A) (q:Holds hs A (.row (aS l) 34 false)) (xY:a<=b) (hb:b<=l.length) (hn:l.length<=100000) (aP:∀ x∈l,x.aV=true) (K:aG)
 (hk:∀ h' l',Ext h h'->Holds h' A (.row (aS l') 34 false)->l'.Perm l->eY l l'->ie l' a b->HL l l' a b->K undef h'):Ok prog aA ov 193 [.slice (some ⟨A,0,none⟩) l.length c,.int .i64 a,.int .i64 b,.func (.func 108) ⟨[]⟩ ⟨[]⟩] hs K:=by
 rw [ao hs]
 have ZB:=dE a (by omega)
 refine Ok.aq 49 (bm E8) ?_
 simp only [aa,seval,iB]
 rw [ZB]
 obtain ⟨I1,aO⟩:∃ I:Nat->Env->Heap->Prop,I=(λn e h'=>∃ (i:Nat) (l1:aW) (h1:Heap),h'=h1.lay [] h1.low/\Ext h h1/\(n=b - i/\a < i/\(i<=b\/(i=a+1/\l1=l))/\l1.Perm l/\eY l l1/\ie l1 a i/\HL l l1 a i/\Holds h1 A (.row (aS l1) 34 false))/\∃ J:Nat->ae,e=(.slice (some ⟨A,0,none⟩) l.length c::.int .i64 a::.int .i64 b::.func (.func 108) ⟨[]⟩ ⟨[]⟩::jr J 4 4 (.int .i64 i::jr J 9 44 ([])))):=⟨_,rfl⟩
 refine cK I1 _ (by rw [aO];exact ⟨a+1,l,_,rfl,z,⟨rfl,by omega,.inr ⟨rfl,rfl⟩,List.Perm.refl _,eY.refl _,λk g1 g2=>by omega,λk _=>rfl,q⟩,bc⟩) ?_
 intro n e h' aK
 rw [aO] at aK
 obtain ⟨i,l1,bD,rfl,z,hinv,J,rfl⟩:=aK
 clear q
 obtain ⟨rfl,Tl,Ts,DV,GP,GN,GL,q⟩:=hinv
 have hw:=dE i (by omega)
 simp only [aa,seval,iB]
 refine bg (λgq=>?_) (λgq=>?_)
 rotate_left
 .simp only [aa,seval,iB]
  repeat' ((first|((with_reducible first|apply bg|apply lz|apply im|apply uR|apply zr) <;> intro _)|((with_reducible refine ⟨z.bZ.lay _ _,?_⟩);(intro _ h' zz x _);(first|simp only [bG,bu] at x|skip);(replace z:=zz);(clear zz);rw [ao h'])) <;> simp only [aa,seval,iB])
  refine hk _ _ z.au (q.on _ _) DV GP (λk g1 g2=>GN k g1 (by omega)) (λk g=>?_)
  rcases Ts with Ts|⟨_,rfl⟩
  .exact GL k (by omega)
  .rfl
 have ju:=DV.length_eq
 have NI:=Eo aP DV
 repeat' (simp only [aa,seval,iB])
 obtain ⟨I2,ey⟩:∃ I:Nat->Env->Heap->Prop,I=(λn e h'=>∃ (j:Nat) (l2:aW) (h1:Heap),h'=h1.lay [] h1.low/\Ext h h1/\(n=j - a/\a<=j/\j<=i/\l2.Perm l/\eY l l2/\SG l2 a i j/\HL l l2 a (i+1)/\Holds h1 A (.row (aS l2) 34 false))/\∃ J:Nat->ae,e=(.slice (some ⟨A,0,none⟩) l.length c::.int .i64 a::.int .i64 b::.func (.func 108) ⟨[]⟩ ⟨[]⟩::jr J 4 4 (.int .i64 i::.int .i64 j::jr J 10 43 ([])))):=⟨_,rfl⟩
 refine cK I2 _ (by rw [ey];exact ⟨i,l1,_,rfl,z,⟨rfl,by omega,by omega,DV,GP,zsg GN,λk g=>GL k (by omega),q⟩,bc⟩) ?_
 intro n e h' aK
 rw [ey] at aK
 obtain ⟨j,l2,j4,rfl,z,hinv,J,rfl⟩:=aK
 clear q DV GP GN GL ju NI
 obtain ⟨rfl,Ya,j6,Ae,GQ,TC,GM,q⟩:=hinv
 have j7:=Ae.length_eq
 have iZ:=Eo aP Ae
 simp only [cR,seval,iB]
 refine (cZ (by simp only [iB])) z.au ?_
 simp only [aa,seval,iB]
 refine bg (λtD=>?_) (λtD=>?_)
 rotate_left
 .repeat' (first|simp only [aa,seval,iB]|((with_reducible refine ⟨z.bZ.lay _ _,?_⟩);(intro _ h' zz x _);( simp only [bG,bu] at x );( replace q:=q.over x );(replace z:=zz);(clear zz);rw [ao h']))
  rw [hw]
  (rw [aO];with_reducible refine bS (m:=_) ?_ ⟨i+1,l2,_,rfl,z,⟨rfl,by omega,.inl (by omega),Ae,GQ,zqb TC j6 (λg=>absurd g (by omega)),GM,q⟩,bc⟩;omega)
 have ZE:IntKind.i64.wrap ((j:Int) - 1)=((j - 1:Nat):Int):=by rw [wrap_i64 (by omega) (by omega)];omega
 have aK:(0:Int)<=(j:Int)/\(j:Int) < (l.length:Int):=by omega
 have gn:(0:Int)<=((j - 1:Nat):Int)/\((j - 1:Nat):Int) < (l.length:Int):=by omega
 have kG:=λ(bs:List bh) (w:Nat)=>oR (bs:=bs) (w:=w) q (jf (l:=l2) (i:=j) (by omega))
 have fJ:=λ(bs:List bh) (w:Nat)=>oR (bs:=bs) (w:=w) q (jf (l:=l2) (i:=j - 1) (by omega))
 repeat' (simp only [aa,seval,iB,ZE,aK,gn,↓kG,↓fJ,da])
 refine EK _ _ (qH iZ (by omega)) (qH iZ (by omega)) _ _ (λh' x=>?_)
 (((with_reducible refine di ?_ ?_ ?_);(· exact (by (simp only [dp]);have:=z.size;omega));(· exact x));replace z:=z.aj x;replace q:=q.over x;rw [ao h'])
 simp only [aa,seval,iB]
 refine bg (λhc=>?_) (λhc=>?_)
 rotate_left
 .repeat' (first|simp only [aa,seval,iB]|((with_reducible refine ⟨z.bZ.lay _ _,?_⟩);(intro _ h' zz x _);( simp only [bG,bu] at x );( replace q:=q.over x );(replace z:=zz);(clear zz);rw [ao h']))
  rw [hw]
  (rw [aO];with_reducible refine bS (m:=_) ?_ ⟨i+1,l2,_,rfl,z,⟨rfl,by omega,.inl (by omega),Ae,GQ,zqb TC j6 (λ_=>JB hc),GM,q⟩,bc⟩;omega)
 repeat' (first|simp only [aa,seval,iB]|((with_reducible refine ⟨z.bZ.lay _ _,?_⟩);(intro _ h' zz x _);(simp only [bG,bu] at x);replace q:=q.over x;(replace z:=zz);(clear zz);rw [ao h']))
 have kG:=λ(bs:List bh) (w:Nat)=>oR (bs:=bs) (w:=w) q (jf (l:=l2) (i:=j) (by omega))
 have fJ:=λ(bs:List bh) (w:Nat)=>oR (bs:=bs) (w:=w) q (jf (l:=l2) (i:=j - 1) (by omega))
 refine (cZ (by simp only [iB])) z.au ?_
 repeat' (simp only [aa,seval,iB,ZE,aK,gn,↓kG,↓fJ,da])
 refine CG q bE (by omega) (λh3 q3 c3=>?_)
 have hz:=z.size
 refine mW (A:=A) (by kernel_rfl) (by rw [bf];omega) (by omega) (by simpa only [bG,bf,bu,de,dr,jh] using c3) ?_
 replace z:=(z.je [] (h'.size+0) (by omega)).step c3 hA
 rw [ao h3]
 clear q kG fJ
 repeat' (simp only [aa,seval,iB,gn])
 refine CG q3 bE (by rw [nU];omega) (λh4 q4 c4=>?_)
 have hz:=z.size
 refine mW (A:=A) (by kernel_rfl) (by rw [bf];omega) (by omega) (by simpa only [bG,bf,bu,de,dr,jh] using c4) ?_
 replace z:=(z.je [] (h3.size+0) (by omega)).step c4 hA
 rw [ao h4]
 clear q3
 repeat' (first|simp only [aa,seval,iB,ZE]|((with_reducible refine ⟨z.bZ.lay _ _,?_⟩);(intro _ h' zz x _);(simp only [bG,bu] at x);replace q4:=q4.over x;(replace z:=zz);(clear zz);rw [ao h']))
 replace q4:Holds _ A (.row (aS (lh l2 j (j - 1))) 34 false):=q4
 (rw [ey];with_reducible refine bS (m:=_) ?_ ⟨j - 1,lh l2 j (j - 1),_,rfl,z,⟨rfl,by omega,by omega,(zh0 (by omega) (by omega)).trans Ae,GQ.trans (zqi (by omega) (by omega) hc),zvI TC (by omega) j6 (by omega) hc,zp8 GM (by omega) j6 (by omega),q4⟩,bc⟩;omega)
theorem zfQ (l:aW) (A c a b w:Nat) (fv:ae) (h hs:Heap) (z:Ext h hs) (hA:h.size<=A) (q:Holds hs A (.row (aS l) 34 false)) (xY:a+w<=b) (hb:b+w<=l.length) (hn:l.length<=100000) (K:aG)
 (hk:∀ h' l',Ext h h'->Holds h' A (.row (aS l') 34 false)->l'.Perm l->ED l l' a b w->K undef h'):Ok prog aA ov 227 [.slice (some ⟨A,0,none⟩) l.length c,.int .i64 a,.int .i64 b,.int .i64 w,fv] hs K:=by
 rw [ao hs]
 refine Ok.aq 33 (bm LR) ?_
 simp only [aa,seval,qU]
 obtain ⟨I1,aO⟩:∃ I:Nat->Env->Heap->Prop,I=(λn e h'=>∃ (i:Nat) (l1:aW) (h1:Heap),h'=h1.lay [] h1.low/\Ext h h1/\(n=w - i/\i<=w/\l1.Perm l/\ED l l1 a b i/\Holds h1 A (.row (aS l1) 34 false))/\∃ J:Nat->ae,e=(.slice (some ⟨A,0,none⟩) l.length c::.int .i64 a::.int .i64 b::.int .i64 w::jr J 4 6 (.int .i64 i::jr J 11 27 ([])))):=⟨_,rfl⟩
 refine cK I1 _ (by rw [aO];exact ⟨0,l,_,rfl,z,⟨rfl,by omega,List.Perm.refl _,zss l a b,q⟩,bc⟩) ?_
 intro n e h' aK
 rw [aO] at aK
 obtain ⟨i,l1,bD,rfl,z,hinv,J,rfl⟩:=aK
 clear q
 obtain ⟨rfl,hi,hp,yP,q⟩:=hinv
 have ju:=hp.length_eq
 have hw:=dE i (by omega)
 simp only [aa,seval,qU]
 refine bg (λaP=>?_) (λaP=>?_)
 rotate_left
 .repeat' ( simp only [aa,seval,qU])
  have hiw:i=w:=by omega
  subst hiw
  exact hk _ _ z.au (q.on _ _) hp yP
 have hwa:IntKind.i64.wrap ((a:Int)+(i:Int))=((a+i:Nat):Int):=by rw [wrap_i64 (by omega) (by omega)];omega
 have D7:IntKind.i64.wrap ((b:Int)+(i:Int))=((b+i:Nat):Int):=by rw [wrap_i64 (by omega) (by omega)];omega
 have aK:(0:Int)<=((a+i:Nat):Int)/\((a+i:Nat):Int) < (l.length:Int):=by omega
 have gn:(0:Int)<=((b+i:Nat):Int)/\((b+i:Nat):Int) < (l.length:Int):=by omega
 have kG:=λ(bs:List bh) (w:Nat)=>oR (bs:=bs) (w:=w) q (jf (l:=l1) (i:=a+i) (by omega))
 have fJ:=λ(bs:List bh) (w:Nat)=>oR (bs:=bs) (w:=w) q (jf (l:=l1) (i:=b+i) (by omega))
 simp only [aa,seval,qU]
 refine (cZ (by simp only [qU])) z.au ?_
 repeat' (simp only [aa,seval,qU,hwa,D7,aK,gn,↓kG,↓fJ,da])
 have hz:=z.size
 refine CG q bE (by omega) (λh3 q3 c3=>?_)
 refine mW (A:=A) (by kernel_rfl) (by rw [bf];omega) (by omega) (by simpa only [bG,bf,bu,de,dr,jh] using c3) ?_
 replace z:=(z.je [] (bD.size+0) (by omega)).step c3 hA
 rw [ao h3]
 clear q kG fJ
 repeat' (simp only [aa,seval,qU,gn])
 refine CG q3 bE (by rw [nU];omega) (λh4 q4 c4=>?_)
 have hz:=z.size
 refine mW (A:=A) (by kernel_rfl) (by rw [bf];omega) (by omega) (by simpa only [bG,bf,bu,de,dr,jh] using c4) ?_
 replace z:=(z.je [] (h3.size+0) (by omega)).step c4 hA
 rw [ao h4]
 clear q3
 repeat' (first|simp only [aa,seval,qU]|((with_reducible refine ⟨z.bZ.lay _ _,?_⟩);(intro _ h' zz x _);(simp only [bG,bu] at x);replace q4:=q4.over x;(replace z:=zz);(clear zz);rw [ao h']))
 rw [hw]
 replace q4:Holds _ A (.row (aS (lh l1 (a+i) (b+i))) 34 false):=q4
 (rw [aO];with_reducible refine bS (m:=_) ?_ ⟨i+1,lh l1 (a+i) (b+i),_,rfl,z,⟨rfl,by omega,(zh0 (by omega) (by omega)).trans hp,zsr yP xY (by omega) (by omega),q4⟩,bc⟩;omega)
theorem zyc (l:aW) (A c a m b:Nat) (fv:ae) (h hs:Heap) (z:Ext h hs) (hA:h.size<=A) (q:Holds hs A (.row (aS l) 34 false)) (BB:a < m) (BU:m < b) (hb:b<=l.length) (hn:l.length<=100000) (K:aG)
 (hk:∀ h',Ext h h'->Holds h' A (.row (aS (AN l a m b)) 34 false)->(AN l a m b).Perm l->K undef h'):Ok prog aA ov 215 [.slice (some ⟨A,0,none⟩) l.length c,.int .i64 a,.int .i64 m,.int .i64 b,fv] hs K:=by
 rw [ao hs]
 have yT:IntKind.i64.wrap ((m:Int) - (a:Int))=((m - a:Nat):Int):=by rw [wrap_i64 (by omega) (by omega)];omega
 have ph:IntKind.i64.wrap ((b:Int) - (m:Int))=((b - m:Nat):Int):=by rw [wrap_i64 (by omega) (by omega)];omega
 refine Ok.aq 53 (bm LK) ?_
 simp only [aa,seval,pE,yT,ph]
 obtain ⟨I1,aO⟩:∃ I:Nat->Env->Heap->Prop,I=(λn e h'=>∃ (i j:Nat) (l1:aW) (h1:Heap),h'=h1.lay [] h1.low/\Ext h h1/\(n=i+j/\0 < i/\0 < j/\i<=m/\m+j<=l.length/\l1.Perm l/\H9 (AN l a m b) l1 m i j/\Holds h1 A (.row (aS l1) 34 false))/\∃ J:Nat->ae,e=(.slice (some ⟨A,0,none⟩) l.length c::J 1::.int .i64 m::J 3::fv::jr J 5 5 (.int .i64 i::.int .i64 j::jr J 12 46 ([])))):=⟨_,rfl⟩
 refine cK I1 _ (by rw [aO];exact ⟨m - a,b - m,l,_,rfl,z,⟨rfl,by omega,by omega,by omega,by omega,List.Perm.refl _,zsC (by omega) (by omega) hb,q⟩,bc⟩) ?_
 intro n e h' aK
 rw [aO] at aK
 obtain ⟨i,j,l1,bD,rfl,z,hinv,J,rfl⟩:=aK
 clear q
 obtain ⟨rfl,ru,hj0,vB,Nz,hp,Zq,q⟩:=hinv
 have ju:=hp.length_eq
 simp only [aa,seval,pE]
 have GZ:IntKind.i64.wrap ((m:Int) - (i:Int))=((m - i:Nat):Int):=by rw [wrap_i64 (by omega) (by omega)];omega
 refine im (λba=>?_) (λheq=>?_)
 rotate_left
 .have dF:i=j:=by omega
  subst dF
  repeat' (simp only [aa,seval,pE,GZ])
  have key:=λK hk=>zfQ l1 A c (m - i) m i fv h (bD.lay [] bD.low) z.au hA (q.on _ _) (by omega) (by omega) (by omega) K hk
  simp only [ju] at key
  refine key _ (λh' l' x q' pW mh=>?_)
  have lM:l'=AN l a m b:=zmJ (by rw [ziy,pW.length_eq,ju]) (λk=>(zy6 Zq vB mh k).symm)
  subst lM
  rw [ao h']
  repeat' (simp only [aa,seval,pE])
  exact hk _ x.au (q'.on _ _) (pW.trans hp)
 simp only [aa,seval,pE]
 refine bg (λtD=>?_) (λtD=>?_)
 .repeat' ( simp only [aa,seval,pE,GZ])
  have key:=λK hk=>zfQ l1 A c (m - i) m j fv h (bD.lay [] bD.low) z.au hA (q.on _ _) (by omega) (by omega) (by omega) K hk
  simp only [ju] at key
  refine key _ (λh' l' x q' pW mh=>?_)
  replace z:=x
  rw [ao h']
  have ZD:IntKind.i64.wrap ((i:Int) - (j:Int))=((i - j:Nat):Int):=by rw [wrap_i64 (by omega) (by omega)];omega
  repeat' (simp only [aa,seval,pE,ZD])
  (rw [aO];with_reducible refine bS (m:=_) ?_ ⟨i - j,j,l',_,rfl,z,⟨rfl,by omega,by omega,by omega,by omega,pW.trans hp,zv5 Zq vB (by omega) mh,q'⟩,bc⟩;omega)
 .have ZH:IntKind.i64.wrap ((m:Int)+(j:Int))=((m+j:Nat):Int):=by rw [wrap_i64 (by omega) (by omega)];omega
  have On:IntKind.i64.wrap (((m+j:Nat):Int) - (i:Int))=((m+j - i:Nat):Int):=by rw [wrap_i64 (by omega) (by omega)];omega
  repeat' (simp only [aa,seval,pE,GZ,ZH,On])
  have key:=λK hk=>zfQ l1 A c (m - i) (m+j - i) i fv h (bD.lay [] bD.low) z.au hA (q.on _ _) (by omega) (by omega) (by omega) K hk
  simp only [ju] at key
  refine key _ (λh' l' x q' pW mh=>?_)
  replace z:=x
  rw [ao h']
  have ZF:IntKind.i64.wrap ((j:Int) - (i:Int))=((j - i:Nat):Int):=by rw [wrap_i64 (by omega) (by omega)];omega
  repeat' (simp only [aa,seval,pE,ZF])
  (rw [aO];with_reducible refine bS (m:=_) ?_ ⟨i,j - i,l',_,rfl,z,⟨rfl,by omega,by omega,by omega,by omega,pW.trans hp,zsB Zq vB (by omega) mh,q'⟩,bc⟩;omega)
def zBI (sz:Nat):Prop:=∀ (l:aW) (A c a m b:Nat) (h hs:Heap),Ext h hs->h.size<=A->Holds hs A (.row (aS l) 34 false)->a < m->m < b->b - a<=sz->b<=l.length->l.length<=100000->(∀ x∈l,x.aV=true)->ie l a m->ie l m b->∀ (K:aG),
 (∀ h' l',Ext h h'->Holds h' A (.row (aS l') 34 false)->Mv l l' a b->ie l' a b->K undef h')->Ok prog aA ov 194 [.slice (some ⟨A,0,none⟩) l.length c,.int .i64 a,.int .i64 m,.int .i64 b,.func (.func 108) ⟨[]⟩ ⟨[]⟩] hs K
theorem Rv (x y:Nat) (h:x+y<=1000000):IntKind.i64.wrap ((x:Int)+(y:Int))=((x+y:Nat):Int)/\IntKind.u64.wrap ((x+y:Nat):Int)=((x+y:Nat):Int)/\IntKind.i64.wrap (((x+y) / 2:Nat):Int)=(((x+y) / 2:Nat):Int)/\Int.fdiv ((x+y:Nat):Int) (2 ^ (min (1:Int).toNat (IntKind.bits .u64)))=(((x+y) / 2:Nat):Int):=by
 refine ⟨by rw [wrap_i64 (by omega) (by omega)];omega,by unfold IntKind.wrap;simp [IntKind.bits];omega,wrap_i64 (by omega) (by omega),?_⟩
 show Int.fdiv ((x+y:Nat):Int) 2=_
 rw [Int.fdiv_eq_ediv_of_nonneg _ (by omega)]
 omega
theorem zvo (sz:Nat) (ih:zBI sz):zBI (sz+1):=by
 intro l A c a m b h hs z hA q BB BU dS hb hn aP h1 h2 K hk
 rw [ao hs]
 have yT:IntKind.i64.wrap ((m:Int) - (a:Int))=((m - a:Nat):Int):=by rw [wrap_i64 (by omega) (by omega)];omega
 have ph:IntKind.i64.wrap ((b:Int) - (m:Int))=((b - m:Nat):Int):=by rw [wrap_i64 (by omega) (by omega)];omega
 have IJ:l[a]? = some (l.getD a ab):=jf (by omega)
 have Gy:l[m]? = some (l.getD m ab):=jf (by omega)
 refine Ok.aq 215 (bm jK) ?_
 simp only [aa,seval,bV,yT]
 refine lz (λbn=>?_) (λbn=>?_)
 .-- Am.one element in front
  simp only [aa,seval,bV]
  obtain ⟨I1,aO⟩:∃ I:Nat->Env->Heap->Prop,I=(λn e h'=>∃ (i j:Nat) (h1:Heap),h'=h1.lay [] h1.low/\Ext h h1/\(n=j - i/\m<=i/\i<=j/\j<=b/\(i=m\/aT (l.getD (i - 1) ab) (l.getD a ab) < 0)/\(j=b\/¬ aT (l.getD j ab) (l.getD a ab) < 0)/\Holds h1 A (.row (aS l) 34 false))/\∃ J:Nat->ae,e=(.slice (some ⟨A,0,none⟩) l.length c::.int .i64 a::.int .i64 m::.int .i64 b::.func (.func 108) ⟨[]⟩ ⟨[]⟩::jr J 5 5 (.int .i64 i::.int .i64 j::jr J 12 208 ([])))):=⟨_,rfl⟩
  refine cK I1 _ (by rw [aO];exact ⟨m,b,_,rfl,z,⟨rfl,by omega,by omega,by omega,.inl rfl,.inl rfl,q⟩,bc⟩) ?_
  intro n e h' aK
  rw [aO] at aK
  obtain ⟨i,j,bD,rfl,z,hinv,J,rfl⟩:=aK
  clear q
  obtain ⟨rfl,g1,g2,g3,g4,g5,q⟩:=hinv
  simp only [aa,seval,bV]
  refine bg (λdF=>?_) (λdF=>?_)
  rotate_left
  .have Gs:i=j:=by omega
   subst Gs
   have Gv:=g4
   have sy:=g5
   have fb:IntKind.i64.wrap ((i:Int) - 1)=((i - 1:Nat):Int):=by rw [wrap_i64 (by omega) (by omega)];omega
   have Yb:m=a+1:=by omega
   subst Yb
   simp only [aa,seval,bV]
   obtain ⟨I2,ey⟩:∃ I:Nat->Env->Heap->Prop,I=(λn e h'=>∃ (k:Nat) (l1:aW) (h1:Heap),h'=h1.lay [] h1.low/\Ext h h1/\(n=i - 1 - k/\a<=k/\k<=i - 1/\Mv l l1 a b/\xp l l1 a k/\Holds h1 A (.row (aS l1) 34 false))/\∃ J:Nat->ae,e=(.slice (some ⟨A,0,none⟩) l.length c::jr J 1 9 (.int .i64 i::jr J 11 2 (.int .i64 k::jr J 14 206 ([]))))):=⟨_,rfl⟩
   refine cK I2 _ (by rw [ey];exact ⟨a,l,_,rfl,z,⟨rfl,by omega,by omega,Mv.refl l a b,zv8 l a,q⟩,bc⟩) ?_
   intro n e h' aK
   rw [ey] at aK
   obtain ⟨k,l1,j4,rfl,z,hinv,J,rfl⟩:=aK
   clear q
   obtain ⟨rfl,f1,f2,f3,f4,q⟩:=hinv
   have ju:=f3.perm.length_eq
   have qG:=dE k (by omega)
   simp only [aa,seval,bV,fb]
   refine bg (λqB=>?_) (λqB=>?_)
   rotate_left
   .have Gu:k=i - 1:=by omega
    subst Gu
    repeat' (simp only [aa,seval,bV])
    exact hk _ _ z.au (q.on _ _) f3 (zCB h2 (by omega) (by omega) Gv sy f4)
   have aK:(0:Int)<=(k:Int)/\(k:Int) < (l.length:Int):=by omega
   have gn:(0:Int)<=((k+1:Nat):Int)/\((k+1:Nat):Int) < (l.length:Int):=by omega
   have kG:=λ(bs:List bh) (w:Nat)=>oR (bs:=bs) (w:=w) q (jf (l:=l1) (i:=k) (by omega))
   have fJ:=λ(bs:List bh) (w:Nat)=>oR (bs:=bs) (w:=w) q (jf (l:=l1) (i:=k+1) (by omega))
   simp only [aa,seval,bV]
   refine (cZ (by simp only [bV])) z.au ?_
   repeat' (simp only [aa,seval,bV,qG,aK,gn,↓kG,↓fJ,da])
   have hz:=z.size
   refine CG q bE (by omega) (λh3 q3 c3=>?_)
   refine mW (A:=A) (by kernel_rfl) (by rw [bf];omega) (by omega) (by simpa only [bG,bf,bu,de,dr,jh] using c3) ?_
   replace z:=(z.je [] (j4.size+0) (by omega)).step c3 hA
   rw [ao h3]
   clear q kG fJ
   repeat' (simp only [aa,seval,bV,gn])
   refine CG q3 bE (by rw [nU];omega) (λh4 q4 c4=>?_)
   have hz:=z.size
   refine mW (A:=A) (by kernel_rfl) (by rw [bf];omega) (by omega) (by simpa only [bG,bf,bu,de,dr,jh] using c4) ?_
   replace z:=(z.je [] (h3.size+0) (by omega)).step c4 hA
   rw [ao h4]
   clear q3
   repeat' (first|simp only [aa,seval,bV]|((with_reducible refine ⟨z.bZ.lay _ _,?_⟩);(intro _ h' zz x _);(simp only [bG,bu] at x);replace q4:=q4.over x;(replace z:=zz);(clear zz);rw [ao h']))
   rw [qG]
   replace q4:Holds _ A (.row (aS (lh l1 k (k+1))) 34 false):=q4
   (rw [ey];with_reducible refine bS (m:=_) ?_ ⟨k+1,lh l1 k (k+1),_,rfl,z,⟨rfl,by omega,by omega,f3.trans (Mv.swap (by omega) (by omega) (by omega) (zDb (by omega) (zza h2 g3 Gv f1 (by omega) f4))),zy9 f4 f1 (by omega),q4⟩,bc⟩;omega)
  obtain ⟨e1,e2,e3,e4⟩:=Rv i j (by omega)
  repeat' (simp only [aa,seval,bV,e1])
  rw [xd rfl rfl rfl (JF _) rfl,e2]
  simp only [aa,seval,bV]
  rw [JK (by decide),e4]
  simp only [aa,seval,bV]
  rw [xd rfl rfl rfl (JG _) rfl,e3]
  repeat' (simp only [aa,seval,bV])
  have vA:i<=(i+j) / 2/\(i+j) / 2 < j:=by omega
  have yU:IntKind.i64.wrap ((((i+j) / 2:Nat):Int)+1)=(((i+j) / 2+1:Nat):Int):=by rw [wrap_i64 (by omega) (by omega)];omega
  generalize (i+j) / 2=y at vA yU ⊢
  have aK:(0:Int)<=(y:Int)/\(y:Int) < (l.length:Int):=by omega
  have gn:(0:Int)<=(a:Int)/\(a:Int) < (l.length:Int):=by omega
  have kG:=λ(bs:List bh) (w:Nat)=>oR (bs:=bs) (w:=w) q (jf (l:=l) (i:=y) (by omega))
  have fJ:=λ(bs:List bh) (w:Nat)=>oR (bs:=bs) (w:=w) q (jf (l:=l) (i:=a) (by omega))
  refine (cZ (by simp only [bV])) z.au ?_
  repeat' (simp only [aa,seval,bV,aK,gn,↓kG,↓fJ,da])
  refine EK _ _ (qH aP (by omega)) (qH aP (by omega)) _ _ (λh' x=>?_)
  (((with_reducible refine di ?_ ?_ ?_);(· exact (by (simp only [dp]);have:=z.size;omega));(· exact x));replace z:=z.aj x;replace q:=q.over x;rw [ao h'])
  simp only [aa,seval,bV]
  refine bg (λhc=>?_) (λhc=>?_)
  .repeat' (first|simp only [aa,seval,bV]|((with_reducible refine ⟨z.bZ.lay _ _,?_⟩);(intro _ h' zz x _);( simp only [bG,bu] at x );( replace q:=q.over x );(replace z:=zz);(clear zz);rw [ao h']))
   rw [yU]
   (rw [aO];with_reducible refine bS (m:=_) ?_ ⟨y+1,j,_,rfl,z,⟨rfl,by omega,by omega,by omega,.inr (by rw [C7];exact hc),g5,q⟩,bc⟩;omega)
  .repeat' (first|simp only [aa,seval,bV]|((with_reducible refine ⟨z.bZ.lay _ _,?_⟩);(intro _ h' zz x _);( simp only [bG,bu] at x );( replace q:=q.over x );(replace z:=zz);(clear zz);rw [ao h']))
   (rw [aO];with_reducible refine bS (m:=_) ?_ ⟨i,y,_,rfl,z,⟨rfl,by omega,by omega,by omega,g4,.inr hc,q⟩,bc⟩;omega)
 simp only [aa,seval,bV,ph]
 refine lz (λDT=>?_) (λDT=>?_)
 .-- Am.one element behind
  simp only [aa,seval,bV]
  obtain ⟨I3,lp⟩:∃ I:Nat->Env->Heap->Prop,I=(λn e h'=>∃ (i j:Nat) (h1:Heap),h'=h1.lay [] h1.low/\Ext h h1/\(n=j - i/\a<=i/\i<=j/\j<=m/\(i=a\/¬ aT (l.getD m ab) (l.getD (i - 1) ab) < 0)/\(j=m\/aT (l.getD m ab) (l.getD j ab) < 0)/\Holds h1 A (.row (aS l) 34 false))/\∃ J:Nat->ae,e=(.slice (some ⟨A,0,none⟩) l.length c::.int .i64 a::.int .i64 m::.int .i64 b::.func (.func 108) ⟨[]⟩ ⟨[]⟩::jr J 5 9 (.int .i64 i::.int .i64 j::jr J 16 204 ([])))):=⟨_,rfl⟩
  refine cK I3 _ (by rw [lp];exact ⟨a,m,_,rfl,z,⟨rfl,by omega,by omega,by omega,.inl rfl,.inl rfl,q⟩,bc⟩) ?_
  intro n e h' aK
  rw [lp] at aK
  obtain ⟨i,j,bD,rfl,z,hinv,J,rfl⟩:=aK
  clear q
  obtain ⟨rfl,g1,g2,g3,g4,g5,q⟩:=hinv
  simp only [aa,seval,bV]
  refine bg (λdF=>?_) (λdF=>?_)
  rotate_left
  .have Gs:i=j:=by omega
   subst Gs
   have Gv:=g4
   have sy:=g5
   have Yh:b=m+1:=by omega
   subst Yh
   simp only [aa,seval,bV]
   obtain ⟨I4,FX⟩:∃ I:Nat->Env->Heap->Prop,I=(λn e h'=>∃ (k:Nat) (l1:aW) (h1:Heap),h'=h1.lay [] h1.low/\Ext h h1/\(n=k - i/\i<=k/\k<=m/\Mv l l1 a (m+1)/\Sk l l1 m k/\Holds h1 A (.row (aS l1) 34 false))/\∃ J:Nat->ae,e=(.slice (some ⟨A,0,none⟩) l.length c::jr J 1 13 (.int .i64 i::jr J 15 2 (.int .i64 k::jr J 18 202 ([]))))):=⟨_,rfl⟩
   refine cK I4 _ (by rw [FX];exact ⟨m,l,_,rfl,z,⟨rfl,by omega,by omega,Mv.refl l a _,zoN l m,q⟩,bc⟩) ?_
   intro n e h' aK
   rw [FX] at aK
   obtain ⟨k,l1,j4,rfl,z,hinv,J,rfl⟩:=aK
   clear q
   obtain ⟨rfl,f1,f2,f3,f4,q⟩:=hinv
   have ju:=f3.perm.length_eq
   simp only [aa,seval,bV]
   refine bg (λqB=>?_) (λqB=>?_)
   rotate_left
   .have Gu:k=i:=by omega
    subst Gu
    repeat' (simp only [aa,seval,bV])
    exact hk _ _ z.au (q.on _ _) f3 (zzO h1 (by omega) (by omega) Gv sy f4)
   have qG:IntKind.i64.wrap ((k:Int) - 1)=((k - 1:Nat):Int):=by rw [wrap_i64 (by omega) (by omega)];omega
   have aK:(0:Int)<=(k:Int)/\(k:Int) < (l.length:Int):=by omega
   have gn:(0:Int)<=((k - 1:Nat):Int)/\((k - 1:Nat):Int) < (l.length:Int):=by omega
   have kG:=λ(bs:List bh) (w:Nat)=>oR (bs:=bs) (w:=w) q (jf (l:=l1) (i:=k) (by omega))
   have fJ:=λ(bs:List bh) (w:Nat)=>oR (bs:=bs) (w:=w) q (jf (l:=l1) (i:=k - 1) (by omega))
   simp only [aa,seval,bV]
   refine (cZ (by simp only [bV])) z.au ?_
   repeat' (simp only [aa,seval,bV,qG,aK,gn,↓kG,↓fJ,da])
   have hz:=z.size
   refine CG q bE (by omega) (λh3 q3 c3=>?_)
   refine mW (A:=A) (by kernel_rfl) (by rw [bf];omega) (by omega) (by simpa only [bG,bf,bu,de,dr,jh] using c3) ?_
   replace z:=(z.je [] (j4.size+0) (by omega)).step c3 hA
   rw [ao h3]
   clear q kG fJ
   repeat' (simp only [aa,seval,bV,gn])
   refine CG q3 bE (by rw [nU];omega) (λh4 q4 c4=>?_)
   have hz:=z.size
   refine mW (A:=A) (by kernel_rfl) (by rw [bf];omega) (by omega) (by simpa only [bG,bf,bu,de,dr,jh] using c4) ?_
   replace z:=(z.je [] (h3.size+0) (by omega)).step c4 hA
   rw [ao h4]
   clear q3
   repeat' (first|simp only [aa,seval,bV]|((with_reducible refine ⟨z.bZ.lay _ _,?_⟩);(intro _ h' zz x _);(simp only [bG,bu] at x);replace q4:=q4.over x;(replace z:=zz);(clear zz);rw [ao h']))
   rw [qG]
   replace q4:Holds _ A (.row (aS (lh l1 k (k - 1))) 34 false):=q4
   (rw [FX];with_reducible refine bS (m:=_) ?_ ⟨k - 1,lh l1 k (k - 1),_,rfl,z,⟨rfl,by omega,by omega,f3.trans (Mv.swap (by omega) (by omega) (by omega) (zqi (by omega) (by omega) (zrn h1 g1 sy (by omega) f2 f4))),zrm f4 (by omega) f2 (by omega),q4⟩,bc⟩;omega)
  obtain ⟨e1,e2,e3,e4⟩:=Rv i j (by omega)
  repeat' (simp only [aa,seval,bV,e1])
  rw [xd rfl rfl rfl (JF _) rfl,e2]
  simp only [aa,seval,bV]
  rw [JK (by decide),e4]
  simp only [aa,seval,bV]
  rw [xd rfl rfl rfl (JG _) rfl,e3]
  repeat' (simp only [aa,seval,bV])
  have vA:i<=(i+j) / 2/\(i+j) / 2 < j:=by omega
  have yU:IntKind.i64.wrap ((((i+j) / 2:Nat):Int)+1)=(((i+j) / 2+1:Nat):Int):=by rw [wrap_i64 (by omega) (by omega)];omega
  generalize (i+j) / 2=y at vA yU ⊢
  have aK:(0:Int)<=(y:Int)/\(y:Int) < (l.length:Int):=by omega
  have gn:(0:Int)<=(m:Int)/\(m:Int) < (l.length:Int):=by omega
  have kG:=λ(bs:List bh) (w:Nat)=>oR (bs:=bs) (w:=w) q (jf (l:=l) (i:=y) (by omega))
  have fJ:=λ(bs:List bh) (w:Nat)=>oR (bs:=bs) (w:=w) q (jf (l:=l) (i:=m) (by omega))
  refine (cZ (by simp only [bV])) z.au ?_
  repeat' (simp only [aa,seval,bV,aK,gn,↓kG,↓fJ,da])
  refine EK _ _ (qH aP (by omega)) (qH aP (by omega)) _ _ (λh' x=>?_)
  (((with_reducible refine di ?_ ?_ ?_);(· exact (by (simp only [dp]);have:=z.size;omega));(· exact x));replace z:=z.aj x;replace q:=q.over x;rw [ao h'])
  simp only [aa,seval,bV]
  refine bg (λhc=>?_) (λhc=>?_)
  .repeat' (first|simp only [aa,seval,bV]|((with_reducible apply bI);(· rfl))|((with_reducible refine ⟨z.bZ.lay _ _,?_⟩);(intro _ h' zz x _);( simp only [bG,bu] at x );( replace q:=q.over x );(replace z:=zz);(clear zz);rw [ao h']))
   (rw [lp];with_reducible refine bS (m:=_) ?_ ⟨i,y,_,rfl,z,⟨rfl,by omega,by omega,by omega,g4,.inr hc,q⟩,bc⟩;omega)
  .repeat' (first|simp only [aa,seval,bV]|((with_reducible apply bI);(· rfl))|((with_reducible refine ⟨z.bZ.lay _ _,?_⟩);(intro _ h' zz x _);( simp only [bG,bu] at x );( replace q:=q.over x );(replace z:=zz);(clear zz);rw [ao h']))
   rw [yU]
   (rw [lp];with_reducible refine bS (m:=_) ?_ ⟨y+1,j,_,rfl,z,⟨rfl,by omega,by omega,by omega,.inr (by rw [C7];exact hc),g5,q⟩,bc⟩;omega)
 -- both parts longer
 obtain ⟨e1,e2,e3,e4⟩:=Rv a b (by omega)
 repeat' (simp only [aa,seval,bV,e1])
 rw [xd rfl rfl rfl (JF _) rfl,e2]
 simp only [aa,seval,bV]
 rw [JK (by decide),e4]
 simp only [aa,seval,bV]
 rw [xd rfl rfl rfl (JG _) rfl,e3]
 have i0:2*((a+b) / 2)<=a+b:=by omega
 have kr:a+b<=2*((a+b) / 2)+1:=by omega
 generalize (a+b) / 2=mid at i0 kr ⊢
 have TF:IntKind.i64.wrap ((mid:Int)+(m:Int))=((mid+m:Nat):Int):=by rw [wrap_i64 (by omega) (by omega)];omega
 have hwp:IntKind.i64.wrap (((mid+m:Nat):Int) - 1)=((mid+m - 1:Nat):Int):=by rw [wrap_i64 (by omega) (by omega)];omega
 have D7:mid < m->IntKind.i64.wrap (((mid+m:Nat):Int) - (b:Int))=((mid+m - b:Nat):Int):=λ_=>by rw [wrap_i64 (by omega) (by omega)];omega
 simp only [aa,seval,bV,TF]
 refine bg (λhgm=>?_) (λhgm=>?_)
 focus
  have D7:=D7 (by omega)
  simp only [aa,seval,bV,D7,hwp]
  have rz:=zAY (l:=l) (a:=a) BU (show mid < m by omega)
 rotate_left
 focus
  simp only [aa,seval,bV,hwp]
  have rz:=zAX (l:=l) (b:=b) BB (show m<=mid by omega)
 all_goals
  obtain ⟨I5,Th⟩:∃ I:Nat->Env->Heap->Prop,I=(λn e h'=>∃ (s r:Nat) (h1:Heap),h'=h1.lay [] h1.low/\Ext h h1/\(n=r - s/\iw l a m b mid s r/\Holds h1 A (.row (aS l) 34 false))/\∃ J:Nat->ae,e=(.slice (some ⟨A,0,none⟩) l.length c::.int .i64 a::.int .i64 m::.int .i64 b::.func (.func 108) ⟨[]⟩ ⟨[]⟩::jr J 5 13 (.int .i64 mid::.int .i64 ((mid+m:Nat):Int)::.int .i64 s::.int .i64 r::.int .i64 ((mid+m - 1:Nat):Int)::jr J 23 197 ([])))):=⟨_,rfl⟩
  refine cK I5 _ (by rw [Th];exact ⟨_,_,_,rfl,z,⟨rfl,rz,q⟩,bc⟩) ?_
  intro n e h' aK
  rw [Th] at aK
  obtain ⟨s,r,bD,rfl,z,hinv,J,rfl⟩:=aK
  clear q rz
  obtain ⟨rfl,hinv,q⟩:=hinv
  simp only [aa,seval,bV]
  refine bg (λlQ=>?_) (λlQ=>?_)
  rotate_left
  .have tI:s=r:=by have:=hinv.sr;omega
   subst tI
   have sp:=zlW hinv BB BU i0 kr
   obtain ⟨p1,p2,p3,p4,p5,_,_⟩:=sp
   have sp:=zlW hinv BB BU i0 kr
   have TD:IntKind.i64.wrap (((mid+m:Nat):Int) - (s:Int))=((mid+m - s:Nat):Int):=by rw [wrap_i64 (by omega) (by omega)];omega
   simp only [aa,seval,OM (k7 (jK 107)) 3 rfl,zDO (jK 108) (jK 109) (jK 110) rfl,zDT (jK 110) rfl]
   rw [Cx (jK 119) (jK 120) (jK 121) rfl]
   obtain ⟨R6,hR6⟩:∃ R:Env->Heap->Prop,R=(λe h'=>∃ (h1:Heap),h'=h1.lay [] h1.low/\Ext h h1/\(Holds h1 A (.row (aS l) 34 false))/\∃ J:Nat->ae,e=(.slice (some ⟨A,0,none⟩) l.length c::.int .i64 a::.int .i64 m::.int .i64 b::.func (.func 108) ⟨[]⟩ ⟨[]⟩::jr J 5 13 (.int .i64 mid::J 19::.int .i64 s::jr J 21 3 (.int .i64 ((mid+m - s:Nat):Int)::jr J 25 195 ([]))))/\True):=⟨_,rfl⟩
   refine zBK R6 ?cut ?rest
   case' rest =>
    intro e h' aK
    rw [hR6] at aK
    obtain ⟨j4,rfl,z,hinv,J,rfl,_⟩:=aK
   case cut =>
    simp only [aa,seval,bV,TD]
    (rw [hR6];exact ⟨_,rfl,z,q,SM (by kernel_rfl) (trivial)⟩)
   case rest =>
   have q:=hinv
   simp only [aa,seval]
   rw [Cx (jK 121) (jK 122) (jK 127) rfl]
   obtain ⟨R7,XW⟩:∃ R:Env->Heap->Prop,R=(λe h'=>∃ (l1:aW) (h1:Heap),h'=h1.lay [] h1.low/\Ext h h1/\(Mv l l1 s (mid+m - s)/\EV l l1 s m (mid+m - s)/\Holds h1 A (.row (aS l1) 34 false))/\∃ J:Nat->ae,e=(.slice (some ⟨A,0,none⟩) l.length c::.int .i64 a::.int .i64 m::.int .i64 b::.func (.func 108) ⟨[]⟩ ⟨[]⟩::jr J 5 13 (.int .i64 mid::J 19::.int .i64 s::jr J 21 3 (.int .i64 ((mid+m - s:Nat):Int)::jr J 25 195 ([]))))/\True):=⟨_,rfl⟩
   refine zBK R7 ?cut ?rest
   case' rest =>
    intro e h' aK
    rw [XW] at aK
    obtain ⟨l1,xQ,rfl,z,hinv,J,rfl,_⟩:=aK
   case cut =>
    repeat' (first|simp only [aa,seval,bV]|((with_reducible apply bg) <;> intro _))
    all_goals first
     |(rw [XW];exact ⟨l,_,rfl,z,⟨Mv.refl _ _ _,zA6 (by omega) (by omega) (by omega),q⟩,SM (by kernel_rfl) (trivial)⟩)
     |(refine zyc l A c s m (mid+m - s) _ h _ z.au hA (q.on _ _) (by omega) (by omega) (by omega) hn _ (λh' x q1 DV=>?_)
       replace z:=x
       rw [ao h']
       simp only [aa,seval,bV]
       (rw [XW];exact ⟨AN l s m (mid+m - s),_,rfl,z,⟨zA5 (λk=>UB (by omega) k) (by omega) (by omega) DV (zvL h1 h2 sp (λk=>UB (by omega) k) (by omega) DV.length_eq),λk=>UB (by omega) k,q1⟩,SM (by kernel_rfl) (trivial)⟩))
   case rest =>
   obtain ⟨TL,t1,q⟩:=hinv
   obtain ⟨so1,OZ,so3,TP⟩:=zsl h1 h2 sp t1
   have hcr:=λ(i j:Nat) (g1:a<=i) (g2:i < mid) (g3:mid<=j) (g4:j < b)=>zsk h1 h2 sp t1 g1 g2 g3 g4
   have ju:=TL.perm.length_eq
   simp only [aa,seval]
   rw [Cx (jK 127) (jK 128) (jK 133) rfl]
   obtain ⟨R8,XY⟩:∃ R:Env->Heap->Prop,R=(λe h'=>∃ (l2:aW) (h1:Heap),h'=h1.lay [] h1.low/\Ext h h1/\(Mv l1 l2 a mid/\ie l2 a mid/\Holds h1 A (.row (aS l2) 34 false))/\∃ J:Nat->ae,e=(.slice (some ⟨A,0,none⟩) l.length c::.int .i64 a::.int .i64 m::.int .i64 b::.func (.func 108) ⟨[]⟩ ⟨[]⟩::jr J 5 13 (.int .i64 mid::J 19::.int .i64 s::jr J 21 3 (.int .i64 ((mid+m - s:Nat):Int)::jr J 25 195 ([]))))/\True):=⟨_,rfl⟩
   refine zBK R8 ?cut ?rest
   case' rest =>
    intro e h' aK
    rw [XY] at aK
    obtain ⟨l2,Te,rfl,z,hinv,J,rfl,_⟩:=aK
   case cut =>
    repeat' (first|simp only [aa,seval,bV]|((with_reducible apply bg) <;> intro _))
    all_goals first
     |(rw [XY];exact ⟨l1,_,rfl,z,⟨Mv.refl _ _ _,(by first|(have e:s=mid:=by omega);rw [<- e];exact so1|(have e:a=s:=by omega);rw [e];exact OZ),q⟩,SM (by kernel_rfl) (trivial)⟩)
     |(have key:=ih l1 A c a s mid h (xQ.lay [] xQ.low) z.au hA (q.on _ _) (by omega) (by omega) (by omega) (by omega) (by omega) (Eo aP TL.perm) so1 OZ
       simp only [ju] at key
       refine key _ (λh' l2 x q1 Cu TQ=>?_)
       replace z:=x
       rw [ao h']
       simp only [aa,seval,bV]
       (rw [XY];exact ⟨l2,_,rfl,z,⟨Cu,TQ,q1⟩,SM (by kernel_rfl) (trivial)⟩))
   case rest =>
   obtain ⟨Cu,TQ,q⟩:=hinv
   have j7:=Cu.perm.length_eq
   have so6:=Ug so3 (λk g1 g2=>Cu.out k (.inr g1))
   have so7:=Ug TP (λk g1 g2=>Cu.out k (.inr (by omega)))
   have mvT:=(TL.zg p1 p5).trans (Cu.zg (bo _) (show mid<=b by omega))
   repeat' (first|simp only [aa,seval,bV]|((with_reducible apply bg) <;> intro _))
   all_goals first
    |exact hk _ l2 z.au (q.on _ _) mvT (zps hcr Cu (Mv.refl l2 mid b) TQ (by first|(have e:mid=mid+m - s:=by omega);rw [e];exact so7|(have e:mid+m - s=b:=by omega);rw [<- e];exact so6))
    |(have key:=ih l2 A c mid (mid+m - s) b h (Te.lay [] Te.low) z.au hA (q.on _ _) (by omega) (by omega) (by omega) (by omega) (by omega) (Eo (Eo aP TL.perm) Cu.perm) so6 so7
      simp only [j7,ju] at key
      refine key _ (λh' l3 x q1 mv3 so8=>?_)
      rw [ao h']
      repeat' (simp only [aa,seval,bV])
      exact hk _ l3 x.au (q1.on _ _) (mvT.trans (mv3.zg (show a<=mid by omega) (bo _))) (zps hcr Cu mv3 TQ so8))
  have oH:r<=l.length:=by
   rcases mq mid m with g|g
   .have:=hinv.IY g;omega
   .have:=hinv.IX g;omega
  obtain ⟨e1,e2,e3,e4⟩:=Rv s r (by omega)
  repeat' (simp only [aa,seval,bV,e1])
  rw [xd rfl rfl rfl (JF _) rfl,e2]
  simp only [aa,seval,bV]
  rw [JK (by decide),e4]
  simp only [aa,seval,bV]
  rw [xd rfl rfl rfl (JG _) rfl,e3]
  repeat' (simp only [aa,seval,bV])
  have vA:s<=(s+r) / 2/\(s+r) / 2 < r:=by omega
  have yU:IntKind.i64.wrap ((((s+r) / 2:Nat):Int)+1)=(((s+r) / 2+1:Nat):Int):=by rw [wrap_i64 (by omega) (by omega)];omega
  generalize (s+r) / 2=y at vA yU ⊢
  have Tt:=zyP hinv vA.1 vA.2 BB BU i0 kr
  have ZI:IntKind.i64.wrap (((mid+m - 1:Nat):Int) - (y:Int))=((mid+m - 1 - y:Nat):Int):=by rw [wrap_i64 (by omega) (by omega)];omega
  have aK:(0:Int)<=(y:Int)/\(y:Int) < (l.length:Int):=by omega
  have gn:(0:Int)<=((mid+m - 1 - y:Nat):Int)/\((mid+m - 1 - y:Nat):Int) < (l.length:Int):=by omega
  have kG:=λ(bs:List bh) (w:Nat)=>oR (bs:=bs) (w:=w) q (jf (l:=l) (i:=y) (by omega))
  have fJ:=λ(bs:List bh) (w:Nat)=>oR (bs:=bs) (w:=w) q (jf (l:=l) (i:=mid+m - 1 - y) (by omega))
  refine (cZ (by simp only [bV])) z.au ?_
  repeat' (simp only [aa,seval,bV,ZI,aK,gn,↓kG,↓fJ,da])
  refine EK _ _ (qH aP (by omega)) (qH aP (by omega)) _ _ (λh' x=>?_)
  (((with_reducible refine di ?_ ?_ ?_);(· exact (by (simp only [dp]);have:=z.size;omega));(· exact x));replace z:=z.aj x;replace q:=q.over x;rw [ao h'])
  simp only [aa,seval,bV]
  refine bg (λhc=>?_) (λhc=>?_)
  .repeat' (first|simp only [aa,seval,bV]|((with_reducible apply bI);(· rfl))|((with_reducible refine ⟨z.bZ.lay _ _,?_⟩);(intro _ h' zz x _);( simp only [bG,bu] at x );( replace q:=q.over x );(replace z:=zz);(clear zz);rw [ao h']))
   (rw [Th];with_reducible refine bS (m:=_) ?_ ⟨s,y,_,rfl,z,⟨rfl,zst hinv vA.1 vA.2 hc,q⟩,bc⟩;omega)
  .repeat' (first|simp only [aa,seval,bV]|((with_reducible apply bI);(· rfl))|((with_reducible refine ⟨z.bZ.lay _ _,?_⟩);(intro _ h' zz x _);( simp only [bG,bu] at x );( replace q:=q.over x );(replace z:=zz);(clear zz);rw [ao h']))
   rw [yU]
   (rw [Th];with_reducible refine bS (m:=_) ?_ ⟨y+1,r,_,rfl,z,⟨rfl,zyQ hinv vA.1 vA.2 hc,q⟩,bc⟩;omega)
theorem zDg:∀ sz,zBI sz
 |0=>by intro l A c a m b h hs z hA q h1 h2 h3;omega
 |sz+1=>zvo sz (zDg sz)
theorem zyi (l:aW) (A c:Nat) (h hs:Heap) (z:Ext h hs) (hA:h.size<=A) (q:Holds hs A (.row (aS l) 34 false)) (hn:l.length<=100000) (aP:∀ x∈l,x.aV=true) (K:aG)
 (hk:∀ h' l',Ext h h'->Holds h' A (.row (aS l') 34 false)->l'.Perm l->eY l l'->ie l' 0 l.length->K undef h'):Ok prog aA ov 156 [.slice (some ⟨A,0,none⟩) l.length c,.int .i64 l.length,.func (.func 108) ⟨[]⟩ ⟨[]⟩] hs K:=by
 rw [ao hs]
 refine Ok.aq 60 (bm E6) ?_
 simp only [aa,seval,iA]
 obtain ⟨I1,aO⟩:∃ I:Nat->Env->Heap->Prop,I=(λn e h'=>∃ (a:Nat) (l1:aW) (h1:Heap),h'=h1.lay [] h1.low/\Ext h h1/\(n=l.length - a/\a % 20=0/\a<=l.length/\l1.Perm l/\eY l l1/\Bl l1 20 l.length a/\Holds h1 A (.row (aS l1) 34 false))/\∃ J:Nat->ae,e=(.slice (some ⟨A,0,none⟩) l.length c::.int .i64 l.length::.func (.func 108) ⟨[]⟩ ⟨[]⟩::jr J 3 3 (.int .i64 20::.int .i64 a::.int .i64 (a+20:Nat)::jr J 9 54 ([])))):=⟨_,rfl⟩
 refine cK I1 _ (by rw [aO];exact ⟨0,l,_,rfl,z,⟨rfl,by omega,by omega,List.Perm.refl _,eY.refl _,λk _ hk=>absurd hk (by omega),q⟩,bc⟩) ?_
 intro n e h' aK
 rw [aO] at aK
 obtain ⟨a,l1,bD,rfl,z,hinv,J,rfl⟩:=aK
 clear q
 obtain ⟨rfl,M4,han,hp,eZ,mC,q⟩:=hinv
 have ju:=hp.length_eq
 have gq:=Eo aP hp
 simp only [aa,seval,iA]
 refine bg (λhle=>?_) (λhle=>?_)
 .have yT:IntKind.i64.wrap (((a+20:Nat):Int)+20)=((a+20+20:Nat):Int):=by rw [wrap_i64 (by omega) (by omega)];omega
  repeat' (simp only [aa,seval,iA])
  have key:=λK hk=>zin l1 A c a (a+20) h (bD.lay [] bD.low) z.au hA (q.on _ _) (by omega) (by omega) (by omega) gq K hk
  simp only [ju] at key
  refine key _ (λh' l' x q' pW vH mh IL=>?_)
  replace z:=x
  rw [ao h']
  repeat' (simp only [aa,seval,iA,yT])
  (rw [aO];with_reducible refine bS (m:=_) ?_ ⟨a+20,l',_,rfl,z,⟨rfl,by omega,by omega,pW.trans hp,eZ.trans vH,zq5 mC M4 (by rw [show min (a+20) l.length=a+20 by omega];exact mh) (by rw [show min (a+20) l.length=a+20 by omega];exact IL) _ (by omega),q'⟩,bc⟩;omega)
 repeat' (simp only [aa,seval,iA])
 have key:=λK hk=>zin l1 A c a l.length h (bD.lay [] bD.low) z.au hA (q.on _ _) (by omega) (by omega) (by omega) gq K hk
 simp only [ju] at key
 refine key _ (λh' l' x q' pW vH mh IL=>?_)
 replace z:=x
 replace hp:=pW.trans hp
 replace eZ:=eZ.trans vH
 replace mC:Bl l' 20 l.length l.length:=zq5 mC M4 (by rw [show min (a+20) l.length=l.length by omega];exact mh) (by rw [show min (a+20) l.length=l.length by omega];exact IL) _ (by omega)
 clear key mh IL pW vH ju gq q
 rw [ao h']
 repeat' (simp only [aa,seval,iA])
 obtain ⟨I2,ey⟩:∃ I:Nat->Env->Heap->Prop,I=(λn e h'=>∃ (w:Nat) (l1:aW) (h1:Heap),h'=h1.lay [] h1.low/\Ext h h1/\(n=l.length - w/\20<=w/\w<=200000/\l1.Perm l/\eY l l1/\Bl l1 w l.length l.length/\Holds h1 A (.row (aS l1) 34 false))/\∃ J:Nat->ae,e=(.slice (some ⟨A,0,none⟩) l.length c::.int .i64 l.length::.func (.func 108) ⟨[]⟩ ⟨[]⟩::jr J 3 3 (.int .i64 w::jr J 7 56 ([])))):=⟨_,rfl⟩
 refine cK I2 _ (by rw [ey];exact ⟨20,l',_,rfl,z,⟨rfl,by omega,by omega,hp,eZ,mC,q'⟩,bc⟩) ?_
 intro n e h' aK
 rw [ey] at aK
 obtain ⟨w,l1,j4,rfl,z,hinv,J,rfl⟩:=aK
 clear q' mC hp eZ
 obtain ⟨rfl,ao2,ao3,hp,eZ,mC,q⟩:=hinv
 simp only [aa,seval,iA]
 refine bg (λiZ=>?_) (λiZ=>?_)
 rotate_left
 .repeat' ( simp only [aa,seval,iA])
  exact hk _ _ z.au (q.on _ _) hp eZ (zDK mC (by omega))
 have kr:IntKind.i64.wrap ((2:Int)*(w:Int))=((2*w:Nat):Int):=by rw [wrap_i64 (by omega) (by omega)];omega
 repeat' (simp only [aa,seval,iA,kr,UW])
 obtain ⟨I3,lp⟩:∃ I:Nat->Env->Heap->Prop,I=(λn e h'=>∃ (a b:Nat) (l2:aW) (h1:Heap),h'=h1.lay [] h1.low/\Ext h h1/\(n=l.length - a/\b=a+2*w/\a % (2*w)=0/\a<=l.length/\l2.Perm l/\eY l l2/\E1 l2 w l.length a/\Holds h1 A (.row (aS l2) 34 false))/\∃ J:Nat->ae,e=(.slice (some ⟨A,0,none⟩) l.length c::.int .i64 l.length::.func (.func 108) ⟨[]⟩ ⟨[]⟩::jr J 3 3 (.int .i64 w::.int .i64 a::.int .i64 b::jr J 9 54 ([])))):=⟨_,rfl⟩
 refine cK I3 _ (by rw [lp];exact ⟨0,2*w,l1,_,rfl,z,⟨rfl,by omega,Nat.zero_mod _,by omega,hp,eZ,zw0 mC,q⟩,bc⟩) ?_
 intro n e h' aK
 rw [lp] at aK
 obtain ⟨a,b,l2,xQ,rfl,z,hinv,J,rfl⟩:=aK
 clear q mC hp eZ
 obtain ⟨rfl,hb,o7,han,hp,eZ,IG,q⟩:=hinv
 have j7:=hp.length_eq
 have NJ:=Eo aP hp
 have haw:IntKind.i64.wrap ((a:Int)+(w:Int))=((a+w:Nat):Int):=by rw [wrap_i64 (by omega) (by omega)];omega
 simp only [aa,seval,iA]
 refine bg (λhle=>?_) (λhle=>?_)
 .have hbw:IntKind.i64.wrap ((b:Int)+((2*w:Nat):Int))=((b+2*w:Nat):Int):=by rw [wrap_i64 (by omega) (by omega)];omega
  have yG:=zoH IG (by omega) o7 (by omega)
  rw [show min (a+2*w) l.length=b by omega] at yG
  repeat' (simp only [aa,seval,iA,haw])
  have key:=λK hk=>zDg l.length l2 A c a (a+w) b h (xQ.lay [] xQ.low) z.au hA (q.on _ _) (by omega) (by omega) (by omega) (by omega) (by omega) NJ yG.1 yG.2 K hk
  simp only [j7] at key
  refine key _ (λh' l' x q' yz mh=>?_)
  replace z:=x
  rw [ao h']
  repeat' (simp only [aa,seval,iA,kr,UW,hbw])
  have rD:=zs1 (l':=l') IG (by omega) o7 (by rw [show min (a+2*w) l.length=b by omega];exact mh) (by rw [show min (a+2*w) l.length=b by omega];exact yz)
  rw [show min (a+2*w) l.length=b by omega] at rD
  (rw [lp];with_reducible refine bS (m:=_) ?_ ⟨b,b+2*w,l',_,rfl,z,⟨rfl,by omega,by rw [hb,Nat.add_mod_right];exact o7,by omega,yz.perm.trans hp,eZ.trans yz.zd,rD,q'⟩,bc⟩;omega)
 have ph:IntKind.i64.wrap ((w:Int)*(2:Int))=((2*w:Nat):Int):=by rw [wrap_i64 (by omega) (by omega)];omega
 repeat' (first|simp only [aa,seval,iA,haw]|((with_reducible apply bg) <;> intro _))
 .have yG:=zoH IG (by omega) o7 (by omega)
  rw [show min (a+2*w) l.length=l.length by omega] at yG
  have key:=λK hk=>zDg l.length l2 A c a (a+w) l.length h (xQ.lay [] xQ.low) z.au hA (q.on _ _) (by omega) (by omega) (by omega) (by omega) (by omega) NJ yG.1 yG.2 K hk
  simp only [j7] at key
  refine key _ (λh' l' x q' yz mh=>?_)
  replace z:=x
  rw [ao h']
  repeat' (simp only [aa,seval,iA,ph,UW])
  have rD:=zs1 (l':=l') IG (by omega) o7 (by rw [show min (a+2*w) l.length=l.length by omega];exact mh) (by rw [show min (a+2*w) l.length=l.length by omega];exact yz)
  rw [show min (a+2*w) l.length=l.length by omega] at rD
  (rw [ey];with_reducible refine bS (m:=_) ?_ ⟨2*w,l',_,rfl,z,⟨rfl,by omega,by omega,yz.perm.trans hp,eZ.trans yz.zd,zCk rD (by omega),q'⟩,bc⟩;omega)
 .repeat' ( simp only [aa,seval,iA,ph,UW])
  (rw [ey];with_reducible refine bS (m:=_) ?_ ⟨2*w,l2,_,rfl,z,⟨rfl,by omega,by omega,hp,eZ,zCl IG (by omega) o7 (by omega),q⟩,bc⟩;omega)
theorem zm9 (l:aW) (A c:Nat) (h hs:Heap) (z:Ext h hs) (hA:h.size<=A) (q:Holds hs A (.row (aS l) 34 false)) (hn:l.length<=100000) (aP:∀ x∈l,x.aV=true) (K:aG)
 (hk:∀ h' l',Ext h h'->Holds h' A (.row (aS l') 34 false)->l'.Perm l->eY l l'->ie l' 0 l.length->K undef h'):Ok prog aA ov 107 [.slice (some ⟨A,0,none⟩) l.length c,.func (.func 108) ⟨[]⟩ ⟨[]⟩] hs K:=by
 rw [ao hs]
 refine Ok.aq 7 (bm E3) ?_
 repeat' (simp only [aa,seval,A9])
 refine zyi l A c h (hs.lay [] hs.low) z.au hA (q.on _ _) hn aP _ (λh' l' x q' pW vH mh=>?_)
 rw [ao h']
 repeat' (simp only [aa,seval,A9])
 exact hk _ _ x.au (q'.on _ _) pW vH mh
theorem zz2 {h:Heap} {v:ae} {l:aW} (f:Sl aJ.atom h v l):∃ b:Bool,bY prog aA .eql 44 v (.slice none 0 0)=some (.bool b)/\(b=true->l=[]):=by
 rcases f with ⟨rfl,rfl⟩|⟨A,o,c,row,u,ro,rfl,_⟩
 .exact ⟨true,by kernel_rfl,λ_=>rfl⟩
 .exact ⟨false,by kernel_rfl,nofun⟩
theorem zpz (l:aW) (v:ae) (h:Heap) (hl:Sl aJ.atom h v l) (hs:l.length<=100000) (K:aG)
 (hk:∀ h' w,Ext h h'->kM h h' 34 w l->K w h'):Ok prog aA ov 65 [v] h K:=by
 rw [ao h]
 obtain ⟨b,hb,mE⟩:=zz2 hl
 refine Ok.aq 7 (bm Vn) ?_
 simp only [aa,seval,Dp,hb]
 cases b
 .simp only [aa,seval,Dp,ja,xh]
  obtain ⟨news,hs,lQ⟩:=rX (A:=h.size+1) (r:=aJ.atom) (by decide) (hl.lay [.row [] 34 false] h.low) (λcs y hr=>hr)
  have f:Ow aJ.atom h (h.lay [.row [] 34 false] h.low) 34 (h.size+1) (.slice (some ⟨h.size+0,0,none⟩) 0 0) [] :=
   .inl ⟨by omega,rfl,.inr ⟨h.size+0,0,rfl,by omega,by rw [bf];simp,[],34,false,by rw [gH];rfl⟩⟩
  obtain ⟨w,h',A',e1,e2,e3,e4,e5⟩:=tX (t:=44) bC sJ rfl (by decide) (by rw [bf];omega) f hs lQ (by simp only [dr];omega) (by simp only [dr];omega)
  rw [e1]
  simp only [aa,seval,Dp]
  exact hk _ _ ((Ext.refl h).cx e3 (by omega) (by omega)) (Ux (by simpa using e2))
 .simp only [aa,seval,Dp]
  rw [mE rfl] at hk
  exact hk _ _ ((Ext.refl h).je _ _ (by omega)) (.inl ⟨rfl,ue.nil⟩)
theorem zyh (a b:ak) (ha:a.aV=true) (hb:b.aV=true) (h:Heap) (K:aG) (hk:∀ h',Ext h h'->K (.bool (aT a b == 0)) h'):Ok prog aA ov 110 [a.val,b.val] h K:=by
 rw [ao h]
 have z:=Ext.refl h
 refine Ok.aq 7 (bm Ku) ?_
 repeat' (simp only [aa,seval,Ba,fA,↓dW,dO,da])
 refine EK a b ha hb _ _ (λh' x=>?_)
 (replace z:=z.aj x;rw [ao h'])
 simp only [aa,seval,Ba]
 refine lz (λhc=>?_) (λhc=>?_)
 .repeat' ( simp only [aa,seval,Ba])
  rw [show (aT a b == 0)=true by rw [hc];rfl] at hk
  exact hk _ z.au
 .repeat' ( simp only [aa,seval,Ba])
  rw [show (aT a b == 0)=false by simpa using hc] at hk
  exact hk _ z.au
theorem zu9 (l:aW) (A:Nat) (h hs:Heap) (z:Ext h hs) (hA:h.size<=A) (q:Holds hs A (.row (aS l) 34 false)) (hn:l.length<=100000) (aP:∀ x∈l,x.aV=true) (K:aG)
 (hk:∀ h' v,Ext h h'->eo h h' 34 v (pq l l.length)->K v h'):Ok prog aA ov 109 [.slice (some ⟨A,0,none⟩) l.length (G*11+l.length),.func (.func 110) ⟨[]⟩ ⟨[]⟩] hs K:=by
 rw [ao hs]
 obtain ⟨C,hC⟩:∃ C,C=G*11+l.length:=⟨_,rfl⟩
 rw [<- hC]
 refine Ok.aq 64 (bm E4) ?_
 repeat' (first|simp only [aa,seval,gk]|((with_reducible apply bg) <;> intro _))
 .have e:=zsD (l:=l) (by omega)
  rw [e] at hk
  exact hk _ _ z.au (RE (q.on _ _) hA (by omega) hC)
 have hu1:pq l 1=l.take 1:=by
  rw [zki (m:=0) (by omega)]
  rfl
 obtain ⟨I1,aO⟩:∃ I:Nat->Env->Heap->Prop,I=(λn e h'=>∃ (k:Nat) (h1:Heap),h'=h1.lay [] h1.low/\Ext h h1/\(n=l.length - k/\1<=k/\k<=l.length/\pq l k=l.take k/\Holds h1 A (.row (aS l) 34 false))/\∃ J:Nat->ae,e=(.slice (some ⟨A,0,none⟩) l.length C::.func (.func 110) ⟨[]⟩ ⟨[]⟩::jr J 2 3 (.int .i64 k::jr J 6 60 ([])))):=⟨_,rfl⟩
 refine cK I1 _ (by rw [aO];exact ⟨1,_,rfl,z,⟨rfl,by omega,by omega,hu1,q⟩,bc⟩) ?_
 intro n e h' aK
 rw [aO] at aK
 obtain ⟨k,bD,rfl,z,hinv,J,rfl⟩:=aK
 clear q
 obtain ⟨rfl,yp,II,hu,q⟩:=hinv
 have qG:=dE k (by omega)
 have ZG:IntKind.i64.wrap ((k:Int) - 1)=((k - 1:Nat):Int):=by rw [wrap_i64 (by omega) (by omega)];omega
 simp only [aa,seval,gk]
 refine bg (λgq=>?_) (λgq=>?_)
 rotate_left
 .repeat' ( simp only [aa,seval,gk])
  have kF:k=l.length:=by omega
  subst kF
  rw [hu,AQ] at hk
  exact hk _ _ z.au (RE (q.on _ _) hA (by omega) hC)
 have aK:(0:Int)<=(k:Int)/\(k:Int) < (l.length:Int):=by omega
 have gn:(0:Int)<=((k - 1:Nat):Int)/\((k - 1:Nat):Int) < (l.length:Int):=by omega
 have kG:=λ(bs:List bh) (w:Nat)=>oR (bs:=bs) (w:=w) q (jf (l:=l) (i:=k) (by omega))
 have fJ:=λ(bs:List bh) (w:Nat)=>oR (bs:=bs) (w:=w) q (jf (l:=l) (i:=k - 1) (by omega))
 simp only [aa,seval,gk]
 refine (cZ (by simp only [gk])) z.au ?_
 repeat' (simp only [aa,seval,gk,ZG,aK,gn,↓kG,↓fJ,da])
 refine zyh _ _ (qH aP (by omega)) (qH aP (by omega)) _ _ (λh' x=>?_)
 (((with_reducible refine di ?_ ?_ ?_);(· exact (by (simp only [dp]);have:=z.size;omega));(· exact x));replace z:=z.aj x;replace q:=q.over x;rw [ao h'])
 cases hc:(aT (l.getD k ab) (l.getD (k - 1) ab) == 0)
 .repeat' (first|simp only [aa,seval,gk]|((with_reducible refine ⟨z.bZ.lay _ _,?_⟩);(intro _ h' zz x _);( simp only [bG,bu] at x );( replace q:=q.over x );(replace z:=zz);(clear zz);rw [ao h']))
  rw [qG]
  (rw [aO];with_reducible refine bS (m:=_) ?_ ⟨k+1,_,rfl,z,⟨rfl,by omega,by omega,zv6 (by omega) (by omega) hu (by simpa using hc),q⟩,bc⟩;omega)
 have hc:aT (l.getD k ab) (l.getD (k - 1) ab)=0:=by simpa using hc
 repeat' (first|simp only [aa,seval,gk]|((with_reducible refine ⟨z.bZ.lay _ _,?_⟩);(intro _ h' zz x _);(simp only [bG,bu] at x);replace q:=q.over x;(replace z:=zz);(clear zz);rw [ao h']))
 rw [hC,zjO bC bE (by omega) (bo _) (by omega),<- hC]
 repeat' (simp only [aa,seval,gk])
 obtain ⟨C2,hC2⟩:∃ C2,C2=G*11+(l.length - k):=⟨_,rfl⟩
 rw [<- hC2]
 obtain ⟨I2,ey⟩:∃ I:Nat->Env->Heap->Prop,I=(λn e h'=>∃ (b i:Nat) (cur:aW) (h1:Heap),h'=h1.lay [] h1.low/\Ext h h1/\(n=l.length - (k+b)/\1<=b/\k+b<=l.length/\cur.length=l.length/\i+1<=k+b/\cur.take i=pq l (k+b)/\(∀ p,k+b<=p+1->cur.getD p ab=l.getD p ab)/\Holds h1 A (.row (aS cur) 34 false))/\∃ J:Nat->ae,e=(.slice (some ⟨A,0,none⟩) l.length C::.func (.func 110) ⟨[]⟩ ⟨[]⟩::jr J 2 3 (.int .i64 i::.slice (some ⟨A,k*11,none⟩) (l.length - k) C2::.int .i64 b::jr J 8 58 ([])))):=⟨_,rfl⟩
 refine cK I2 _ (by rw [ey];exact ⟨1,k,l,_,rfl,z,⟨rfl,by omega,by omega,rfl,by omega,by rw [ztM (by omega) hc];exact hu.symm,λ_ _=>rfl,q⟩,bc⟩) ?_
 intro n e h' aK
 rw [ey] at aK
 obtain ⟨b,i,cur,j4,rfl,z,hinv,J,rfl⟩:=aK
 clear q
 obtain ⟨rfl,DB,Tm,mS,ry,To,DD,q⟩:=hinv
 have D7:=dE b (by omega)
 have ZC:IntKind.i64.wrap ((b:Int) - 1)=((b - 1:Nat):Int):=by rw [wrap_i64 (by omega) (by omega)];omega
 have fb:=dE i (by omega)
 simp only [aa,seval,gk]
 refine bg (λiZ=>?_) (λiZ=>?_)
 rotate_left
 .have hkb:k+b=l.length:=by omega
  have jt:i<=l.length:=by omega
  simp only [aa,seval,gk]
  rw [hC,zjO bC bE jt (bo _) (by omega),<- hC]
  obtain ⟨C3,hC3⟩:∃ C3,C3=G*11+(l.length - i):=⟨_,rfl⟩
  rw [<- hC3]
  simp only [aa,seval,gk,zzd]
  refine zun q bC sJ (by omega) (by omega) (λh3 q3 c3=>?_)
  replace z:=z.cx c3 hA (by omega)
  rw [ao h3]
  clear q
  simp only [aa,seval,gk]
  rw [hC,zyp bC bE jt (bo _) (by omega),<- hC]
  repeat' (simp only [aa,seval,gk])
  rw [To,hkb] at q3
  have hlen:i=(pq l l.length).length:=by rw [<- hkb,<- To,fj];omega
  have ND:(pq l l.length++List.replicate (cur.length - i) ab).length=l.length:=by rw [cW,H6];omega
  exact hk _ _ z.au (znc (q3.on _ _) hA (by omega) hlen (by rw [ND];exact hC))
 have aK:(0:Int)<=(b:Int)/\(b:Int) < ((l.length - k:Nat):Int):=by omega
 have gn:(0:Int)<=((b - 1:Nat):Int)/\((b - 1:Nat):Int) < ((l.length - k:Nat):Int):=by omega
 have kG:=λ(bs:List bh) (w:Nat)=>oR (bs:=bs) (w:=w) q (jf (l:=cur) (i:=k+b) (by omega))
 have fJ:=λ(bs:List bh) (w:Nat)=>oR (bs:=bs) (w:=w) q (jf (l:=cur) (i:=k+(b - 1)) (by omega))
 rw [sZ] at kG fJ
 rw [DD _ (by omega)] at kG fJ
 simp only [aa,seval,gk]
 refine (cZ (by simp only [gk])) z.au ?_
 repeat' (simp only [aa,seval,gk,ZC,aK,gn,↓kG,↓fJ,da])
 refine zyh _ _ (qH aP (by omega)) (qH aP (by omega)) _ _ (λh' x=>?_)
 (((with_reducible refine di ?_ ?_ ?_);(· exact (by (simp only [dp]);have:=z.size;omega));(· exact x));replace z:=z.aj x;replace q:=q.over x;rw [ao h'])
 cases qx:(aT (l.getD (k+b) ab) (l.getD (k+(b - 1)) ab) == 0)
 rotate_left
 .have qx:aT (l.getD (k+b) ab) (l.getD (k+b - 1) ab)=0:=by rw [show k+b - 1=k+(b - 1) by omega];simpa using qx
  repeat' (first|simp only [aa,seval,gk]|((with_reducible apply bI);(· rfl))|((with_reducible refine ⟨z.bZ.lay _ _,?_⟩);(intro _ h' zz x _);(simp only [bG,bu] at x);replace q:=q.over x;(replace z:=zz);(clear zz);rw [ao h']))
  rw [D7]
  (rw [ey];with_reducible refine bS (m:=_) ?_ ⟨b+1,i,cur,_,rfl,z,⟨rfl,by omega,by omega,mS,by omega,by rw [To,show k+(b+1)=k+b+1 by omega,ztM (by omega) qx],λp hp=>DD p (by omega),q⟩,bc⟩;omega)
 have qx:aT (l.getD (k+b) ab) (l.getD (k+b - 1) ab)≠0:=by rw [show k+b - 1=k+(b - 1) by omega];simpa using qx
 repeat' (first|simp only [aa,seval,gk]|((with_reducible apply bI);(· rfl))|((with_reducible refine ⟨z.bZ.lay _ _,?_⟩);(intro _ h' zz x _);(simp only [bG,bu] at x);replace q:=q.over x;(replace z:=zz);(clear zz);rw [ao h']))
 have kG:=λ(bs:List bh) (w:Nat)=>oR (bs:=bs) (w:=w) q (jf (l:=cur) (i:=k+b) (by omega))
 rw [sZ] at kG
 rw [DD _ (by omega)] at kG
 have YK:(0:Int)<=(i:Int)/\(i:Int) < (l.length:Int):=by omega
 repeat' (simp only [aa,seval,gk,aK,YK,↓kG,da])
 have hz:=z.size
 refine CG q bE (by omega) (λh3 q3 c3=>?_)
 replace z:=z.cx c3 hA (by omega)
 rw [ao h3]
 clear q kG
 repeat' (simp only [aa,seval,gk])
 rw [fb,D7]
 have Yj:∀ p,k+(b+1)<=p+1->(cur.set i (l.getD (k+b) ab)).getD p ab=l.getD p ab:=by
  intro p hp
  have ba:i≠p:=by omega
  rw [zml ba]
  exact DD p (by omega)
 (rw [ey];with_reducible refine bS (m:=_) ?_ ⟨b+1,i+1,cur.set i (l.getD (k+b) ab),_,rfl,z,⟨rfl,by omega,by omega,by rw [nU];exact mS,by omega,by rw [zA2 (by omega),To,show k+(b+1)=k+b+1 by omega,zy7 qx],Yj,q3⟩,bc⟩;omega)
theorem zvn (v:ae) (h:Heap) (hl:Sl aJ.atom h v []) (K:aG) (hk:∀ h',Ext h h'->K undef h'):Ok prog aA ov 107 [v,.func (.func 108) ⟨[]⟩ ⟨[]⟩] h K:=by
 rw [ao h]
 have z:=Ext.refl h
 have jv:=λ(hh:Heap)=>hl.bt bC hh
 simp only [dr] at jv
 have sx:((0:Nat):Int)=0:=rfl
 refine Ok.aq 7 (bm E3) ?_
 repeat' (simp only [aa,seval,A9,jv,sx])
 refine Ok.aq 60 (bm E6) ?_
 simp only [aa,seval,iA]
 refine Ry ?_
 simp only [aa,seval,iA]
 refine Ok.aq 49 (bm E8) ?_
 simp only [aa,seval,iB]
 refine Ry ?_
 simp only [aa,seval,iA,iB]
 refine Ry ?_
 simp only [aa,seval,iA,A9]
 exact hk _ z.au
theorem zm5 (v:ae) (h:Heap) (hl:Sl aJ.atom h v []) (f:ae) (K:aG) (hk:∀ h',Ext h h'->K v h'):Ok prog aA ov 109 [v,f] h K:=by
 rw [ao h]
 have z:=Ext.refl h
 have jv:=λ(hh:Heap)=>hl.bt bC hh
 simp only [dr] at jv
 have sx:((0:Nat):Int)=0:=rfl
 refine Ok.aq 64 (bm E4) ?_
 simp only [aa,seval,gk,jv,sx]
 exact hk _ z.au
theorem zpL (l:aW) (v:ae) (h:Heap) (hl:Sl aJ.atom h v l) (hn:l.length<=100000) (aP:∀ x∈l,x.aV=true) (K:aG)
 (hk:∀ h' w,Ext h h'->eo h h' 34 w (eG l)->K w h'):Ok prog aA ov 66 [v] h K:=by
 rw [ao h]
 have z:=Ext.refl h
 refine Ok.aq 9 (bm N66) ?_
 repeat' (simp only [aa,seval,Fy])
 refine zpz l v _ (hl.lay _ _) (by omega) _ (λh' w x ho=>?_)
 rcases ho with ⟨rfl,ho⟩|⟨A,rfl,q,hA,ba⟩
 .have dn:∀ (h:Heap) (K:aG),aD (some w) h K=K w h:=λ_ _=>rfl
  (replace z:=z.aj x;rw [ao h'])
  repeat' (simp only [aa,seval,Fy])
  refine zvn w _ (ho.lay _ _).sl _ (λh' x=>?_)
  replace ho:=ho.over x
  (replace z:=z.aj x;rw [ao h'])
  repeat' (simp only [aa,seval,Fy])
  refine zm5 w _ (ho.lay _ _).sl _ _ (λh' x=>?_)
  replace ho:=ho.over x
  (replace z:=z.aj x;rw [ao h'])
  repeat' (simp only [aa,seval,Fy])
  exact hk _ _ z.au (.inl ⟨rfl,ho.lay _ _⟩)
 ·(replace z:=z.aj x;rw [ao h'])
  repeat' (simp only [aa,seval,Fy])
  refine zm9 l A (G*11+l.length) h _ z.au hA (q.on _ _) hn aP _ (λh' l' x q' hp eZ yO=>?_)
  replace z:=x
  rw [ao h']
  repeat' (simp only [aa,seval,Fy])
  have key:=λK hk=>zu9 l' A h (h'.lay [] h'.low) z.au hA (q'.on _ _) (by rw [hp.length_eq];omega) (Eo aP hp) K hk
  rw [zv7 hp eZ yO,hp.length_eq] at key
  refine key _ (λh' w x ho=>?_)
  replace z:=x
  have dn:∀ (h:Heap) (K:aG),aD (some w) h K=K w h:=λ_ _=>rfl
  rw [ao h']
  repeat' (simp only [aa,seval,Fy])
  exact hk _ _ z.au (ho.lay _ _)
theorem zG9 (l:aW) (v:ae) (h:Heap) (hl:Sl aJ.atom h v l) (hn:l.length<=1000) (aP:∀ x∈l,x.aV=true) (K:aG)
 (hk:∀ h',Ext h h'->K (.bool (D9 l)) h'):Ok prog aA ov 116 [v] h K:=by
 rw [ao h]
 have z:=Ext.refl h
 have jv:=λ(hh:Heap)=>hl.bt bC hh
 refine Ok.aq 24 (bm KA) ?_
 simp only [aa,seval,mu,jv]
 obtain ⟨I1,aO⟩:∃ I:Nat->Env->Heap->Prop,I=(λn e h'=>∃ (i:Nat) (h1:Heap),h'=h1.lay [] h1.low/\Ext h h1/\(n=l.length - i/\i<=l.length/\(∀ k,0 < k->k < i->aT (l.getD (k - 1) ab) (l.getD k ab) < 0))/\∃ J:Nat->ae,e=(v::jr J 1 4 (.int .i64 l.length::.int .i64 i::jr J 7 18 ([])))):=⟨_,rfl⟩
 refine cK I1 _ (by rw [aO];exact ⟨0,_,rfl,z,⟨rfl,by omega,λk _ g=>by omega⟩,bc⟩) ?_
 intro n e h' aK
 rw [aO] at aK
 obtain ⟨i,bD,rfl,z,hinv,J,rfl⟩:=aK
 obtain ⟨rfl,aK,tJ⟩:=hinv
 have fb:=dE i (by omega)
 have tL:0 < i->IntKind.i64.wrap ((i:Int) - 1)=((i - 1:Nat):Int):=λ_=>by rw [wrap_i64 (by omega) (by omega)];omega
 simp only [aa,seval,mu]
 refine bg (λgq=>?_) (λgq=>?_)
 rotate_left
 .have hi:i=l.length:=by omega
  subst hi
  rw [kY.2 (fQ.2 tJ)] at hk
  repeat' (simp only [aa,seval,mu])
  exact hk _ z.au
 have hr:l[(i:Int).toNat]? = some (l.getD i ab):=jf (by omega)
 have wK:l[((i - 1:Nat):Int).toNat]? = some (l.getD (i - 1) ab):=jf (by omega)
 simp only [aa,seval,mu]
 refine (cZ (by simp only [mu])) z.au ?_
 simp only [aa,seval,mu]
 refine bg (λjS=>?_) (λjS=>?_)
 rotate_left
 .have ru:i=0:=by omega
  subst ru
  repeat' (first|simp only [aa,seval,mu]|((with_reducible refine ⟨z.bZ.lay _ _,?_⟩);(intro _ h' zz x _);(simp only [bG,bu] at x);(replace z:=zz);(clear zz);rw [ao h']))
  (rw [aO];with_reducible refine bS (m:=_) ?_ ⟨1,_,rfl,z,⟨rfl,by omega,λk _ g=>by omega⟩,bc⟩;omega)
 have tL:=tL (by omega)
 simp only [aa,seval,mu,tL]
 repeat' ((first|with_reducible refine mM (hl.mono z.inc) bC bE (by omega) wK (λp hp=>?_)|with_reducible refine mM (hl.mono z.inc) bC bE (by omega) hr (λp hp=>?_)|with_reducible refine ly hp eK bE ?_) <;> simp only [aa,seval,mu])
 refine EK _ _ (qH aP (by omega)) (qH aP (by omega)) _ _ (λh' x=>?_)
 (((with_reducible refine di ?_ ?_ ?_);(· exact (by (simp only [dp]);have:=z.size;omega));(· exact x));replace z:=z.aj x;rw [ao h'])
 simp only [aa,seval,mu]
 refine bg (λhc=>?_) (λhc=>?_)
 .rw [zBx (λg=>by have:=fQ.1 g i (by omega) (by omega);omega)] at hk
  repeat' (first|simp only [aa,seval,mu]|((with_reducible refine ⟨z.bZ.lay _ _,?_⟩);(intro _ h' zz x _);(simp only [bG,bu] at x);(replace z:=zz);(clear zz);rw [ao h']))
  exact hk _ z.au
 .repeat' (first|simp only [aa,seval,mu]|((with_reducible refine ⟨z.bZ.lay _ _,?_⟩);(intro _ h' zz x _);( simp only [bG,bu] at x );(replace z:=zz);(clear zz);rw [ao h']))
  rw [fb]
  (rw [aO];(with_reducible refine bS (m:=_) ?_ ⟨i+1,_,rfl,z,⟨rfl,by omega,λk g1 g2=>by
   rcases mq k i with e|e
   .exact tJ k g1 e
   .have e:k=i:=by omega
    subst e
    omega⟩,bc⟩);omega)
theorem zxZ (l:aW) (v:ae) (h:Heap) (hl:Sl aJ.atom h v l) (hn:l.length<=900) (aP:∀ x∈l,x.aV=true) (K:aG)
 (hk:∀ h' w,Ext h h'->eo h h' 34 w (eG l)->K w h'):Ok prog aA ov 69 [v] h K:=by
 rw [ao h]
 have z:=Ext.refl h
 refine Ok.aq 8 (bm N69) ?_
 repeat' (simp only [aa,seval,Mx])
 refine zG9 l v _ (hl.lay _ _) (by omega) aP _ (λh' x=>?_)
 (replace z:=z.aj x;rw [ao h'])
 cases hi:D9 l
 .repeat' ( simp only [aa,seval,Mx])
  refine zpL l v _ ((hl.mono z.inc).lay _ _) (by omega) aP _ (λh' w x ho=>?_)
  have dS:=z.size
  replace ho:=ho.down (h0:=h) (by rw [bf];omega)
  (replace z:=z.aj x;rw [ao h'])
  have dn:∀ (h:Heap) (K:aG),aD (some w) h K=K w h:=λ_ _=>rfl
  repeat' (simp only [aa,seval,Mx])
  exact hk _ _ z.au (ho.lay _ _)
 .repeat' ( simp only [aa,seval,Mx])
  refine zpz l v _ ((hl.mono z.inc).lay _ _) (by omega) _ (λh' w x ho=>?_)
  have dS:=z.size
  replace ho:=(ho.own (by omega)).down (h0:=h) (by rw [bf];omega)
  rw [<- UA (kY.1 hi)] at ho
  (replace z:=z.aj x;rw [ao h'])
  have dn:∀ (h:Heap) (K:aG),aD (some w) h K=K w h:=λ_ _=>rfl
  repeat' (simp only [aa,seval,Mx])
  exact hk _ _ z.au (ho.lay _ _)
end Go.Proofs.YtkgojconmeeegaaGreatDoor
