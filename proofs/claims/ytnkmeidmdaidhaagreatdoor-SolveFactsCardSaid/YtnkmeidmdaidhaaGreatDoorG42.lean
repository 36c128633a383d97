/- Walks: sorting in place: Am.one block Written out by fill2.py. No condition. -/
import Derived.Test.YtnkmeidmdaidhaaGreatDoorG25
set_option linter.unusedSimpArgs false
set_option linter.unusedVariables false
set_option maxRecDepth 100000
set_option maxHeartbeats 0
namespace Go.Proofs.YtnkmeidmdaidhaaGreatDoor
open Go.Am Tryz
theorem zii (l:aN) (A c a b:Nat) (h hs:Heap) (z:Ext h hs) (hA:h.size<=A) (q:Holds hs A (.row (bm l) 28 false)) (vY:a<=b) (hb:b<=l.length) (hn:l.length<=100000) (aT:∀ x∈l,x.bW=true) (K:aJ)
 (hk:∀ h' l',Ext h h'->Holds h' A (.row (bm l') 28 false)->l'.Perm l->eM l l'->gQ l' a b->FZ l l' a b->K undef h'):Ok prog aH ov 117 [.slice (some ⟨A,0,none⟩) l.length c,.int .i64 a,.int .i64 b,.func (.func 53) ⟨[]⟩ ⟨[]⟩] hs K:=by
 rw [aw hs]
 have AA:=eE a (by omega)
 refine Ok.aA 49 (bH Dt) ?_
 simp only [aa,seval,hU]
 rw [AA]
 obtain ⟨I1,aX⟩:∃ I:Nat->Env->Heap->Prop,I=(λn e h'=>∃ (i:Nat) (l1:aN) (h1:Heap),h'=h1.lay [] h1.low/\Ext h h1/\(n=b - i/\a < i/\(i<=b\/(i=a+1/\l1=l))/\l1.Perm l/\eM l l1/\gQ l1 a i/\FZ l l1 a i/\Holds h1 A (.row (bm l1) 28 false))/\∃ J:Nat->ai,e=(.slice (some ⟨A,0,none⟩) l.length c::.int .i64 a::.int .i64 b::.func (.func 53) ⟨[]⟩ ⟨[]⟩::jr J 4 4 (.int .i64 i::jr J 9 44 ([])))):=⟨_,rfl⟩
 refine dN I1 _ (by rw [aX];exact ⟨a+1,l,_,rfl,z,⟨rfl,by omega,.inr ⟨rfl,rfl⟩,List.Perm.refl _,eM.refl _,λk g1 g2=>by omega,λk _=>rfl,q⟩,bo⟩) ?_
 intro n e h' aP
 rw [aX] at aP
 obtain ⟨i,l1,bU,rfl,z,hinv,J,rfl⟩:=aP
 clear q
 obtain ⟨rfl,Ud,O1,uT,wZ,EO,EL,q⟩:=hinv
 have hw:=eE i (by omega)
 simp only [aa,seval,hU]
 refine bS (λrM=>?_) (λrM=>?_)
 rotate_left
 .simp only [aa,seval,hU]
  repeat' ((first|((with_reducible first|apply bS|apply qL|apply qM|apply Bv|apply F4) <;> intro _)|((with_reducible refine ⟨z.cU.lay _ _,?_⟩);(intro _ h' zz x _);(first|simp only [bY,bC] at x|skip);(replace z:=zz);(clear zz);rw [aw h'])) <;> simp only [aa,seval,hU])
  refine hk _ _ z.av (q.on _ _) uT wZ (λk g1 g2=>EO k g1 (by omega)) (λk g=>?_)
  rcases O1 with O1|⟨_,rfl⟩
  .exact EL k (by omega)
  .rfl
 have mC:=uT.length_eq
 have Kw:=CR aT uT
 repeat' (simp only [aa,seval,hU])
 obtain ⟨I2,eu⟩:∃ I:Nat->Env->Heap->Prop,I=(λn e h'=>∃ (j:Nat) (l2:aN) (h1:Heap),h'=h1.lay [] h1.low/\Ext h h1/\(n=j - a/\a<=j/\j<=i/\l2.Perm l/\eM l l2/\N2 l2 a i j/\FZ l l2 a (i+1)/\Holds h1 A (.row (bm l2) 28 false))/\∃ J:Nat->ai,e=(.slice (some ⟨A,0,none⟩) l.length c::.int .i64 a::.int .i64 b::.func (.func 53) ⟨[]⟩ ⟨[]⟩::jr J 4 4 (.int .i64 i::.int .i64 j::jr J 10 43 ([])))):=⟨_,rfl⟩
 refine dN I2 _ (by rw [eu];exact ⟨i,l1,_,rfl,z,⟨rfl,by omega,by omega,uT,wZ,zrs EO,λk g=>EL k (by omega),q⟩,bo⟩) ?_
 intro n e h' aP
 rw [eu] at aP
 obtain ⟨j,l2,dc,rfl,z,hinv,J,rfl⟩:=aP
 clear q uT wZ EO EL mC Kw
 obtain ⟨rfl,Ue,na,Au,w8,Vt,EM,q⟩:=hinv
 have nb:=Au.length_eq
 have ey:=CR aT Au
 simp only [cm,seval,hU]
 refine (ez (by simp only [hU])) z.av ?_
 simp only [aa,seval,hU]
 refine bS (λtP=>?_) (λtP=>?_)
 rotate_left
 .repeat' (first|simp only [aa,seval,hU]|((with_reducible refine ⟨z.cU.lay _ _,?_⟩);(intro _ h' zz x _);( simp only [bY,bC] at x );( replace q:=q.over x );(replace z:=zz);(clear zz);rw [aw h']))
  rw [hw]
  (rw [aX];with_reducible refine cF (m:=_) ?_ ⟨i+1,l2,_,rfl,z,⟨rfl,by omega,.inl (by omega),Au,w8,zpy Vt na (λg=>absurd g (by omega)),EM,q⟩,bo⟩;omega)
 have yC:IntKind.i64.wrap ((j:Int) - 1)=((j - 1:Nat):Int):=by rw [fZ (by omega) (by omega)];omega
 have aP:(0:Int)<=(j:Int)/\(j:Int) < (l.length:Int):=by omega
 have fS:(0:Int)<=((j - 1:Nat):Int)/\((j - 1:Nat):Int) < (l.length:Int):=by omega
 have jZ:=λ(bs:List aZ) (w:Nat)=>nJ (bs:=bs) (w:=w) q (lO (l:=l2) (i:=j) (by omega))
 have fm:=λ(bs:List aZ) (w:Nat)=>nJ (bs:=bs) (w:=w) q (lO (l:=l2) (i:=j - 1) (by omega))
 repeat' (simp only [aa,seval,hU,yC,aP,fS,↓jZ,↓fm,dq])
 refine NP _ _ (uZ ey (by omega)) (uZ ey (by omega)) _ _ (λh' x=>?_)
 (((with_reducible refine ix ?_ ?_ ?_);(· exact (by (simp only [iY]);have:=z.size;omega));(· exact x));replace z:=z.ao x;replace q:=q.over x;rw [aw h'])
 simp only [aa,seval,hU]
 refine bS (λhc=>?_) (λhc=>?_)
 rotate_left
 .repeat' (first|simp only [aa,seval,hU]|((with_reducible refine ⟨z.cU.lay _ _,?_⟩);(intro _ h' zz x _);( simp only [bY,bC] at x );( replace q:=q.over x );(replace z:=zz);(clear zz);rw [aw h']))
  rw [hw]
  (rw [aX];with_reducible refine cF (m:=_) ?_ ⟨i+1,l2,_,rfl,z,⟨rfl,by omega,.inl (by omega),Au,w8,zpy Vt na (λ_=>HR hc),EM,q⟩,bo⟩;omega)
 repeat' (first|simp only [aa,seval,hU]|((with_reducible refine ⟨z.cU.lay _ _,?_⟩);(intro _ h' zz x _);(simp only [bY,bC] at x);replace q:=q.over x;(replace z:=zz);(clear zz);rw [aw h']))
 have jZ:=λ(bs:List aZ) (w:Nat)=>nJ (bs:=bs) (w:=w) q (lO (l:=l2) (i:=j) (by omega))
 have fm:=λ(bs:List aZ) (w:Nat)=>nJ (bs:=bs) (w:=w) q (lO (l:=l2) (i:=j - 1) (by omega))
 refine (ez (by simp only [hU])) z.av ?_
 repeat' (simp only [aa,seval,hU,yC,aP,fS,↓jZ,↓fm,dq])
 refine Bk q ck (by omega) (λh3 q3 c3=>?_)
 have hz:=z.size
 refine iL (A:=A) (by kernel_rfl) (by rw [bh];omega) (by omega) (by simpa only [bY,bh,bC,ek,db,gx] using c3) ?_
 replace z:=(z.jC [] (h'.size+0) (by omega)).step c3 hA
 rw [aw h3]
 clear q jZ fm
 repeat' (simp only [aa,seval,hU,fS])
 refine Bk q3 ck (by rw [ja];omega) (λh4 q4 c4=>?_)
 have hz:=z.size
 refine iL (A:=A) (by kernel_rfl) (by rw [bh];omega) (by omega) (by simpa only [bY,bh,bC,ek,db,gx] using c4) ?_
 replace z:=(z.jC [] (h3.size+0) (by omega)).step c4 hA
 rw [aw h4]
 clear q3
 repeat' (first|simp only [aa,seval,hU,yC]|((with_reducible refine ⟨z.cU.lay _ _,?_⟩);(intro _ h' zz x _);(simp only [bY,bC] at x);replace q4:=q4.over x;(replace z:=zz);(clear zz);rw [aw h']))
 replace q4:Holds _ A (.row (bm (ky l2 j (j - 1))) 28 false):=q4
 (rw [eu];with_reducible refine cF (m:=_) ?_ ⟨j - 1,ky l2 j (j - 1),_,rfl,z,⟨rfl,by omega,by omega,(XJ (by omega) (by omega)).trans Au,w8.trans (zpD (by omega) (by omega) hc),zu3 Vt (by omega) na (by omega) hc,zpw EM (by omega) na (by omega),q4⟩,bo⟩;omega)
theorem Xk (l:aN) (A c a b w:Nat) (fv:ai) (h hs:Heap) (z:Ext h hs) (hA:h.size<=A) (q:Holds hs A (.row (bm l) 28 false)) (vY:a+w<=b) (hb:b+w<=l.length) (hn:l.length<=100000) (K:aJ)
 (hk:∀ h' l',Ext h h'->Holds h' A (.row (bm l') 28 false)->l'.Perm l->C5 l l' a b w->K undef h'):Ok prog aH ov 150 [.slice (some ⟨A,0,none⟩) l.length c,.int .i64 a,.int .i64 b,.int .i64 w,fv] hs K:=by
 rw [aw hs]
 refine Ok.aA 33 (bH Ja) ?_
 simp only [aa,seval,pW]
 obtain ⟨I1,aX⟩:∃ I:Nat->Env->Heap->Prop,I=(λn e h'=>∃ (i:Nat) (l1:aN) (h1:Heap),h'=h1.lay [] h1.low/\Ext h h1/\(n=w - i/\i<=w/\l1.Perm l/\C5 l l1 a b i/\Holds h1 A (.row (bm l1) 28 false))/\∃ J:Nat->ai,e=(.slice (some ⟨A,0,none⟩) l.length c::.int .i64 a::.int .i64 b::.int .i64 w::jr J 4 6 (.int .i64 i::jr J 11 27 ([])))):=⟨_,rfl⟩
 refine dN I1 _ (by rw [aX];exact ⟨0,l,_,rfl,z,⟨rfl,by omega,List.Perm.refl _,zrF l a b,q⟩,bo⟩) ?_
 intro n e h' aP
 rw [aX] at aP
 obtain ⟨i,l1,bU,rfl,z,hinv,J,rfl⟩:=aP
 clear q
 obtain ⟨rfl,hi,hp,K1,q⟩:=hinv
 have mC:=hp.length_eq
 have hw:=eE i (by omega)
 simp only [aa,seval,pW]
 refine bS (λaT=>?_) (λaT=>?_)
 rotate_left
 .repeat' ( simp only [aa,seval,pW])
  have hiw:i=w:=by omega
  subst hiw
  exact hk _ _ z.av (q.on _ _) hp K1
 have Pb:IntKind.i64.wrap ((a:Int)+(i:Int))=((a+i:Nat):Int):=by rw [fZ (by omega) (by omega)];omega
 have uV:IntKind.i64.wrap ((b:Int)+(i:Int))=((b+i:Nat):Int):=by rw [fZ (by omega) (by omega)];omega
 have aP:(0:Int)<=((a+i:Nat):Int)/\((a+i:Nat):Int) < (l.length:Int):=by omega
 have fS:(0:Int)<=((b+i:Nat):Int)/\((b+i:Nat):Int) < (l.length:Int):=by omega
 have jZ:=λ(bs:List aZ) (w:Nat)=>nJ (bs:=bs) (w:=w) q (lO (l:=l1) (i:=a+i) (by omega))
 have fm:=λ(bs:List aZ) (w:Nat)=>nJ (bs:=bs) (w:=w) q (lO (l:=l1) (i:=b+i) (by omega))
 simp only [aa,seval,pW]
 refine (ez (by simp only [pW])) z.av ?_
 repeat' (simp only [aa,seval,pW,Pb,uV,aP,fS,↓jZ,↓fm,dq])
 have hz:=z.size
 refine Bk q ck (by omega) (λh3 q3 c3=>?_)
 refine iL (A:=A) (by kernel_rfl) (by rw [bh];omega) (by omega) (by simpa only [bY,bh,bC,ek,db,gx] using c3) ?_
 replace z:=(z.jC [] (bU.size+0) (by omega)).step c3 hA
 rw [aw h3]
 clear q jZ fm
 repeat' (simp only [aa,seval,pW,fS])
 refine Bk q3 ck (by rw [ja];omega) (λh4 q4 c4=>?_)
 have hz:=z.size
 refine iL (A:=A) (by kernel_rfl) (by rw [bh];omega) (by omega) (by simpa only [bY,bh,bC,ek,db,gx] using c4) ?_
 replace z:=(z.jC [] (h3.size+0) (by omega)).step c4 hA
 rw [aw h4]
 clear q3
 repeat' (first|simp only [aa,seval,pW]|((with_reducible refine ⟨z.cU.lay _ _,?_⟩);(intro _ h' zz x _);(simp only [bY,bC] at x);replace q4:=q4.over x;(replace z:=zz);(clear zz);rw [aw h']))
 rw [hw]
 replace q4:Holds _ A (.row (bm (ky l1 (a+i) (b+i))) 28 false):=q4
 (rw [aX];with_reducible refine cF (m:=_) ?_ ⟨i+1,ky l1 (a+i) (b+i),_,rfl,z,⟨rfl,by omega,(XJ (by omega) (by omega)).trans hp,zrE K1 vY (by omega) (by omega),q4⟩,bo⟩;omega)
theorem zxm (l:aN) (A c a m b:Nat) (fv:ai) (h hs:Heap) (z:Ext h hs) (hA:h.size<=A) (q:Holds hs A (.row (bm l) 28 false)) (zL:a < m) (Ak:m < b) (hb:b<=l.length) (hn:l.length<=100000) (K:aJ)
 (hk:∀ h',Ext h h'->Holds h' A (.row (bm (y6 l a m b)) 28 false)->(y6 l a m b).Perm l->K undef h'):Ok prog aH ov 138 [.slice (some ⟨A,0,none⟩) l.length c,.int .i64 a,.int .i64 m,.int .i64 b,fv] hs K:=by
 rw [aw hs]
 have uU:IntKind.i64.wrap ((m:Int) - (a:Int))=((m - a:Nat):Int):=by rw [fZ (by omega) (by omega)];omega
 have pK:IntKind.i64.wrap ((b:Int) - (m:Int))=((b - m:Nat):Int):=by rw [fZ (by omega) (by omega)];omega
 refine Ok.aA 53 (bH I7) ?_
 simp only [aa,seval,oP,uU,pK]
 obtain ⟨I1,aX⟩:∃ I:Nat->Env->Heap->Prop,I=(λn e h'=>∃ (i j:Nat) (l1:aN) (h1:Heap),h'=h1.lay [] h1.low/\Ext h h1/\(n=i+j/\0 < i/\0 < j/\i<=m/\m+j<=l.length/\l1.Perm l/\Gf (y6 l a m b) l1 m i j/\Holds h1 A (.row (bm l1) 28 false))/\∃ J:Nat->ai,e=(.slice (some ⟨A,0,none⟩) l.length c::J 1::.int .i64 m::J 3::fv::jr J 5 5 (.int .i64 i::.int .i64 j::jr J 12 46 ([])))):=⟨_,rfl⟩
 refine dN I1 _ (by rw [aX];exact ⟨m - a,b - m,l,_,rfl,z,⟨rfl,by omega,by omega,by omega,by omega,List.Perm.refl _,zrM (by omega) (by omega) hb,q⟩,bo⟩) ?_
 intro n e h' aP
 rw [aX] at aP
 obtain ⟨i,j,l1,bU,rfl,z,hinv,J,rfl⟩:=aP
 clear q
 obtain ⟨rfl,wE,hj0,tS,hjm,hp,VC,q⟩:=hinv
 have mC:=hp.length_eq
 simp only [aa,seval,oP]
 have EZ:IntKind.i64.wrap ((m:Int) - (i:Int))=((m - i:Nat):Int):=by rw [fZ (by omega) (by omega)];omega
 refine qM (λaM=>?_) (λheq=>?_)
 rotate_left
 .have fw:i=j:=by omega
  subst fw
  repeat' (simp only [aa,seval,oP,EZ])
  have key:=λK hk=>Xk l1 A c (m - i) m i fv h (bU.lay [] bU.low) z.av hA (q.on _ _) (by omega) (by omega) (by omega) K hk
  simp only [mC] at key
  refine key _ (λh' l' x q' lE fD=>?_)
  have lD:l'=y6 l a m b:=Ym (by rw [zis,lE.length_eq,mC]) (λk=>(zx7 VC tS fD k).symm)
  subst lD
  rw [aw h']
  repeat' (simp only [aa,seval,oP])
  exact hk _ x.av (q'.on _ _) (lE.trans hp)
 simp only [aa,seval,oP]
 refine bS (λtP=>?_) (λtP=>?_)
 .repeat' ( simp only [aa,seval,oP,EZ])
  have key:=λK hk=>Xk l1 A c (m - i) m j fv h (bU.lay [] bU.low) z.av hA (q.on _ _) (by omega) (by omega) (by omega) K hk
  simp only [mC] at key
  refine key _ (λh' l' x q' lE fD=>?_)
  replace z:=x
  rw [aw h']
  have VT:IntKind.i64.wrap ((i:Int) - (j:Int))=((i - j:Nat):Int):=by rw [fZ (by omega) (by omega)];omega
  repeat' (simp only [aa,seval,oP,VT])
  (rw [aX];with_reducible refine cF (m:=_) ?_ ⟨i - j,j,l',_,rfl,z,⟨rfl,by omega,by omega,by omega,by omega,lE.trans hp,zvl VC tS (by omega) fD,q'⟩,bo⟩;omega)
 .have VX:IntKind.i64.wrap ((m:Int)+(j:Int))=((m+j:Nat):Int):=by rw [fZ (by omega) (by omega)];omega
  have K8:IntKind.i64.wrap (((m+j:Nat):Int) - (i:Int))=((m+j - i:Nat):Int):=by rw [fZ (by omega) (by omega)];omega
  repeat' (simp only [aa,seval,oP,EZ,VX,K8])
  have key:=λK hk=>Xk l1 A c (m - i) (m+j - i) i fv h (bU.lay [] bU.low) z.av hA (q.on _ _) (by omega) (by omega) (by omega) K hk
  simp only [mC] at key
  refine key _ (λh' l' x q' lE fD=>?_)
  replace z:=x
  rw [aw h']
  have VU:IntKind.i64.wrap ((j:Int) - (i:Int))=((j - i:Nat):Int):=by rw [fZ (by omega) (by omega)];omega
  repeat' (simp only [aa,seval,oP,VU])
  (rw [aX];with_reducible refine cF (m:=_) ?_ ⟨i,j - i,l',_,rfl,z,⟨rfl,by omega,by omega,by omega,by omega,lE.trans hp,zrL VC tS (by omega) fD,q'⟩,bo⟩;omega)
def WZ (sz:Nat):Prop:=∀ (l:aN) (A c a m b:Nat) (h hs:Heap),Ext h hs->h.size<=A->Holds hs A (.row (bm l) 28 false)->a < m->m < b->b - a<=sz->b<=l.length->l.length<=100000->(∀ x∈l,x.bW=true)->gQ l a m->gQ l m b->∀ (K:aJ),
 (∀ h' l',Ext h h'->Holds h' A (.row (bm l') 28 false)->Mv l l' a b->gQ l' a b->K undef h')->Ok prog aH ov 118 [.slice (some ⟨A,0,none⟩) l.length c,.int .i64 a,.int .i64 m,.int .i64 b,.func (.func 53) ⟨[]⟩ ⟨[]⟩] hs K
theorem Qp (x y:Nat) (h:x+y<=1000000):IntKind.i64.wrap ((x:Int)+(y:Int))=((x+y:Nat):Int)/\IntKind.u64.wrap ((x+y:Nat):Int)=((x+y:Nat):Int)/\IntKind.i64.wrap (((x+y) / 2:Nat):Int)=(((x+y) / 2:Nat):Int)/\Int.fdiv ((x+y:Nat):Int) (2 ^ (min (1:Int).toNat (IntKind.bits .u64)))=(((x+y) / 2:Nat):Int):=by
 refine ⟨by rw [fZ (by omega) (by omega)];omega,by unfold IntKind.wrap;simp [IntKind.bits];omega,fZ (by omega) (by omega),?_⟩
 show Int.fdiv ((x+y:Nat):Int) 2=_
 rw [Int.fdiv_eq_ediv_of_nonneg _ (by omega)]
 omega
theorem zuM (sz:Nat) (ih:WZ sz):WZ (sz+1):=by
 intro l A c a m b h hs z hA q zL Ak dS hb hn aT h1 h2 K hk
 rw [aw hs]
 have uU:IntKind.i64.wrap ((m:Int) - (a:Int))=((m - a:Nat):Int):=by rw [fZ (by omega) (by omega)];omega
 have pK:IntKind.i64.wrap ((b:Int) - (m:Int))=((b - m:Nat):Int):=by rw [fZ (by omega) (by omega)];omega
 have O4:l[a]? = some (l.getD a ah):=lO (by omega)
 have G0:l[m]? = some (l.getD m ah):=lO (by omega)
 refine Ok.aA 215 (bH jn) ?_
 simp only [aa,seval,bP,uU]
 refine qL (λiV=>?_) (λiV=>?_)
 .-- Am.one element in front
  simp only [aa,seval,bP]
  obtain ⟨I1,aX⟩:∃ I:Nat->Env->Heap->Prop,I=(λn e h'=>∃ (i j:Nat) (h1:Heap),h'=h1.lay [] h1.low/\Ext h h1/\(n=j - i/\m<=i/\i<=j/\j<=b/\(i=m\/bj (l.getD (i - 1) ah) (l.getD a ah) < 0)/\(j=b\/¬ bj (l.getD j ah) (l.getD a ah) < 0)/\Holds h1 A (.row (bm l) 28 false))/\∃ J:Nat->ai,e=(.slice (some ⟨A,0,none⟩) l.length c::.int .i64 a::.int .i64 m::.int .i64 b::.func (.func 53) ⟨[]⟩ ⟨[]⟩::jr J 5 5 (.int .i64 i::.int .i64 j::jr J 12 208 ([])))):=⟨_,rfl⟩
  refine dN I1 _ (by rw [aX];exact ⟨m,b,_,rfl,z,⟨rfl,by omega,by omega,by omega,.inl rfl,.inl rfl,q⟩,bo⟩) ?_
  intro n e h' aP
  rw [aX] at aP
  obtain ⟨i,j,bU,rfl,z,hinv,J,rfl⟩:=aP
  clear q
  obtain ⟨rfl,g1,g2,g3,g4,g5,q⟩:=hinv
  simp only [aa,seval,bP]
  refine bS (λfw=>?_) (λfw=>?_)
  rotate_left
  .have Ej:i=j:=by omega
   subst Ej
   have GY:=g4
   have yy:=g5
   have jB:IntKind.i64.wrap ((i:Int) - 1)=((i - 1:Nat):Int):=by rw [fZ (by omega) (by omega)];omega
   have Uf:m=a+1:=by omega
   subst Uf
   simp only [aa,seval,bP]
   obtain ⟨I2,eu⟩:∃ I:Nat->Env->Heap->Prop,I=(λn e h'=>∃ (k:Nat) (l1:aN) (h1:Heap),h'=h1.lay [] h1.low/\Ext h h1/\(n=i - 1 - k/\a<=k/\k<=i - 1/\Mv l l1 a b/\vF l l1 a k/\Holds h1 A (.row (bm l1) 28 false))/\∃ J:Nat->ai,e=(.slice (some ⟨A,0,none⟩) l.length c::jr J 1 9 (.int .i64 i::jr J 11 2 (.int .i64 k::jr J 14 206 ([]))))):=⟨_,rfl⟩
   refine dN I2 _ (by rw [eu];exact ⟨a,l,_,rfl,z,⟨rfl,by omega,by omega,Mv.refl l a b,zvq l a,q⟩,bo⟩) ?_
   intro n e h' aP
   rw [eu] at aP
   obtain ⟨k,l1,dc,rfl,z,hinv,J,rfl⟩:=aP
   clear q
   obtain ⟨rfl,f1,f2,f3,f4,q⟩:=hinv
   have mC:=f3.perm.length_eq
   have pL:=eE k (by omega)
   simp only [aa,seval,bP,jB]
   refine bS (λrK=>?_) (λrK=>?_)
   rotate_left
   .have Em:k=i - 1:=by omega
    subst Em
    repeat' (simp only [aa,seval,bP])
    exact hk _ _ z.av (q.on _ _) f3 (zBv h2 (by omega) (by omega) GY yy f4)
   have aP:(0:Int)<=(k:Int)/\(k:Int) < (l.length:Int):=by omega
   have fS:(0:Int)<=((k+1:Nat):Int)/\((k+1:Nat):Int) < (l.length:Int):=by omega
   have jZ:=λ(bs:List aZ) (w:Nat)=>nJ (bs:=bs) (w:=w) q (lO (l:=l1) (i:=k) (by omega))
   have fm:=λ(bs:List aZ) (w:Nat)=>nJ (bs:=bs) (w:=w) q (lO (l:=l1) (i:=k+1) (by omega))
   simp only [aa,seval,bP]
   refine (ez (by simp only [bP])) z.av ?_
   repeat' (simp only [aa,seval,bP,pL,aP,fS,↓jZ,↓fm,dq])
   have hz:=z.size
   refine Bk q ck (by omega) (λh3 q3 c3=>?_)
   refine iL (A:=A) (by kernel_rfl) (by rw [bh];omega) (by omega) (by simpa only [bY,bh,bC,ek,db,gx] using c3) ?_
   replace z:=(z.jC [] (dc.size+0) (by omega)).step c3 hA
   rw [aw h3]
   clear q jZ fm
   repeat' (simp only [aa,seval,bP,fS])
   refine Bk q3 ck (by rw [ja];omega) (λh4 q4 c4=>?_)
   have hz:=z.size
   refine iL (A:=A) (by kernel_rfl) (by rw [bh];omega) (by omega) (by simpa only [bY,bh,bC,ek,db,gx] using c4) ?_
   replace z:=(z.jC [] (h3.size+0) (by omega)).step c4 hA
   rw [aw h4]
   clear q3
   repeat' (first|simp only [aa,seval,bP]|((with_reducible refine ⟨z.cU.lay _ _,?_⟩);(intro _ h' zz x _);(simp only [bY,bC] at x);replace q4:=q4.over x;(replace z:=zz);(clear zz);rw [aw h']))
   rw [pL]
   replace q4:Holds _ A (.row (bm (ky l1 k (k+1))) 28 false):=q4
   (rw [eu];with_reducible refine cF (m:=_) ?_ ⟨k+1,ky l1 k (k+1),_,rfl,z,⟨rfl,by omega,by omega,f3.trans (Mv.swap (by omega) (by omega) (by omega) (zB6 (by omega) (zyc h2 g3 GY f1 (by omega) f4))),zyb f4 f1 (by omega),q4⟩,bo⟩;omega)
  obtain ⟨e1,e2,e3,e4⟩:=Qp i j (by omega)
  repeat' (simp only [aa,seval,bP,e1])
  rw [yY rfl rfl rfl (Nn _) rfl,e2]
  simp only [aa,seval,bP]
  rw [Nw (by decide),e4]
  simp only [aa,seval,bP]
  rw [yY rfl rfl rfl (Np _) rfl,e3]
  repeat' (simp only [aa,seval,bP])
  have wD:i<=(i+j) / 2/\(i+j) / 2 < j:=by omega
  have Cu:IntKind.i64.wrap ((((i+j) / 2:Nat):Int)+1)=(((i+j) / 2+1:Nat):Int):=by rw [fZ (by omega) (by omega)];omega
  generalize (i+j) / 2=y at wD Cu ⊢
  have aP:(0:Int)<=(y:Int)/\(y:Int) < (l.length:Int):=by omega
  have fS:(0:Int)<=(a:Int)/\(a:Int) < (l.length:Int):=by omega
  have jZ:=λ(bs:List aZ) (w:Nat)=>nJ (bs:=bs) (w:=w) q (lO (l:=l) (i:=y) (by omega))
  have fm:=λ(bs:List aZ) (w:Nat)=>nJ (bs:=bs) (w:=w) q (lO (l:=l) (i:=a) (by omega))
  refine (ez (by simp only [bP])) z.av ?_
  repeat' (simp only [aa,seval,bP,aP,fS,↓jZ,↓fm,dq])
  refine NP _ _ (uZ aT (by omega)) (uZ aT (by omega)) _ _ (λh' x=>?_)
  (((with_reducible refine ix ?_ ?_ ?_);(· exact (by (simp only [iY]);have:=z.size;omega));(· exact x));replace z:=z.ao x;replace q:=q.over x;rw [aw h'])
  simp only [aa,seval,bP]
  refine bS (λhc=>?_) (λhc=>?_)
  .repeat' (first|simp only [aa,seval,bP]|((with_reducible refine ⟨z.cU.lay _ _,?_⟩);(intro _ h' zz x _);( simp only [bY,bC] at x );( replace q:=q.over x );(replace z:=zz);(clear zz);rw [aw h']))
   rw [Cu]
   (rw [aX];with_reducible refine cF (m:=_) ?_ ⟨y+1,j,_,rfl,z,⟨rfl,by omega,by omega,by omega,.inr (by rw [De];exact hc),g5,q⟩,bo⟩;omega)
  .repeat' (first|simp only [aa,seval,bP]|((with_reducible refine ⟨z.cU.lay _ _,?_⟩);(intro _ h' zz x _);( simp only [bY,bC] at x );( replace q:=q.over x );(replace z:=zz);(clear zz);rw [aw h']))
   (rw [aX];with_reducible refine cF (m:=_) ?_ ⟨i,y,_,rfl,z,⟨rfl,by omega,by omega,by omega,g4,.inr hc,q⟩,bo⟩;omega)
 simp only [aa,seval,bP,pK]
 refine qL (λKH=>?_) (λKH=>?_)
 .-- Am.one element behind
  simp only [aa,seval,bP]
  obtain ⟨I3,lT⟩:∃ I:Nat->Env->Heap->Prop,I=(λn e h'=>∃ (i j:Nat) (h1:Heap),h'=h1.lay [] h1.low/\Ext h h1/\(n=j - i/\a<=i/\i<=j/\j<=m/\(i=a\/¬ bj (l.getD m ah) (l.getD (i - 1) ah) < 0)/\(j=m\/bj (l.getD m ah) (l.getD j ah) < 0)/\Holds h1 A (.row (bm l) 28 false))/\∃ J:Nat->ai,e=(.slice (some ⟨A,0,none⟩) l.length c::.int .i64 a::.int .i64 m::.int .i64 b::.func (.func 53) ⟨[]⟩ ⟨[]⟩::jr J 5 9 (.int .i64 i::.int .i64 j::jr J 16 204 ([])))):=⟨_,rfl⟩
  refine dN I3 _ (by rw [lT];exact ⟨a,m,_,rfl,z,⟨rfl,by omega,by omega,by omega,.inl rfl,.inl rfl,q⟩,bo⟩) ?_
  intro n e h' aP
  rw [lT] at aP
  obtain ⟨i,j,bU,rfl,z,hinv,J,rfl⟩:=aP
  clear q
  obtain ⟨rfl,g1,g2,g3,g4,g5,q⟩:=hinv
  simp only [aa,seval,bP]
  refine bS (λfw=>?_) (λfw=>?_)
  rotate_left
  .have Ej:i=j:=by omega
   subst Ej
   have GY:=g4
   have yy:=g5
   have Um:b=m+1:=by omega
   subst Um
   simp only [aa,seval,bP]
   obtain ⟨I4,TX⟩:∃ I:Nat->Env->Heap->Prop,I=(λn e h'=>∃ (k:Nat) (l1:aN) (h1:Heap),h'=h1.lay [] h1.low/\Ext h h1/\(n=k - i/\i<=k/\k<=m/\Mv l l1 a (m+1)/\NM l l1 m k/\Holds h1 A (.row (bm l1) 28 false))/\∃ J:Nat->ai,e=(.slice (some ⟨A,0,none⟩) l.length c::jr J 1 13 (.int .i64 i::jr J 15 2 (.int .i64 k::jr J 18 202 ([]))))):=⟨_,rfl⟩
   refine dN I4 _ (by rw [TX];exact ⟨m,l,_,rfl,z,⟨rfl,by omega,by omega,Mv.refl l a _,zoB l m,q⟩,bo⟩) ?_
   intro n e h' aP
   rw [TX] at aP
   obtain ⟨k,l1,dc,rfl,z,hinv,J,rfl⟩:=aP
   clear q
   obtain ⟨rfl,f1,f2,f3,f4,q⟩:=hinv
   have mC:=f3.perm.length_eq
   simp only [aa,seval,bP]
   refine bS (λrK=>?_) (λrK=>?_)
   rotate_left
   .have Em:k=i:=by omega
    subst Em
    repeat' (simp only [aa,seval,bP])
    exact hk _ _ z.av (q.on _ _) f3 (zy0 h1 (by omega) (by omega) GY yy f4)
   have pL:IntKind.i64.wrap ((k:Int) - 1)=((k - 1:Nat):Int):=by rw [fZ (by omega) (by omega)];omega
   have aP:(0:Int)<=(k:Int)/\(k:Int) < (l.length:Int):=by omega
   have fS:(0:Int)<=((k - 1:Nat):Int)/\((k - 1:Nat):Int) < (l.length:Int):=by omega
   have jZ:=λ(bs:List aZ) (w:Nat)=>nJ (bs:=bs) (w:=w) q (lO (l:=l1) (i:=k) (by omega))
   have fm:=λ(bs:List aZ) (w:Nat)=>nJ (bs:=bs) (w:=w) q (lO (l:=l1) (i:=k - 1) (by omega))
   simp only [aa,seval,bP]
   refine (ez (by simp only [bP])) z.av ?_
   repeat' (simp only [aa,seval,bP,pL,aP,fS,↓jZ,↓fm,dq])
   have hz:=z.size
   refine Bk q ck (by omega) (λh3 q3 c3=>?_)
   refine iL (A:=A) (by kernel_rfl) (by rw [bh];omega) (by omega) (by simpa only [bY,bh,bC,ek,db,gx] using c3) ?_
   replace z:=(z.jC [] (dc.size+0) (by omega)).step c3 hA
   rw [aw h3]
   clear q jZ fm
   repeat' (simp only [aa,seval,bP,fS])
   refine Bk q3 ck (by rw [ja];omega) (λh4 q4 c4=>?_)
   have hz:=z.size
   refine iL (A:=A) (by kernel_rfl) (by rw [bh];omega) (by omega) (by simpa only [bY,bh,bC,ek,db,gx] using c4) ?_
   replace z:=(z.jC [] (h3.size+0) (by omega)).step c4 hA
   rw [aw h4]
   clear q3
   repeat' (first|simp only [aa,seval,bP]|((with_reducible refine ⟨z.cU.lay _ _,?_⟩);(intro _ h' zz x _);(simp only [bY,bC] at x);replace q4:=q4.over x;(replace z:=zz);(clear zz);rw [aw h']))
   rw [pL]
   replace q4:Holds _ A (.row (bm (ky l1 k (k - 1))) 28 false):=q4
   (rw [TX];with_reducible refine cF (m:=_) ?_ ⟨k - 1,ky l1 k (k - 1),_,rfl,z,⟨rfl,by omega,by omega,f3.trans (Mv.swap (by omega) (by omega) (by omega) (zpD (by omega) (by omega) (zqK h1 g1 yy (by omega) f2 f4))),zqJ f4 (by omega) f2 (by omega),q4⟩,bo⟩;omega)
  obtain ⟨e1,e2,e3,e4⟩:=Qp i j (by omega)
  repeat' (simp only [aa,seval,bP,e1])
  rw [yY rfl rfl rfl (Nn _) rfl,e2]
  simp only [aa,seval,bP]
  rw [Nw (by decide),e4]
  simp only [aa,seval,bP]
  rw [yY rfl rfl rfl (Np _) rfl,e3]
  repeat' (simp only [aa,seval,bP])
  have wD:i<=(i+j) / 2/\(i+j) / 2 < j:=by omega
  have Cu:IntKind.i64.wrap ((((i+j) / 2:Nat):Int)+1)=(((i+j) / 2+1:Nat):Int):=by rw [fZ (by omega) (by omega)];omega
  generalize (i+j) / 2=y at wD Cu ⊢
  have aP:(0:Int)<=(y:Int)/\(y:Int) < (l.length:Int):=by omega
  have fS:(0:Int)<=(m:Int)/\(m:Int) < (l.length:Int):=by omega
  have jZ:=λ(bs:List aZ) (w:Nat)=>nJ (bs:=bs) (w:=w) q (lO (l:=l) (i:=y) (by omega))
  have fm:=λ(bs:List aZ) (w:Nat)=>nJ (bs:=bs) (w:=w) q (lO (l:=l) (i:=m) (by omega))
  refine (ez (by simp only [bP])) z.av ?_
  repeat' (simp only [aa,seval,bP,aP,fS,↓jZ,↓fm,dq])
  refine NP _ _ (uZ aT (by omega)) (uZ aT (by omega)) _ _ (λh' x=>?_)
  (((with_reducible refine ix ?_ ?_ ?_);(· exact (by (simp only [iY]);have:=z.size;omega));(· exact x));replace z:=z.ao x;replace q:=q.over x;rw [aw h'])
  simp only [aa,seval,bP]
  refine bS (λhc=>?_) (λhc=>?_)
  .repeat' (first|simp only [aa,seval,bP]|((with_reducible apply cf);(· rfl))|((with_reducible refine ⟨z.cU.lay _ _,?_⟩);(intro _ h' zz x _);( simp only [bY,bC] at x );( replace q:=q.over x );(replace z:=zz);(clear zz);rw [aw h']))
   (rw [lT];with_reducible refine cF (m:=_) ?_ ⟨i,y,_,rfl,z,⟨rfl,by omega,by omega,by omega,g4,.inr hc,q⟩,bo⟩;omega)
  .repeat' (first|simp only [aa,seval,bP]|((with_reducible apply cf);(· rfl))|((with_reducible refine ⟨z.cU.lay _ _,?_⟩);(intro _ h' zz x _);( simp only [bY,bC] at x );( replace q:=q.over x );(replace z:=zz);(clear zz);rw [aw h']))
   rw [Cu]
   (rw [lT];with_reducible refine cF (m:=_) ?_ ⟨y+1,j,_,rfl,z,⟨rfl,by omega,by omega,by omega,.inr (by rw [De];exact hc),g5,q⟩,bo⟩;omega)
 -- both parts longer
 obtain ⟨e1,e2,e3,e4⟩:=Qp a b (by omega)
 repeat' (simp only [aa,seval,bP,e1])
 rw [yY rfl rfl rfl (Nn _) rfl,e2]
 simp only [aa,seval,bP]
 rw [Nw (by decide),e4]
 simp only [aa,seval,bP]
 rw [yY rfl rfl rfl (Np _) rfl,e3]
 have fW:2*((a+b) / 2)<=a+b:=by omega
 have eX:a+b<=2*((a+b) / 2)+1:=by omega
 generalize (a+b) / 2=mid at fW eX ⊢
 have hwn:IntKind.i64.wrap ((mid:Int)+(m:Int))=((mid+m:Nat):Int):=by rw [fZ (by omega) (by omega)];omega
 have hwp:IntKind.i64.wrap (((mid+m:Nat):Int) - 1)=((mid+m - 1:Nat):Int):=by rw [fZ (by omega) (by omega)];omega
 have uV:mid < m->IntKind.i64.wrap (((mid+m:Nat):Int) - (b:Int))=((mid+m - b:Nat):Int):=λ_=>by rw [fZ (by omega) (by omega)];omega
 simp only [aa,seval,bP,hwn]
 refine bS (λEh=>?_) (λEh=>?_)
 focus
  have uV:=uV (by omega)
  simp only [aa,seval,bP,uV,hwp]
  have qo:=zzP (l:=l) (a:=a) Ak (show mid < m by omega)
 rotate_left
 focus
  simp only [aa,seval,bP,hwp]
  have qo:=zzO (l:=l) (b:=b) zL (show m<=mid by omega)
 all_goals
  obtain ⟨I5,OL⟩:∃ I:Nat->Env->Heap->Prop,I=(λn e h'=>∃ (s r:Nat) (h1:Heap),h'=h1.lay [] h1.low/\Ext h h1/\(n=r - s/\gZ l a m b mid s r/\Holds h1 A (.row (bm l) 28 false))/\∃ J:Nat->ai,e=(.slice (some ⟨A,0,none⟩) l.length c::.int .i64 a::.int .i64 m::.int .i64 b::.func (.func 53) ⟨[]⟩ ⟨[]⟩::jr J 5 13 (.int .i64 mid::.int .i64 ((mid+m:Nat):Int)::.int .i64 s::.int .i64 r::.int .i64 ((mid+m - 1:Nat):Int)::jr J 23 197 ([])))):=⟨_,rfl⟩
  refine dN I5 _ (by rw [OL];exact ⟨_,_,_,rfl,z,⟨rfl,qo,q⟩,bo⟩) ?_
  intro n e h' aP
  rw [OL] at aP
  obtain ⟨s,r,bU,rfl,z,hinv,J,rfl⟩:=aP
  clear q qo
  obtain ⟨rfl,hinv,q⟩:=hinv
  simp only [aa,seval,bP]
  refine bS (λj3=>?_) (λj3=>?_)
  rotate_left
  .have rO:s=r:=by have:=hinv.sr;omega
   subst rO
   have sp:=zlR hinv zL Ak fW eX
   obtain ⟨p1,p2,p3,p4,p5,_,_⟩:=sp
   have sp:=zlR hinv zL Ak fW eX
   have K7:IntKind.i64.wrap (((mid+m:Nat):Int) - (s:Int))=((mid+m - s:Nat):Int):=by rw [fZ (by omega) (by omega)];omega
   simp only [aa,seval,Ll (kr (jn 107)) 3 rfl,zCG (jn 108) (jn 109) (jn 110) rfl,zCK (jn 110) rfl]
   rw [uk (jn 119) (jn 120) (jn 121) rfl]
   obtain ⟨R6,hR6⟩:∃ R:Env->Heap->Prop,R=(λe h'=>∃ (h1:Heap),h'=h1.lay [] h1.low/\Ext h h1/\(Holds h1 A (.row (bm l) 28 false))/\∃ J:Nat->ai,e=(.slice (some ⟨A,0,none⟩) l.length c::.int .i64 a::.int .i64 m::.int .i64 b::.func (.func 53) ⟨[]⟩ ⟨[]⟩::jr J 5 13 (.int .i64 mid::J 19::.int .i64 s::jr J 21 3 (.int .i64 ((mid+m - s:Nat):Int)::jr J 25 195 ([]))))/\True):=⟨_,rfl⟩
   refine Q2 R6 ?cut ?rest
   case' rest =>
    intro e h' aP
    rw [hR6] at aP
    obtain ⟨dc,rfl,z,hinv,J,rfl,_⟩:=aP
   case cut =>
    simp only [aa,seval,bP,K7]
    (rw [hR6];exact ⟨_,rfl,z,q,Gq (by kernel_rfl) (trivial)⟩)
   case rest =>
   have q:=hinv
   simp only [aa,seval]
   rw [uk (jn 121) (jn 122) (jn 127) rfl]
   obtain ⟨R7,T4⟩:∃ R:Env->Heap->Prop,R=(λe h'=>∃ (l1:aN) (h1:Heap),h'=h1.lay [] h1.low/\Ext h h1/\(Mv l l1 s (mid+m - s)/\Di l l1 s m (mid+m - s)/\Holds h1 A (.row (bm l1) 28 false))/\∃ J:Nat->ai,e=(.slice (some ⟨A,0,none⟩) l.length c::.int .i64 a::.int .i64 m::.int .i64 b::.func (.func 53) ⟨[]⟩ ⟨[]⟩::jr J 5 13 (.int .i64 mid::J 19::.int .i64 s::jr J 21 3 (.int .i64 ((mid+m - s:Nat):Int)::jr J 25 195 ([]))))/\True):=⟨_,rfl⟩
   refine Q2 R7 ?cut ?rest
   case' rest =>
    intro e h' aP
    rw [T4] at aP
    obtain ⟨l1,vS,rfl,z,hinv,J,rfl,_⟩:=aP
   case cut =>
    repeat' (first|simp only [aa,seval,bP]|((with_reducible apply bS) <;> intro _))
    all_goals first
     |(rw [T4];exact ⟨l,_,rfl,z,⟨Mv.refl _ _ _,zzU (by omega) (by omega) (by omega),q⟩,Gq (by kernel_rfl) (trivial)⟩)
     |(refine zxm l A c s m (mid+m - s) _ h _ z.av hA (q.on _ _) (by omega) (by omega) (by omega) hn _ (λh' x q1 uT=>?_)
       replace z:=x
       rw [aw h']
       simp only [aa,seval,bP]
       (rw [T4];exact ⟨y6 l s m (mid+m - s),_,rfl,z,⟨zzT (λk=>Qd (by omega) k) (by omega) (by omega) uT (zu8 h1 h2 sp (λk=>Qd (by omega) k) (by omega) uT.length_eq),λk=>Qd (by omega) k,q1⟩,Gq (by kernel_rfl) (trivial)⟩))
   case rest =>
   obtain ⟨Pm,t1,q⟩:=hinv
   obtain ⟨WE,Lz,so3,Pw⟩:=zrx h1 h2 sp t1
   have hcr:=λ(i j:Nat) (g1:a<=i) (g2:i < mid) (g3:mid<=j) (g4:j < b)=>zrw h1 h2 sp t1 g1 g2 g3 g4
   have mC:=Pm.perm.length_eq
   simp only [aa,seval]
   rw [uk (jn 127) (jn 128) (jn 133) rfl]
   obtain ⟨R8,T5⟩:∃ R:Env->Heap->Prop,R=(λe h'=>∃ (l2:aN) (h1:Heap),h'=h1.lay [] h1.low/\Ext h h1/\(Mv l1 l2 a mid/\gQ l2 a mid/\Holds h1 A (.row (bm l2) 28 false))/\∃ J:Nat->ai,e=(.slice (some ⟨A,0,none⟩) l.length c::.int .i64 a::.int .i64 m::.int .i64 b::.func (.func 53) ⟨[]⟩ ⟨[]⟩::jr J 5 13 (.int .i64 mid::J 19::.int .i64 s::jr J 21 3 (.int .i64 ((mid+m - s:Nat):Int)::jr J 25 195 ([]))))/\True):=⟨_,rfl⟩
   refine Q2 R8 ?cut ?rest
   case' rest =>
    intro e h' aP
    rw [T5] at aP
    obtain ⟨l2,OE,rfl,z,hinv,J,rfl,_⟩:=aP
   case cut =>
    repeat' (first|simp only [aa,seval,bP]|((with_reducible apply bS) <;> intro _))
    all_goals first
     |(rw [T5];exact ⟨l1,_,rfl,z,⟨Mv.refl _ _ _,(by first|(have e:s=mid:=by omega);rw [<- e];exact WE|(have e:a=s:=by omega);rw [e];exact Lz),q⟩,Gq (by kernel_rfl) (trivial)⟩)
     |(have key:=ih l1 A c a s mid h (vS.lay [] vS.low) z.av hA (q.on _ _) (by omega) (by omega) (by omega) (by omega) (by omega) (CR aT Pm.perm) WE Lz
       simp only [mC] at key
       refine key _ (λh' l2 x q1 AP Px=>?_)
       replace z:=x
       rw [aw h']
       simp only [aa,seval,bP]
       (rw [T5];exact ⟨l2,_,rfl,z,⟨AP,Px,q1⟩,Gq (by kernel_rfl) (trivial)⟩))
   case rest =>
   obtain ⟨AP,Px,q⟩:=hinv
   have nb:=AP.perm.length_eq
   have so6:=PD so3 (λk g1 g2=>AP.out k (.inr g1))
   have so7:=PD Pw (λk g1 g2=>AP.out k (.inr (by omega)))
   have mvT:=(Pm.xF p1 p5).trans (AP.xF (aR _) (show mid<=b by omega))
   repeat' (first|simp only [aa,seval,bP]|((with_reducible apply bS) <;> intro _))
   all_goals first
    |exact hk _ l2 z.av (q.on _ _) mvT (zoZ hcr AP (Mv.refl l2 mid b) Px (by first|(have e:mid=mid+m - s:=by omega);rw [e];exact so7|(have e:mid+m - s=b:=by omega);rw [<- e];exact so6))
    |(have key:=ih l2 A c mid (mid+m - s) b h (OE.lay [] OE.low) z.av hA (q.on _ _) (by omega) (by omega) (by omega) (by omega) (by omega) (CR (CR aT Pm.perm) AP.perm) so6 so7
      simp only [nb,mC] at key
      refine key _ (λh' l3 x q1 mv3 so8=>?_)
      rw [aw h']
      repeat' (simp only [aa,seval,bP])
      exact hk _ l3 x.av (q1.on _ _) (mvT.trans (mv3.xF (show a<=mid by omega) (aR _))) (zoZ hcr AP mv3 Px so8))
  have O9:r<=l.length:=by
   rcases mW mid m with g|g
   .have:=hinv.G7 g;omega
   .have:=hinv.G6 g;omega
  obtain ⟨e1,e2,e3,e4⟩:=Qp s r (by omega)
  repeat' (simp only [aa,seval,bP,e1])
  rw [yY rfl rfl rfl (Nn _) rfl,e2]
  simp only [aa,seval,bP]
  rw [Nw (by decide),e4]
  simp only [aa,seval,bP]
  rw [yY rfl rfl rfl (Np _) rfl,e3]
  repeat' (simp only [aa,seval,bP])
  have wD:s<=(s+r) / 2/\(s+r) / 2 < r:=by omega
  have Cu:IntKind.i64.wrap ((((s+r) / 2:Nat):Int)+1)=(((s+r) / 2+1:Nat):Int):=by rw [fZ (by omega) (by omega)];omega
  generalize (s+r) / 2=y at wD Cu ⊢
  have hix:=zxU hinv wD.1 wD.2 zL Ak fW eX
  have VY:IntKind.i64.wrap (((mid+m - 1:Nat):Int) - (y:Int))=((mid+m - 1 - y:Nat):Int):=by rw [fZ (by omega) (by omega)];omega
  have aP:(0:Int)<=(y:Int)/\(y:Int) < (l.length:Int):=by omega
  have fS:(0:Int)<=((mid+m - 1 - y:Nat):Int)/\((mid+m - 1 - y:Nat):Int) < (l.length:Int):=by omega
  have jZ:=λ(bs:List aZ) (w:Nat)=>nJ (bs:=bs) (w:=w) q (lO (l:=l) (i:=y) (by omega))
  have fm:=λ(bs:List aZ) (w:Nat)=>nJ (bs:=bs) (w:=w) q (lO (l:=l) (i:=mid+m - 1 - y) (by omega))
  refine (ez (by simp only [bP])) z.av ?_
  repeat' (simp only [aa,seval,bP,VY,aP,fS,↓jZ,↓fm,dq])
  refine NP _ _ (uZ aT (by omega)) (uZ aT (by omega)) _ _ (λh' x=>?_)
  (((with_reducible refine ix ?_ ?_ ?_);(· exact (by (simp only [iY]);have:=z.size;omega));(· exact x));replace z:=z.ao x;replace q:=q.over x;rw [aw h'])
  simp only [aa,seval,bP]
  refine bS (λhc=>?_) (λhc=>?_)
  .repeat' (first|simp only [aa,seval,bP]|((with_reducible apply cf);(· rfl))|((with_reducible refine ⟨z.cU.lay _ _,?_⟩);(intro _ h' zz x _);( simp only [bY,bC] at x );( replace q:=q.over x );(replace z:=zz);(clear zz);rw [aw h']))
   (rw [OL];with_reducible refine cF (m:=_) ?_ ⟨s,y,_,rfl,z,⟨rfl,zrG hinv wD.1 wD.2 hc,q⟩,bo⟩;omega)
  .repeat' (first|simp only [aa,seval,bP]|((with_reducible apply cf);(· rfl))|((with_reducible refine ⟨z.cU.lay _ _,?_⟩);(intro _ h' zz x _);( simp only [bY,bC] at x );( replace q:=q.over x );(replace z:=zz);(clear zz);rw [aw h']))
   rw [Cu]
   (rw [OL];with_reducible refine cF (m:=_) ?_ ⟨y+1,r,_,rfl,z,⟨rfl,zxV hinv wD.1 wD.2 hc,q⟩,bo⟩;omega)
theorem W2:∀ sz,WZ sz
 |0=>by intro l A c a m b h hs z hA q h1 h2 h3;omega
 |sz+1=>zuM sz (W2 sz)
theorem zxq (l:aN) (A c:Nat) (h hs:Heap) (z:Ext h hs) (hA:h.size<=A) (q:Holds hs A (.row (bm l) 28 false)) (hn:l.length<=100000) (aT:∀ x∈l,x.bW=true) (K:aJ)
 (hk:∀ h' l',Ext h h'->Holds h' A (.row (bm l') 28 false)->l'.Perm l->eM l l'->gQ l' 0 l.length->K undef h'):Ok prog aH ov 86 [.slice (some ⟨A,0,none⟩) l.length c,.int .i64 l.length,.func (.func 53) ⟨[]⟩ ⟨[]⟩] hs K:=by
 rw [aw hs]
 refine Ok.aA 60 (bH Re) ?_
 simp only [aa,seval,oQ]
 obtain ⟨I1,aX⟩:∃ I:Nat->Env->Heap->Prop,I=(λn e h'=>∃ (a:Nat) (l1:aN) (h1:Heap),h'=h1.lay [] h1.low/\Ext h h1/\(n=l.length - a/\a % 20=0/\a<=l.length/\l1.Perm l/\eM l l1/\Bl l1 20 l.length a/\Holds h1 A (.row (bm l1) 28 false))/\∃ J:Nat->ai,e=(.slice (some ⟨A,0,none⟩) l.length c::.int .i64 l.length::.func (.func 53) ⟨[]⟩ ⟨[]⟩::jr J 3 3 (.int .i64 20::.int .i64 a::.int .i64 (a+20:Nat)::jr J 9 54 ([])))):=⟨_,rfl⟩
 refine dN I1 _ (by rw [aX];exact ⟨0,l,_,rfl,z,⟨rfl,by omega,by omega,List.Perm.refl _,eM.refl _,λk _ hk=>absurd hk (by omega),q⟩,bo⟩) ?_
 intro n e h' aP
 rw [aX] at aP
 obtain ⟨a,l1,bU,rfl,z,hinv,J,rfl⟩:=aP
 clear q
 obtain ⟨rfl,JY,han,hp,cZ,ke,q⟩:=hinv
 have mC:=hp.length_eq
 have rM:=CR aT hp
 simp only [aa,seval,oQ]
 refine bS (λhle=>?_) (λhle=>?_)
 .have uU:IntKind.i64.wrap (((a+20:Nat):Int)+20)=((a+20+20:Nat):Int):=by rw [fZ (by omega) (by omega)];omega
  repeat' (simp only [aa,seval,oQ])
  have key:=λK hk=>zii l1 A c a (a+20) h (bU.lay [] bU.low) z.av hA (q.on _ _) (by omega) (by omega) (by omega) rM K hk
  simp only [mC] at key
  refine key _ (λh' l' x q' lE ud fD O7=>?_)
  replace z:=x
  rw [aw h']
  repeat' (simp only [aa,seval,oQ,uU])
  (rw [aX];with_reducible refine cF (m:=_) ?_ ⟨a+20,l',_,rfl,z,⟨rfl,by omega,by omega,lE.trans hp,cZ.trans ud,Y1 ke JY (by rw [show min (a+20) l.length=a+20 by omega];exact fD) (by rw [show min (a+20) l.length=a+20 by omega];exact O7) _ (by omega),q'⟩,bo⟩;omega)
 repeat' (simp only [aa,seval,oQ])
 have key:=λK hk=>zii l1 A c a l.length h (bU.lay [] bU.low) z.av hA (q.on _ _) (by omega) (by omega) (by omega) rM K hk
 simp only [mC] at key
 refine key _ (λh' l' x q' lE ud fD O7=>?_)
 replace z:=x
 replace hp:=lE.trans hp
 replace cZ:=cZ.trans ud
 replace ke:Bl l' 20 l.length l.length:=Y1 ke JY (by rw [show min (a+20) l.length=l.length by omega];exact fD) (by rw [show min (a+20) l.length=l.length by omega];exact O7) _ (by omega)
 clear key fD O7 lE ud mC rM q
 rw [aw h']
 repeat' (simp only [aa,seval,oQ])
 obtain ⟨I2,eu⟩:∃ I:Nat->Env->Heap->Prop,I=(λn e h'=>∃ (w:Nat) (l1:aN) (h1:Heap),h'=h1.lay [] h1.low/\Ext h h1/\(n=l.length - w/\20<=w/\w<=200000/\l1.Perm l/\eM l l1/\Bl l1 w l.length l.length/\Holds h1 A (.row (bm l1) 28 false))/\∃ J:Nat->ai,e=(.slice (some ⟨A,0,none⟩) l.length c::.int .i64 l.length::.func (.func 53) ⟨[]⟩ ⟨[]⟩::jr J 3 3 (.int .i64 w::jr J 7 56 ([])))):=⟨_,rfl⟩
 refine dN I2 _ (by rw [eu];exact ⟨20,l',_,rfl,z,⟨rfl,by omega,by omega,hp,cZ,ke,q'⟩,bo⟩) ?_
 intro n e h' aP
 rw [eu] at aP
 obtain ⟨w,l1,dc,rfl,z,hinv,J,rfl⟩:=aP
 clear q' ke hp cZ
 obtain ⟨rfl,alG,alH,hp,cZ,ke,q⟩:=hinv
 simp only [aa,seval,oQ]
 refine bS (λey=>?_) (λey=>?_)
 rotate_left
 .repeat' ( simp only [aa,seval,oQ])
  exact hk _ _ z.av (q.on _ _) hp cZ (zCu ke (by omega))
 have eX:IntKind.i64.wrap ((2:Int)*(w:Int))=((2*w:Nat):Int):=by rw [fZ (by omega) (by omega)];omega
 repeat' (simp only [aa,seval,oQ,eX,QI])
 obtain ⟨I3,lT⟩:∃ I:Nat->Env->Heap->Prop,I=(λn e h'=>∃ (a b:Nat) (l2:aN) (h1:Heap),h'=h1.lay [] h1.low/\Ext h h1/\(n=l.length - a/\b=a+2*w/\a % (2*w)=0/\a<=l.length/\l2.Perm l/\eM l l2/\Dq l2 w l.length a/\Holds h1 A (.row (bm l2) 28 false))/\∃ J:Nat->ai,e=(.slice (some ⟨A,0,none⟩) l.length c::.int .i64 l.length::.func (.func 53) ⟨[]⟩ ⟨[]⟩::jr J 3 3 (.int .i64 w::.int .i64 a::.int .i64 b::jr J 9 54 ([])))):=⟨_,rfl⟩
 refine dN I3 _ (by rw [lT];exact ⟨0,2*w,l1,_,rfl,z,⟨rfl,by omega,Nat.zero_mod _,by omega,hp,cZ,zwg ke,q⟩,bo⟩) ?_
 intro n e h' aP
 rw [lT] at aP
 obtain ⟨a,b,l2,vS,rfl,z,hinv,J,rfl⟩:=aP
 clear q ke hp cZ
 obtain ⟨rfl,hb,nS,han,hp,cZ,wo,q⟩:=hinv
 have nb:=hp.length_eq
 have tV:=CR aT hp
 have haw:IntKind.i64.wrap ((a:Int)+(w:Int))=((a+w:Nat):Int):=by rw [fZ (by omega) (by omega)];omega
 simp only [aa,seval,oQ]
 refine bS (λhle=>?_) (λhle=>?_)
 .have hbw:IntKind.i64.wrap ((b:Int)+((2*w:Nat):Int))=((b+2*w:Nat):Int):=by rw [fZ (by omega) (by omega)];omega
  have ED:=zow wo (by omega) nS (by omega)
  rw [show min (a+2*w) l.length=b by omega] at ED
  repeat' (simp only [aa,seval,oQ,haw])
  have key:=λK hk=>W2 l.length l2 A c a (a+w) b h (vS.lay [] vS.low) z.av hA (q.on _ _) (by omega) (by omega) (by omega) (by omega) (by omega) tV ED.1 ED.2 K hk
  simp only [nb] at key
  refine key _ (λh' l' x q' wJ fD=>?_)
  replace z:=x
  rw [aw h']
  repeat' (simp only [aa,seval,oQ,eX,QI,hbw])
  have qv:=zsj (l':=l') wo (by omega) nS (by rw [show min (a+2*w) l.length=b by omega];exact fD) (by rw [show min (a+2*w) l.length=b by omega];exact wJ)
  rw [show min (a+2*w) l.length=b by omega] at qv
  (rw [lT];with_reducible refine cF (m:=_) ?_ ⟨b,b+2*w,l',_,rfl,z,⟨rfl,by omega,by rw [hb,Nat.add_mod_right];exact nS,by omega,wJ.perm.trans hp,cZ.trans wJ.xC,qv,q'⟩,bo⟩;omega)
 have pK:IntKind.i64.wrap ((w:Int)*(2:Int))=((2*w:Nat):Int):=by rw [fZ (by omega) (by omega)];omega
 repeat' (first|simp only [aa,seval,oQ,haw]|((with_reducible apply bS) <;> intro _))
 .have ED:=zow wo (by omega) nS (by omega)
  rw [show min (a+2*w) l.length=l.length by omega] at ED
  have key:=λK hk=>W2 l.length l2 A c a (a+w) l.length h (vS.lay [] vS.low) z.av hA (q.on _ _) (by omega) (by omega) (by omega) (by omega) (by omega) tV ED.1 ED.2 K hk
  simp only [nb] at key
  refine key _ (λh' l' x q' wJ fD=>?_)
  replace z:=x
  rw [aw h']
  repeat' (simp only [aa,seval,oQ,pK,QI])
  have qv:=zsj (l':=l') wo (by omega) nS (by rw [show min (a+2*w) l.length=l.length by omega];exact fD) (by rw [show min (a+2*w) l.length=l.length by omega];exact wJ)
  rw [show min (a+2*w) l.length=l.length by omega] at qv
  (rw [eu];with_reducible refine cF (m:=_) ?_ ⟨2*w,l',_,rfl,z,⟨rfl,by omega,by omega,wJ.perm.trans hp,cZ.trans wJ.xC,zBf qv (by omega),q'⟩,bo⟩;omega)
 .repeat' ( simp only [aa,seval,oQ,pK,QI])
  (rw [eu];with_reducible refine cF (m:=_) ?_ ⟨2*w,l2,_,rfl,z,⟨rfl,by omega,by omega,hp,cZ,zBg wo (by omega) nS (by omega),q⟩,bo⟩;omega)
theorem zm3 (l:aN) (A c:Nat) (h hs:Heap) (z:Ext h hs) (hA:h.size<=A) (q:Holds hs A (.row (bm l) 28 false)) (hn:l.length<=100000) (aT:∀ x∈l,x.bW=true) (K:aJ)
 (hk:∀ h' l',Ext h h'->Holds h' A (.row (bm l') 28 false)->l'.Perm l->eM l l'->gQ l' 0 l.length->K undef h'):Ok prog aH ov 52 [.slice (some ⟨A,0,none⟩) l.length c,.func (.func 53) ⟨[]⟩ ⟨[]⟩] hs K:=by
 rw [aw hs]
 refine Ok.aA 7 (bH Ra) ?_
 repeat' (simp only [aa,seval,Oq])
 refine zxq l A c h (hs.lay [] hs.low) z.av hA (q.on _ _) hn aT _ (λh' l' x q' lE ud fD=>?_)
 rw [aw h']
 repeat' (simp only [aa,seval,Oq])
 exact hk _ _ x.av (q'.on _ _) lE ud fD
theorem zy8 {h:Heap} {v:ai} {l:aN} (f:Sl aC.atom h v l):∃ b:Bool,cA prog aH .eql 23 v (.slice none 0 0)=some (.bool b)/\(b=true->l=[]):=by
 rcases f with ⟨rfl,rfl⟩|⟨A,o,c,row,u,ro,rfl,_⟩
 .exact ⟨true,by kernel_rfl,λ_=>rfl⟩
 .exact ⟨false,by kernel_rfl,nofun⟩
theorem zxc (l:aN) (v:ai) (h:Heap) (hl:Sl aC.atom h v l) (hs:l.length<=100000) (K:aJ)
 (hk:∀ h' w,Ext h h'->zm h h' 28 w l->K w h'):Ok prog aH ov 51 [v] h K:=by
 rw [aw h]
 obtain ⟨b,hb,rN⟩:=zy8 hl
 refine Ok.aA 7 (bH Q9) ?_
 simp only [aa,seval,BP,hb]
 cases b
 .simp only [aa,seval,BP,jF,Gt]
  obtain ⟨news,hs,j3⟩:=xR (A:=h.size+1) (r:=aC.atom) (by decide) (hl.lay [.row [] 28 false] h.low) (λcs y hr=>hr)
  have f:Ow aC.atom h (h.lay [.row [] 28 false] h.low) 28 (h.size+1) (.slice (some ⟨h.size+0,0,none⟩) 0 0) [] :=
   .inl ⟨by omega,rfl,.inr ⟨h.size+0,0,rfl,by omega,by rw [bh];simp,[],28,false,by rw [jG];rfl⟩⟩
  obtain ⟨w,h',A',e1,e2,e3,e4,e5⟩:=sb (t:=23) bZ sV rfl (by decide) (by rw [bh];omega) f hs j3 (by simp only [db];omega) (by simp only [db];omega)
  rw [e1]
  simp only [aa,seval,BP]
  exact hk _ _ ((Ext.refl h).bV e3 (by omega) (by omega)) (zxA (by simpa using e2))
 .simp only [aa,seval,BP]
  rw [rN rfl] at hk
  exact hk _ _ ((Ext.refl h).jC _ _ (by omega)) (.inl ⟨rfl,rm.nil⟩)
theorem zxo (a b:ae) (ha:a.bW=true) (hb:b.bW=true) (h:Heap) (K:aJ) (hk:∀ h',Ext h h'->K (.bool (bj a b == 0)) h'):Ok prog aH ov 55 [a.val,b.val] h K:=by
 rw [aw h]
 have z:=Ext.refl h
 refine Ok.aA 7 (bH Z1) ?_
 repeat' (simp only [aa,seval,Ot,gV,↓fe,dU,dq])
 refine NP a b ha hb _ _ (λh' x=>?_)
 (replace z:=z.ao x;rw [aw h'])
 simp only [aa,seval,Ot]
 refine qL (λhc=>?_) (λhc=>?_)
 .repeat' ( simp only [aa,seval,Ot])
  rw [show (bj a b == 0)=true by rw [hc];rfl] at hk
  exact hk _ z.av
 .repeat' ( simp only [aa,seval,Ot])
  rw [show (bj a b == 0)=false by simpa using hc] at hk
  exact hk _ z.av
theorem zuB (l:aN) (A:Nat) (h hs:Heap) (z:Ext h hs) (hA:h.size<=A) (q:Holds hs A (.row (bm l) 28 false)) (hn:l.length<=100000) (aT:∀ x∈l,x.bW=true) (K:aJ)
 (hk:∀ h' v,Ext h h'->jo h h' 28 v (oH l l.length)->K v h'):Ok prog aH ov 54 [.slice (some ⟨A,0,none⟩) l.length (G*11+l.length),.func (.func 55) ⟨[]⟩ ⟨[]⟩] hs K:=by
 rw [aw hs]
 obtain ⟨C,hC⟩:∃ C,C=G*11+l.length:=⟨_,rfl⟩
 rw [<- hC]
 refine Ok.aA 64 (bH Rb) ?_
 repeat' (first|simp only [aa,seval,mZ]|((with_reducible apply bS) <;> intro _))
 .have e:=zrO (l:=l) (by omega)
  rw [e] at hk
  exact hk _ _ z.av (zsZ (q.on _ _) hA (by omega) hC)
 have hu1:oH l 1=l.take 1:=by
  rw [Yh (m:=0) (by omega)]
  rfl
 obtain ⟨I1,aX⟩:∃ I:Nat->Env->Heap->Prop,I=(λn e h'=>∃ (k:Nat) (h1:Heap),h'=h1.lay [] h1.low/\Ext h h1/\(n=l.length - k/\1<=k/\k<=l.length/\oH l k=l.take k/\Holds h1 A (.row (bm l) 28 false))/\∃ J:Nat->ai,e=(.slice (some ⟨A,0,none⟩) l.length C::.func (.func 55) ⟨[]⟩ ⟨[]⟩::jr J 2 3 (.int .i64 k::jr J 6 60 ([])))):=⟨_,rfl⟩
 refine dN I1 _ (by rw [aX];exact ⟨1,_,rfl,z,⟨rfl,by omega,by omega,hu1,q⟩,bo⟩) ?_
 intro n e h' aP
 rw [aX] at aP
 obtain ⟨k,bU,rfl,z,hinv,J,rfl⟩:=aP
 clear q
 obtain ⟨rfl,O2,Kr,hu,q⟩:=hinv
 have pL:=eE k (by omega)
 have VV:IntKind.i64.wrap ((k:Int) - 1)=((k - 1:Nat):Int):=by rw [fZ (by omega) (by omega)];omega
 simp only [aa,seval,mZ]
 refine bS (λrM=>?_) (λrM=>?_)
 rotate_left
 .repeat' ( simp only [aa,seval,mZ])
  have jY:k=l.length:=by omega
  subst jY
  rw [hu,Ge] at hk
  exact hk _ _ z.av (zsZ (q.on _ _) hA (by omega) hC)
 have aP:(0:Int)<=(k:Int)/\(k:Int) < (l.length:Int):=by omega
 have fS:(0:Int)<=((k - 1:Nat):Int)/\((k - 1:Nat):Int) < (l.length:Int):=by omega
 have jZ:=λ(bs:List aZ) (w:Nat)=>nJ (bs:=bs) (w:=w) q (lO (l:=l) (i:=k) (by omega))
 have fm:=λ(bs:List aZ) (w:Nat)=>nJ (bs:=bs) (w:=w) q (lO (l:=l) (i:=k - 1) (by omega))
 simp only [aa,seval,mZ]
 refine (ez (by simp only [mZ])) z.av ?_
 repeat' (simp only [aa,seval,mZ,VV,aP,fS,↓jZ,↓fm,dq])
 refine zxo _ _ (uZ aT (by omega)) (uZ aT (by omega)) _ _ (λh' x=>?_)
 (((with_reducible refine ix ?_ ?_ ?_);(· exact (by (simp only [iY]);have:=z.size;omega));(· exact x));replace z:=z.ao x;replace q:=q.over x;rw [aw h'])
 cases hc:(bj (l.getD k ah) (l.getD (k - 1) ah) == 0)
 .repeat' (first|simp only [aa,seval,mZ]|((with_reducible refine ⟨z.cU.lay _ _,?_⟩);(intro _ h' zz x _);( simp only [bY,bC] at x );( replace q:=q.over x );(replace z:=zz);(clear zz);rw [aw h']))
  rw [pL]
  (rw [aX];with_reducible refine cF (m:=_) ?_ ⟨k+1,_,rfl,z,⟨rfl,by omega,by omega,zvo (by omega) (by omega) hu (by simpa using hc),q⟩,bo⟩;omega)
 have hc:bj (l.getD k ah) (l.getD (k - 1) ah)=0:=by simpa using hc
 repeat' (first|simp only [aa,seval,mZ]|((with_reducible refine ⟨z.cU.lay _ _,?_⟩);(intro _ h' zz x _);(simp only [bY,bC] at x);replace q:=q.over x;(replace z:=zz);(clear zz);rw [aw h']))
 rw [hC,zpn bZ ck (by omega) (aR _) (by omega),<- hC]
 repeat' (simp only [aa,seval,mZ])
 obtain ⟨C2,hC2⟩:∃ C2,C2=G*11+(l.length - k):=⟨_,rfl⟩
 rw [<- hC2]
 obtain ⟨I2,eu⟩:∃ I:Nat->Env->Heap->Prop,I=(λn e h'=>∃ (b i:Nat) (cur:aN) (h1:Heap),h'=h1.lay [] h1.low/\Ext h h1/\(n=l.length - (k+b)/\1<=b/\k+b<=l.length/\cur.length=l.length/\i+1<=k+b/\cur.take i=oH l (k+b)/\(∀ p,k+b<=p+1->cur.getD p ah=l.getD p ah)/\Holds h1 A (.row (bm cur) 28 false))/\∃ J:Nat->ai,e=(.slice (some ⟨A,0,none⟩) l.length C::.func (.func 55) ⟨[]⟩ ⟨[]⟩::jr J 2 3 (.int .i64 i::.slice (some ⟨A,k*11,none⟩) (l.length - k) C2::.int .i64 b::jr J 8 58 ([])))):=⟨_,rfl⟩
 refine dN I2 _ (by rw [eu];exact ⟨1,k,l,_,rfl,z,⟨rfl,by omega,by omega,rfl,by omega,by rw [ztg (by omega) hc];exact hu.symm,λ_ _=>rfl,q⟩,bo⟩) ?_
 intro n e h' aP
 rw [eu] at aP
 obtain ⟨b,i,cur,dc,rfl,z,hinv,J,rfl⟩:=aP
 clear q
 obtain ⟨rfl,m8,nT,jt,tR,OR,GQ,q⟩:=hinv
 have uV:=eE b (by omega)
 have VQ:IntKind.i64.wrap ((b:Int) - 1)=((b - 1:Nat):Int):=by rw [fZ (by omega) (by omega)];omega
 have jB:=eE i (by omega)
 simp only [aa,seval,mZ]
 refine bS (λey=>?_) (λey=>?_)
 rotate_left
 .have O3:k+b=l.length:=by omega
  have fC:i<=l.length:=by omega
  simp only [aa,seval,mZ]
  rw [hC,zpn bZ ck fC (aR _) (by omega),<- hC]
  obtain ⟨C3,hC3⟩:∃ C3,C3=G*11+(l.length - i):=⟨_,rfl⟩
  rw [<- hC3]
  simp only [aa,seval,mZ,zCe]
  refine zt1 q bZ sV (by omega) (by omega) (λh3 q3 c3=>?_)
  replace z:=z.bV c3 hA (by omega)
  rw [aw h3]
  clear q
  simp only [aa,seval,mZ]
  rw [hC,zBW bZ ck fC (aR _) (by omega),<- hC]
  repeat' (simp only [aa,seval,mZ])
  rw [OR,O3] at q3
  have hlen:i=(oH l l.length).length:=by rw [<- O3,<- OR,gR];omega
  have Ku:(oH l l.length++List.replicate (cur.length - i) ah).length=l.length:=by rw [cE,List.length_replicate];omega
  exact hk _ _ z.av (zsY (q3.on _ _) hA (by omega) hlen (by rw [Ku];exact hC))
 have aP:(0:Int)<=(b:Int)/\(b:Int) < ((l.length - k:Nat):Int):=by omega
 have fS:(0:Int)<=((b - 1:Nat):Int)/\((b - 1:Nat):Int) < ((l.length - k:Nat):Int):=by omega
 have jZ:=λ(bs:List aZ) (w:Nat)=>nJ (bs:=bs) (w:=w) q (lO (l:=cur) (i:=k+b) (by omega))
 have fm:=λ(bs:List aZ) (w:Nat)=>nJ (bs:=bs) (w:=w) q (lO (l:=cur) (i:=k+(b - 1)) (by omega))
 rw [rk] at jZ fm
 rw [GQ _ (by omega)] at jZ fm
 simp only [aa,seval,mZ]
 refine (ez (by simp only [mZ])) z.av ?_
 repeat' (simp only [aa,seval,mZ,VQ,aP,fS,↓jZ,↓fm,dq])
 refine zxo _ _ (uZ aT (by omega)) (uZ aT (by omega)) _ _ (λh' x=>?_)
 (((with_reducible refine ix ?_ ?_ ?_);(· exact (by (simp only [iY]);have:=z.size;omega));(· exact x));replace z:=z.ao x;replace q:=q.over x;rw [aw h'])
 cases tJ:(bj (l.getD (k+b) ah) (l.getD (k+(b - 1)) ah) == 0)
 rotate_left
 .have tJ:bj (l.getD (k+b) ah) (l.getD (k+b - 1) ah)=0:=by rw [show k+b - 1=k+(b - 1) by omega];simpa using tJ
  repeat' (first|simp only [aa,seval,mZ]|((with_reducible apply cf);(· rfl))|((with_reducible refine ⟨z.cU.lay _ _,?_⟩);(intro _ h' zz x _);(simp only [bY,bC] at x);replace q:=q.over x;(replace z:=zz);(clear zz);rw [aw h']))
  rw [uV]
  (rw [eu];with_reducible refine cF (m:=_) ?_ ⟨b+1,i,cur,_,rfl,z,⟨rfl,by omega,by omega,jt,by omega,by rw [OR,show k+(b+1)=k+b+1 by omega,ztg (by omega) tJ],λp hp=>GQ p (by omega),q⟩,bo⟩;omega)
 have tJ:bj (l.getD (k+b) ah) (l.getD (k+b - 1) ah)≠0:=by rw [show k+b - 1=k+(b - 1) by omega];simpa using tJ
 repeat' (first|simp only [aa,seval,mZ]|((with_reducible apply cf);(· rfl))|((with_reducible refine ⟨z.cU.lay _ _,?_⟩);(intro _ h' zz x _);(simp only [bY,bC] at x);replace q:=q.over x;(replace z:=zz);(clear zz);rw [aw h']))
 have jZ:=λ(bs:List aZ) (w:Nat)=>nJ (bs:=bs) (w:=w) q (lO (l:=cur) (i:=k+b) (by omega))
 rw [rk] at jZ
 rw [GQ _ (by omega)] at jZ
 have UM:(0:Int)<=(i:Int)/\(i:Int) < (l.length:Int):=by omega
 repeat' (simp only [aa,seval,mZ,aP,UM,↓jZ,dq])
 have hz:=z.size
 refine Bk q ck (by omega) (λh3 q3 c3=>?_)
 replace z:=z.bV c3 hA (by omega)
 rw [aw h3]
 clear q jZ
 repeat' (simp only [aa,seval,mZ])
 rw [jB,uV]
 have Ur:∀ p,k+(b+1)<=p+1->(cur.set i (l.getD (k+b) ah)).getD p ah=l.getD p ah:=by
  intro p hp
  have aM:i≠p:=by omega
  rw [zma aM]
  exact GQ p (by omega)
 (rw [eu];with_reducible refine cF (m:=_) ?_ ⟨b+1,i+1,cur.set i (l.getD (k+b) ah),_,rfl,z,⟨rfl,by omega,by omega,by rw [ja];exact jt,by omega,by rw [zzQ (by omega),OR,show k+(b+1)=k+b+1 by omega,zx9 tJ],Ur,q3⟩,bo⟩;omega)
theorem zuL (v:ai) (h:Heap) (hl:Sl aC.atom h v []) (K:aJ) (hk:∀ h',Ext h h'->K undef h'):Ok prog aH ov 52 [v,.func (.func 53) ⟨[]⟩ ⟨[]⟩] h K:=by
 rw [aw h]
 have z:=Ext.refl h
 have yr:=λ(hh:Heap)=>hl.bQ bZ hh
 simp only [db] at yr
 have yw:((0:Nat):Int)=0:=rfl
 refine Ok.aA 7 (bH Ra) ?_
 repeat' (simp only [aa,seval,Oq,yr,yw])
 refine Ok.aA 60 (bH Re) ?_
 simp only [aa,seval,oQ]
 refine Nd ?_
 simp only [aa,seval,oQ]
 refine Ok.aA 49 (bH Dt) ?_
 simp only [aa,seval,hU]
 refine Nd ?_
 simp only [aa,seval,oQ,hU]
 refine Nd ?_
 simp only [aa,seval,oQ,Oq]
 exact hk _ z.av
theorem zmW (v:ai) (h:Heap) (hl:Sl aC.atom h v []) (f:ai) (K:aJ) (hk:∀ h',Ext h h'->K v h'):Ok prog aH ov 54 [v,f] h K:=by
 rw [aw h]
 have z:=Ext.refl h
 have yr:=λ(hh:Heap)=>hl.bQ bZ hh
 simp only [db] at yr
 have yw:((0:Nat):Int)=0:=rfl
 refine Ok.aA 64 (bH Rb) ?_
 simp only [aa,seval,mZ,yr,yw]
 exact hk _ z.av
theorem zpf (l:aN) (v:ai) (h:Heap) (hl:Sl aC.atom h v l) (hn:l.length<=100000) (aT:∀ x∈l,x.bW=true) (K:aJ)
 (hk:∀ h' w,Ext h h'->jo h h' 28 w (gW l)->K w h'):Ok prog aH ov 27 [v] h K:=by
 rw [aw h]
 have z:=Ext.refl h
 refine Ok.aA 9 (bH ZI) ?_
 repeat' (simp only [aa,seval,DF])
 refine zxc l v _ (hl.lay _ _) (by omega) _ (λh' w x ho=>?_)
 rcases ho with ⟨rfl,ho⟩|⟨A,rfl,q,hA,aM⟩
 .have cX:∀ (h:Heap) (K:aJ),aK (some w) h K=K w h:=λ_ _=>rfl
  (replace z:=z.ao x;rw [aw h'])
  repeat' (simp only [aa,seval,DF])
  refine zuL w _ (ho.lay _ _).sl _ (λh' x=>?_)
  replace ho:=ho.over x
  (replace z:=z.ao x;rw [aw h'])
  repeat' (simp only [aa,seval,DF])
  refine zmW w _ (ho.lay _ _).sl _ _ (λh' x=>?_)
  replace ho:=ho.over x
  (replace z:=z.ao x;rw [aw h'])
  repeat' (simp only [aa,seval,DF])
  exact hk _ _ z.av (.inl ⟨rfl,ho.lay _ _⟩)
 ·(replace z:=z.ao x;rw [aw h'])
  repeat' (simp only [aa,seval,DF])
  refine zm3 l A (G*11+l.length) h _ z.av hA (q.on _ _) hn aT _ (λh' l' x q' hp cZ Vw=>?_)
  replace z:=x
  rw [aw h']
  repeat' (simp only [aa,seval,DF])
  have key:=λK hk=>zuB l' A h (h'.lay [] h'.low) z.av hA (q'.on _ _) (by rw [hp.length_eq];omega) (CR aT hp) K hk
  rw [zvp hp cZ Vw,hp.length_eq] at key
  refine key _ (λh' w x ho=>?_)
  replace z:=x
  have cX:∀ (h:Heap) (K:aJ),aK (some w) h K=K w h:=λ_ _=>rfl
  rw [aw h']
  repeat' (simp only [aa,seval,DF])
  exact hk _ _ z.av (ho.lay _ _)
end Go.Proofs.YtnkmeidmdaidhaaGreatDoor
