/- Walks: sorting in place: Am.one block Written out by fill2.py. No condition. -/
import Derived.Test.YtnkmeidmdaidhaaGreatDoorG27
set_option linter.unusedSimpArgs false
set_option linter.unusedVariables false
set_option maxRecDepth 100000
set_option maxHeartbeats 0
namespace Go.Proofs.YtnkmeidmdaidhaaGreatDoor
open Go.Am Tryz
theorem zh9 (l:aN) (A c a b:Nat) (h hs:Heap) (z:Ext h hs) (hA:h.size<=A) (q:ak hs A (.row (bj l) 28 false)) (ve:a<=b) (hb:b<=l.length) (hn:l.length<=100000) (bc:∀ x∈l,x.bQ=true) (K:aO)
 (hk:∀ h' l',Ext h h'->ak h' A (.row (bj l') 28 false)->l'.Perm l->eI l l'->gC l' a b->EN l l' a b->K undef h'):Ok prog aJ ov 117 [.slice (some ⟨A,0,none⟩) l.length c,.int .i64 a,.int .i64 b,.func (.func 53) ⟨[]⟩ ⟨[]⟩] hs K:=by
 rw [az hs]
 have zk:=gE a (by omega)
 refine Ok.aF 49 (bY Cs) ?_
 simp only [aa,seval,gM]
 rw [zk]
 obtain ⟨I1,bo⟩:∃ I:Nat->Env->Heap->Prop,I=(λn e h'=>∃ (i:Nat) (l1:aN) (h1:Heap),h'=h1.lay [] h1.low/\Ext h h1/\(n=b - i/\a < i/\(i<=b\/(i=a+1/\l1=l))/\l1.Perm l/\eI l l1/\gC l1 a i/\EN l l1 a i/\ak h1 A (.row (bj l1) 28 false))/\∃ J:Nat->ai,e=(.slice (some ⟨A,0,none⟩) l.length c::.int .i64 a::.int .i64 b::.func (.func 53) ⟨[]⟩ ⟨[]⟩::jr J 4 4 (.int .i64 i::jr J 9 44 ([])))):=⟨_,rfl⟩
 refine fh I1 _ (by rw [bo];exact ⟨a+1,l,_,rfl,z,⟨rfl,by omega,.inr ⟨rfl,rfl⟩,List.Perm.refl _,eI.refl _,λk g1 g2=>by omega,λk _=>rfl,q⟩,bO⟩) ?_
 intro n e h' aU
 rw [bo] at aU
 obtain ⟨i,l1,cF,rfl,z,hinv,J,rfl⟩:=aU
 clear q
 obtain ⟨rfl,Sh,Nh,tk,wk,DN,DL,q⟩:=hinv
 have hw:=gE i (by omega)
 simp only [aa,seval,gM]
 refine cm (λqY=>?_) (λqY=>?_)
 rotate_left
 .simp only [aa,seval,gM]
  repeat' ((first|((with_reducible first|apply cm|apply oQ|apply su|apply Ag|apply zW) <;> intro _)|((with_reducible refine ⟨z.cS.lay _ _,?_⟩);(intro _ h' zz x _);(first|simp only [bS,bD] at x|skip);(replace z:=zz);(clear zz);rw [az h'])) <;> simp only [aa,seval,gM])
  refine hk _ _ z.aw (q.on _ _) tk wk (λk g1 g2=>DN k g1 (by omega)) (λk g=>?_)
  rcases Nh with Nh|⟨_,rfl⟩
  .exact DL k (by omega)
  .rfl
 have ma:=tk.length_eq
 have Jb:=BO bc tk
 repeat' (simp only [aa,seval,gM])
 obtain ⟨I2,gN⟩:∃ I:Nat->Env->Heap->Prop,I=(λn e h'=>∃ (j:Nat) (l2:aN) (h1:Heap),h'=h1.lay [] h1.low/\Ext h h1/\(n=j - a/\a<=j/\j<=i/\l2.Perm l/\eI l l2/\Ms l2 a i j/\EN l l2 a (i+1)/\ak h1 A (.row (bj l2) 28 false))/\∃ J:Nat->ai,e=(.slice (some ⟨A,0,none⟩) l.length c::.int .i64 a::.int .i64 b::.func (.func 53) ⟨[]⟩ ⟨[]⟩::jr J 4 4 (.int .i64 i::.int .i64 j::jr J 10 43 ([])))):=⟨_,rfl⟩
 refine fh I2 _ (by rw [gN];exact ⟨i,l1,_,rfl,z,⟨rfl,by omega,by omega,tk,wk,zqU DN,λk g=>DL k (by omega),q⟩,bO⟩) ?_
 intro n e h' aU
 rw [gN] at aU
 obtain ⟨j,l2,da,rfl,z,hinv,J,rfl⟩:=aU
 clear q tk wk DN DL ma Jb
 obtain ⟨rfl,Si,tX,xA,wm,TG,DM,q⟩:=hinv
 have oD:=xA.length_eq
 have fM:=BO bc xA
 simp only [cv,seval,gM]
 refine (eF (by simp only [gM])) z.aw ?_
 simp only [aa,seval,gM]
 refine cm (λtd=>?_) (λtd=>?_)
 rotate_left
 .repeat' (first|simp only [aa,seval,gM]|((with_reducible refine ⟨z.cS.lay _ _,?_⟩);(intro _ h' zz x _);( simp only [bS,bD] at x );( replace q:=q.over x );(replace z:=zz);(clear zz);rw [az h']))
  rw [hw]
  (rw [bo];with_reducible refine dA (m:=_) ?_ ⟨i+1,l2,_,rfl,z,⟨rfl,by omega,.inl (by omega),xA,wm,zpe TG tX (λg=>absurd g (by omega)),DM,q⟩,bO⟩;omega)
 have xF:IntKind.i64.wrap ((j:Int) - 1)=((j - 1:Nat):Int):=by rw [fQ (by omega) (by omega)];omega
 have aU:(0:Int)<=(j:Int)/\(j:Int) < (l.length:Int):=by omega
 have fL:(0:Int)<=((j - 1:Nat):Int)/\((j - 1:Nat):Int) < (l.length:Int):=by omega
 have jJ:=λ(bs:List aZ) (w:Nat)=>nf (bs:=bs) (w:=w) q (lg (l:=l2) (i:=j) (by omega))
 have eV:=λ(bs:List aZ) (w:Nat)=>nf (bs:=bs) (w:=w) q (lg (l:=l2) (i:=j - 1) (by omega))
 repeat' (simp only [aa,seval,gM,xF,aU,fL,↓jJ,↓eV,dS])
 refine Mh _ _ (um fM (by omega)) (um fM (by omega)) _ _ (λh' x=>?_)
 (((with_reducible refine fP ?_ ?_ ?_);(· exact (by (simp only [gh]);have:=z.size;omega));(· exact x));replace z:=z.au x;replace q:=q.over x;rw [az h'])
 simp only [aa,seval,gM]
 refine cm (λhc=>?_) (λhc=>?_)
 rotate_left
 .repeat' (first|simp only [aa,seval,gM]|((with_reducible refine ⟨z.cS.lay _ _,?_⟩);(intro _ h' zz x _);( simp only [bS,bD] at x );( replace q:=q.over x );(replace z:=zz);(clear zz);rw [az h']))
  rw [hw]
  (rw [bo];with_reducible refine dA (m:=_) ?_ ⟨i+1,l2,_,rfl,z,⟨rfl,by omega,.inl (by omega),xA,wm,zpe TG tX (λ_=>GO hc),DM,q⟩,bO⟩;omega)
 repeat' (first|simp only [aa,seval,gM]|((with_reducible refine ⟨z.cS.lay _ _,?_⟩);(intro _ h' zz x _);(simp only [bS,bD] at x);replace q:=q.over x;(replace z:=zz);(clear zz);rw [az h']))
 have jJ:=λ(bs:List aZ) (w:Nat)=>nf (bs:=bs) (w:=w) q (lg (l:=l2) (i:=j) (by omega))
 have eV:=λ(bs:List aZ) (w:Nat)=>nf (bs:=bs) (w:=w) q (lg (l:=l2) (i:=j - 1) (by omega))
 refine (eF (by simp only [gM])) z.aw ?_
 repeat' (simp only [aa,seval,gM,xF,aU,fL,↓jJ,↓eV,dS])
 refine zR q cw (by omega) (λh3 q3 c3=>?_)
 have hz:=z.size
 refine i3 (A:=A) (by kernel_rfl) (by rw [br];omega) (by omega) (by simpa only [bS,br,bD,eB,dK,gS] using c3) ?_
 replace z:=(z.jK [] (h'.size+0) (by omega)).step c3 hA
 rw [az h3]
 clear q jJ eV
 repeat' (simp only [aa,seval,gM,fL])
 refine zR q3 cw (by rw [iS];omega) (λh4 q4 c4=>?_)
 have hz:=z.size
 refine i3 (A:=A) (by kernel_rfl) (by rw [br];omega) (by omega) (by simpa only [bS,br,bD,eB,dK,gS] using c4) ?_
 replace z:=(z.jK [] (h3.size+0) (by omega)).step c4 hA
 rw [az h4]
 clear q3
 repeat' (first|simp only [aa,seval,gM,xF]|((with_reducible refine ⟨z.cS.lay _ _,?_⟩);(intro _ h' zz x _);(simp only [bS,bD] at x);replace q4:=q4.over x;(replace z:=zz);(clear zz);rw [az h']))
 replace q4:ak _ A (.row (bj (j5 l2 j (j - 1))) 28 false):=q4
 (rw [gN];with_reducible refine dA (m:=_) ?_ ⟨j - 1,j5 l2 j (j - 1),_,rfl,z,⟨rfl,by omega,by omega,(VU (by omega) (by omega)).trans xA,wm.trans (zpi (by omega) (by omega) hc),zuf TG (by omega) tX (by omega) hc,zpc DM (by omega) tX (by omega),q4⟩,bO⟩;omega)
theorem Vs (l:aN) (A c a b w:Nat) (fv:ai) (h hs:Heap) (z:Ext h hs) (hA:h.size<=A) (q:ak hs A (.row (bj l) 28 false)) (ve:a+w<=b) (hb:b+w<=l.length) (hn:l.length<=100000) (K:aO)
 (hk:∀ h' l',Ext h h'->ak h' A (.row (bj l') 28 false)->l'.Perm l->B4 l l' a b w->K undef h'):Ok prog aJ ov 150 [.slice (some ⟨A,0,none⟩) l.length c,.int .i64 a,.int .i64 b,.int .i64 w,fv] hs K:=by
 rw [az hs]
 refine Ok.aF 33 (bY HC) ?_
 simp only [aa,seval,pq]
 obtain ⟨I1,bo⟩:∃ I:Nat->Env->Heap->Prop,I=(λn e h'=>∃ (i:Nat) (l1:aN) (h1:Heap),h'=h1.lay [] h1.low/\Ext h h1/\(n=w - i/\i<=w/\l1.Perm l/\B4 l l1 a b i/\ak h1 A (.row (bj l1) 28 false))/\∃ J:Nat->ai,e=(.slice (some ⟨A,0,none⟩) l.length c::.int .i64 a::.int .i64 b::.int .i64 w::jr J 4 6 (.int .i64 i::jr J 11 27 ([])))):=⟨_,rfl⟩
 refine fh I1 _ (by rw [bo];exact ⟨0,l,_,rfl,z,⟨rfl,by omega,List.Perm.refl _,zq6 l a b,q⟩,bO⟩) ?_
 intro n e h' aU
 rw [bo] at aU
 obtain ⟨i,l1,cF,rfl,z,hinv,J,rfl⟩:=aU
 clear q
 obtain ⟨rfl,hi,hp,JH,q⟩:=hinv
 have ma:=hp.length_eq
 have hw:=gE i (by omega)
 simp only [aa,seval,pq]
 refine cm (λbc=>?_) (λbc=>?_)
 rotate_left
 .repeat' ( simp only [aa,seval,pq])
  have hiw:i=w:=by omega
  subst hiw
  exact hk _ _ z.aw (q.on _ _) hp JH
 have Nu:IntKind.i64.wrap ((a:Int)+(i:Int))=((a+i:Nat):Int):=by rw [fQ (by omega) (by omega)];omega
 have ud:IntKind.i64.wrap ((b:Int)+(i:Int))=((b+i:Nat):Int):=by rw [fQ (by omega) (by omega)];omega
 have aU:(0:Int)<=((a+i:Nat):Int)/\((a+i:Nat):Int) < (l.length:Int):=by omega
 have fL:(0:Int)<=((b+i:Nat):Int)/\((b+i:Nat):Int) < (l.length:Int):=by omega
 have jJ:=λ(bs:List aZ) (w:Nat)=>nf (bs:=bs) (w:=w) q (lg (l:=l1) (i:=a+i) (by omega))
 have eV:=λ(bs:List aZ) (w:Nat)=>nf (bs:=bs) (w:=w) q (lg (l:=l1) (i:=b+i) (by omega))
 simp only [aa,seval,pq]
 refine (eF (by simp only [pq])) z.aw ?_
 repeat' (simp only [aa,seval,pq,Nu,ud,aU,fL,↓jJ,↓eV,dS])
 have hz:=z.size
 refine zR q cw (by omega) (λh3 q3 c3=>?_)
 refine i3 (A:=A) (by kernel_rfl) (by rw [br];omega) (by omega) (by simpa only [bS,br,bD,eB,dK,gS] using c3) ?_
 replace z:=(z.jK [] (cF.size+0) (by omega)).step c3 hA
 rw [az h3]
 clear q jJ eV
 repeat' (simp only [aa,seval,pq,fL])
 refine zR q3 cw (by rw [iS];omega) (λh4 q4 c4=>?_)
 have hz:=z.size
 refine i3 (A:=A) (by kernel_rfl) (by rw [br];omega) (by omega) (by simpa only [bS,br,bD,eB,dK,gS] using c4) ?_
 replace z:=(z.jK [] (h3.size+0) (by omega)).step c4 hA
 rw [az h4]
 clear q3
 repeat' (first|simp only [aa,seval,pq]|((with_reducible refine ⟨z.cS.lay _ _,?_⟩);(intro _ h' zz x _);(simp only [bS,bD] at x);replace q4:=q4.over x;(replace z:=zz);(clear zz);rw [az h']))
 rw [hw]
 replace q4:ak _ A (.row (bj (j5 l1 (a+i) (b+i))) 28 false):=q4
 (rw [bo];with_reducible refine dA (m:=_) ?_ ⟨i+1,j5 l1 (a+i) (b+i),_,rfl,z,⟨rfl,by omega,(VU (by omega) (by omega)).trans hp,zq5 JH ve (by omega) (by omega),q4⟩,bO⟩;omega)
theorem zwl (l:aN) (A c a m b:Nat) (fv:ai) (h hs:Heap) (z:Ext h hs) (hA:h.size<=A) (q:ak hs A (.row (bj l) 28 false)) (oY:a < m) (za:m < b) (hb:b<=l.length) (hn:l.length<=100000) (K:aO)
 (hk:∀ h',Ext h h'->ak h' A (.row (bj (ye l a m b)) 28 false)->(ye l a m b).Perm l->K undef h'):Ok prog aJ ov 138 [.slice (some ⟨A,0,none⟩) l.length c,.int .i64 a,.int .i64 m,.int .i64 b,fv] hs K:=by
 rw [az hs]
 have ub:IntKind.i64.wrap ((m:Int) - (a:Int))=((m - a:Nat):Int):=by rw [fQ (by omega) (by omega)];omega
 have pe:IntKind.i64.wrap ((b:Int) - (m:Int))=((b - m:Nat):Int):=by rw [fQ (by omega) (by omega)];omega
 refine Ok.aF 53 (bY HA) ?_
 simp only [aa,seval,n9,ub,pe]
 obtain ⟨I1,bo⟩:∃ I:Nat->Env->Heap->Prop,I=(λn e h'=>∃ (i j:Nat) (l1:aN) (h1:Heap),h'=h1.lay [] h1.low/\Ext h h1/\(n=i+j/\0 < i/\0 < j/\i<=m/\m+j<=l.length/\l1.Perm l/\Fa (ye l a m b) l1 m i j/\ak h1 A (.row (bj l1) 28 false))/\∃ J:Nat->ai,e=(.slice (some ⟨A,0,none⟩) l.length c::J 1::.int .i64 m::J 3::fv::jr J 5 5 (.int .i64 i::.int .i64 j::jr J 12 46 ([])))):=⟨_,rfl⟩
 refine fh I1 _ (by rw [bo];exact ⟨m - a,b - m,l,_,rfl,z,⟨rfl,by omega,by omega,by omega,by omega,List.Perm.refl _,zrc (by omega) (by omega) hb,q⟩,bO⟩) ?_
 intro n e h' aU
 rw [bo] at aU
 obtain ⟨i,j,l1,cF,rfl,z,hinv,J,rfl⟩:=aU
 clear q
 obtain ⟨rfl,yT,hj0,tf,Zj,hp,TP,q⟩:=hinv
 have ma:=hp.length_eq
 simp only [aa,seval,n9]
 have DX:IntKind.i64.wrap ((m:Int) - (i:Int))=((m - i:Nat):Int):=by rw [fQ (by omega) (by omega)];omega
 refine su (λaL=>?_) (λheq=>?_)
 rotate_left
 .have fk:i=j:=by omega
  subst fk
  repeat' (simp only [aa,seval,n9,DX])
  have key:=λK hk=>Vs l1 A c (m - i) m i fv h (cF.lay [] cF.low) z.aw hA (q.on _ _) (by omega) (by omega) (by omega) K hk
  simp only [ma] at key
  refine key _ (λh' l' x q' kV fT=>?_)
  have kS:l'=ye l a m b:=WQ (by rw [zih,kV.length_eq,ma]) (λk=>(zw8 TP tf fT k).symm)
  subst kS
  rw [az h']
  repeat' (simp only [aa,seval,n9])
  exact hk _ x.aw (q'.on _ _) (kV.trans hp)
 simp only [aa,seval,n9]
 refine cm (λtd=>?_) (λtd=>?_)
 .repeat' ( simp only [aa,seval,n9,DX])
  have key:=λK hk=>Vs l1 A c (m - i) m j fv h (cF.lay [] cF.low) z.aw hA (q.on _ _) (by omega) (by omega) (by omega) K hk
  simp only [ma] at key
  refine key _ (λh' l' x q' kV fT=>?_)
  replace z:=x
  rw [az h']
  have T5:IntKind.i64.wrap ((i:Int) - (j:Int))=((i - j:Nat):Int):=by rw [fQ (by omega) (by omega)];omega
  repeat' (simp only [aa,seval,n9,T5])
  (rw [bo];with_reducible refine dA (m:=_) ?_ ⟨i - j,j,l',_,rfl,z,⟨rfl,by omega,by omega,by omega,by omega,kV.trans hp,zuv TP tf (by omega) fT,q'⟩,bO⟩;omega)
 .have T9:IntKind.i64.wrap ((m:Int)+(j:Int))=((m+j:Nat):Int):=by rw [fQ (by omega) (by omega)];omega
  have JP:IntKind.i64.wrap (((m+j:Nat):Int) - (i:Int))=((m+j - i:Nat):Int):=by rw [fQ (by omega) (by omega)];omega
  repeat' (simp only [aa,seval,n9,DX,T9,JP])
  have key:=λK hk=>Vs l1 A c (m - i) (m+j - i) i fv h (cF.lay [] cF.low) z.aw hA (q.on _ _) (by omega) (by omega) (by omega) K hk
  simp only [ma] at key
  refine key _ (λh' l' x q' kV fT=>?_)
  replace z:=x
  rw [az h']
  have T6:IntKind.i64.wrap ((j:Int) - (i:Int))=((j - i:Nat):Int):=by rw [fQ (by omega) (by omega)];omega
  repeat' (simp only [aa,seval,n9,T6])
  (rw [bo];with_reducible refine dA (m:=_) ?_ ⟨i,j - i,l',_,rfl,z,⟨rfl,by omega,by omega,by omega,by omega,kV.trans hp,zrb TP tf (by omega) fT,q'⟩,bO⟩;omega)
def XC (sz:Nat):Prop:=∀ (l:aN) (A c a m b:Nat) (h hs:Heap),Ext h hs->h.size<=A->ak hs A (.row (bj l) 28 false)->a < m->m < b->b - a<=sz->b<=l.length->l.length<=100000->(∀ x∈l,x.bQ=true)->gC l a m->gC l m b->∀ (K:aO),
 (∀ h' l',Ext h h'->ak h' A (.row (bj l') 28 false)->Mv l l' a b->gC l' a b->K undef h')->Ok prog aJ ov 118 [.slice (some ⟨A,0,none⟩) l.length c,.int .i64 a,.int .i64 m,.int .i64 b,.func (.func 53) ⟨[]⟩ ⟨[]⟩] hs K
theorem OK (x y:Nat) (h:x+y<=1000000):IntKind.i64.wrap ((x:Int)+(y:Int))=((x+y:Nat):Int)/\IntKind.u64.wrap ((x+y:Nat):Int)=((x+y:Nat):Int)/\IntKind.i64.wrap (((x+y) / 2:Nat):Int)=(((x+y) / 2:Nat):Int)/\Int.fdiv ((x+y:Nat):Int) (2 ^ (min (1:Int).toNat (IntKind.bits .u64)))=(((x+y) / 2:Nat):Int):=by
 refine ⟨by rw [fQ (by omega) (by omega)];omega,by unfold IntKind.wrap;simp [IntKind.bits];omega,fQ (by omega) (by omega),?_⟩
 show Int.fdiv ((x+y:Nat):Int) 2=_
 rw [Int.fdiv_eq_ediv_of_nonneg _ (by omega)]
 omega
theorem ztY (sz:Nat) (ih:XC sz):XC (sz+1):=by
 intro l A c a m b h hs z hA q oY za dV hb hn bc h1 h2 K hk
 rw [az hs]
 have ub:IntKind.i64.wrap ((m:Int) - (a:Int))=((m - a:Nat):Int):=by rw [fQ (by omega) (by omega)];omega
 have pe:IntKind.i64.wrap ((b:Int) - (m:Int))=((b - m:Nat):Int):=by rw [fQ (by omega) (by omega)];omega
 have Nk:l[a]? = some (l.getD a ah):=lg (by omega)
 have Ja:l[m]? = some (l.getD m ah):=lg (by omega)
 refine Ok.aF 215 (bY i7) ?_
 simp only [aa,seval,bL,ub]
 refine oQ (λjw=>?_) (λjw=>?_)
 .-- Am.one element in front
  simp only [aa,seval,bL]
  obtain ⟨I1,bo⟩:∃ I:Nat->Env->Heap->Prop,I=(λn e h'=>∃ (i j:Nat) (h1:Heap),h'=h1.lay [] h1.low/\Ext h h1/\(n=j - i/\m<=i/\i<=j/\j<=b/\(i=m\/bg (l.getD (i - 1) ah) (l.getD a ah) < 0)/\(j=b\/¬ bg (l.getD j ah) (l.getD a ah) < 0)/\ak h1 A (.row (bj l) 28 false))/\∃ J:Nat->ai,e=(.slice (some ⟨A,0,none⟩) l.length c::.int .i64 a::.int .i64 m::.int .i64 b::.func (.func 53) ⟨[]⟩ ⟨[]⟩::jr J 5 5 (.int .i64 i::.int .i64 j::jr J 12 208 ([])))):=⟨_,rfl⟩
  refine fh I1 _ (by rw [bo];exact ⟨m,b,_,rfl,z,⟨rfl,by omega,by omega,by omega,.inl rfl,.inl rfl,q⟩,bO⟩) ?_
  intro n e h' aU
  rw [bo] at aU
  obtain ⟨i,j,cF,rfl,z,hinv,J,rfl⟩:=aU
  clear q
  obtain ⟨rfl,g1,g2,g3,g4,g5,q⟩:=hinv
  simp only [aa,seval,bL]
  refine cm (λfk=>?_) (λfk=>?_)
  rotate_left
  .have Dm:i=j:=by omega
   subst Dm
   have Bb:=g4
   have xC:=g5
   have mF:IntKind.i64.wrap ((i:Int) - 1)=((i - 1:Nat):Int):=by rw [fQ (by omega) (by omega)];omega
   have Sj:m=a+1:=by omega
   subst Sj
   simp only [aa,seval,bL]
   obtain ⟨I2,gN⟩:∃ I:Nat->Env->Heap->Prop,I=(λn e h'=>∃ (k:Nat) (l1:aN) (h1:Heap),h'=h1.lay [] h1.low/\Ext h h1/\(n=i - 1 - k/\a<=k/\k<=i - 1/\Mv l l1 a b/\uM l l1 a k/\ak h1 A (.row (bj l1) 28 false))/\∃ J:Nat->ai,e=(.slice (some ⟨A,0,none⟩) l.length c::jr J 1 9 (.int .i64 i::jr J 11 2 (.int .i64 k::jr J 14 206 ([]))))):=⟨_,rfl⟩
   refine fh I2 _ (by rw [gN];exact ⟨a,l,_,rfl,z,⟨rfl,by omega,by omega,Mv.refl l a b,zuB l a,q⟩,bO⟩) ?_
   intro n e h' aU
   rw [gN] at aU
   obtain ⟨k,l1,da,rfl,z,hinv,J,rfl⟩:=aU
   clear q
   obtain ⟨rfl,f1,f2,f3,f4,q⟩:=hinv
   have ma:=f3.perm.length_eq
   have zl:=gE k (by omega)
   simp only [aa,seval,bL,mF]
   refine cm (λtg=>?_) (λtg=>?_)
   rotate_left
   .have Dp:k=i - 1:=by omega
    subst Dp
    repeat' (simp only [aa,seval,bL])
    exact hk _ _ z.aw (q.on _ _) f3 (zAi h2 (by omega) (by omega) Bb xC f4)
   have aU:(0:Int)<=(k:Int)/\(k:Int) < (l.length:Int):=by omega
   have fL:(0:Int)<=((k+1:Nat):Int)/\((k+1:Nat):Int) < (l.length:Int):=by omega
   have jJ:=λ(bs:List aZ) (w:Nat)=>nf (bs:=bs) (w:=w) q (lg (l:=l1) (i:=k) (by omega))
   have eV:=λ(bs:List aZ) (w:Nat)=>nf (bs:=bs) (w:=w) q (lg (l:=l1) (i:=k+1) (by omega))
   simp only [aa,seval,bL]
   refine (eF (by simp only [bL])) z.aw ?_
   repeat' (simp only [aa,seval,bL,zl,aU,fL,↓jJ,↓eV,dS])
   have hz:=z.size
   refine zR q cw (by omega) (λh3 q3 c3=>?_)
   refine i3 (A:=A) (by kernel_rfl) (by rw [br];omega) (by omega) (by simpa only [bS,br,bD,eB,dK,gS] using c3) ?_
   replace z:=(z.jK [] (da.size+0) (by omega)).step c3 hA
   rw [az h3]
   clear q jJ eV
   repeat' (simp only [aa,seval,bL,fL])
   refine zR q3 cw (by rw [iS];omega) (λh4 q4 c4=>?_)
   have hz:=z.size
   refine i3 (A:=A) (by kernel_rfl) (by rw [br];omega) (by omega) (by simpa only [bS,br,bD,eB,dK,gS] using c4) ?_
   replace z:=(z.jK [] (h3.size+0) (by omega)).step c4 hA
   rw [az h4]
   clear q3
   repeat' (first|simp only [aa,seval,bL]|((with_reducible refine ⟨z.cS.lay _ _,?_⟩);(intro _ h' zz x _);(simp only [bS,bD] at x);replace q4:=q4.over x;(replace z:=zz);(clear zz);rw [az h']))
   rw [zl]
   replace q4:ak _ A (.row (bj (j5 l1 k (k+1))) 28 false):=q4
   (rw [gN];with_reducible refine dA (m:=_) ?_ ⟨k+1,j5 l1 k (k+1),_,rfl,z,⟨rfl,by omega,by omega,f3.trans (Mv.swap (by omega) (by omega) (by omega) (zAK (by omega) (zxd h2 g3 Bb f1 (by omega) f4))),zxc f4 f1 (by omega),q4⟩,bO⟩;omega)
  obtain ⟨e1,e2,e3,e4⟩:=OK i j (by omega)
  repeat' (simp only [aa,seval,bL,e1])
  rw [yb rfl rfl rfl (LK _) rfl,e2]
  simp only [aa,seval,bL]
  rw [LC (by decide),e4]
  simp only [aa,seval,bL]
  rw [yb rfl rfl rfl (LL _) rfl,e3]
  repeat' (simp only [aa,seval,bL])
  have vE:i<=(i+j) / 2/\(i+j) / 2 < j:=by omega
  have Bp:IntKind.i64.wrap ((((i+j) / 2:Nat):Int)+1)=(((i+j) / 2+1:Nat):Int):=by rw [fQ (by omega) (by omega)];omega
  generalize (i+j) / 2=y at vE Bp ⊢
  have aU:(0:Int)<=(y:Int)/\(y:Int) < (l.length:Int):=by omega
  have fL:(0:Int)<=(a:Int)/\(a:Int) < (l.length:Int):=by omega
  have jJ:=λ(bs:List aZ) (w:Nat)=>nf (bs:=bs) (w:=w) q (lg (l:=l) (i:=y) (by omega))
  have eV:=λ(bs:List aZ) (w:Nat)=>nf (bs:=bs) (w:=w) q (lg (l:=l) (i:=a) (by omega))
  refine (eF (by simp only [bL])) z.aw ?_
  repeat' (simp only [aa,seval,bL,aU,fL,↓jJ,↓eV,dS])
  refine Mh _ _ (um bc (by omega)) (um bc (by omega)) _ _ (λh' x=>?_)
  (((with_reducible refine fP ?_ ?_ ?_);(· exact (by (simp only [gh]);have:=z.size;omega));(· exact x));replace z:=z.au x;replace q:=q.over x;rw [az h'])
  simp only [aa,seval,bL]
  refine cm (λhc=>?_) (λhc=>?_)
  .repeat' (first|simp only [aa,seval,bL]|((with_reducible refine ⟨z.cS.lay _ _,?_⟩);(intro _ h' zz x _);( simp only [bS,bD] at x );( replace q:=q.over x );(replace z:=zz);(clear zz);rw [az h']))
   rw [Bp]
   (rw [bo];with_reducible refine dA (m:=_) ?_ ⟨y+1,j,_,rfl,z,⟨rfl,by omega,by omega,by omega,.inr (by rw [Cf];exact hc),g5,q⟩,bO⟩;omega)
  .repeat' (first|simp only [aa,seval,bL]|((with_reducible refine ⟨z.cS.lay _ _,?_⟩);(intro _ h' zz x _);( simp only [bS,bD] at x );( replace q:=q.over x );(replace z:=zz);(clear zz);rw [az h']))
   (rw [bo];with_reducible refine dA (m:=_) ?_ ⟨i,y,_,rfl,z,⟨rfl,by omega,by omega,by omega,g4,.inr hc,q⟩,bO⟩;omega)
 simp only [aa,seval,bL,pe]
 refine oQ (λJm=>?_) (λJm=>?_)
 .-- Am.one element behind
  simp only [aa,seval,bL]
  obtain ⟨I3,tV⟩:∃ I:Nat->Env->Heap->Prop,I=(λn e h'=>∃ (i j:Nat) (h1:Heap),h'=h1.lay [] h1.low/\Ext h h1/\(n=j - i/\a<=i/\i<=j/\j<=m/\(i=a\/¬ bg (l.getD m ah) (l.getD (i - 1) ah) < 0)/\(j=m\/bg (l.getD m ah) (l.getD j ah) < 0)/\ak h1 A (.row (bj l) 28 false))/\∃ J:Nat->ai,e=(.slice (some ⟨A,0,none⟩) l.length c::.int .i64 a::.int .i64 m::.int .i64 b::.func (.func 53) ⟨[]⟩ ⟨[]⟩::jr J 5 9 (.int .i64 i::.int .i64 j::jr J 16 204 ([])))):=⟨_,rfl⟩
  refine fh I3 _ (by rw [tV];exact ⟨a,m,_,rfl,z,⟨rfl,by omega,by omega,by omega,.inl rfl,.inl rfl,q⟩,bO⟩) ?_
  intro n e h' aU
  rw [tV] at aU
  obtain ⟨i,j,cF,rfl,z,hinv,J,rfl⟩:=aU
  clear q
  obtain ⟨rfl,g1,g2,g3,g4,g5,q⟩:=hinv
  simp only [aa,seval,bL]
  refine cm (λfk=>?_) (λfk=>?_)
  rotate_left
  .have Dm:i=j:=by omega
   subst Dm
   have Bb:=g4
   have xC:=g5
   have St:b=m+1:=by omega
   subst St
   simp only [aa,seval,bL]
   obtain ⟨I4,RY⟩:∃ I:Nat->Env->Heap->Prop,I=(λn e h'=>∃ (k:Nat) (l1:aN) (h1:Heap),h'=h1.lay [] h1.low/\Ext h h1/\(n=k - i/\i<=k/\k<=m/\Mv l l1 a (m+1)/\L7 l l1 m k/\ak h1 A (.row (bj l1) 28 false))/\∃ J:Nat->ai,e=(.slice (some ⟨A,0,none⟩) l.length c::jr J 1 13 (.int .i64 i::jr J 15 2 (.int .i64 k::jr J 18 202 ([]))))):=⟨_,rfl⟩
   refine fh I4 _ (by rw [RY];exact ⟨m,l,_,rfl,z,⟨rfl,by omega,by omega,Mv.refl l a _,zoi l m,q⟩,bO⟩) ?_
   intro n e h' aU
   rw [RY] at aU
   obtain ⟨k,l1,da,rfl,z,hinv,J,rfl⟩:=aU
   clear q
   obtain ⟨rfl,f1,f2,f3,f4,q⟩:=hinv
   have ma:=f3.perm.length_eq
   simp only [aa,seval,bL]
   refine cm (λtg=>?_) (λtg=>?_)
   rotate_left
   .have Dp:k=i:=by omega
    subst Dp
    repeat' (simp only [aa,seval,bL])
    exact hk _ _ z.aw (q.on _ _) f3 (zx1 h1 (by omega) (by omega) Bb xC f4)
   have zl:IntKind.i64.wrap ((k:Int) - 1)=((k - 1:Nat):Int):=by rw [fQ (by omega) (by omega)];omega
   have aU:(0:Int)<=(k:Int)/\(k:Int) < (l.length:Int):=by omega
   have fL:(0:Int)<=((k - 1:Nat):Int)/\((k - 1:Nat):Int) < (l.length:Int):=by omega
   have jJ:=λ(bs:List aZ) (w:Nat)=>nf (bs:=bs) (w:=w) q (lg (l:=l1) (i:=k) (by omega))
   have eV:=λ(bs:List aZ) (w:Nat)=>nf (bs:=bs) (w:=w) q (lg (l:=l1) (i:=k - 1) (by omega))
   simp only [aa,seval,bL]
   refine (eF (by simp only [bL])) z.aw ?_
   repeat' (simp only [aa,seval,bL,zl,aU,fL,↓jJ,↓eV,dS])
   have hz:=z.size
   refine zR q cw (by omega) (λh3 q3 c3=>?_)
   refine i3 (A:=A) (by kernel_rfl) (by rw [br];omega) (by omega) (by simpa only [bS,br,bD,eB,dK,gS] using c3) ?_
   replace z:=(z.jK [] (da.size+0) (by omega)).step c3 hA
   rw [az h3]
   clear q jJ eV
   repeat' (simp only [aa,seval,bL,fL])
   refine zR q3 cw (by rw [iS];omega) (λh4 q4 c4=>?_)
   have hz:=z.size
   refine i3 (A:=A) (by kernel_rfl) (by rw [br];omega) (by omega) (by simpa only [bS,br,bD,eB,dK,gS] using c4) ?_
   replace z:=(z.jK [] (h3.size+0) (by omega)).step c4 hA
   rw [az h4]
   clear q3
   repeat' (first|simp only [aa,seval,bL]|((with_reducible refine ⟨z.cS.lay _ _,?_⟩);(intro _ h' zz x _);(simp only [bS,bD] at x);replace q4:=q4.over x;(replace z:=zz);(clear zz);rw [az h']))
   rw [zl]
   replace q4:ak _ A (.row (bj (j5 l1 k (k - 1))) 28 false):=q4
   (rw [RY];with_reducible refine dA (m:=_) ?_ ⟨k - 1,j5 l1 k (k - 1),_,rfl,z,⟨rfl,by omega,by omega,f3.trans (Mv.swap (by omega) (by omega) (by omega) (zpi (by omega) (by omega) (zqi h1 g1 xC (by omega) f2 f4))),zqh f4 (by omega) f2 (by omega),q4⟩,bO⟩;omega)
  obtain ⟨e1,e2,e3,e4⟩:=OK i j (by omega)
  repeat' (simp only [aa,seval,bL,e1])
  rw [yb rfl rfl rfl (LK _) rfl,e2]
  simp only [aa,seval,bL]
  rw [LC (by decide),e4]
  simp only [aa,seval,bL]
  rw [yb rfl rfl rfl (LL _) rfl,e3]
  repeat' (simp only [aa,seval,bL])
  have vE:i<=(i+j) / 2/\(i+j) / 2 < j:=by omega
  have Bp:IntKind.i64.wrap ((((i+j) / 2:Nat):Int)+1)=(((i+j) / 2+1:Nat):Int):=by rw [fQ (by omega) (by omega)];omega
  generalize (i+j) / 2=y at vE Bp ⊢
  have aU:(0:Int)<=(y:Int)/\(y:Int) < (l.length:Int):=by omega
  have fL:(0:Int)<=(m:Int)/\(m:Int) < (l.length:Int):=by omega
  have jJ:=λ(bs:List aZ) (w:Nat)=>nf (bs:=bs) (w:=w) q (lg (l:=l) (i:=y) (by omega))
  have eV:=λ(bs:List aZ) (w:Nat)=>nf (bs:=bs) (w:=w) q (lg (l:=l) (i:=m) (by omega))
  refine (eF (by simp only [bL])) z.aw ?_
  repeat' (simp only [aa,seval,bL,aU,fL,↓jJ,↓eV,dS])
  refine Mh _ _ (um bc (by omega)) (um bc (by omega)) _ _ (λh' x=>?_)
  (((with_reducible refine fP ?_ ?_ ?_);(· exact (by (simp only [gh]);have:=z.size;omega));(· exact x));replace z:=z.au x;replace q:=q.over x;rw [az h'])
  simp only [aa,seval,bL]
  refine cm (λhc=>?_) (λhc=>?_)
  .repeat' (first|simp only [aa,seval,bL]|((with_reducible apply cK);(· rfl))|((with_reducible refine ⟨z.cS.lay _ _,?_⟩);(intro _ h' zz x _);( simp only [bS,bD] at x );( replace q:=q.over x );(replace z:=zz);(clear zz);rw [az h']))
   (rw [tV];with_reducible refine dA (m:=_) ?_ ⟨i,y,_,rfl,z,⟨rfl,by omega,by omega,by omega,g4,.inr hc,q⟩,bO⟩;omega)
  .repeat' (first|simp only [aa,seval,bL]|((with_reducible apply cK);(· rfl))|((with_reducible refine ⟨z.cS.lay _ _,?_⟩);(intro _ h' zz x _);( simp only [bS,bD] at x );( replace q:=q.over x );(replace z:=zz);(clear zz);rw [az h']))
   rw [Bp]
   (rw [tV];with_reducible refine dA (m:=_) ?_ ⟨y+1,j,_,rfl,z,⟨rfl,by omega,by omega,by omega,.inr (by rw [Cf];exact hc),g5,q⟩,bO⟩;omega)
 -- both parts longer
 obtain ⟨e1,e2,e3,e4⟩:=OK a b (by omega)
 repeat' (simp only [aa,seval,bL,e1])
 rw [yb rfl rfl rfl (LK _) rfl,e2]
 simp only [aa,seval,bL]
 rw [LC (by decide),e4]
 simp only [aa,seval,bL]
 rw [yb rfl rfl rfl (LL _) rfl,e3]
 have gF:2*((a+b) / 2)<=a+b:=by omega
 have ff:a+b<=2*((a+b) / 2)+1:=by omega
 generalize (a+b) / 2=mid at gF ff ⊢
 have hwn:IntKind.i64.wrap ((mid:Int)+(m:Int))=((mid+m:Nat):Int):=by rw [fQ (by omega) (by omega)];omega
 have ZK:IntKind.i64.wrap (((mid+m:Nat):Int) - 1)=((mid+m - 1:Nat):Int):=by rw [fQ (by omega) (by omega)];omega
 have ud:mid < m->IntKind.i64.wrap (((mid+m:Nat):Int) - (b:Int))=((mid+m - b:Nat):Int):=λ_=>by rw [fQ (by omega) (by omega)];omega
 simp only [aa,seval,bL,hwn]
 refine cm (λDk=>?_) (λDk=>?_)
 focus
  have ud:=ud (by omega)
  simp only [aa,seval,bL,ud,ZK]
  have pI:=zyK (l:=l) (a:=a) za (show mid < m by omega)
 rotate_left
 focus
  simp only [aa,seval,bL,ZK]
  have pI:=zyJ (l:=l) (b:=b) oY (show m<=mid by omega)
 all_goals
  obtain ⟨I5,MY⟩:∃ I:Nat->Env->Heap->Prop,I=(λn e h'=>∃ (s r:Nat) (h1:Heap),h'=h1.lay [] h1.low/\Ext h h1/\(n=r - s/\gL l a m b mid s r/\ak h1 A (.row (bj l) 28 false))/\∃ J:Nat->ai,e=(.slice (some ⟨A,0,none⟩) l.length c::.int .i64 a::.int .i64 m::.int .i64 b::.func (.func 53) ⟨[]⟩ ⟨[]⟩::jr J 5 13 (.int .i64 mid::.int .i64 ((mid+m:Nat):Int)::.int .i64 s::.int .i64 r::.int .i64 ((mid+m - 1:Nat):Int)::jr J 23 197 ([])))):=⟨_,rfl⟩
  refine fh I5 _ (by rw [MY];exact ⟨_,_,_,rfl,z,⟨rfl,pI,q⟩,bO⟩) ?_
  intro n e h' aU
  rw [MY] at aU
  obtain ⟨s,r,cF,rfl,z,hinv,J,rfl⟩:=aU
  clear q pI
  obtain ⟨rfl,hinv,q⟩:=hinv
  simp only [aa,seval,bL]
  refine cm (λmX=>?_) (λmX=>?_)
  rotate_left
  .have wj:s=r:=by have:=hinv.sr;omega
   subst wj
   have sp:=zlE hinv oY za gF ff
   obtain ⟨p1,p2,p3,p4,p5,_,_⟩:=sp
   have sp:=zlE hinv oY za gF ff
   have hwe:IntKind.i64.wrap (((mid+m:Nat):Int) - (s:Int))=((mid+m - s:Nat):Int):=by rw [fQ (by omega) (by omega)];omega
   simp only [aa,seval,J5 (pV (i7 107)) 3 rfl,zBl (i7 108) (i7 109) (i7 110) rfl,zBq (i7 110) rfl]
   rw [tx (i7 119) (i7 120) (i7 121) rfl]
   obtain ⟨R6,YZ⟩:∃ R:Env->Heap->Prop,R=(λe h'=>∃ (h1:Heap),h'=h1.lay [] h1.low/\Ext h h1/\(ak h1 A (.row (bj l) 28 false))/\∃ J:Nat->ai,e=(.slice (some ⟨A,0,none⟩) l.length c::.int .i64 a::.int .i64 m::.int .i64 b::.func (.func 53) ⟨[]⟩ ⟨[]⟩::jr J 5 13 (.int .i64 mid::J 19::.int .i64 s::jr J 21 3 (.int .i64 ((mid+m - s:Nat):Int)::jr J 25 195 ([]))))/\True):=⟨_,rfl⟩
   refine Pu R6 ?cut ?rest
   case' rest =>
    intro e h' aU
    rw [YZ] at aU
    obtain ⟨da,rfl,z,hinv,J,rfl,_⟩:=aU
   case cut =>
    simp only [aa,seval,bL,hwe]
    (rw [YZ];exact ⟨_,rfl,z,q,Fo (by kernel_rfl) (trivial)⟩)
   case rest =>
   have q:=hinv
   simp only [aa,seval]
   rw [tx (i7 121) (i7 122) (i7 127) rfl]
   obtain ⟨R7,R9⟩:∃ R:Env->Heap->Prop,R=(λe h'=>∃ (l1:aN) (h1:Heap),h'=h1.lay [] h1.low/\Ext h h1/\(Mv l l1 s (mid+m - s)/\Ch l l1 s m (mid+m - s)/\ak h1 A (.row (bj l1) 28 false))/\∃ J:Nat->ai,e=(.slice (some ⟨A,0,none⟩) l.length c::.int .i64 a::.int .i64 m::.int .i64 b::.func (.func 53) ⟨[]⟩ ⟨[]⟩::jr J 5 13 (.int .i64 mid::J 19::.int .i64 s::jr J 21 3 (.int .i64 ((mid+m - s:Nat):Int)::jr J 25 195 ([]))))/\True):=⟨_,rfl⟩
   refine Pu R7 ?cut ?rest
   case' rest =>
    intro e h' aU
    rw [R9] at aU
    obtain ⟨l1,uY,rfl,z,hinv,J,rfl,_⟩:=aU
   case cut =>
    repeat' (first|simp only [aa,seval,bL]|((with_reducible apply cm) <;> intro _))
    all_goals first
     |(rw [R9];exact ⟨l,_,rfl,z,⟨Mv.refl _ _ _,zyP (by omega) (by omega) (by omega),q⟩,Fo (by kernel_rfl) (trivial)⟩)
     |(refine zwl l A c s m (mid+m - s) _ h _ z.aw hA (q.on _ _) (by omega) (by omega) (by omega) hn _ (λh' x q1 tk=>?_)
       replace z:=x
       rw [az h']
       simp only [aa,seval,bL]
       (rw [R9];exact ⟨ye l s m (mid+m - s),_,rfl,z,⟨zyO (λk=>Oy (by omega) k) (by omega) (by omega) tk (zuk h1 h2 sp (λk=>Oy (by omega) k) (by omega) tk.length_eq),λk=>Oy (by omega) k,q1⟩,Fo (by kernel_rfl) (trivial)⟩))
   case rest =>
   obtain ⟨NA,t1,q⟩:=hinv
   obtain ⟨UN,Kg,so3,NL⟩:=zqZ h1 h2 sp t1
   have Zc:=λ(i j:Nat) (g1:a<=i) (g2:i < mid) (g3:mid<=j) (g4:j < b)=>zqY h1 h2 sp t1 g1 g2 g3 g4
   have ma:=NA.perm.length_eq
   simp only [aa,seval]
   rw [tx (i7 127) (i7 128) (i7 133) rfl]
   obtain ⟨R8,Sa⟩:∃ R:Env->Heap->Prop,R=(λe h'=>∃ (l2:aN) (h1:Heap),h'=h1.lay [] h1.low/\Ext h h1/\(Mv l1 l2 a mid/\gC l2 a mid/\ak h1 A (.row (bj l2) 28 false))/\∃ J:Nat->ai,e=(.slice (some ⟨A,0,none⟩) l.length c::.int .i64 a::.int .i64 m::.int .i64 b::.func (.func 53) ⟨[]⟩ ⟨[]⟩::jr J 5 13 (.int .i64 mid::J 19::.int .i64 s::jr J 21 3 (.int .i64 ((mid+m - s:Nat):Int)::jr J 25 195 ([]))))/\True):=⟨_,rfl⟩
   refine Pu R8 ?cut ?rest
   case' rest =>
    intro e h' aU
    rw [Sa] at aU
    obtain ⟨l2,CO,rfl,z,hinv,J,rfl,_⟩:=aU
   case cut =>
    repeat' (first|simp only [aa,seval,bL]|((with_reducible apply cm) <;> intro _))
    all_goals first
     |(rw [Sa];exact ⟨l1,_,rfl,z,⟨Mv.refl _ _ _,(by first|(have e:s=mid:=by omega);rw [<- e];exact UN|(have e:a=s:=by omega);rw [e];exact Kg),q⟩,Fo (by kernel_rfl) (trivial)⟩)
     |(have key:=ih l1 A c a s mid h (uY.lay [] uY.low) z.aw hA (q.on _ _) (by omega) (by omega) (by omega) (by omega) (by omega) (BO bc NA.perm) UN Kg
       simp only [ma] at key
       refine key _ (λh' l2 x q1 zA NM=>?_)
       replace z:=x
       rw [az h']
       simp only [aa,seval,bL]
       (rw [Sa];exact ⟨l2,_,rfl,z,⟨zA,NM,q1⟩,Fo (by kernel_rfl) (trivial)⟩))
   case rest =>
   obtain ⟨zA,NM,q⟩:=hinv
   have oD:=zA.perm.length_eq
   have so6:=NT so3 (λk g1 g2=>zA.out k (.inr g1))
   have so7:=NT NL (λk g1 g2=>zA.out k (.inr (by omega)))
   have ZW:=(NA.wT p1 p5).trans (zA.wT (aQ _) (show mid<=b by omega))
   repeat' (first|simp only [aa,seval,bL]|((with_reducible apply cm) <;> intro _))
   all_goals first
    |exact hk _ l2 z.aw (q.on _ _) ZW (zoK Zc zA (Mv.refl l2 mid b) NM (by first|(have e:mid=mid+m - s:=by omega);rw [e];exact so7|(have e:mid+m - s=b:=by omega);rw [<- e];exact so6))
    |(have key:=ih l2 A c mid (mid+m - s) b h (CO.lay [] CO.low) z.aw hA (q.on _ _) (by omega) (by omega) (by omega) (by omega) (by omega) (BO (BO bc NA.perm) zA.perm) so6 so7
      simp only [oD,ma] at key
      refine key _ (λh' l3 x q1 ZV so8=>?_)
      rw [az h']
      repeat' (simp only [aa,seval,bL])
      exact hk _ l3 x.aw (q1.on _ _) (ZW.trans (ZV.wT (show a<=mid by omega) (aQ _))) (zoK Zc zA ZV NM so8))
  have Ns:r<=l.length:=by
   rcases mM mid m with g|g
   .have:=hinv.FZ g;omega
   .have:=hinv.FY g;omega
  obtain ⟨e1,e2,e3,e4⟩:=OK s r (by omega)
  repeat' (simp only [aa,seval,bL,e1])
  rw [yb rfl rfl rfl (LK _) rfl,e2]
  simp only [aa,seval,bL]
  rw [LC (by decide),e4]
  simp only [aa,seval,bL]
  rw [yb rfl rfl rfl (LL _) rfl,e3]
  repeat' (simp only [aa,seval,bL])
  have vE:s<=(s+r) / 2/\(s+r) / 2 < r:=by omega
  have Bp:IntKind.i64.wrap ((((s+r) / 2:Nat):Int)+1)=(((s+r) / 2+1:Nat):Int):=by rw [fQ (by omega) (by omega)];omega
  generalize (s+r) / 2=y at vE Bp ⊢
  have hix:=zwV hinv vE.1 vE.2 oY za gF ff
  have Ua:IntKind.i64.wrap (((mid+m - 1:Nat):Int) - (y:Int))=((mid+m - 1 - y:Nat):Int):=by rw [fQ (by omega) (by omega)];omega
  have aU:(0:Int)<=(y:Int)/\(y:Int) < (l.length:Int):=by omega
  have fL:(0:Int)<=((mid+m - 1 - y:Nat):Int)/\((mid+m - 1 - y:Nat):Int) < (l.length:Int):=by omega
  have jJ:=λ(bs:List aZ) (w:Nat)=>nf (bs:=bs) (w:=w) q (lg (l:=l) (i:=y) (by omega))
  have eV:=λ(bs:List aZ) (w:Nat)=>nf (bs:=bs) (w:=w) q (lg (l:=l) (i:=mid+m - 1 - y) (by omega))
  refine (eF (by simp only [bL])) z.aw ?_
  repeat' (simp only [aa,seval,bL,Ua,aU,fL,↓jJ,↓eV,dS])
  refine Mh _ _ (um bc (by omega)) (um bc (by omega)) _ _ (λh' x=>?_)
  (((with_reducible refine fP ?_ ?_ ?_);(· exact (by (simp only [gh]);have:=z.size;omega));(· exact x));replace z:=z.au x;replace q:=q.over x;rw [az h'])
  simp only [aa,seval,bL]
  refine cm (λhc=>?_) (λhc=>?_)
  .repeat' (first|simp only [aa,seval,bL]|((with_reducible apply cK);(· rfl))|((with_reducible refine ⟨z.cS.lay _ _,?_⟩);(intro _ h' zz x _);( simp only [bS,bD] at x );( replace q:=q.over x );(replace z:=zz);(clear zz);rw [az h']))
   (rw [MY];with_reducible refine dA (m:=_) ?_ ⟨s,y,_,rfl,z,⟨rfl,zq7 hinv vE.1 vE.2 hc,q⟩,bO⟩;omega)
  .repeat' (first|simp only [aa,seval,bL]|((with_reducible apply cK);(· rfl))|((with_reducible refine ⟨z.cS.lay _ _,?_⟩);(intro _ h' zz x _);( simp only [bS,bD] at x );( replace q:=q.over x );(replace z:=zz);(clear zz);rw [az h']))
   rw [Bp]
   (rw [MY];with_reducible refine dA (m:=_) ?_ ⟨y+1,r,_,rfl,z,⟨rfl,zwW hinv vE.1 vE.2 hc,q⟩,bO⟩;omega)
theorem U7:∀ sz,XC sz
 |0=>by intro l A c a m b h hs z hA q h1 h2 h3;omega
 |sz+1=>ztY sz (U7 sz)
theorem zwo (l:aN) (A c:Nat) (h hs:Heap) (z:Ext h hs) (hA:h.size<=A) (q:ak hs A (.row (bj l) 28 false)) (hn:l.length<=100000) (bc:∀ x∈l,x.bQ=true) (K:aO)
 (hk:∀ h' l',Ext h h'->ak h' A (.row (bj l') 28 false)->l'.Perm l->eI l l'->gC l' 0 l.length->K undef h'):Ok prog aJ ov 86 [.slice (some ⟨A,0,none⟩) l.length c,.int .i64 l.length,.func (.func 53) ⟨[]⟩ ⟨[]⟩] hs K:=by
 rw [az hs]
 refine Ok.aF 60 (bY PE) ?_
 simp only [aa,seval,od]
 obtain ⟨I1,bo⟩:∃ I:Nat->Env->Heap->Prop,I=(λn e h'=>∃ (a:Nat) (l1:aN) (h1:Heap),h'=h1.lay [] h1.low/\Ext h h1/\(n=l.length - a/\a % 20=0/\a<=l.length/\l1.Perm l/\eI l l1/\Bl l1 20 l.length a/\ak h1 A (.row (bj l1) 28 false))/\∃ J:Nat->ai,e=(.slice (some ⟨A,0,none⟩) l.length c::.int .i64 l.length::.func (.func 53) ⟨[]⟩ ⟨[]⟩::jr J 3 3 (.int .i64 20::.int .i64 a::.int .i64 (a+20:Nat)::jr J 9 54 ([])))):=⟨_,rfl⟩
 refine fh I1 _ (by rw [bo];exact ⟨0,l,_,rfl,z,⟨rfl,by omega,by omega,List.Perm.refl _,eI.refl _,λk _ hk=>absurd hk (by omega),q⟩,bO⟩) ?_
 intro n e h' aU
 rw [bo] at aU
 obtain ⟨a,l1,cF,rfl,z,hinv,J,rfl⟩:=aU
 clear q
 obtain ⟨rfl,Iq,Y6,hp,cV,rX,q⟩:=hinv
 have ma:=hp.length_eq
 have qY:=BO bc hp
 simp only [aa,seval,od]
 refine cm (λhle=>?_) (λhle=>?_)
 .have ub:IntKind.i64.wrap (((a+20:Nat):Int)+20)=((a+20+20:Nat):Int):=by rw [fQ (by omega) (by omega)];omega
  repeat' (simp only [aa,seval,od])
  have key:=λK hk=>zh9 l1 A c a (a+20) h (cF.lay [] cF.low) z.aw hA (q.on _ _) (by omega) (by omega) (by omega) qY K hk
  simp only [ma] at key
  refine key _ (λh' l' x q' kV tp fT Nq=>?_)
  replace z:=x
  rw [az h']
  repeat' (simp only [aa,seval,od,ub])
  (rw [bo];with_reducible refine dA (m:=_) ?_ ⟨a+20,l',_,rfl,z,⟨rfl,by omega,by omega,kV.trans hp,cV.trans tp,WY rX Iq (by rw [show min (a+20) l.length=a+20 by omega];exact fT) (by rw [show min (a+20) l.length=a+20 by omega];exact Nq) _ (by omega),q'⟩,bO⟩;omega)
 repeat' (simp only [aa,seval,od])
 have key:=λK hk=>zh9 l1 A c a l.length h (cF.lay [] cF.low) z.aw hA (q.on _ _) (by omega) (by omega) (by omega) qY K hk
 simp only [ma] at key
 refine key _ (λh' l' x q' kV tp fT Nq=>?_)
 replace z:=x
 replace hp:=kV.trans hp
 replace cV:=cV.trans tp
 replace rX:Bl l' 20 l.length l.length:=WY rX Iq (by rw [show min (a+20) l.length=l.length by omega];exact fT) (by rw [show min (a+20) l.length=l.length by omega];exact Nq) _ (by omega)
 clear key fT Nq kV tp ma qY q
 rw [az h']
 repeat' (simp only [aa,seval,od])
 obtain ⟨I2,gN⟩:∃ I:Nat->Env->Heap->Prop,I=(λn e h'=>∃ (w:Nat) (l1:aN) (h1:Heap),h'=h1.lay [] h1.low/\Ext h h1/\(n=l.length - w/\20<=w/\w<=200000/\l1.Perm l/\eI l l1/\Bl l1 w l.length l.length/\ak h1 A (.row (bj l1) 28 false))/\∃ J:Nat->ai,e=(.slice (some ⟨A,0,none⟩) l.length c::.int .i64 l.length::.func (.func 53) ⟨[]⟩ ⟨[]⟩::jr J 3 3 (.int .i64 w::jr J 7 56 ([])))):=⟨_,rfl⟩
 refine fh I2 _ (by rw [gN];exact ⟨20,l',_,rfl,z,⟨rfl,by omega,by omega,hp,cV,rX,q'⟩,bO⟩) ?_
 intro n e h' aU
 rw [gN] at aU
 obtain ⟨w,l1,da,rfl,z,hinv,J,rfl⟩:=aU
 clear q' rX hp cV
 obtain ⟨rfl,aiO,aiP,hp,cV,rX,q⟩:=hinv
 simp only [aa,seval,od]
 refine cm (λfM=>?_) (λfM=>?_)
 rotate_left
 .repeat' ( simp only [aa,seval,od])
  exact hk _ _ z.aw (q.on _ _) hp cV (zA8 rX (by omega))
 have ff:IntKind.i64.wrap ((2:Int)*(w:Int))=((2*w:Nat):Int):=by rw [fQ (by omega) (by omega)];omega
 repeat' (simp only [aa,seval,od,ff,OZ])
 obtain ⟨I3,tV⟩:∃ I:Nat->Env->Heap->Prop,I=(λn e h'=>∃ (a b:Nat) (l2:aN) (h1:Heap),h'=h1.lay [] h1.low/\Ext h h1/\(n=l.length - a/\b=a+2*w/\a % (2*w)=0/\a<=l.length/\l2.Perm l/\eI l l2/\Cp l2 w l.length a/\ak h1 A (.row (bj l2) 28 false))/\∃ J:Nat->ai,e=(.slice (some ⟨A,0,none⟩) l.length c::.int .i64 l.length::.func (.func 53) ⟨[]⟩ ⟨[]⟩::jr J 3 3 (.int .i64 w::.int .i64 a::.int .i64 b::jr J 9 54 ([])))):=⟨_,rfl⟩
 refine fh I3 _ (by rw [tV];exact ⟨0,2*w,l1,_,rfl,z,⟨rfl,by omega,Nat.zero_mod _,by omega,hp,cV,zvo rX,q⟩,bO⟩) ?_
 intro n e h' aU
 rw [tV] at aU
 obtain ⟨a,b,l2,uY,rfl,z,hinv,J,rfl⟩:=aU
 clear q rX hp cV
 obtain ⟨rfl,hb,nt,Y6,hp,cV,vu,q⟩:=hinv
 have oD:=hp.length_eq
 have yZ:=BO bc hp
 have Y7:IntKind.i64.wrap ((a:Int)+(w:Int))=((a+w:Nat):Int):=by rw [fQ (by omega) (by omega)];omega
 simp only [aa,seval,od]
 refine cm (λhle=>?_) (λhle=>?_)
 .have hbw:IntKind.i64.wrap ((b:Int)+((2*w:Nat):Int))=((b+2*w:Nat):Int):=by rw [fQ (by omega) (by omega)];omega
  have tl:=zod vu (by omega) nt (by omega)
  rw [show min (a+2*w) l.length=b by omega] at tl
  repeat' (simp only [aa,seval,od,Y7])
  have key:=λK hk=>U7 l.length l2 A c a (a+w) b h (uY.lay [] uY.low) z.aw hA (q.on _ _) (by omega) (by omega) (by omega) (by omega) (by omega) yZ tl.1 tl.2 K hk
  simp only [oD] at key
  refine key _ (λh' l' x q' vN fT=>?_)
  replace z:=x
  rw [az h']
  repeat' (simp only [aa,seval,od,ff,OZ,hbw])
  have pL:=zrH (l':=l') vu (by omega) nt (by rw [show min (a+2*w) l.length=b by omega];exact fT) (by rw [show min (a+2*w) l.length=b by omega];exact vN)
  rw [show min (a+2*w) l.length=b by omega] at pL
  (rw [tV];with_reducible refine dA (m:=_) ?_ ⟨b,b+2*w,l',_,rfl,z,⟨rfl,by omega,by rw [hb,Nat.add_mod_right];exact nt,by omega,vN.perm.trans hp,cV.trans vN.wQ,pL,q'⟩,bO⟩;omega)
 have pe:IntKind.i64.wrap ((w:Int)*(2:Int))=((2*w:Nat):Int):=by rw [fQ (by omega) (by omega)];omega
 repeat' (first|simp only [aa,seval,od,Y7]|((with_reducible apply cm) <;> intro _))
 .have tl:=zod vu (by omega) nt (by omega)
  rw [show min (a+2*w) l.length=l.length by omega] at tl
  have key:=λK hk=>U7 l.length l2 A c a (a+w) l.length h (uY.lay [] uY.low) z.aw hA (q.on _ _) (by omega) (by omega) (by omega) (by omega) (by omega) yZ tl.1 tl.2 K hk
  simp only [oD] at key
  refine key _ (λh' l' x q' vN fT=>?_)
  replace z:=x
  rw [az h']
  repeat' (simp only [aa,seval,od,pe,OZ])
  have pL:=zrH (l':=l') vu (by omega) nt (by rw [show min (a+2*w) l.length=l.length by omega];exact fT) (by rw [show min (a+2*w) l.length=l.length by omega];exact vN)
  rw [show min (a+2*w) l.length=l.length by omega] at pL
  (rw [gN];with_reducible refine dA (m:=_) ?_ ⟨2*w,l',_,rfl,z,⟨rfl,by omega,by omega,vN.perm.trans hp,cV.trans vN.wQ,zz3 pL (by omega),q'⟩,bO⟩;omega)
 .repeat' ( simp only [aa,seval,od,pe,OZ])
  (rw [gN];with_reducible refine dA (m:=_) ?_ ⟨2*w,l2,_,rfl,z,⟨rfl,by omega,by omega,hp,cV,zz4 vu (by omega) nt (by omega),q⟩,bO⟩;omega)
theorem zmN (l:aN) (A c:Nat) (h hs:Heap) (z:Ext h hs) (hA:h.size<=A) (q:ak hs A (.row (bj l) 28 false)) (hn:l.length<=100000) (bc:∀ x∈l,x.bQ=true) (K:aO)
 (hk:∀ h' l',Ext h h'->ak h' A (.row (bj l') 28 false)->l'.Perm l->eI l l'->gC l' 0 l.length->K undef h'):Ok prog aJ ov 52 [.slice (some ⟨A,0,none⟩) l.length c,.func (.func 53) ⟨[]⟩ ⟨[]⟩] hs K:=by
 rw [az hs]
 refine Ok.aF 7 (bY PC) ?_
 repeat' (simp only [aa,seval,MJ])
 refine zwo l A c h (hs.lay [] hs.low) z.aw hA (q.on _ _) hn bc _ (λh' l' x q' kV tp fT=>?_)
 rw [az h']
 repeat' (simp only [aa,seval,MJ])
 exact hk _ _ x.aw (q'.on _ _) kV tp fT
theorem zya {h:Heap} {v:ai} {l:aN} (f:Sl aG.atom h v l):∃ b:Bool,cE prog aJ .eql 23 v (.slice none 0 0)=some (.bool b)/\(b=true->l=[]):=by
 rcases f with ⟨rfl,rfl⟩|⟨A,o,c,row,u,ro,rfl,_⟩
 .exact ⟨true,by kernel_rfl,λ_=>rfl⟩
 .exact ⟨false,by kernel_rfl,nofun⟩
theorem zwe (l:aN) (v:ai) (h:Heap) (hl:Sl aG.atom h v l) (hs:l.length<=100000) (K:aO)
 (hk:∀ h' w,Ext h h'->ym h h' 28 w l->K w h'):Ok prog aJ ov 51 [v] h K:=by
 rw [az h]
 obtain ⟨b,hb,qZ⟩:=zya hl
 refine Ok.aF 7 (bY PB) ?_
 simp only [aa,seval,AB,hb]
 cases b
 .simp only [aa,seval,AB,lF,zBL]
  obtain ⟨news,hs,mX⟩:=zZ (A:=h.size+1) (r:=aG.atom) (by decide) (hl.lay [.row [] 28 false] h.low) (λcs y hr=>hr)
  have f:Ow aG.atom h (h.lay [.row [] 28 false] h.low) 28 (h.size+1) (.slice (some ⟨h.size+0,0,none⟩) 0 0) [] :=
   .inl ⟨by omega,rfl,.inr ⟨h.size+0,0,rfl,by omega,by rw [br];simp,[],28,false,by rw [kE];rfl⟩⟩
  obtain ⟨w,h',A',e1,e2,e3,e4,e5⟩:=xc (t:=23) cM zS rfl (by decide) (by rw [br];omega) f hs mX (by simp only [dK];omega) (by simp only [dK];omega)
  rw [e1]
  simp only [aa,seval,AB]
  exact hk _ _ ((Ext.refl h).cp e3 (by omega) (by omega)) (zwy (by simpa using e2))
 .simp only [aa,seval,AB]
  rw [qZ rfl] at hk
  exact hk _ _ ((Ext.refl h).jK _ _ (by omega)) (.inl ⟨rfl,qI.nil⟩)
theorem zwm (a b:ae) (ha:a.bQ=true) (hb:b.bQ=true) (h:Heap) (K:aO) (hk:∀ h',Ext h h'->K (.bool (bg a b == 0)) h'):Ok prog aJ ov 55 [a.val,b.val] h K:=by
 rw [az h]
 have z:=Ext.refl h
 refine Ok.aF 7 (bY X0) ?_
 repeat' (simp only [aa,seval,MK,js,↓fU,eG,dS])
 refine Mh a b ha hb _ _ (λh' x=>?_)
 (replace z:=z.au x;rw [az h'])
 simp only [aa,seval,MK]
 refine oQ (λhc=>?_) (λhc=>?_)
 .repeat' ( simp only [aa,seval,MK])
  rw [show (bg a b == 0)=true by rw [hc];rfl] at hk
  exact hk _ z.aw
 .repeat' ( simp only [aa,seval,MK])
  rw [show (bg a b == 0)=false by simpa using hc] at hk
  exact hk _ z.aw
theorem ztP (l:aN) (A:Nat) (h hs:Heap) (z:Ext h hs) (hA:h.size<=A) (q:ak hs A (.row (bj l) 28 false)) (hn:l.length<=100000) (bc:∀ x∈l,x.bQ=true) (K:aO)
 (hk:∀ h' v,Ext h h'->i9 h h' 28 v (nS l l.length)->K v h'):Ok prog aJ ov 54 [.slice (some ⟨A,0,none⟩) l.length (G*11+l.length),.func (.func 55) ⟨[]⟩ ⟨[]⟩] hs K:=by
 rw [az hs]
 obtain ⟨C,hC⟩:∃ C,C=G*11+l.length:=⟨_,rfl⟩
 rw [<- hC]
 refine Ok.aF 64 (bY PD) ?_
 repeat' (first|simp only [aa,seval,mC]|((with_reducible apply cm) <;> intro _))
 .have e:=zre (l:=l) (by omega)
  rw [e] at hk
  exact hk _ _ z.aw (zsi (q.on _ _) hA (by omega) hC)
 have hu1:nS l 1=l.take 1:=by
  rw [Wo (m:=0) (by omega)]
  rfl
 obtain ⟨I1,bo⟩:∃ I:Nat->Env->Heap->Prop,I=(λn e h'=>∃ (k:Nat) (h1:Heap),h'=h1.lay [] h1.low/\Ext h h1/\(n=l.length - k/\1<=k/\k<=l.length/\nS l k=l.take k/\ak h1 A (.row (bj l) 28 false))/\∃ J:Nat->ai,e=(.slice (some ⟨A,0,none⟩) l.length C::.func (.func 55) ⟨[]⟩ ⟨[]⟩::jr J 2 3 (.int .i64 k::jr J 6 60 ([])))):=⟨_,rfl⟩
 refine fh I1 _ (by rw [bo];exact ⟨1,_,rfl,z,⟨rfl,by omega,by omega,hu1,q⟩,bO⟩) ?_
 intro n e h' aU
 rw [bo] at aU
 obtain ⟨k,cF,rfl,z,hinv,J,rfl⟩:=aU
 clear q
 obtain ⟨rfl,SY,I6,hu,q⟩:=hinv
 have zl:=gE k (by omega)
 have T7:IntKind.i64.wrap ((k:Int) - 1)=((k - 1:Nat):Int):=by rw [fQ (by omega) (by omega)];omega
 simp only [aa,seval,mC]
 refine cm (λqY=>?_) (λqY=>?_)
 rotate_left
 .repeat' ( simp only [aa,seval,mC])
  have jI:k=l.length:=by omega
  subst jI
  rw [hu,Mf] at hk
  exact hk _ _ z.aw (zsi (q.on _ _) hA (by omega) hC)
 have aU:(0:Int)<=(k:Int)/\(k:Int) < (l.length:Int):=by omega
 have fL:(0:Int)<=((k - 1:Nat):Int)/\((k - 1:Nat):Int) < (l.length:Int):=by omega
 have jJ:=λ(bs:List aZ) (w:Nat)=>nf (bs:=bs) (w:=w) q (lg (l:=l) (i:=k) (by omega))
 have eV:=λ(bs:List aZ) (w:Nat)=>nf (bs:=bs) (w:=w) q (lg (l:=l) (i:=k - 1) (by omega))
 simp only [aa,seval,mC]
 refine (eF (by simp only [mC])) z.aw ?_
 repeat' (simp only [aa,seval,mC,T7,aU,fL,↓jJ,↓eV,dS])
 refine zwm _ _ (um bc (by omega)) (um bc (by omega)) _ _ (λh' x=>?_)
 (((with_reducible refine fP ?_ ?_ ?_);(· exact (by (simp only [gh]);have:=z.size;omega));(· exact x));replace z:=z.au x;replace q:=q.over x;rw [az h'])
 cases hc:(bg (l.getD k ah) (l.getD (k - 1) ah) == 0)
 .repeat' (first|simp only [aa,seval,mC]|((with_reducible refine ⟨z.cS.lay _ _,?_⟩);(intro _ h' zz x _);( simp only [bS,bD] at x );( replace q:=q.over x );(replace z:=zz);(clear zz);rw [az h']))
  rw [zl]
  (rw [bo];with_reducible refine dA (m:=_) ?_ ⟨k+1,_,rfl,z,⟨rfl,by omega,by omega,zuz (by omega) (by omega) hu (by simpa using hc),q⟩,bO⟩;omega)
 have hc:bg (l.getD k ah) (l.getD (k - 1) ah)=0:=by simpa using hc
 repeat' (first|simp only [aa,seval,mC]|((with_reducible refine ⟨z.cS.lay _ _,?_⟩);(intro _ h' zz x _);(simp only [bS,bD] at x);replace q:=q.over x;(replace z:=zz);(clear zz);rw [az h']))
 rw [hC,zo2 cM cw (by omega) (aQ _) (by omega),<- hC]
 repeat' (simp only [aa,seval,mC])
 obtain ⟨C2,YS⟩:∃ C2,C2=G*11+(l.length - k):=⟨_,rfl⟩
 rw [<- YS]
 obtain ⟨I2,gN⟩:∃ I:Nat->Env->Heap->Prop,I=(λn e h'=>∃ (b i:Nat) (cur:aN) (h1:Heap),h'=h1.lay [] h1.low/\Ext h h1/\(n=l.length - (k+b)/\1<=b/\k+b<=l.length/\cur.length=l.length/\i+1<=k+b/\cur.take i=nS l (k+b)/\(∀ p,k+b<=p+1->cur.getD p ah=l.getD p ah)/\ak h1 A (.row (bj cur) 28 false))/\∃ J:Nat->ai,e=(.slice (some ⟨A,0,none⟩) l.length C::.func (.func 55) ⟨[]⟩ ⟨[]⟩::jr J 2 3 (.int .i64 i::.slice (some ⟨A,k*11,none⟩) (l.length - k) C2::.int .i64 b::jr J 8 58 ([])))):=⟨_,rfl⟩
 refine fh I2 _ (by rw [gN];exact ⟨1,k,l,_,rfl,z,⟨rfl,by omega,by omega,rfl,by omega,by rw [zsA (by omega) hc];exact hu.symm,λ_ _=>rfl,q⟩,bO⟩) ?_
 intro n e h' aU
 rw [gN] at aU
 obtain ⟨b,i,cur,da,rfl,z,hinv,J,rfl⟩:=aU
 clear q
 obtain ⟨rfl,oo,M3,jd,vG,M6,FH,q⟩:=hinv
 have ud:=gE b (by omega)
 have T3:IntKind.i64.wrap ((b:Int) - 1)=((b - 1:Nat):Int):=by rw [fQ (by omega) (by omega)];omega
 have mF:=gE i (by omega)
 simp only [aa,seval,mC]
 refine cm (λfM=>?_) (λfM=>?_)
 rotate_left
 .have Nj:k+b=l.length:=by omega
  have fm:i<=l.length:=by omega
  simp only [aa,seval,mC]
  rw [hC,zo2 cM cw fm (aQ _) (by omega),<- hC]
  obtain ⟨C3,hC3⟩:∃ C3,C3=G*11+(l.length - i):=⟨_,rfl⟩
  rw [<- hC3]
  simp only [aa,seval,mC,zAS]
  refine zti q cM zS (by omega) (by omega) (λh3 q3 c3=>?_)
  replace z:=z.cp c3 hA (by omega)
  rw [az h3]
  clear q
  simp only [aa,seval,mC]
  rw [hC,zAE cM cw fm (aQ _) (by omega),<- hC]
  repeat' (simp only [aa,seval,mC])
  rw [M6,Nj] at q3
  have hlen:i=(nS l l.length).length:=by rw [<- Nj,<- M6,gR];omega
  have I8:(nS l l.length++List.replicate (cur.length - i) ah).length=l.length:=by rw [cT,List.length_replicate];omega
  exact hk _ _ z.aw (zsh (q3.on _ _) hA (by omega) hlen (by rw [I8];exact hC))
 have aU:(0:Int)<=(b:Int)/\(b:Int) < ((l.length - k:Nat):Int):=by omega
 have fL:(0:Int)<=((b - 1:Nat):Int)/\((b - 1:Nat):Int) < ((l.length - k:Nat):Int):=by omega
 have jJ:=λ(bs:List aZ) (w:Nat)=>nf (bs:=bs) (w:=w) q (lg (l:=cur) (i:=k+b) (by omega))
 have eV:=λ(bs:List aZ) (w:Nat)=>nf (bs:=bs) (w:=w) q (lg (l:=cur) (i:=k+(b - 1)) (by omega))
 rw [qH] at jJ eV
 rw [FH _ (by omega)] at jJ eV
 simp only [aa,seval,mC]
 refine (eF (by simp only [mC])) z.aw ?_
 repeat' (simp only [aa,seval,mC,T3,aU,fL,↓jJ,↓eV,dS])
 refine zwm _ _ (um bc (by omega)) (um bc (by omega)) _ _ (λh' x=>?_)
 (((with_reducible refine fP ?_ ?_ ?_);(· exact (by (simp only [gh]);have:=z.size;omega));(· exact x));replace z:=z.au x;replace q:=q.over x;rw [az h'])
 cases mU:(bg (l.getD (k+b) ah) (l.getD (k+(b - 1)) ah) == 0)
 rotate_left
 .have mU:bg (l.getD (k+b) ah) (l.getD (k+b - 1) ah)=0:=by rw [show k+b - 1=k+(b - 1) by omega];simpa using mU
  repeat' (first|simp only [aa,seval,mC]|((with_reducible apply cK);(· rfl))|((with_reducible refine ⟨z.cS.lay _ _,?_⟩);(intro _ h' zz x _);(simp only [bS,bD] at x);replace q:=q.over x;(replace z:=zz);(clear zz);rw [az h']))
  rw [ud]
  (rw [gN];with_reducible refine dA (m:=_) ?_ ⟨b+1,i,cur,_,rfl,z,⟨rfl,by omega,by omega,jd,by omega,by rw [M6,show k+(b+1)=k+b+1 by omega,zsA (by omega) mU],λp hp=>FH p (by omega),q⟩,bO⟩;omega)
 have mU:bg (l.getD (k+b) ah) (l.getD (k+b - 1) ah)≠0:=by rw [show k+b - 1=k+(b - 1) by omega];simpa using mU
 repeat' (first|simp only [aa,seval,mC]|((with_reducible apply cK);(· rfl))|((with_reducible refine ⟨z.cS.lay _ _,?_⟩);(intro _ h' zz x _);(simp only [bS,bD] at x);replace q:=q.over x;(replace z:=zz);(clear zz);rw [az h']))
 have jJ:=λ(bs:List aZ) (w:Nat)=>nf (bs:=bs) (w:=w) q (lg (l:=cur) (i:=k+b) (by omega))
 rw [qH] at jJ
 rw [FH _ (by omega)] at jJ
 have SW:(0:Int)<=(i:Int)/\(i:Int) < (l.length:Int):=by omega
 repeat' (simp only [aa,seval,mC,aU,SW,↓jJ,dS])
 have hz:=z.size
 refine zR q cw (by omega) (λh3 q3 c3=>?_)
 replace z:=z.cp c3 hA (by omega)
 rw [az h3]
 clear q jJ
 repeat' (simp only [aa,seval,mC])
 rw [mF,ud]
 have Sx:∀ p,k+(b+1)<=p+1->(cur.set i (l.getD (k+b) ah)).getD p ah=l.getD p ah:=by
  intro p hp
  have aL:i≠p:=by omega
  rw [zlX aL]
  exact FH p (by omega)
 (rw [gN];with_reducible refine dA (m:=_) ?_ ⟨b+1,i+1,cur.set i (l.getD (k+b) ah),_,rfl,z,⟨rfl,by omega,by omega,by rw [iS];exact jd,by omega,by rw [zyL (by omega),M6,show k+(b+1)=k+b+1 by omega,zxa mU],Sx,q3⟩,bO⟩;omega)
theorem ztX (v:ai) (h:Heap) (hl:Sl aG.atom h v []) (K:aO) (hk:∀ h',Ext h h'->K undef h'):Ok prog aJ ov 52 [v,.func (.func 53) ⟨[]⟩ ⟨[]⟩] h K:=by
 rw [az h]
 have z:=Ext.refl h
 have FO:=λ(hh:Heap)=>hl.bW cM hh
 simp only [dK] at FO
 have zd:((0:Nat):Int)=0:=rfl
 refine Ok.aF 7 (bY PC) ?_
 repeat' (simp only [aa,seval,MJ,FO,zd])
 refine Ok.aF 60 (bY PE) ?_
 simp only [aa,seval,od]
 refine OB ?_
 simp only [aa,seval,od]
 refine Ok.aF 49 (bY Cs) ?_
 simp only [aa,seval,gM]
 refine OB ?_
 simp only [aa,seval,od,gM]
 refine OB ?_
 simp only [aa,seval,od,MJ]
 exact hk _ z.aw
theorem zmI (v:ai) (h:Heap) (hl:Sl aG.atom h v []) (f:ai) (K:aO) (hk:∀ h',Ext h h'->K v h'):Ok prog aJ ov 54 [v,f] h K:=by
 rw [az h]
 have z:=Ext.refl h
 have FO:=λ(hh:Heap)=>hl.bW cM hh
 simp only [dK] at FO
 have zd:((0:Nat):Int)=0:=rfl
 refine Ok.aF 64 (bY PD) ?_
 simp only [aa,seval,mC,FO,zd]
 exact hk _ z.aw
theorem zoW (l:aN) (v:ai) (h:Heap) (hl:Sl aG.atom h v l) (hn:l.length<=100000) (bc:∀ x∈l,x.bQ=true) (K:aO)
 (hk:∀ h' w,Ext h h'->i9 h h' 28 w (dY l)->K w h'):Ok prog aJ ov 27 [v] h K:=by
 rw [az h]
 have z:=Ext.refl h
 refine Ok.aF 9 (bY XK) ?_
 repeat' (simp only [aa,seval,CC])
 refine zwe l v _ (hl.lay _ _) (by omega) _ (λh' w x ho=>?_)
 rcases ho with ⟨rfl,ho⟩|⟨A,rfl,q,hA,aL⟩
 .have dg:∀ (h:Heap) (K:aO),aM (some w) h K=K w h:=λ_ _=>rfl
  (replace z:=z.au x;rw [az h'])
  repeat' (simp only [aa,seval,CC])
  refine ztX w _ (ho.lay _ _).sl _ (λh' x=>?_)
  replace ho:=ho.over x
  (replace z:=z.au x;rw [az h'])
  repeat' (simp only [aa,seval,CC])
  refine zmI w _ (ho.lay _ _).sl _ _ (λh' x=>?_)
  replace ho:=ho.over x
  (replace z:=z.au x;rw [az h'])
  repeat' (simp only [aa,seval,CC])
  exact hk _ _ z.aw (.inl ⟨rfl,ho.lay _ _⟩)
 ·(replace z:=z.au x;rw [az h'])
  repeat' (simp only [aa,seval,CC])
  refine zmN l A (G*11+l.length) h _ z.aw hA (q.on _ _) hn bc _ (λh' l' x q' hp cV TJ=>?_)
  replace z:=x
  rw [az h']
  repeat' (simp only [aa,seval,CC])
  have key:=λK hk=>ztP l' A h (h'.lay [] h'.low) z.aw hA (q'.on _ _) (by rw [hp.length_eq];omega) (BO bc hp) K hk
  rw [zuA hp cV TJ,hp.length_eq] at key
  refine key _ (λh' w x ho=>?_)
  replace z:=x
  have dg:∀ (h:Heap) (K:aO),aM (some w) h K=K w h:=λ_ _=>rfl
  rw [az h']
  repeat' (simp only [aa,seval,CC])
  exact hk _ _ z.aw (ho.lay _ _)
end Go.Proofs.YtnkmeidmdaidhaaGreatDoor
