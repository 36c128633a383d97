/- Walks: the place of an atom; is it there? Written out by fill2.py. No condition. -/
import Derived.Test.YtkgojconmeeegaaGreatDoorG35
import Derived.Test.YtkgojconmeeegaaGreatDoorG34
set_option linter.unusedSimpArgs false
set_option linter.unusedVariables false
set_option maxRecDepth 100000
set_option maxHeartbeats 0
noncomputable section
namespace Go.Proofs.YtkgojconmeeegaaGreatDoor
open Go.Am Tryz
theorem zpx (l:aW) (a:ak) (v:ae) (h:Heap) (hl:Sl aJ.atom h v l) (hs:eh l) (hn:l.length<=1000) (aP:∀ x∈l,x.aV=true) (ha:a.aV=true) (K:aG)
 (hk:∀ h' i,Ext h h'->fm l a i->K (.tuple #[.int .i64 (i:Nat),.bool (bH l a)]) h'):Ok prog aA ov 117 [v,a.val,.func (.func 108) ⟨[]⟩ ⟨[]⟩] h K:=by
 rw [ao h]
 have z:=Ext.refl h
 have jv:=λ(hh:Heap)=>hl.bt bC hh
 refine Ok.aq 46 (bm KB) ?_
 simp only [aa,seval,gO,jv,fA]
 refine lg (λh' x hq=>?_)
 have q0:=hq 0 _ rfl
 clear hq
 (replace z:=z.aj x;rw [ao h'])
 obtain ⟨I1,aO⟩:∃ I:Nat->Env->Heap->Prop,I=(λn e h'=>∃ (i j:Nat) (h1:Heap),h'=h1.lay [] h1.low/\Ext h h1/\(n=j - i/\i<=j/\j<=l.length/\(∀ k,k < i->aT (l.getD k ab) a < 0)/\(∀ k,j<=k->k < l.length->¬ aT (l.getD k ab) a < 0)/\Holds h1 (h.size+0) (.row a.cells 34 false))/\∃ J:Nat->ae,e=(v::J 1::.func (.func 108) ⟨[]⟩ ⟨[]⟩::J 3::.pointer (some ⟨h.size+0,0,none⟩)::jr J 5 3 (.int .i64 l.length::.int .i64 i::.int .i64 j::jr J 11 38 ([])))):=⟨_,rfl⟩
 refine cK I1 _ (by rw [aO];exact ⟨0,l.length,_,rfl,z,⟨rfl,by omega,by omega,λk g=>by omega,λk g1 g2=>by omega,q0⟩,bc⟩) ?_
 intro n e h' aK
 rw [aO] at aK
 obtain ⟨i,j,bD,rfl,z,hinv,J,rfl⟩:=aK
 clear q0
 obtain ⟨rfl,dF,BO,cM,j5,q0⟩:=hinv
 simp only [aa,seval,gO]
 refine bg (λgq=>?_) (λgq=>?_)
 rotate_left
 .have e:i=j:=by omega
  subst e
  have kT:fm l a i:=⟨BO,cM,j5⟩
  have ym:=kT.has hs
  simp only [aa,seval,gO]
  refine (cZ (by simp only [gO])) z.au ?_
  simp only [aa,seval,gO]
  refine bg (λaK=>?_) (λaK=>?_)
  rotate_left
  .have e:bH l a=false:=by
    cases e:bH l a
    .rfl
    .exact absurd (ym.1 e).1 (by omega)
   rw [e] at hk
   repeat' (first|simp only [aa,seval,gO]|((with_reducible refine ⟨z.bZ.lay _ _,?_⟩);(intro _ h' zz x _);(simp only [bG,bu] at x);replace q0:=q0.over x;(replace z:=zz);(clear zz);rw [ao h']))
   exact hk _ _ z.au kT
  have hr:l[(i:Int).toNat]? = some (l.getD i ab):=jf (by omega)
  simp only [aa,seval,gO]
  repeat' ((first|with_reducible refine mM (hl.mono z.inc) bC bE (by omega) hr (λp hp=>?_)|with_reducible refine ly hp eK bE ?_) <;> simp only [aa,seval,gO,q0.lay,↓dW,dO,da])
  refine EK _ _ (qH aP (by omega)) ha _ _ (λh' x=>?_)
  (((with_reducible refine di ?_ ?_ ?_);(· exact (by (simp only [dp]);have:=z.size;omega));(· exact x));replace z:=z.aj x;replace q0:=q0.over x;rw [ao h'])
  simp only [aa,seval,gO]
  refine lz (λhc=>?_) (λhc=>?_)
  .rw [ym.2 ⟨by omega,hc⟩] at hk
   repeat' (first|simp only [aa,seval,gO]|((with_reducible refine ⟨z.bZ.lay _ _,?_⟩);(intro _ h' zz x _);(simp only [bG,bu] at x);replace q0:=q0.over x;(replace z:=zz);(clear zz);rw [ao h']))
   exact hk _ _ z.au kT
  .have e:bH l a=false:=by
    cases e:bH l a
    .rfl
    .exact absurd (ym.1 e).2 hc
   rw [e] at hk
   repeat' (first|simp only [aa,seval,gO]|((with_reducible refine ⟨z.bZ.lay _ _,?_⟩);(intro _ h' zz x _);(simp only [bG,bu] at x);replace q0:=q0.over x;(replace z:=zz);(clear zz);rw [ao h']))
   exact hk _ _ z.au kT
 obtain ⟨e1,e2,e3,e4⟩:=Rv i j (by omega)
 repeat' (simp only [aa,seval,gO,e1])
 rw [xd rfl rfl rfl (JF _) rfl,e2]
 simp only [aa,seval,gO]
 rw [JK (by decide),e4]
 simp only [aa,seval,gO]
 rw [xd rfl rfl rfl (JG _) rfl,e3]
 repeat' (simp only [aa,seval,gO])
 have vA:i<=(i+j) / 2/\(i+j) / 2 < j:=by omega
 have yU:IntKind.i64.wrap ((((i+j) / 2:Nat):Int)+1)=(((i+j) / 2+1:Nat):Int):=by rw [wrap_i64 (by omega) (by omega)];omega
 generalize (i+j) / 2=y at vA yU ⊢
 have hr:l[(y:Int).toNat]? = some (l.getD y ab):=jf (by omega)
 refine (cZ (by simp only [gO])) z.au ?_
 simp only [aa,seval,gO]
 repeat' ((first|with_reducible refine mM (hl.mono z.inc) bC bE (by omega) hr (λp hp=>?_)|with_reducible refine ly hp eK bE ?_) <;> simp only [aa,seval,gO,q0.lay,↓dW,dO,da])
 refine EK _ _ (qH aP (by omega)) ha _ _ (λh' x=>?_)
 (((with_reducible refine di ?_ ?_ ?_);(· exact (by (simp only [dp]);have:=z.size;omega));(· exact x));replace z:=z.aj x;replace q0:=q0.over x;rw [ao h'])
 simp only [aa,seval,gO]
 refine bg (λhc=>?_) (λhc=>?_)
 .repeat' (first|simp only [aa,seval,gO]|((with_reducible refine ⟨z.bZ.lay _ _,?_⟩);(intro _ h' zz x _);( simp only [bG,bu] at x );( replace q0:=q0.over x );(replace z:=zz);(clear zz);rw [ao h']))
  rw [yU]
  (rw [aO];(with_reducible refine bS (m:=_) ?_ ⟨y+1,j,_,rfl,z,⟨rfl,by omega,by omega,λk g=>by
   rcases mq k y with e|e
   .exact CC (Sn (fQ.1 hs) e (by omega)) hc
   .have e:k=y:=by omega
    subst e
    exact hc,j5,q0⟩,bc⟩);omega)
 .have YF:∀ k,y<=k->k < l.length->¬ aT (l.getD k ab) a < 0:=by
   intro k g1 g2
   rcases Nat.eq_or_lt_of_le g1 with e|e
   .subst e
    exact hc
   .intro g
    exact hc (CC (Sn (fQ.1 hs) e g2) g)
  repeat' (first|simp only [aa,seval,gO]|((with_reducible refine ⟨z.bZ.lay _ _,?_⟩);(intro _ h' zz x _);(simp only [bG,bu] at x);replace q0:=q0.over x;(replace z:=zz);(clear zz);rw [ao h']))
  (rw [aO];with_reducible refine bS (m:=_) ?_ ⟨i,y,_,rfl,z,⟨rfl,by omega,by omega,cM,YF,q0⟩,bc⟩;omega)
theorem ztn (l:aW) (a:ak) (v:ae) (h:Heap) (hl:Sl aJ.atom h v l) (hs:eh l) (hn:l.length<=1000) (aP:∀ x∈l,x.aV=true) (ha:a.aV=true) (K:aG)
 (hk:∀ h' i,Ext h h'->fm l a i->K (.tuple #[.int .i64 (i:Nat),.bool (bH l a)]) h'):Ok prog aA ov 70 [v,a.val] h K:=by
 rw [ao h]
 have z:=Ext.refl h
 refine Ok.aq 9 (bm N70) ?_
 repeat' (simp only [aa,seval,c70,fA,↓dW,dO,da])
 refine zpx l a v _ (hl.lay _ _) hs hn aP ha _ (λh' i x hp=>?_)
 (replace z:=z.aj x;rw [ao h'])
 generalize bH l a=b at hk ⊢
 cases b
 all_goals
  repeat' (simp only [aa,seval,c70])
  exact hk _ _ z.au hp
end Go.Proofs.YtkgojconmeeegaaGreatDoor

namespace Go.Proofs.YtkgojconmeeegaaGreatDoor
open Go.Am Tryz
variable {A n:Nat} {u:TypeId} {s:aW} {v:ae} {h h0:Heap}
def N40:=bp f40
def x40:=PLift.up (by have c:=bq N40 f40;simp only [aI,f40,seval] at c;exact nd c <| nd @td <| nd @bP <| @WI)
theorem Ir:type_of% x40.down:=x40.down
def N42:=bp f42
def x42:=PLift.up (by have c:=bq N42 f42;simp only [aI,f42,seval] at c;exact nd c <| nd @bP <| @WK)
theorem Mu:type_of% x42.down:=x42.down
def N74:=bp f74
def x74:=PLift.up (by have c:=bq N74 f74;simp only [aI,f74,seval] at c;exact nd c <| nd @fS <| @Xd)
theorem Fz:type_of% x74.down:=x74.down
theorem zD8 (s:aW) (a:ak) (i:Nat) (w:ae) (h h1:Heap) (z:Ext h h1) (ho:eo h h1 34 w s) (hn:s.length<=10000) (aK:i<=s.length) (lw:Nat) (qC:min h1.low h1.size<=lw) (K:aG)
 (hk:∀ h' w',Ext h h'->eo h h' 34 w' (s.take i++a::s.drop i)->K w' h'):Ok prog aA ov 71 [w,.int .i64 i,.slice (some ⟨h1.size+0,0,none⟩) 1 1] (h1.lay [.row a.cells 34 false] lw) K:=by
 obtain ⟨w',H',e,IL,A,hA,c⟩:=zxt (i:=i) (a:=a) (lw:=lw) ztc UI (by decide) (by decide) z.size ho hn aK
 exact Ok.over rfl e (hk _ _ (z.cx c hA qC) IL)
theorem zD6 (l:aW) (a:ak) (v:ae) (h:Heap) (hl:Sl aJ.atom h v l) (hn:l.length<=900) (aP:∀ x∈l,x.aV=true) (ha:a.aV=true) (K:aG)
 (hk:∀ h' w,Ext h h'->eo h h' 34 w (cD a (eG l))->K (.tuple #[w,.bool (!bH l a)]) h'):Ok prog aA ov 40 [v,a.val] h K:=by
 rw [ao h]
 have z:=Ext.refl h
 refine Ok.aq 22 (bm N40) ?_
 simp only [aa,seval,Ir,fA]
 refine zxZ l v _ (hl.lay _ _) hn aP _ (λh' w x ho=>?_)
 replace ho:=ho.down (h0:=h) (by rw [bf];omega)
 have q0:=Holds.top (i:=0) x rfl
 (replace z:=z.aj x;rw [ao h'])
 have dn:∀ (h:Heap) (K:aG),aD (some w) h K=K w h:=λ_ _=>rfl
 repeat' (simp only [aa,seval,Ir,q0.lay,↓dW,dO,da])
 have DM:=zk l
 refine ztn (eG l) a w _ (ho.sl.lay _ _) (qK l).iU (by omega) (Es aP) ha _ (λh' i x hp=>?_)
 replace ho:=(ho.lay _ _).mono x.inc
 (replace z:=z.aj x;replace q0:=q0.over x;rw [ao h'])
 cases hb:bH (eG l) a
 .have B3:=zpW hp hb
  rw [Jm] at hb
  repeat' (simp only [aa,seval,Ir,q0.lay,↓dW,dO,da])
  repeat' (simp only [aa,seval,Ir,Hu])
  rw [hb] at hk
  have hz:=z.size
  refine zD8 (eG l) a i w h h' z ho (by omega) hp.le _ (by omega) _ (λh' w' x ho=>?_)
  replace z:=x
  rw [B3] at ho
  have dn:∀ (h:Heap) (K:aG),aD (some w') h K=K w' h:=λ_ _=>rfl
  rw [ao h']
  repeat' (simp only [aa,seval,Ir])
  exact hk _ _ z.au (ho.lay _ _)
 .have B3:=zr8 (qK l).iU hb
  rw [Jm] at hb
  rw [hb,B3] at hk
  repeat' (simp only [aa,seval,Ir])
  exact hk _ _ z.au (ho.lay _ _)
theorem zEh {T:bL} {t:TypeId} {q i j:Nat} {k1 k2 k3:IntKind} (hd:T.desc t=some (.slice u)) (hs:cN T u=some 11) (dF:i<=j) (hj:j<=n) (hn:n<=q) (hq:q<=100000) :
 jY T t (.slice (some ⟨A,0,none⟩) n (G*11+q)) (some (.int k1 i)) (some (.int k2 j)) (some (.int k3 n))=some (.slice (some ⟨A,if n=i then 0 else 0+i*11,none⟩) (j - i) (n - i)):=by
 have hG:=AJ
 obtain ⟨d1,d2,d3⟩:=CK (k:=11) (q:=q) (by decide) (by omega)
 unfold jY
 simp only [hd,hs,dX]
 rw [az (by omega),d2,aE rfl,d3]
 unfold qI
 simp only [Hy hn,Hy hj,Hy dF,dX,jZ]
theorem zAt {T:bL} {t:TypeId} {q i j:Nat} {k1 k2:IntKind} (hd:T.desc t=some (.slice u)) (hs:cN T u=some 11) (dF:i<=j) (hj:j<=q) (hq:q<=100000) :
 jY T t (.slice (some ⟨A,0,none⟩) n (G*11+q)) (some (.int k1 i)) (some (.int k2 j)) none=some (.slice (some ⟨A,0+i*11,none⟩) (j - i) (G*11+(q - i))):=by
 have hG:=AJ
 obtain ⟨d1,d2,d3⟩:=CK (k:=11) (q:=q) (by decide) (by omega)
 unfold jY
 simp only [hd,hs,dX]
 rw [az (by omega),d2,aE rfl,d3]
 unfold qI
 simp only [Hy hj,Hy dF,dX,jZ]
def mr (h0 h:Heap) (u:TypeId) (v:ae) (s:aW):Prop:=∃ A t,v=.slice (some ⟨A,0,none⟩) s.length (G*11+(s++t).length)/\Holds h A (.row (aS (s++t)) u false)/\h0.size<=A/\(s++t).length<=100000
theorem eo.b (f:eo h0 h u v s) (hs:s≠[]):mr h0 h u v s:=by
 rcases f with ⟨e,_⟩|f
 .exact absurd e hs
 .exact f
theorem mr.a (f:mr h0 h u v s):eo h0 h u v s:=.inr f
theorem mr.lay {h0 h:Heap} {u:TypeId} {v:ae} {s:aW} (f:mr h0 h u v s) (bs:List bh) (w:Nat):mr h0 (h.lay bs w) u v s:=by
 obtain ⟨A,t,e1,e2,e3⟩:=f
 exact ⟨A,t,e1,e2.on _ _,e3⟩
theorem mr.kill {D:List Nat} (f:mr h0 h u v s) (hD:∀ B∈D,B < h0.size):Sl aJ.atom (aM D h) v s:=by
 obtain ⟨A,t,e1,e2,e3,e4⟩:=f
 have hA:A ∉ D:=λhm=>by have:=hD A hm;omega
 exact eo.sl (h0:=h0) (u:=u) (.inr ⟨A,t,e1,⟨by rw [iQ];exact e2.lt,by rw [pn hA];exact e2.get⟩,e3,e4⟩)
theorem zyu {c:Nat} {t:aW} (q:Holds h A (.row (aS (s++t)) u false)) (hA:h0.size<=A) (hn:(s++t).length<=100000) (hl:n=s.length) (hc:c=G*11+(s++t).length):mr h0 h u (.slice (some ⟨A,0,none⟩) n c) s:=by
 subst hl hc
 exact ⟨A,t,rfl,q,hA,hn⟩
theorem zyE {Z:Type} {r:aJ Z} {l:List Z} (f:Sl r h v l):∃ a n c,v=.slice a n c:=by
 rcases f with ⟨rfl,_⟩|⟨A,o,c,row,u,ro,rfl,_⟩ <;> exact ⟨_,_,_,rfl⟩
theorem zvb (s:aW) (i:Nat) (w:ae) (h hs:Heap) (z:Ext h hs) (ho:eo h hs 34 w s) (hn:s.length<=10000) (aK:i < s.length) (K:aG)
 (hk:∀ h' w',Ext h h'->mr h h' 34 w' (s.take i++s.drop (i+1))->K w' h'):Ok prog aA ov 74 [w,.int .i64 i,.int .i64 ((i+1:Nat):Int)] hs K:=by
 rcases ho with ⟨rfl,_⟩|⟨A,t,rfl,q,hA,hle⟩
 .simp at aK
 have mF:s.length<=(s++t).length:=by rw [cW];omega
 rw [ao hs]
 refine Ok.aq 30 (bm N74) ?_
 simp only [aa,seval,Fz,zEh bC bE (show i<=i+1 by omega) aK mF hle]
 refine lz (λhh=>absurd hh (by omega)) (λ_=>?_)
 repeat' (simp only [aa,seval,Fz])
 refine (cZ (by simp only [Fz])) z.au ?_
 simp only [aa,seval,Fz,zyp bC bE (show i<=s.length by omega) mF hle,zjO bC bE (show i+1<=s.length by omega) mF hle,ja,xh]
 obtain ⟨h2,e2,q2,c2⟩:=zut (i:=i) (C2:=G*11+((s++t).length - (i+1))) bC UI (by decide) (q.on _ _) aK hn hle
 rw [e2]
 simp only [syms,seval]
 have TG:=z.size
 refine mW (A:=A) (by kernel_rfl) (by rw [bf];omega) (by omega) (by simpa only [bG,bf,bu,de,dr,iu,jh] using c2) ?_
 replace z:=z.cx c2 hA (by omega)
 rw [ao h2]
 clear q
 repeat' (first|simp only [aa,seval,Fz]|((with_reducible refine ⟨z.bZ.lay _ _,?_⟩);(intro _ h' zz x _);(simp only [bG,bu] at x);replace q2:=q2.over x;(replace z:=zz);(clear zz);rw [ao h']))
 have ju:(s.take i++s.drop (i+1)).length=s.length - 1:=by simp only [cW,fj,lk];omega
 have j7:(s.take i++s.drop (i+1)++(s.drop (s.length - 1)++t)).length=(s++t).length:=by
  rw [cW,ju,cW,cW,lk]
  omega
 simp only [aa,seval,Fz,zAt bC bE (show s.length - 1<=s.length by omega) mF hle,zzd]
 refine zwT (i:=s.length - 1) (n:=s.length - (s.length - 1)) q2 bC sJ (by rw [j7];omega) (λh3 q3 c3=>?_)
 replace z:=z.cx c3 hA (by omega)
 rw [ao h3]
 clear q2
 repeat' (simp only [aa,seval,Fz])
 rw [List.take_left' ju] at q3
 have BQ:(s.take i++s.drop (i+1)++(List.replicate (s.length - (s.length - 1)) ab++(s.take i++s.drop (i+1)++(s.drop (s.length - 1)++t)).drop (s.length - 1+(s.length - (s.length - 1))))).length=(s++t).length:=by
  rw [cW,ju,cW,H6,lk,j7,cW]
  omega
 exact hk _ _ z.au (zyu (q3.on _ _) hA (by rw [BQ];exact hle) ju.symm (by rw [BQ]))
theorem zvl (l:aW) (a:ak) (v:ae) (h:Heap) (hl:Sl aJ.atom h v l) (hn:l.length<=900) (aP:∀ x∈l,x.aV=true) (ha:a.aV=true) (K:aG)
 (hk:∀ h' w,Ext h h'->(∃ a n c,w=.slice a n c)->(bH l a=true->mr h h' 34 w (fG a (eG l)))->K (.tuple #[w,.bool (bH l a)]) h'):Ok prog aA ov 42 [v,a.val] h K:=by
 rw [ao h]
 have z:=Ext.refl h
 refine Ok.aq 23 (bm N42) ?_
 simp only [aa,seval,Mu,fA]
 refine zxZ l v _ (hl.lay _ _) hn aP _ (λh' w x ho=>?_)
 replace ho:=ho.down (h0:=h) (by rw [bf];omega)
 have q0:=Holds.top (i:=0) x rfl
 (replace z:=z.aj x;rw [ao h'])
 have dn:∀ (h:Heap) (K:aG),aD (some w) h K=K w h:=λ_ _=>rfl
 repeat' (simp only [aa,seval,Mu,q0.lay,↓dW,dO,da])
 have DM:=zk l
 refine ztn (eG l) a w _ (ho.sl.lay _ _) (qK l).iU (by omega) (Es aP) ha _ (λh' i x hp=>?_)
 replace ho:=(ho.lay _ _).mono x.inc
 (replace z:=z.aj x;replace q0:=q0.over x;rw [ao h'])
 cases hb:bH (eG l) a
 .have B3:=zBo hb
  rw [Jm] at hb
  rw [hb,B3] at hk
  repeat' (first|simp only [aa,seval,Mu]|((with_reducible apply bI);(· rfl)))
  exact hk _ _ z.au (zyE ho.sl) (λe=>absurd e (by decide))
 .obtain ⟨jt,B3⟩:=zw3 (qK l).iU hp hb
  rw [Jm] at hb
  have fb:=dE i (by omega)
  repeat' (first|simp only [aa,seval,Mu,fb]|((with_reducible apply bI);(· rfl)))
  rw [hb] at hk
  refine zvb (eG l) i w h _ z.au (ho.lay _ _) (by omega) jt _ (λh' w' x ho=>?_)
  replace z:=x
  rw [B3] at ho
  have dn:∀ (h:Heap) (K:aG),aD (some w') h K=K w' h:=λ_ _=>rfl
  rw [ao h']
  repeat' (simp only [aa,seval,Mu])
  exact hk _ _ z.au (zyE ho.a.sl) (λ_=>ho.lay _ _)
def HK (T0:Nat) (v0 v1:ae) (q:Int) (NM:Nat):List ae:=[.pointer (some ⟨T0,0,none⟩),v0,v1,.slice none 0 0,.int .i64 q,.int .i64 0,.slice none 0 0,.slice none 0 0,.map (some NM)]
def si (N b:Nat) (h:Heap) (S0:Nat) (E:List Nat) (d:aw) (q:Int) (facts:aB->aW) (aX:aB->Nat) (us:aB->Nat):Prop :=
 ∃ T0 D NM v0 v1 nv,E=NM::D/\Holds h S0 (.row (HK T0 v0 v1 q NM) 100 false)/\eD N b h D T0 us/\dI h NM nv/\Sl aJ.str (aM E h) v0 d.ah/\Sl aJ.pred (aM E h) v1 d.cp /\
   (∀ who,dV nv who=none->facts who=[]/\aX who=0)/\(∀ who x,dV nv who=some x->∃ s,x=.agg #[s,.int .u64 (aX who:Int)]/\Sl aJ.atom (aM E h) s (facts who))/\S0 ∉ E/\NM ∉ D/\N<=S0/\N<=NM
def gi (X:List Nat) (N b:Nat) (h:Heap) (S0:Nat) (E:List Nat) (d:aw) (q:Int) (facts:aB->aW) (aX:aB->Nat) (us:aB->Nat):Prop:=si N b (aM X h) S0 E d q facts aX us/\(∀ B∈E,B ∉ X)/\∀ B∈X,B < h.size
theorem zEQ (A:Nat):od aA 97 [(0,.pointer (some ⟨A,0,none⟩))]=some (.agg #[.pointer (some ⟨A,0,none⟩)]):=by kernel_rfl
theorem zEP (A M:Nat) (a0 a1) (n0 n1 c0 c1:Nat) (q:Int):od aA 100 [(0,.agg #[.pointer (some ⟨A,0,none⟩)]),(1,gC (.slice a0 n0 c0) (.slice a1 n1 c1) (.slice none 0 0) (.slice none 0 0) (.slice none 0 0) q 0),(2,.map (some M))]=some (.agg ⟨HK A (.slice a0 n0 c0) (.slice a1 n1 c1) q M⟩):=by kernel_rfl
theorem rP {Z:Type} {r:aJ Z} {l:List Z} (f:Sl r h v l):∃ a n c,v=.slice a n c:=by
 rcases f with ⟨rfl,_⟩|⟨A,o,c,row,u,ro,rfl,_⟩ <;> exact ⟨_,_,_,rfl⟩
theorem zAf (N:Nat) (d:aw) (v0 v1:ae) (q:Int) (h:Heap) (G0:Nat) (hN:N<=h.size) (hG:N<=G0/\G0 < h.size) (X:List Nat) (hX:∀ B∈X,B < N) (s0:Sl aJ.str (aM [G0] (aM X h)) v0 d.ah) (s1:Sl aJ.pred (aM [G0] (aM X h)) v1 d.cp) (K:aG)
 (hk:∀ h' S0 E,Ext h h'->gi X N 0 h' S0 E d q (λ_=>[]) (λ_=>0) (λ_=>0)->K (.pointer (some ⟨S0,0,none⟩)) h'):Ok prog aA ov 56 [gC v0 v1 (.slice none 0 0) (.slice none 0 0) (.slice none 0 0) q 0] h K:=by
 have DF:=rP s0
 have vx:=rP s1
 obtain ⟨a0,n0,c0,rfl⟩:=DF
 obtain ⟨a1,n1,c1,rfl⟩:=vx
 rw [ao h]
 have z:=Ext.refl h
 refine Ok.aq 8 (bm N56) ?_
 simp only [aa,seval,Fw,jG]
 with_reducible first|refine cZ (by simp only [Fw]) z.au ?_
 simp only [aa,seval,Fw]
 refine zCX N _ h.size G0 ⟨hN,by rw [bf];simp⟩ ⟨hG.1,by rw [bf];omega⟩ (by omega) _ (λh' T0 FM x st hT hF=>?_)
 have q0:=Holds.top (i:=0) x rfl
 rw [bf] at hT hF
 simp only [de,dr] at hT hF
 (((with_reducible refine di ?_ ?_ ?_);(· exact (by (simp only [dp]);have:=z.size;omega));(· exact x));replace z:=z.aj x;rw [ao h'])
 simp only [aa,seval,Fw,q0.lay,↓fN,fw,eU,zEQ,Rj]
 have hz:=z.size
 refine tS (by omega) (by omega) ?_
 simp only [aa,seval,Fw,zEP]
 refine zod (by simp) (by omega) (by simp) ?_
 simp only [aa,seval,Fw]
 ((with_reducible refine ⟨z.bZ.lay _ _,?_⟩);(intro _ h4 zz x _);(simp only [bG,bu] at x))
 have fr:aQ [] h' h4:=(aQ.refl [] h').over x
 have qm:=Holds.top (i:=0) x rfl
 have qs:=Holds.top (i:=1) x rfl
 have j5:=st.hi
 replace st:=st.over x
 clear z
 have z:=zz
 rw [ao h4]
 simp only [aa,seval,Fw]
 have hf4:=fr.size
 have dC:aQ [G0] h h4:=z.ck [G0]
 have hE:∀ B∈[h'.size+0,T0,h.size,G0,FM],B∈[G0]\/h.size<=B:=by
  intro B hB
  simp only [dG,xk,or_false] at hB ⊢
  omega
 have hS:h'.size+1 ∉ [h'.size+0,T0,h.size,G0,FM]:=by
  simp only [dG,xk,or_false]
  omega
 have XR:h'.size+0 ∉ [T0,h.size,G0,FM]:=by
  simp only [dG,xk,or_false]
  omega
 have hI:=((dC.trans (aQ.lay h4 [] h4.low []) (λ_ h=>nomatch h)).kill X).inc (D':=[h'.size+0,T0,h.size,G0,FM]) (λB hB=>by rw [iQ];exact hE B hB)
 have cM:∀ B∈[h'.size+0,T0,h.size,G0,FM],N<=B:=by
  intro B hB
  simp only [dG,xk,or_false] at hB
  omega
 have nk:∀ B∈[h'.size+0,T0,h.size,G0,FM],B ∉ X:=λB hB hx=>by
  have h1:=cM B hB
  have h2:=hX B hx
  omega
 have M0:h'.size+1 ∉ X:=λhx=>by
  have h2:=hX _ hx
  omega
 have pY:=z.size
 exact hk _ (h'.size+1) [h'.size+0,T0,h.size,G0,FM] z.au ⟨⟨T0,[T0,h.size,G0,FM],h'.size+0,_,_,[],rfl,(qs.on _ _).pj M0,eD.ck (D:=[T0,h.size,G0,FM]) ⟨h.size,G0,FM,[],[],[],rfl,st.lay _ _,dg.empty,bo 0,bo 0⟩ (aQ.dead X _) (λB hB=>nk B (gJ _ hB)),(dI.new (qm.on _ _)).hold (λ_ q=>q.pj (nk _ (by simp))),s0.mono hI,s1.mono hI,λ_ _=>⟨rfl,rfl⟩,λwho x hx=>by simp [dV] at hx,hS,XR,by omega,by omega⟩,nk,λB hB=>by have:=hX B hB;rw [bf];omega⟩
end Go.Proofs.YtkgojconmeeegaaGreatDoor
