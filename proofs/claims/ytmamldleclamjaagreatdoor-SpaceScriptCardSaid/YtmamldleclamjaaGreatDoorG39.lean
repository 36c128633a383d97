/- Walks: the place of an atom; is it there? Written out by fill2.py. No condition. -/
import Derived.Test.YtmamldleclamjaaGreatDoorG38
import Derived.Test.YtmamldleclamjaaGreatDoorG37
import Derived.Test.YtmamldleclamjaaGreatDoorG32
set_option linter.unusedSimpArgs false
set_option linter.unusedVariables false
set_option maxRecDepth 100000
set_option maxHeartbeats 0
noncomputable section
namespace Go.Proofs.YtmamldleclamjaaGreatDoor
open Go.Am Tryz
theorem zpa (l:aN) (a:aj) (v:ah) (h:Heap) (hl:Sl aK.atom h v l) (hs:dG l) (hn:l.length<=1000) (aW:∀ x∈l,x.aY=true) (ha:a.aY=true) (K:aI)
 (hk:∀ h' i,Ext h h'->fp l a i->K (.tuple #[.int .i64 (i:Nat),.bool (bL l a)]) h'):Ok prog aG ov 109 [v,a.val,.func (.func 110) ⟨[]⟩ ⟨[]⟩] h K:=by
 rw [ao h]
 have z:=Ext.refl h
 have gv:=λ(hh:Heap)=>hl.bn bF hh
 refine Ok.aw 46 (bu J1) ?_
 simp only [aa,seval,gS,gv,gI]
 refine lZ (λh' x hq=>?_)
 have q0:=hq 0 _ rfl
 clear hq
 (replace z:=z.an x;rw [ao h'])
 obtain ⟨I1,aX⟩:∃ I:Nat->Env->Heap->Prop,I=(λn e h'=>∃ (i j:Nat) (h1:Heap),h'=h1.lay [] h1.low/\Ext h h1/\(n=j - i/\i<=j/\j<=l.length/\(∀ k,k < i->aU (l.getD k ae) a < 0)/\(∀ k,j<=k->k < l.length->¬ aU (l.getD k ae) a < 0)/\Holds h1 (h.size+0) (.row a.cells 47 false))/\∃ J:Nat->ah,e=(v::J 1::.func (.func 110) ⟨[]⟩ ⟨[]⟩::J 3::.pointer (some ⟨h.size+0,0,none⟩)::jr J 5 3 (.int .i64 l.length::.int .i64 i::.int .i64 j::jr J 11 38 ([])))):=⟨_,rfl⟩
 refine du I1 _ (by rw [aX];exact ⟨0,l.length,_,rfl,z,⟨rfl,by omega,by omega,λk g=>by omega,λk g1 g2=>by omega,q0⟩,bm⟩) ?_
 intro n e h' aP
 rw [aX] at aP
 obtain ⟨i,j,bx,rfl,z,hinv,J,rfl⟩:=aP
 clear q0
 obtain ⟨rfl,dp,Be,dj,kp,q0⟩:=hinv
 simp only [aa,seval,gS]
 refine bq (λkr=>?_) (λkr=>?_)
 rotate_left
 .have e:i=j:=by omega
  subst e
  have k0:fp l a i:=⟨Be,dj,kp⟩
  have xS:=k0.has hs
  simp only [aa,seval,gS]
  refine (dL (by simp only [gS])) z.aC ?_
  simp only [aa,seval,gS]
  refine bq (λaP=>?_) (λaP=>?_)
  rotate_left
  .have e:bL l a=false:=by
    cases e:bL l a
    .rfl
    .exact absurd (xS.1 e).1 (by omega)
   rw [e] at hk
   repeat' (first|simp only [aa,seval,gS]|((with_reducible refine ⟨z.cK.lay _ _,?_⟩);(intro _ h' zz x _);(simp only [b9,bG] at x);replace q0:=q0.over x;(replace z:=zz);(clear zz);rw [ao h']))
   exact hk _ _ z.aC k0
  have hr:l[(i:Int).toNat]? = some (l.getD i ae):=jJ (by omega)
  simp only [aa,seval,gS]
  repeat' ((first|with_reducible refine oG (hl.mono z.inc) bF bN (by omega) hr (λp hp=>?_)|with_reducible refine mw hp fD bN ?_) <;> simp only [aa,seval,gS,q0.lay,↓eP,ef,dy])
  refine DB _ _ (rX aW (by omega)) ha _ _ (λh' x=>?_)
  (((with_reducible refine cW ?_ ?_ ?_);(· exact (by (simp only [cV]);have:=z.size;omega));(· exact x));replace z:=z.an x;replace q0:=q0.over x;rw [ao h'])
  simp only [aa,seval,gS]
  refine qh (λhc=>?_) (λhc=>?_)
  .rw [xS.2 ⟨by omega,hc⟩] at hk
   repeat' (first|simp only [aa,seval,gS]|((with_reducible refine ⟨z.cK.lay _ _,?_⟩);(intro _ h' zz x _);(simp only [b9,bG] at x);replace q0:=q0.over x;(replace z:=zz);(clear zz);rw [ao h']))
   exact hk _ _ z.aC k0
  .have e:bL l a=false:=by
    cases e:bL l a
    .rfl
    .exact absurd (xS.1 e).2 hc
   rw [e] at hk
   repeat' (first|simp only [aa,seval,gS]|((with_reducible refine ⟨z.cK.lay _ _,?_⟩);(intro _ h' zz x _);(simp only [b9,bG] at x);replace q0:=q0.over x;(replace z:=zz);(clear zz);rw [ao h']))
   exact hk _ _ z.aC k0
 obtain ⟨e1,e2,e3,e4⟩:=PX i j (by omega)
 repeat' (simp only [aa,seval,gS,e1])
 rw [Ah rfl rfl rfl (Qo _) rfl,e2]
 simp only [aa,seval,gS]
 rw [Qi (by decide),e4]
 simp only [aa,seval,gS]
 rw [Ah rfl rfl rfl (Qp _) rfl,e3]
 repeat' (simp only [aa,seval,gS])
 have u9:i<=(i+j) / 2/\(i+j) / 2 < j:=by omega
 have yy:IntKind.i64.wrap ((((i+j) / 2:Nat):Int)+1)=(((i+j) / 2+1:Nat):Int):=by rw [wrap_i64 (by omega) (by omega)];omega
 generalize (i+j) / 2=y at u9 yy ⊢
 have hr:l[(y:Int).toNat]? = some (l.getD y ae):=jJ (by omega)
 refine (dL (by simp only [gS])) z.aC ?_
 simp only [aa,seval,gS]
 repeat' ((first|with_reducible refine oG (hl.mono z.inc) bF bN (by omega) hr (λp hp=>?_)|with_reducible refine mw hp fD bN ?_) <;> simp only [aa,seval,gS,q0.lay,↓eP,ef,dy])
 refine DB _ _ (rX aW (by omega)) ha _ _ (λh' x=>?_)
 (((with_reducible refine cW ?_ ?_ ?_);(· exact (by (simp only [cV]);have:=z.size;omega));(· exact x));replace z:=z.an x;replace q0:=q0.over x;rw [ao h'])
 simp only [aa,seval,gS]
 refine bq (λhc=>?_) (λhc=>?_)
 .repeat' (first|simp only [aa,seval,gS]|((with_reducible refine ⟨z.cK.lay _ _,?_⟩);(intro _ h' zz x _);( simp only [b9,bG] at x );( replace q0:=q0.over x );(replace z:=zz);(clear zz);rw [ao h']))
  rw [yy]
  (rw [aX];(with_reducible refine cy (m:=_) ?_ ⟨y+1,j,_,rfl,z,⟨rfl,by omega,by omega,λk g=>by
   rcases lB k y with e|e
   .exact BP (Qw (iH.1 hs) e (by omega)) hc
   .have e:k=y:=by omega
    subst e
    exact hc,kp,q0⟩,bm⟩);omega)
 .have XD:∀ k,y<=k->k < l.length->¬ aU (l.getD k ae) a < 0:=by
   intro k g1 g2
   rcases Nat.eq_or_lt_of_le g1 with e|e
   .subst e
    exact hc
   .intro g
    exact hc (BP (Qw (iH.1 hs) e g2) g)
  repeat' (first|simp only [aa,seval,gS]|((with_reducible refine ⟨z.cK.lay _ _,?_⟩);(intro _ h' zz x _);(simp only [b9,bG] at x);replace q0:=q0.over x;(replace z:=zz);(clear zz);rw [ao h']))
  (rw [aX];with_reducible refine cy (m:=_) ?_ ⟨i,y,_,rfl,z,⟨rfl,by omega,by omega,dj,XD,q0⟩,bm⟩;omega)
theorem zsE (l:aN) (a:aj) (v:ah) (h:Heap) (hl:Sl aK.atom h v l) (hs:dG l) (hn:l.length<=1000) (aW:∀ x∈l,x.aY=true) (ha:a.aY=true) (K:aI)
 (hk:∀ h' i,Ext h h'->fp l a i->K (.tuple #[.int .i64 (i:Nat),.bool (bL l a)]) h'):Ok prog aG ov 73 [v,a.val] h K:=by
 rw [ao h]
 have z:=Ext.refl h
 refine Ok.aw 9 (bu N73) ?_
 repeat' (simp only [aa,seval,c73,gI,↓eP,ef,dy])
 refine zpa l a v _ (hl.lay _ _) hs hn aW ha _ (λh' i x hp=>?_)
 (replace z:=z.an x;rw [ao h'])
 generalize bL l a=b at hk ⊢
 cases b
 all_goals
  repeat' (simp only [aa,seval,c73])
  exact hk _ _ z.aC hp
end Go.Proofs.YtmamldleclamjaaGreatDoor

namespace Go.Proofs.YtmamldleclamjaaGreatDoor
open Go.Am Tryz
variable {A n:Nat} {u:TypeId} {s:aN} {v:ah} {h h0:Heap}
def N46:=bB f46
def x46:=PLift.up (by have c:=bD N46 f46;simp only [aL,f46,seval] at c;exact nd c <| nd @qH <| nd @b8 <| @VG)
theorem HT:type_of% x46.down:=x46.down
def N47:=bB f47
def x47:=PLift.up (by have c:=bD N47 f47;simp only [aL,f47,seval] at c;exact nd c <| nd @b8 <| @VH)
theorem Lo:type_of% x47.down:=x47.down
def N75:=bB f75
def x75:=PLift.up (by have c:=bD N75 f75;simp only [aL,f75,seval] at c;exact nd c <| nd @gl <| @V9)
theorem ED:type_of% x75.down:=x75.down
theorem zDk (s:aN) (a:aj) (i:Nat) (w:ah) (h h1:Heap) (z:Ext h h1) (ho:eF h h1 47 w s) (hn:s.length<=10000) (aP:i<=s.length) (lw:Nat) (qo:min h1.low h1.size<=lw) (K:aI)
 (hk:∀ h' w',Ext h h'->eF h h' 47 w' (s.take i++a::s.drop i)->K w' h'):Ok prog aG ov 74 [w,.int .i64 i,.slice (some ⟨h1.size+0,0,none⟩) 1 1] (h1.lay [.row a.cells 47 false] lw) K:=by
 obtain ⟨w',H',e,Il,A,hA,c⟩:=zwC (i:=i) (a:=a) (lw:=lw) zsp Tu (by decide) (by decide) z.size ho hn aP
 exact Ok.over rfl e (hk _ _ (z.cw c hA qo) Il)
theorem zDj (l:aN) (a:aj) (v:ah) (h:Heap) (hl:Sl aK.atom h v l) (hn:l.length<=900) (aW:∀ x∈l,x.aY=true) (ha:a.aY=true) (K:aI)
 (hk:∀ h' w,Ext h h'->eF h h' 47 w (cz a (eW l))->K (.tuple #[w,.bool (!bL l a)]) h'):Ok prog aG ov 46 [v,a.val] h K:=by
 rw [ao h]
 have z:=Ext.refl h
 refine Ok.aw 22 (bu N46) ?_
 simp only [aa,seval,HT,gI]
 refine zw7 l v _ (hl.lay _ _) hn aW _ (λh' w x ho=>?_)
 replace ho:=ho.down (h0:=h) (by rw [bd];omega)
 have q0:=Holds.top (i:=0) x rfl
 (replace z:=z.an x;rw [ao h'])
 have el:∀ (h:Heap) (K:aI),aH (some w) h K=K w h:=λ_ _=>rfl
 repeat' (simp only [aa,seval,HT,q0.lay,↓eP,ef,dy])
 have s7:=BO l
 refine zsE (eW l) a w _ (ho.sl.lay _ _) (pe l).gK (by omega) (ID aW) ha _ (λh' i x hp=>?_)
 replace ho:=(ho.lay _ _).mono x.inc
 (replace z:=z.an x;replace q0:=q0.over x;rw [ao h'])
 cases hb:bL (eW l) a
 .have Bp:=zpu hp hb
  rw [IV] at hb
  repeat' (simp only [aa,seval,HT,q0.lay,↓eP,ef,dy])
  repeat' (simp only [aa,seval,HT,IU])
  rw [hb] at hk
  have hz:=z.size
  refine zDk (eW l) a i w h h' z ho (by omega) hp.le _ (by omega) _ (λh' w' x ho=>?_)
  replace z:=x
  rw [Bp] at ho
  have el:∀ (h:Heap) (K:aI),aH (some w') h K=K w' h:=λ_ _=>rfl
  rw [ao h']
  repeat' (simp only [aa,seval,HT])
  exact hk _ _ z.aC (ho.lay _ _)
 .have Bp:=zrk (pe l).gK hb
  rw [IV] at hb
  rw [hb,Bp] at hk
  repeat' (simp only [aa,seval,HT])
  exact hk _ _ z.aC (ho.lay _ _)
theorem zDs {T:bO} {t:TypeId} {q i j:Nat} {k1 k2 k3:IntKind} (hd:T.desc t=some (.slice u)) (hs:di T u=some 11) (dp:i<=j) (hj:j<=n) (hn:n<=q) (hq:q<=100000) :
 jL T t (.slice (some ⟨A,0,none⟩) n (G*11+q)) (some (.int k1 i)) (some (.int k2 j)) (some (.int k3 n))=some (.slice (some ⟨A,if n=i then 0 else 0+i*11,none⟩) (j - i) (n - i)):=by
 have hG:=Aj
 obtain ⟨d1,d2,d3⟩:=yX (k:=11) (q:=q) (by decide) (by omega)
 unfold jL
 simp only [hd,hs,dX]
 rw [aA (by omega),d2,aB rfl,d3]
 unfold rq
 simp only [GW hn,GW hj,GW dp,dX,j2]
theorem zzy {T:bO} {t:TypeId} {q i j:Nat} {k1 k2:IntKind} (hd:T.desc t=some (.slice u)) (hs:di T u=some 11) (dp:i<=j) (hj:j<=q) (hq:q<=100000) :
 jL T t (.slice (some ⟨A,0,none⟩) n (G*11+q)) (some (.int k1 i)) (some (.int k2 j)) none=some (.slice (some ⟨A,0+i*11,none⟩) (j - i) (G*11+(q - i))):=by
 have hG:=Aj
 obtain ⟨d1,d2,d3⟩:=yX (k:=11) (q:=q) (by decide) (by omega)
 unfold jL
 simp only [hd,hs,dX]
 rw [aA (by omega),d2,aB rfl,d3]
 unfold rq
 simp only [GW hj,GW dp,dX,j2]
def i7 (h0 h:Heap) (u:TypeId) (v:ah) (s:aN):Prop:=∃ A t,v=.slice (some ⟨A,0,none⟩) s.length (G*11+(s++t).length)/\Holds h A (.row (aQ (s++t)) u false)/\h0.size<=A/\(s++t).length<=100000
theorem eF.b (f:eF h0 h u v s) (hs:s≠[]):i7 h0 h u v s:=by
 rcases f with ⟨e,_⟩|f
 .exact absurd e hs
 .exact f
theorem i7.a (f:i7 h0 h u v s):eF h0 h u v s:=.inr f
theorem i7.lay {h0 h:Heap} {u:TypeId} {v:ah} {s:aN} (f:i7 h0 h u v s) (bs:List ba) (w:Nat):i7 h0 (h.lay bs w) u v s:=by
 obtain ⟨A,t,e1,e2,e3⟩:=f
 exact ⟨A,t,e1,e2.on _ _,e3⟩
theorem i7.down {h1:Heap} (f:i7 h1 h u v s) (i:h0.size<=h1.size):i7 h0 h u v s:=by
 obtain ⟨A,t,e1,e2,e3,e4⟩:=f
 exact ⟨A,t,e1,e2,by omega,e4⟩
theorem i7.over {h0 h h2:Heap} {bs:List ba} {w:Nat} {u:TypeId} {v:ah} {s:aN} (f:i7 h0 h u v s) (x:Ext (h.lay bs w) h2):i7 h0 h2 u v s:=by
 obtain ⟨A,t,e1,e2,e3⟩:=f
 exact ⟨A,t,e1,e2.over x,e3⟩
theorem i7.kill {D:List Nat} (f:i7 h0 h u v s) (hD:∀ B∈D,B < h0.size):Sl aK.atom (aD D h) v s:=by
 obtain ⟨A,t,e1,e2,e3,e4⟩:=f
 have hA:A ∉ D:=λhm=>by have:=hD A hm;omega
 exact eF.sl (h0:=h0) (u:=u) (.inr ⟨A,t,e1,⟨by rw [fX];exact e2.lt,by rw [nN hA];exact e2.get⟩,e3,e4⟩)
theorem zxz {c:Nat} {t:aN} (q:Holds h A (.row (aQ (s++t)) u false)) (hA:h0.size<=A) (hn:(s++t).length<=100000) (hl:n=s.length) (hc:c=G*11+(s++t).length):i7 h0 h u (.slice (some ⟨A,0,none⟩) n c) s:=by
 subst hl hc
 exact ⟨A,t,rfl,q,hA,hn⟩
theorem zxK {Z:Type} {r:aK Z} {l:List Z} (f:Sl r h v l):∃ a n c,v=.slice a n c:=by
 rcases f with ⟨rfl,_⟩|⟨A,o,c,row,u,ro,rfl,_⟩ <;> exact ⟨_,_,_,rfl⟩
theorem zun (s:aN) (i:Nat) (w:ah) (h hs:Heap) (z:Ext h hs) (ho:eF h hs 47 w s) (hn:s.length<=10000) (aP:i < s.length) (K:aI)
 (hk:∀ h' w',Ext h h'->i7 h h' 47 w' (s.take i++s.drop (i+1))->K w' h'):Ok prog aG ov 75 [w,.int .i64 i,.int .i64 ((i+1:Nat):Int)] hs K:=by
 rcases ho with ⟨rfl,_⟩|⟨A,t,rfl,q,hA,hle⟩
 .simp at aP
 have nH:s.length<=(s++t).length:=by rw [dI];omega
 rw [ao hs]
 refine Ok.aw 30 (bu N75) ?_
 simp only [aa,seval,ED,zDs bF bN (show i<=i+1 by omega) aP nH hle]
 refine qh (λhh=>absurd hh (by omega)) (λ_=>?_)
 repeat' (simp only [aa,seval,ED])
 refine (dL (by simp only [ED])) z.aC ?_
 simp only [aa,seval,ED,zxt bF bN (show i<=s.length by omega) nH hle,zj6 bF bN (show i+1<=s.length by omega) nH hle,ly,zi]
 obtain ⟨h2,e2,q2,c2⟩:=ztN (i:=i) (C2:=G*11+((s++t).length - (i+1))) bF Tu (by decide) (q.on _ _) aP hn hle
 rw [e2]
 simp only [syms,seval]
 have hzz:=z.size
 refine nM (A:=A) (by kernel_rfl) (by rw [bd];omega) (by omega) (by simpa only [b9,bd,bG,dY,dK,j3,i0] using c2) ?_
 replace z:=z.cw c2 hA (by omega)
 rw [ao h2]
 clear q
 repeat' (first|simp only [aa,seval,ED]|((with_reducible refine ⟨z.cK.lay _ _,?_⟩);(intro _ h' zz x _);(simp only [b9,bG] at x);replace q2:=q2.over x;(replace z:=zz);(clear zz);rw [ao h']))
 have jt:(s.take i++s.drop (i+1)).length=s.length - 1:=by simp only [dI,fw,jM];omega
 have kq:(s.take i++s.drop (i+1)++(s.drop (s.length - 1)++t)).length=(s++t).length:=by
  rw [dI,jt,dI,dI,jM]
  omega
 simp only [aa,seval,ED,zzy bF bN (show s.length - 1<=s.length by omega) nH hle,zyn]
 refine zv2 (i:=s.length - 1) (n:=s.length - (s.length - 1)) q2 bF r6 (by rw [kq];omega) (λh3 q3 c3=>?_)
 replace z:=z.cw c3 hA (by omega)
 rw [ao h3]
 clear q2
 repeat' (simp only [aa,seval,ED])
 rw [List.take_left' jt] at q3
 have MH:(s.take i++s.drop (i+1)++(List.replicate (s.length - (s.length - 1)) ae++(s.take i++s.drop (i+1)++(s.drop (s.length - 1)++t)).drop (s.length - 1+(s.length - (s.length - 1))))).length=(s++t).length:=by
  rw [dI,jt,dI,Jm,jM,kq,dI]
  omega
 exact hk _ _ z.aC (zxz (q3.on _ _) hA (by rw [MH];exact hle) jt.symm (by rw [MH]))
theorem zuw (l:aN) (a:aj) (v:ah) (h:Heap) (hl:Sl aK.atom h v l) (hn:l.length<=900) (aW:∀ x∈l,x.aY=true) (ha:a.aY=true) (K:aI)
 (hk:∀ h' w,Ext h h'->(∃ a n c,w=.slice a n c)->(bL l a=true->i7 h h' 47 w (eR a (eW l)))->K (.tuple #[w,.bool (bL l a)]) h'):Ok prog aG ov 47 [v,a.val] h K:=by
 rw [ao h]
 have z:=Ext.refl h
 refine Ok.aw 23 (bu N47) ?_
 simp only [aa,seval,Lo,gI]
 refine zw7 l v _ (hl.lay _ _) hn aW _ (λh' w x ho=>?_)
 replace ho:=ho.down (h0:=h) (by rw [bd];omega)
 have q0:=Holds.top (i:=0) x rfl
 (replace z:=z.an x;rw [ao h'])
 have el:∀ (h:Heap) (K:aI),aH (some w) h K=K w h:=λ_ _=>rfl
 repeat' (simp only [aa,seval,Lo,q0.lay,↓eP,ef,dy])
 have s7:=BO l
 refine zsE (eW l) a w _ (ho.sl.lay _ _) (pe l).gK (by omega) (ID aW) ha _ (λh' i x hp=>?_)
 replace ho:=(ho.lay _ _).mono x.inc
 (replace z:=z.an x;replace q0:=q0.over x;rw [ao h'])
 cases hb:bL (eW l) a
 .have Bp:=zAk hb
  rw [IV] at hb
  rw [hb,Bp] at hk
  repeat' (first|simp only [aa,seval,Lo]|((with_reducible apply ct);(· rfl)))
  exact hk _ _ z.aC (zxK ho.sl) (λe=>absurd e (by decide))
 .obtain ⟨iK,Bp⟩:=zwb (pe l).gK hp hb
  rw [IV] at hb
  have gk:=ei i (by omega)
  repeat' (first|simp only [aa,seval,Lo,gk]|((with_reducible apply ct);(· rfl)))
  rw [hb] at hk
  refine zun (eW l) i w h _ z.aC (ho.lay _ _) (by omega) iK _ (λh' w' x ho=>?_)
  replace z:=x
  rw [Bp] at ho
  have el:∀ (h:Heap) (K:aI),aH (some w') h K=K w' h:=λ_ _=>rfl
  rw [ao h']
  repeat' (simp only [aa,seval,Lo])
  exact hk _ _ z.aC (zxK ho.a.sl) (λ_=>ho.lay _ _)
end Go.Proofs.YtmamldleclamjaaGreatDoor
namespace Go.Am
theorem Dk:∀ (D X:List Nat) (h:Heap),aD (D++X) h=aD D (aD X h)
 | [],_,_=>rfl
 |A::D,X,h=>by
  show kill A (aD (D++X) h)=kill A (aD D (aD X h))
  rw [Dk D X h]
section
variable {D E X:List Nat} {a b h:Heap} {B:Nat} {k:ba}
theorem aM.kill (f:aM D a b) (X:List Nat):aM D (aD X a) (aD X b):=by
 refine ⟨by rw [fX,fX];exact f.size,λB hB hn=>?_⟩
 rw [fX] at hB
 by_cases hx:B∈X
 .rw [yV hx hB,yV hx (dJ hB f.size)]
 .rw [nN hx,nN hx]
  exact f.get B hB hn
theorem aM.dead (X:List Nat) (h:Heap):aM X h (aD X h):=⟨by rw [fX];exact bo _,λB _ hn=>nN hn⟩
theorem aM.gZ (X:List Nat) (h:Heap):aM X (aD X h) h:=⟨by rw [fX];exact bo _,λB _ hn=>(nN hn).symm⟩
theorem Holds.alive (q:Holds (aD X h) B k) (hk:k≠.dead):B ∉ X:=λhx=>by
 have h1:=q.lt
 rw [fX] at h1
 have h2:=q.get
 rw [yV hx h1] at h2
 cases h2
 exact hk rfl
theorem Holds.iU (q:Holds h B k) (hB:B ∉ X):Holds (aD X h) B k:=q.cT (aM.dead X h) hB
theorem zDC (E X:List Nat) (h:Heap):bH (aD E (aD X h)) (aD E h):=by
 refine ⟨by rw [fX,fX,fX];exact bo _,λB hB hd=>?_⟩
 rw [fX,fX] at hB
 have hE:B ∉ E:=λhh=>hd (yV hh (by rw [fX];exact hB))
 have hX:B ∉ X:=λhh=>hd (by rw [nN hE];exact yV hh hB)
 rw [nN hE,nN hE,nN hX]
end
end Go.Am
namespace Go.Proofs.YtmamldleclamjaaGreatDoor
open Go.Am Tryz
variable {h:Heap} {d:aq} {a:aj} {s:au}
def DA (T0:Nat) (v0 v1:ah) (q:Int) (NM:Nat):List ah:=[.pointer (some ⟨T0,0,none⟩),v0,v1,.slice none 0 0,.int .i64 q,.int .i64 0,.slice none 0 0,.slice none 0 0,.map (some NM)]
def lT (N b:Nat) (h:Heap) (S0:Nat) (E:List Nat) (d:aq) (q:Int) (facts:au->aN) (az:au->Nat) (us:au->Nat):Prop :=
 ∃ T0 D NM v0 v1 nv,E=NM::D/\Holds h S0 (.row (DA T0 v0 v1 q NM) 86 false)/\dZ N b h D T0 us/\dn h NM nv/\Sl aK.str (aD E h) v0 d.ab/\Sl aK.pred (aD E h) v1 d.bJ /\
   (∀ aR,dq nv aR=none->facts aR=[]/\az aR=0)/\(∀ aR x,dq nv aR=some x->∃ s,x=.agg #[s,.int .u64 (az aR:Int)]/\Sl aK.atom (aD E h) s (facts aR))/\S0 ∉ E/\NM ∉ D/\N<=S0/\N<=NM
def eH (X:List Nat) (N b:Nat) (h:Heap) (S0:Nat) (E:List Nat) (d:aq) (q:Int) (facts:au->aN) (az:au->Nat) (us:au->Nat):Prop:=lT N b (aD X h) S0 E d q facts az us/\(∀ B∈E,B ∉ X)/\∀ B∈X,B < h.size
theorem zCY (A:Nat):qg aG 83 [(0,.pointer (some ⟨A,0,none⟩))]=some (.agg #[.pointer (some ⟨A,0,none⟩)]):=by kernel_rfl
theorem zCX (A M:Nat) (a0 a1) (n0 n1 c0 c1:Nat) (q:Int):qg aG 86 [(0,.agg #[.pointer (some ⟨A,0,none⟩)]),(1,hU (.slice a0 n0 c0) (.slice a1 n1 c1) (.slice none 0 0) (.slice none 0 0) (.slice none 0 0) q 0),(2,.map (some M))]=some (.agg ⟨DA A (.slice a0 n0 c0) (.slice a1 n1 c1) q M⟩):=by kernel_rfl
theorem nq {Z:Type} {r:aK Z} {v:ah} {l:List Z} (f:Sl r h v l):∃ a n c,v=.slice a n c:=by
 rcases f with ⟨rfl,_⟩|⟨A,o,c,row,u,ro,rfl,_⟩ <;> exact ⟨_,_,_,rfl⟩
theorem zzo (N:Nat) (d:aq) (v0 v1:ah) (q:Int) (h:Heap) (G0:Nat) (hN:N<=h.size) (hG:N<=G0/\G0 < h.size) (X:List Nat) (hX:∀ B∈X,B < N) (s0:Sl aK.str (aD [G0] (aD X h)) v0 d.ab) (s1:Sl aK.pred (aD [G0] (aD X h)) v1 d.bJ) (K:aI)
 (hk:∀ h' S0 E,Ext h h'->eH X N 0 h' S0 E d q (λ_=>[]) (λ_=>0) (λ_=>0)->K (.pointer (some ⟨S0,0,none⟩)) h'):Ok prog aG ov 31 [hU v0 v1 (.slice none 0 0) (.slice none 0 0) (.slice none 0 0) q 0] h K:=by
 have zD:=nq s0
 have uZ:=nq s1
 obtain ⟨a0,n0,c0,rfl⟩:=zD
 obtain ⟨a1,n1,c1,rfl⟩:=uZ
 rw [ao h]
 have z:=Ext.refl h
 refine Ok.aw 8 (bu Ua) ?_
 simp only [aa,seval,tL,kG]
 with_reducible first|refine dL (by simp only [tL]) z.aC ?_
 simp only [aa,seval,tL]
 refine zB1 N _ h.size G0 ⟨hN,by rw [bd];simp⟩ ⟨hG.1,by rw [bd];omega⟩ (by omega) _ (λh' T0 FM x st hT hF=>?_)
 have q0:=Holds.top (i:=0) x rfl
 rw [bd] at hT hF
 simp only [dY,dK] at hT hF
 (((with_reducible refine cW ?_ ?_ ?_);(· exact (by (simp only [cV]);have:=z.size;omega));(· exact x));replace z:=z.an x;rw [ao h'])
 simp only [aa,seval,tL,q0.lay,↓iR,gO,fY,zCY,G4]
 have hz:=z.size
 refine vN (by omega) (by omega) ?_
 simp only [aa,seval,tL,zCX]
 refine zhN (by simp) (by omega) (by simp) ?_
 simp only [aa,seval,tL]
 ((with_reducible refine ⟨z.cK.lay _ _,?_⟩);(intro _ h4 zz x _);(simp only [b9,bG] at x))
 have fr:aM [] h' h4:=(aM.refl [] h').over x
 have qm:=Holds.top (i:=0) x rfl
 have qs:=Holds.top (i:=1) x rfl
 have kp:=st.hi
 replace st:=st.over x
 clear z
 have z:=zz
 rw [ao h4]
 simp only [aa,seval,tL]
 have Ic:=fr.size
 have cQ:aM [G0] h h4:=z.cT [G0]
 have hE:∀ B∈[h'.size+0,T0,h.size,G0,FM],B∈[G0]\/h.size<=B:=by
  intro B hB
  simp only [cJ,we,or_false] at hB ⊢
  omega
 have hS:h'.size+1 ∉ [h'.size+0,T0,h.size,G0,FM]:=by
  simp only [cJ,we,or_false]
  omega
 have E8:h'.size+0 ∉ [T0,h.size,G0,FM]:=by
  simp only [cJ,we,or_false]
  omega
 have hI:=((cQ.trans (aM.lay h4 [] h4.low []) (λ_ h=>nomatch h)).kill X).inc (D':=[h'.size+0,T0,h.size,G0,FM]) (λB hB=>by rw [fX];exact hE B hB)
 have dj:∀ B∈[h'.size+0,T0,h.size,G0,FM],N<=B:=by
  intro B hB
  simp only [cJ,we,or_false] at hB
  omega
 have jR:∀ B∈[h'.size+0,T0,h.size,G0,FM],B ∉ X:=λB hB hx=>by
  have h1:=dj B hB
  have h2:=hX B hx
  omega
 have AY:h'.size+1 ∉ X:=λhx=>by
  have h2:=hX _ hx
  omega
 have yA:=z.size
 exact hk _ (h'.size+1) [h'.size+0,T0,h.size,G0,FM] z.aC ⟨⟨T0,[T0,h.size,G0,FM],h'.size+0,_,_,[],rfl,(qs.on _ _).iU AY,dZ.cT (D:=[T0,h.size,G0,FM]) ⟨h.size,G0,FM,[],[],[],rfl,st.lay _ _,df.empty,bo 0,bo 0⟩ (aM.dead X _) (λB hB=>jR B (eQ _ hB)),(dn.new (qm.on _ _)).hold (λ_ q=>q.iU (jR _ (by simp))),s0.mono hI,s1.mono hI,λ_ _=>⟨rfl,rfl⟩,λaR x hx=>by simp [dq] at hx,hS,E8,by omega,by omega⟩,jR,λB hB=>by have:=hX B hB;rw [bd];omega⟩
def N8:=bB f8
def x8:=PLift.up (by have c:=bD N8 f8;simp only [aL,f8,seval] at c;exact nd c <| nd @K8 <| nd @Hq <| nd @DN <| nd @kx <| nd @ni <| nd @eV <| nd @ra <| nd @gH <| nd @ky <| @fi8)
theorem c8:type_of% x8.down:=x8.down
def N37:=bB f37
def x37:=PLift.up (by have c:=bD N37 f37;simp only [aL,f37,seval] at c;exact nd c <| nd @QB <| nd @zwh <| nd @DN <| nd @QE <| nd @zwi <| nd @tk <| nd @eV <| nd @nj <| nd @b8 <| nd @k8 <| nd @yE <| nd @ra <| nd @gl <| @Vy)
theorem lr:type_of% x37.down:=x37.down
def N38:=bB f38
def x38:=PLift.up (by have c:=bD N38 f38;simp only [aL,f38,seval] at c;exact nd c <| nd @zwh <| nd @DN <| nd @QE <| nd @zwi <| nd @tk <| nd @eV <| nd @b8 <| nd @k8 <| nd @yE <| nd @ra <| @Vz)
theorem mG:type_of% x38.down:=x38.down
def N39:=bB f39
def x39:=PLift.up (by have c:=bD N39 f39;simp only [aL,f39,seval] at c;exact nd c <| nd @DN <| nd @zC7 <| nd @tk <| nd @ra <| nd @gH <| nd @Gu <| @VA)
theorem HS:type_of% x39.down:=x39.down
def N65:=bB f65
def x65:=PLift.up (by have c:=bD N65 f65;simp only [aL,f65,seval] at c;exact nd c <| nd @vV <| nd @eV <| nd @b8 <| nd @gH <| @V0)
theorem Cr:type_of% x65.down:=x65.down
structure j4 where
 aR:au
 v:ah
 n:Nat
def j4.cells (x:j4):List ah:=[.string x.aR,x.v,.int .u64 x.n]
theorem Ji (x:j4):x.cells.length=3:=rfl
def za (p0 p1 p2 p5 p6:ah) (q b:Int) (nv:ah):List ah:=[p0,p1,p2,.int .i64 q,.int .i64 b,p5,p6,nv]
def gC (N:Nat) (h:Heap) (S2 NB:Nat) (d:aq) (q:Int) (facts:au->aN) (az:au->Nat):Prop :=
 ∃ p0 p1 p2 p5 p6 b nv rows,Holds h S2 (.row (za p0 p1 p2 p5 p6 q b nv) 78 false)/\fx (aD [NB] h) p0 p1 p2 p5 p6 d/\cN 3 j4.cells h 80 NB nv rows/\rows.map j4.aR=d.ab /\
   (∀ x∈rows,x.n=az x.aR/\Sl aK.atom (aD [NB] h) x.v (facts x.aR))/\S2≠NB/\N<=S2/\N<=NB/\NB < h.size
theorem cN.qZ {Z:Type} {k:Nat} {cell:Z->List ah} {h1:Heap} {u:TypeId} {A:Nat} {v:ah} {l:List Z} (f:cN k cell h u A v l) (i:bH h h1):cN k cell h1 u A v l:=by
 rcases f with f|⟨q,row,e1,e2,e3⟩
 .exact .inl f
 .exact .inr ⟨q,row,e1,e2.mono i,e3⟩
theorem SJ {a b:Heap} {A:Nat} (i:bH a b):bH (aD [A] a) (aD [A] b):=PY i
theorem gC.inc {N S2 NB:Nat} {h2:Heap} {q:Int} {facts:au->aN} {az:au->Nat} (f:gC N h S2 NB d q facts az) (i:bH h h2):gC N h2 S2 NB d q facts az:=by
 obtain ⟨p0,p1,p2,p5,p6,b,nv,rows,e1,e2,e3,e4,e5,e6,e7,e8,e9⟩:=f
 exact ⟨p0,p1,p2,p5,p6,b,nv,rows,e1.mono i,e2.mono (SJ i),cN.qZ e3 i,e4,λx hx=>⟨(e5 x hx).1,(e5 x hx).2.mono (SJ i)⟩,e6,e7,e8,dJ e9 i.size⟩
theorem gC.lay {N S2 NB:Nat} {h:Heap} {d:aq} {q:Int} {facts:au->aN} {az:au->Nat} (f:gC N h S2 NB d q facts az) (bs:List ba) (w:Nat):gC N (h.lay bs w) S2 NB d q facts az:=f.inc (bH.lay _ _ _)
theorem gC.over {N S2 NB:Nat} {h1 h2:Heap} {bs:List ba} {w:Nat} {q:Int} {facts:au->aN} {az:au->Nat} (f:gC N h1 S2 NB d q facts az) (x:Ext (h1.lay bs w) h2):gC N h2 S2 NB d q facts az:=f.inc x.inc.kB
theorem vU (p0 p1 p2 p5 p6 nv:ah) (q b:Int):(za p0 p1 p2 p5 p6 q b nv)[7]? = some nv:=rfl
theorem zC2 (p0 p1 p2 p5 p6 nv:ah) (q b:Int):(za p0 p1 p2 p5 p6 q b nv)[3]? = some (.int .i64 q):=rfl
theorem EG (p0 p1 p2 p5 p6 nv:ah) (q b:Int):cut (za p0 p1 p2 p5 p6 q b nv) 0 7=some (dW p0 p1 p2 p5 p6 q b):=rfl
theorem wY:aG.desc 76=some (.slice 80):=by kernel_rfl
theorem D0:di aG 80=some 3:=by kernel_rfl
theorem TL (rows:List j4) (aR:au) (p0 p1 p2 p5 p6 nv:ah) (q b:Int) (S2 NB:Nat) (h:Heap) (q0:Holds h S2 (.row (za p0 p1 p2 p5 p6 q b nv) 78 false)) (f:cN 3 j4.cells h 80 NB nv rows) (K:aI)
 (sL:∀ (i:Nat) x,rows[i]? = some x->x.aR=aR->∀ h',Ext h h'->K (.int .i64 i) h') (kS:(∀ x∈rows,¬ x.aR=aR)->∀ h',Ext h h'->K (.int .i64 (-1)) h'):Ok prog aG ov 39 [.pointer (some ⟨S2,0,none⟩),.string aR] h K:=by
 have z:=Ext.refl h
 have je:∀ (h:Heap) (K:aI),aH (some nv) h K=K nv h:=λ_ _=>rfl
 have cU:=λ(hh:Heap)=>f.bn wY hh
 have hle:=f.nk
 rw [ao h]
 refine Ok.aw 24 (bu N39) ?_
 simp only [aa,seval,HS]
 obtain ⟨I1,aX⟩:∃ I:Nat->Env->Heap->Prop,I=(λn e h'=>∃ (i:Nat) (h1:Heap),h'=h1.lay [] h1.low/\Ext h h1/\(n=rows.length - i/\i<=rows.length/\(∀ x∈rows.take i,¬ x.aR=aR))/\∃ J:Nat->ah,e=(.pointer (some ⟨S2,0,none⟩)::.string aR::jr J 2 3 (.int .i64 i::jr J 6 20 ([])))):=⟨_,rfl⟩
 refine du I1 _ (by rw [aX];exact ⟨0,_,rfl,z,⟨rfl,by omega,by simp⟩,bm⟩) ?_
 intro n e h' aP
 rw [aX] at aP
 obtain ⟨i,bx,rfl,z,hinv,J,rfl⟩:=aP
 obtain ⟨rfl,hi,aE⟩:=hinv
 have gk:=ei i (by omega)
 have q1:=q0.mono z.inc
 have f1:=cN.qZ f z.inc
 simp only [aa,seval,HS,q1.lay,vU,je,cU]
 refine bq (λaW=>?_) (λkW=>?_)
 .obtain ⟨r,hr⟩:∃ r,rows[i]? = some r:=⟨_,ie (by omega)⟩
  have gr:=f1.ix (kd:=.i64) (i:=i) wY D0 (by omega)
  have c0:=f1.fE (j:=0) hr (by omega) rfl
  simp only [aa,seval,HS,q1.lay,vU,je,gr,c0]
  refine bq (λhe=>?_) (λaS=>?_)
  .simp only [aa,seval,HS]
   exact sL i r hr he _ z.aC
  .simp only [aa,seval,HS]
   rw [gk]
   (rw [aX];with_reducible refine cy (m:=_) ?_ ⟨i+1,_,rfl,z,⟨rfl,by omega,oE (i:=i) (P:=λx:j4=>¬ x.aR=aR) hr aE aS⟩,bm⟩;omega)
 .rw [gA (by omega)] at aE
  simp only [aa,seval,HS]
  exact kS aE _ z.aC
theorem zwl (h:bh d.ab s=false):fG d s a=6:=by unfold fG;rw [fV,h];rfl
theorem zBw (h:bh d.ab s=true) (h1:¬ iC d a=0):fG d s a=iC d a:=by unfold fG;rw [fV,h,aB (by rfl),fV,aA h1]
theorem zBx (h:bh d.ab s=true) (h1:iC d a=0) (h2:a.ground=false):fG d s a=10:=by unfold fG Jg;rw [fV,h,aB (by rfl),fV,aB h1,fV,h2];rfl
theorem zBz (h:bh d.ab s=true) (h1:iC d a=0) (h2:a.ground=true) (h3:¬ a.says=s):fG d s a=11:=by unfold fG Jg;rw [fV,h,aB (by rfl),fV,aB h1,fV,h2,aB (by rfl),fV,oL h3];rfl
theorem zBy (h:bh d.ab s=true) (h1:iC d a=0) (h2:a.ground=true) (h3:a.says=s):fG d s a=0:=by unfold fG Jg;rw [fV,h,aB (by rfl),fV,aB h1,fV,h2,aB (by rfl),fV,pn h3];rfl
theorem zsC (d:aq) (s:au) (a:aj) (p0 p1 p2 p5 p6:ah) (q b:Int) (h:Heap) (bt:(dW p0 p1 p2 p5 p6 q b).all Am.one=true) (hd:fx h p0 p1 p2 p5 p6 d) (K:aI) (hk:∀ h',Ext h h'->K (.int .i64 (fG d s a)) h'):Ok prog aG ov 65 [hU p0 p1 p2 p5 p6 q b,.string s,a.val] h K:=by
 rw [ao h]
 have z:=Ext.refl h
 refine Ok.aw 25 (bu N65) ?_
 simp only [aa,seval,Cr,kG,gI,↓iR,gO,fY]
 refine Hf d.ab s _ _ _ _ _ _ _ _ (hd.s0.lay _ _) _ (λh' x=>?_)
 have q0:=Holds.top (i:=0) x rfl
 have e0:=Holds.top (i:=1) x rfl
 (replace z:=z.an x;rw [ao h'])
 rw [DO]
 cases hh:bh d.ab s
 .rw [zwl hh] at hk
  repeat' (first|simp only [aa,seval,Cr]|((with_reducible apply ct);(· rfl)))
  exact hk _ z.aC
 repeat' (first|simp only [aa,seval,Cr,q0.lay,e0.lay,↓iR,gO,fY,↓eP,ef,dy]|((with_reducible apply ct);(· rfl)))
 refine zjW d a _ _ _ _ _ _ _ _ bt ((hd.mono z.inc).lay _ _) _ (λh' x=>?_)
 (replace z:=z.an x;replace q0:=q0.over x;replace e0:=e0.over x;rw [ao h'])
 simp only [aa,seval,Cr]
 refine iS (λhc=>?_) (λh0=>?_)
 .rw [zBw hh hc] at hk
  simp only [aa,seval,Cr]
  exact hk _ z.aC
 simp only [aa,seval,Cr,e0.lay,↓eP,ef,dy]
 refine zup a _ _ (λh' x=>?_)
 (replace z:=z.an x;replace q0:=q0.over x;replace e0:=e0.over x;rw [ao h'])
 cases hg:a.ground
 .rw [zBx hh h0 hg] at hk
  repeat' (first|simp only [aa,seval,Cr]|((with_reducible apply ct);(· rfl)))
  exact hk _ z.aC
 repeat' (first|simp only [aa,seval,Cr,e0.lay,zqz]|((with_reducible apply bq) <;> intro _)|((with_reducible apply ct);(· rfl)))
 .rw [zBz hh h0 hg (by assumption)] at hk
  exact hk _ z.aC
 .rw [zBy hh h0 hg (by first|assumption|exact Decidable.not_not.1 (by assumption))] at hk
  exact hk _ z.aC
end Go.Proofs.YtmamldleclamjaaGreatDoor
