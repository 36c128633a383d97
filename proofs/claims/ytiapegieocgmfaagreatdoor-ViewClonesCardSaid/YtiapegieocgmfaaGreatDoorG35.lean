/- Walks: the place of an atom; is it there? Written out by fill2.py. No condition. -/
import Derived.Test.YtiapegieocgmfaaGreatDoorG34
import Derived.Test.YtiapegieocgmfaaGreatDoorG25
set_option linter.unusedSimpArgs false
set_option linter.unusedVariables false
set_option maxRecDepth 100000
set_option maxHeartbeats 0
noncomputable section
namespace Go.Proofs.YtiapegieocgmfaaGreatDoor
open Go.Am Tryz
theorem zo2 (l:aS) (a:ak) (v:ab) (h:Heap) (hl:Sl aM.atom h v l) (hs:ef l) (hn:l.length<=1000) (aT:∀ x∈l,x.aW=true) (ha:a.aW=true) (K:aF)
 (hk:∀ h' i,Ext h h'->fm l a i->K (.tuple #[.int .i64 (i:Nat),.bool (bE l a)]) h'):Ok prog aD ov 100 [v,a.val,.func (.func 91) ⟨[]⟩ ⟨[]⟩] h K:=by
 rw [ao h]
 have z:=Ext.refl h
 have iF:=λ(hh:Heap)=>hl.bo bJ hh
 refine Ok.aw 46 (bq J8) ?_
 simp only [aa,seval,gQ,iF,eE]
 refine na (λh' x hq=>?_)
 have q0:=hq 0 _ rfl
 clear hq
 (replace z:=z.an x;rw [ao h'])
 obtain ⟨I1,aU⟩:∃ I:Nat->Env->Heap->Prop,I=(λn e h'=>∃ (i j:Nat) (h1:Heap),h'=h1.lay [] h1.low/\Ext h h1/\(n=j - i/\i<=j/\j<=l.length/\(∀ k,k < i->aX (l.getD k ae) a < 0)/\(∀ k,j<=k->k < l.length->¬ aX (l.getD k ae) a < 0)/\Holds h1 (h.size+0) (.row a.cells 47 false))/\∃ J:Nat->ab,e=(v::J 1::.func (.func 91) ⟨[]⟩ ⟨[]⟩::J 3::.pointer (some ⟨h.size+0,0,none⟩)::jr J 5 3 (.int .i64 l.length::.int .i64 i::.int .i64 j::jr J 11 38 ([])))):=⟨_,rfl⟩
 refine dA I1 _ (by rw [aU];exact ⟨0,l.length,_,rfl,z,⟨rfl,by omega,by omega,λk g=>by omega,λk g1 g2=>by omega,q0⟩,bl⟩) ?_
 intro n e h' aO
 rw [aU] at aO
 obtain ⟨i,j,bC,rfl,z,hinv,J,rfl⟩:=aO
 clear q0
 obtain ⟨rfl,dK,BB,dt,mD,q0⟩:=hinv
 simp only [aa,seval,gQ]
 refine bn (λjw=>?_) (λjw=>?_)
 rotate_left
 .have e:i=j:=by omega
  subst e
  have mn:fm l a i:=⟨BB,dt,mD⟩
  have yq:=mn.has hs
  simp only [aa,seval,gQ]
  refine (dL (by simp only [gQ])) z.aA ?_
  simp only [aa,seval,gQ]
  refine bn (λaO=>?_) (λaO=>?_)
  rotate_left
  .have e:bE l a=false:=by
    cases e:bE l a
    .rfl
    .exact absurd (yq.1 e).1 (by omega)
   rw [e] at hk
   repeat' (first|simp only [aa,seval,gQ]|((with_reducible refine ⟨z.cn.lay _ _,?_⟩);(intro _ h' zz x _);(simp only [bM,bu] at x);replace q0:=q0.over x;(replace z:=zz);(clear zz);rw [ao h']))
   exact hk _ _ z.aA mn
  have hr:l[(i:Int).toNat]? = some (l.getD i ae):=jM (by omega)
  simp only [aa,seval,gQ]
  repeat' ((first|with_reducible refine qI (hl.mono z.inc) bJ bH (by omega) hr (λp hp=>?_)|with_reducible refine ma hp eP bH ?_) <;> simp only [aa,seval,gQ,q0.lay,eE,↓eY,eJ,dX])
  refine Er _ _ (se aT (by omega)) ha _ _ (λh' x=>?_)
  (((with_reducible refine cU ?_ ?_ ?_);(· exact (by (simp only [ck]);have:=z.size;omega));(· exact x));replace z:=z.an x;replace q0:=q0.over x;rw [ao h'])
  simp only [aa,seval,gQ]
  refine lK (λhc=>?_) (λhc=>?_)
  .rw [yq.2 ⟨by omega,hc⟩] at hk
   repeat' (first|simp only [aa,seval,gQ]|((with_reducible refine ⟨z.cn.lay _ _,?_⟩);(intro _ h' zz x _);(simp only [bM,bu] at x);replace q0:=q0.over x;(replace z:=zz);(clear zz);rw [ao h']))
   exact hk _ _ z.aA mn
  .have e:bE l a=false:=by
    cases e:bE l a
    .rfl
    .exact absurd (yq.1 e).2 hc
   rw [e] at hk
   repeat' (first|simp only [aa,seval,gQ]|((with_reducible refine ⟨z.cn.lay _ _,?_⟩);(intro _ h' zz x _);(simp only [bM,bu] at x);replace q0:=q0.over x;(replace z:=zz);(clear zz);rw [ao h']))
   exact hk _ _ z.aA mn
 obtain ⟨e1,e2,e3,e4⟩:=Qq i j (by omega)
 repeat' (simp only [aa,seval,gQ,e1])
 rw [AH rfl rfl rfl (QG _) rfl,e2]
 simp only [aa,seval,gQ,e1]
 rw [QA (by decide),e4]
 simp only [aa,seval,gQ,e1]
 rw [AH rfl rfl rfl (QH _) rfl,e3]
 repeat' (simp only [aa,seval,gQ,e1])
 have vp:i<=(i+j) / 2/\(i+j) / 2 < j:=by omega
 have y4:IntKind.i64.wrap ((((i+j) / 2:Nat):Int)+1)=(((i+j) / 2+1:Nat):Int):=by rw [wrap_i64 (by omega) (by omega)];omega
 generalize (i+j) / 2=y at vp y4 ⊢
 have hr:l[(y:Int).toNat]? = some (l.getD y ae):=jM (by omega)
 refine (dL (by simp only [gQ])) z.aA ?_
 simp only [aa,seval,gQ]
 repeat' ((first|with_reducible refine qI (hl.mono z.inc) bJ bH (by omega) hr (λp hp=>?_)|with_reducible refine ma hp eP bH ?_) <;> simp only [aa,seval,gQ,q0.lay,eE,↓eY,eJ,dX])
 refine Er _ _ (se aT (by omega)) ha _ _ (λh' x=>?_)
 (((with_reducible refine cU ?_ ?_ ?_);(· exact (by (simp only [ck]);have:=z.size;omega));(· exact x));replace z:=z.an x;replace q0:=q0.over x;rw [ao h'])
 simp only [aa,seval,gQ]
 refine bn (λhc=>?_) (λhc=>?_)
 .repeat' (first|simp only [aa,seval,gQ]|((with_reducible refine ⟨z.cn.lay _ _,?_⟩);(intro _ h' zz x _);( simp only [bM,bu] at x );( replace q0:=q0.over x );(replace z:=zz);(clear zz);rw [ao h']))
  rw [y4]
  (rw [aU];(with_reducible refine cy (m:=_) ?_ ⟨y+1,j,_,rfl,z,⟨rfl,by omega,by omega,λk g=>by
   rcases lM k y with e|e
   .exact Cj (QV (iK.1 hs) e (by omega)) hc
   .have e:k=y:=by omega
    subst e
    exact hc,mD,q0⟩,bl⟩);omega)
 .have XP:∀ k,y<=k->k < l.length->¬ aX (l.getD k ae) a < 0:=by
   intro k g1 g2
   rcases Nat.eq_or_lt_of_le g1 with e|e
   .subst e
    exact hc
   .intro g
    exact hc (Cj (QV (iK.1 hs) e g2) g)
  repeat' (first|simp only [aa,seval,gQ]|((with_reducible refine ⟨z.cn.lay _ _,?_⟩);(intro _ h' zz x _);(simp only [bM,bu] at x);replace q0:=q0.over x;(replace z:=zz);(clear zz);rw [ao h']))
  (rw [aU];with_reducible refine cy (m:=_) ?_ ⟨i,y,_,rfl,z,⟨rfl,by omega,by omega,dt,XP,q0⟩,bl⟩;omega)
theorem zsA (l:aS) (a:ak) (v:ab) (h:Heap) (hl:Sl aM.atom h v l) (hs:ef l) (hn:l.length<=1000) (aT:∀ x∈l,x.aW=true) (ha:a.aW=true) (K:aF)
 (hk:∀ h' i,Ext h h'->fm l a i->K (.tuple #[.int .i64 (i:Nat),.bool (bE l a)]) h'):Ok prog aD ov 60 [v,a.val] h K:=by
 rw [ao h]
 have z:=Ext.refl h
 refine Ok.aw 9 (bq N60) ?_
 repeat' (simp only [aa,seval,c60,eE,↓eY,eJ,dX])
 refine zo2 l a v _ (hl.lay _ _) hs hn aT ha _ (λh' i x hp=>?_)
 (replace z:=z.an x;rw [ao h'])
 generalize bE l a=b at hk ⊢
 cases b
 all_goals
  repeat' (simp only [aa,seval,c60])
  exact hk _ _ z.aA hp
end Go.Proofs.YtiapegieocgmfaaGreatDoor

namespace Go.Proofs.YtiapegieocgmfaaGreatDoor
open Go.Am Tryz
variable {A n:Nat} {u:TypeId} {s:aS} {v:ab} {h h0:Heap}
def N35:=bA f35
def x35:=PLift.up (by have c:=bB N35 f35;simp only [aN,f35,seval] at c;exact nd c <| nd @sM <| nd @cq <| @VI)
theorem Ik:type_of% x35.down:=x35.down
def N36:=bA f36
def x36:=PLift.up (by have c:=bB N36 f36;simp only [aN,f36,seval] at c;exact nd c <| nd @cq <| @VJ)
theorem LJ:type_of% x36.down:=x36.down
def N62:=bA f62
def x62:=PLift.up (by have c:=bB N62 f62;simp only [aN,f62,seval] at c;exact nd c <| nd @je <| @V6)
theorem C4:type_of% x62.down:=x62.down
theorem zCF (s:aS) (a:ak) (i:Nat) (w:ab) (h h1:Heap) (z:Ext h h1) (ho:dG h h1 47 w s) (hn:s.length<=10000) (aO:i<=s.length) (lw:Nat) (ta:min h1.low h1.size<=lw) (K:aF)
 (hk:∀ h' w',Ext h h'->dG h h' 47 w' (s.take i++a::s.drop i)->K w' h'):Ok prog aD ov 61 [w,.int .i64 i,.slice (some ⟨h1.size+0,0,none⟩) 1 1] (h1.lay [.row a.cells 47 false] lw) K:=by
 obtain ⟨w',H',e,IH,A,hA,c⟩:=zwj (i:=i) (a:=a) (lw:=lw) zso TI (by decide) (by decide) z.size ho hn aO
 exact Ok.over rfl e (hk _ _ (z.cM c hA ta) IH)
theorem zCE (l:aS) (a:ak) (v:ab) (h:Heap) (hl:Sl aM.atom h v l) (hn:l.length<=900) (aT:∀ x∈l,x.aW=true) (ha:a.aW=true) (K:aF)
 (hk:∀ h' w,Ext h h'->dG h h' 47 w (cD a (eo l))->K (.tuple #[w,.bool (!bE l a)]) h'):Ok prog aD ov 35 [v,a.val] h K:=by
 rw [ao h]
 have z:=Ext.refl h
 refine Ok.aw 22 (bq N35) ?_
 simp only [aa,seval,Ik,eE]
 refine zwN l v _ (hl.lay _ _) hn aT _ (λh' w x ho=>?_)
 replace ho:=ho.down (h0:=h) (by rw [bc];omega)
 have q0:=Holds.top (i:=0) x rfl
 (replace z:=z.an x;rw [ao h'])
 have bR:∀ (h:Heap) (K:aF),aC (some w) h K=K w h:=λ_ _=>rfl
 repeat' (simp only [aa,seval,Ik,bR,q0.lay,eE,↓eY,eJ,dX])
 have Dq:=zp l
 refine zsA (eo l) a w _ (ho.sl.lay _ _) (qG l).hY (by omega) (D5 aT) ha _ (λh' i x hp=>?_)
 replace ho:=(ho.lay _ _).mono x.inc
 (replace z:=z.an x;replace q0:=q0.over x;rw [ao h'])
 cases hb:bE (eo l) a
 .have BL:=zpl hp hb
  rw [Ji] at hb
  repeat' (simp only [aa,seval,Ik,bR,q0.lay,eE,↓eY,eJ,dX])
  repeat' (simp only [aa,seval,Ik,Jh])
  rw [hb] at hk
  have hz:=z.size
  refine zCF (eo l) a i w h h' z ho (by omega) hp.le _ (by omega) _ (λh' w' x ho=>?_)
  replace z:=x
  rw [BL] at ho
  have bR:∀ (h:Heap) (K:aF),aC (some w') h K=K w' h:=λ_ _=>rfl
  rw [ao h']
  repeat' (simp only [aa,seval,Ik,bR])
  exact hk _ _ z.aA (ho.lay _ _)
 .have BL:=zrh (qG l).hY hb
  rw [Ji] at hb
  rw [hb,BL] at hk
  repeat' (simp only [aa,seval,Ik,bR])
  exact hk _ _ z.aA (ho.lay _ _)
theorem zCN {T:bI} {t:TypeId} {q i j:Nat} {k1 k2 k3:IntKind} (hd:T.desc t=some (.slice u)) (hs:dg T u=some 11) (dK:i<=j) (hj:j<=n) (hn:n<=q) (hq:q<=100000) :
 kV T t (.slice (some ⟨A,0,none⟩) n (G*11+q)) (some (.int k1 i)) (some (.int k2 j)) (some (.int k3 n))=some (.slice (some ⟨A,if n=i then 0 else 0+i*11,none⟩) (j - i) (n - i)):=by
 have hG:=wj
 obtain ⟨d1,d2,d3⟩:=xd (k:=11) (q:=q) (by decide) (by omega)
 unfold kV
 simp only [hd,hs,dM]
 rw [az (by omega),d2,aE rfl,d3]
 unfold rF
 simp only [Ho hn,Ho hj,Ho dK,dM,jn]
theorem zy8 {T:bI} {t:TypeId} {q i j:Nat} {k1 k2:IntKind} (hd:T.desc t=some (.slice u)) (hs:dg T u=some 11) (dK:i<=j) (hj:j<=q) (hq:q<=100000) :
 kV T t (.slice (some ⟨A,0,none⟩) n (G*11+q)) (some (.int k1 i)) (some (.int k2 j)) none=some (.slice (some ⟨A,0+i*11,none⟩) (j - i) (G*11+(q - i))):=by
 have hG:=wj
 obtain ⟨d1,d2,d3⟩:=xd (k:=11) (q:=q) (by decide) (by omega)
 unfold kV
 simp only [hd,hs,dM]
 rw [az (by omega),d2,aE rfl,d3]
 unfold rF
 simp only [Ho hj,Ho dK,dM,jn]
def ja (h0 h:Heap) (u:TypeId) (v:ab) (s:aS):Prop:=∃ A t,v=.slice (some ⟨A,0,none⟩) s.length (G*11+(s++t).length)/\Holds h A (.row (aP (s++t)) u false)/\h0.size<=A/\(s++t).length<=100000
theorem dG.b (f:dG h0 h u v s) (hs:s≠[]):ja h0 h u v s:=by
 rcases f with ⟨e,_⟩|f
 .exact absurd e hs
 .exact f
theorem ja.a (f:ja h0 h u v s):dG h0 h u v s:=.inr f
theorem ja.lay {h0 h:Heap} {u:TypeId} {v:ab} {s:aS} (f:ja h0 h u v s) (bs:List ba) (w:Nat):ja h0 (h.lay bs w) u v s:=by
 obtain ⟨A,t,e1,e2,e3⟩:=f
 exact ⟨A,t,e1,e2.on _ _,e3⟩
theorem ja.down {h1:Heap} (f:ja h1 h u v s) (i:h0.size<=h1.size):ja h0 h u v s:=by
 obtain ⟨A,t,e1,e2,e3,e4⟩:=f
 exact ⟨A,t,e1,e2,by omega,e4⟩
theorem ja.over {h0 h h2:Heap} {bs:List ba} {w:Nat} {u:TypeId} {v:ab} {s:aS} (f:ja h0 h u v s) (x:Ext (h.lay bs w) h2):ja h0 h2 u v s:=by
 obtain ⟨A,t,e1,e2,e3⟩:=f
 exact ⟨A,t,e1,e2.over x,e3⟩
theorem ja.kill {D:List Nat} (f:ja h0 h u v s) (hD:∀ B∈D,B < h0.size):Sl aM.atom (aG D h) v s:=by
 obtain ⟨A,t,e1,e2,e3,e4⟩:=f
 have hA:A ∉ D:=λhm=>by have:=hD A hm;omega
 exact dG.sl (h0:=h0) (u:=u) (.inr ⟨A,t,e1,⟨by rw [iC];exact e2.lt,by rw [oS hA];exact e2.get⟩,e3,e4⟩)
theorem zxh {c:Nat} {t:aS} (q:Holds h A (.row (aP (s++t)) u false)) (hA:h0.size<=A) (hn:(s++t).length<=100000) (hl:n=s.length) (hc:c=G*11+(s++t).length):ja h0 h u (.slice (some ⟨A,0,none⟩) n c) s:=by
 subst hl hc
 exact ⟨A,t,rfl,q,hA,hn⟩
theorem zxp {Z:Type} {r:aM Z} {l:List Z} (f:Sl r h v l):∃ a n c,v=.slice a n c:=by
 rcases f with ⟨rfl,_⟩|⟨A,o,c,row,u,ro,rfl,_⟩ <;> exact ⟨_,_,_,rfl⟩
theorem zud (s:aS) (i:Nat) (w:ab) (h hs:Heap) (z:Ext h hs) (ho:dG h hs 47 w s) (hn:s.length<=10000) (aO:i < s.length) (K:aF)
 (hk:∀ h' w',Ext h h'->ja h h' 47 w' (s.take i++s.drop (i+1))->K w' h'):Ok prog aD ov 62 [w,.int .i64 i,.int .i64 ((i+1:Nat):Int)] hs K:=by
 rcases ho with ⟨rfl,_⟩|⟨A,t,rfl,q,hA,hle⟩
 .simp at aO
 have oa:s.length<=(s++t).length:=by rw [dy];omega
 rw [ao hs]
 refine Ok.aw 30 (bq N62) ?_
 simp only [aa,seval,C4,zCN bJ bH (show i<=i+1 by omega) aO oa hle]
 refine lK (λhh=>absurd hh (by omega)) (λ_=>?_)
 repeat' (simp only [aa,seval,C4])
 refine (dL (by simp only [C4])) z.aA ?_
 simp only [aa,seval,C4,zxb bJ bH (show i<=s.length by omega) oa hle,zjx bJ bH (show i+1<=s.length by omega) oa hle,mr,xp]
 obtain ⟨h2,e2,q2,c2⟩:=ztG (i:=i) (C2:=G*11+((s++t).length - (i+1))) bJ TI (by decide) (q.on _ _) aO hn hle
 rw [e2]
 simp only [aa,seval,C4]
 have hzz:=z.size
 refine og (A:=A) (by kernel_rfl) (by rw [bc];omega) (by omega) (by simpa only [bM,bc,bu,dn,dN,jo,iU] using c2) ?_
 replace z:=z.cM c2 hA (by omega)
 rw [ao h2]
 clear q
 repeat' (first|simp only [aa,seval,C4]|((with_reducible refine ⟨z.cn.lay _ _,?_⟩);(intro _ h' zz x _);(simp only [bM,bu] at x);replace q2:=q2.over x;(replace z:=zz);(clear zz);rw [ao h']))
 have fR:(s.take i++s.drop (i+1)).length=s.length - 1:=by simp only [dy,gh,kP];omega
 have iE:(s.take i++s.drop (i+1)++(s.drop (s.length - 1)++t)).length=(s++t).length:=by
  rw [dy,fR,dy,dy,kP]
  omega
 simp only [aa,seval,C4,zy8 bJ bH (show s.length - 1<=s.length by omega) oa hle,zxY]
 refine zvO (i:=s.length - 1) (n:=s.length - (s.length - 1)) q2 bJ tD (by rw [iE];omega) (λh3 q3 c3=>?_)
 replace z:=z.cM c3 hA (by omega)
 rw [ao h3]
 clear q2
 repeat' (simp only [aa,seval,C4])
 rw [List.take_left' fR] at q3
 have M1:(s.take i++s.drop (i+1)++(List.replicate (s.length - (s.length - 1)) ae++(s.take i++s.drop (i+1)++(s.drop (s.length - 1)++t)).drop (s.length - 1+(s.length - (s.length - 1))))).length=(s++t).length:=by
  rw [dy,fR,dy,HY,kP,iE,dy]
  omega
 exact hk _ _ z.aA (zxh (q3.on _ _) hA (by rw [M1];exact hle) fR.symm (by rw [M1]))
theorem zum (l:aS) (a:ak) (v:ab) (h:Heap) (hl:Sl aM.atom h v l) (hn:l.length<=900) (aT:∀ x∈l,x.aW=true) (ha:a.aW=true) (K:aF)
 (hk:∀ h' w,Ext h h'->(∃ a n c,w=.slice a n c)->(bE l a=true->ja h h' 47 w (eQ a (eo l)))->K (.tuple #[w,.bool (bE l a)]) h'):Ok prog aD ov 36 [v,a.val] h K:=by
 rw [ao h]
 have z:=Ext.refl h
 refine Ok.aw 23 (bq N36) ?_
 simp only [aa,seval,LJ,eE]
 refine zwN l v _ (hl.lay _ _) hn aT _ (λh' w x ho=>?_)
 replace ho:=ho.down (h0:=h) (by rw [bc];omega)
 have q0:=Holds.top (i:=0) x rfl
 (replace z:=z.an x;rw [ao h'])
 have bR:∀ (h:Heap) (K:aF),aC (some w) h K=K w h:=λ_ _=>rfl
 repeat' (simp only [aa,seval,LJ,bR,q0.lay,eE,↓eY,eJ,dX])
 have Dq:=zp l
 refine zsA (eo l) a w _ (ho.sl.lay _ _) (qG l).hY (by omega) (D5 aT) ha _ (λh' i x hp=>?_)
 replace ho:=(ho.lay _ _).mono x.inc
 (replace z:=z.an x;replace q0:=q0.over x;rw [ao h'])
 cases hb:bE (eo l) a
 .have BL:=zzX hb
  rw [Ji] at hb
  rw [hb,BL] at hk
  repeat' (first|simp only [aa,seval,LJ,bR]|((with_reducible apply bX);(· rfl)))
  exact hk _ _ z.aA (zxp ho.sl) (λe=>absurd e (by decide))
 .obtain ⟨iX,BL⟩:=zvW (qG l).hY hp hb
  rw [Ji] at hb
  have fH:=ei i (by omega)
  repeat' (first|simp only [aa,seval,LJ,bR,fH]|((with_reducible apply bX);(· rfl)))
  rw [hb] at hk
  refine zud (eo l) i w h _ z.aA (ho.lay _ _) (by omega) iX _ (λh' w' x ho=>?_)
  replace z:=x
  rw [BL] at ho
  have bR:∀ (h:Heap) (K:aF),aC (some w') h K=K w' h:=λ_ _=>rfl
  rw [ao h']
  repeat' (simp only [aa,seval,LJ,bR])
  exact hk _ _ z.aA (zxp ho.a.sl) (λ_=>ho.lay _ _)
end Go.Proofs.YtiapegieocgmfaaGreatDoor
