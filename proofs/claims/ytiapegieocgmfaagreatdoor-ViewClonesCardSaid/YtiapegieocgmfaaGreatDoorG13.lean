/- Merging in place: plain facts. No condition. -/
import Derived.Test.YtiapegieocgmfaaGreatDoorG12
set_option linter.unusedSimpArgs false
set_option linter.unusedVariables false
namespace Go.Am
variable {a b c e i j k m mid r s:Nat} {l l' l1:aS}
theorem Jg (a:ak):aX a a=0:=Ql _
theorem zhn {a b c:ak} (h1:aX a b<=0) (h2:aX b c < 0):aX a c < 0:=by
 by_cases h:aX a c < 0
 .exact h
 .have h3:=Hk (Jy h) h1
  have h4:=wZ b c
  omega
theorem P8 {a b c:ak} (h1:aX a b < 0) (h2:aX b c<=0):aX a c < 0:=by
 by_cases h:aX a c < 0
 .exact h
 .have h3:=Hk h2 (Jy h)
  have h4:=wZ a b
  omega
theorem zo (h:iA l a b) (hi:a<=i) (dK:i<=j) (hj:j < b):aX (l.getD i ae) (l.getD j ae)<=0:=by
 induction j with
 |zero =>
  have:i=0:=by omega
  subst this
  rw [Jg]
  exact Int.le_refl _
 |succ j ih =>
  by_cases e:i=j+1
  .subst e
   rw [Jg]
   exact Int.le_refl _
  .exact Hk (ih (by omega) (by omega)) (h (j+1) (by omega) hj)
structure Mv (l l':aS) (a b:Nat):Prop where
 perm:l'.Perm l
 out:Hy l l' a b
 Om:∀ i,a<=i->i < b->∃ j,a<=j/\j < b/\l'.getD i ae=l.getD j ae
 zk:fb l l'
theorem Mv.refl (l:aS) (a b:Nat):Mv l l a b:=⟨List.Perm.refl _,λ_ _=>rfl,λi h1 h2=>⟨i,h1,h2,rfl⟩,fb.refl l⟩
theorem Mv.trans {l l1 l2:aS} {a b:Nat} (x:Mv l l1 a b) (y:Mv l1 l2 a b):Mv l l2 a b:=⟨y.perm.trans x.perm,λk hk=>(y.out k hk).trans (x.out k hk),λi h1 h2=>by
 obtain ⟨j,g1,g2,g3⟩:=y.Om i h1 h2
 obtain ⟨k,f1,f2,f3⟩:=x.Om j g1 g2
 exact ⟨k,f1,f2,g3.trans f3⟩,x.zk.trans y.zk⟩
theorem Mv.zn {a' b':Nat} (x:Mv l l' a b) (ha:a'<=a) (hb:b<=b'):Mv l l' a' b':=⟨x.perm,λk hk=>x.out k (by omega),λi h1 h2=>by
 by_cases h:a<=i/\i < b
 .obtain ⟨j,g1,g2,g3⟩:=x.Om i h.1 h.2
  exact ⟨j,by omega,by omega,g3⟩
 .exact ⟨i,h1,h2,x.out i (by omega)⟩,x.zk⟩
theorem Mv.swap (hi:a<=i/\i < b) (hj:a<=j/\j < b) (hb:b<=l.length) (hs:fb l (lA l i j)):Mv l (lA l i j) a b:=by
 have g:=λk=>D8 (l:=l) (i:=i) (j:=j) (by omega) (by omega) k
 refine ⟨zhD (by omega) (by omega),λk hk=>?_,λk h1 h2=>?_,hs⟩
 .rw [g,az (by omega),az (by omega)]
 .rw [g]
  split
  .exact ⟨i,by omega,by omega,rfl⟩
  .split
   .exact ⟨j,by omega,by omega,rfl⟩
   .exact ⟨k,h1,h2,rfl⟩
def Ev (l l1:aS) (s m e:Nat):Prop:=∀ k,l1.getD k ae=if s<=k/\k < e then (if k < s+(e - m) then l.getD (k+(m - s)) ae else l.getD (k - (e - m)) ae) else l.getD k ae
theorem zzG (hs:s<=m) (he:m<=e) (h:s=m\/m=e):Ev l l s m e:=by
 intro k
 repeat' split
 all_goals first|rfl|(exfalso;omega)|(congr 1;omega)
theorem zzF (h:Ev l l1 s m e) (hs:s<=m) (he:m<=e) (hp:l1.Perm l) (fj:fb l l1):Mv l l1 s e:=by
 refine ⟨hp,λk hk=>?_,λk h1 h2=>?_,fj⟩
 .rw [h,az (by omega)]
 .rw [h,aE ⟨h1,h2⟩]
  split
  .exact ⟨k+(m - s),by omega,by omega,rfl⟩
  .exact ⟨k - (e - m),by omega,by omega,rfl⟩
theorem zA6 (h2:iA l (a+1) b) (hmi:a+1<=i) (Sc:i<=b) (hl:i=a+1\/aX (l.getD (i - 1) ae) (l.getD a ae) < 0) (hr:i=b\/¬ aX (l.getD i ae) (l.getD a ae) < 0)
 (Nv:∀ x,l'.getD x ae=if a<=x/\x < i - 1 then l.getD (x+1) ae else if x=i - 1 then l.getD a ae else l.getD x ae):iA l' a b:=by
 intro p h1 h3
 rw [Nv,Nv]
 by_cases c1:p < i - 1
 .rw [aE (by omega),aE (by omega)]
  have:=h2 (p+1) (by omega) (by omega)
  rw [CL] at this
  rw [show p - 1+1=p by omega]
  exact this
 .by_cases c2:p=i - 1
  .subst c2
   rw [aE (by omega),az (by omega),aE rfl,show i - 1 - 1+1=i - 1 by omega]
   rcases hl with hl|hl
   .omega
   .exact Int.le_of_lt hl
  .by_cases c3:p=i
   .subst c3
    rw [az (by omega),aE rfl,az (by omega),az (by omega)]
    rcases hr with hr|hr
    .omega
    .exact Jy hr
   .rw [az (by omega),az (by omega),az (by omega),az (by omega)]
    exact h2 p (by omega) h3
theorem zyw (h1:iA l a m) (R1:a<=i) (vt:i<=m) (hl:i=a\/¬ aX (l.getD m ae) (l.getD (i - 1) ae) < 0) (hr:i=m\/aX (l.getD m ae) (l.getD i ae) < 0)
 (Nv:∀ x,l'.getD x ae=if x=i then l.getD m ae else if i < x/\x<=m then l.getD (x - 1) ae else l.getD x ae):iA l' a (m+1):=by
 intro p h2 h3
 rw [Nv,Nv]
 by_cases c1:p < i
 .rw [az (by omega),az (by omega),az (by omega),az (by omega)]
  exact h1 p h2 (by omega)
 .by_cases c2:p=i
  .subst c2
   rw [az (by omega),az (by omega),aE rfl]
   rcases hl with hl|hl
   .omega
   .exact Jy hl
  .by_cases c3:p=i+1
   .subst c3
    rw [aE (by omega),az (by omega),aE (by omega),CL]
    rcases hr with hr|hr
    .omega
    .exact Int.le_of_lt hr
   .rw [az (by omega),aE (by omega),az (by omega),aE (by omega)]
    exact h1 (p - 1) (by omega) (by omega)
structure pG (l:aS) (a m b mid s:Nat):Prop where
 lo:a<=s
 hi:s<=m
 vt:s<=mid
 ge:m<=mid+m - s
 le:mid+m - s<=b
 cl:s=a\/mid+m - s=b\/aX (l.getD (s - 1) ae) (l.getD (mid+m - s) ae)<=0
 cr:s=m\/s=mid\/aX (l.getD (mid+m - 1 - s) ae) (l.getD s ae) < 0
theorem zru (h1:iA l a m) (h2:iA l m b) (p:pG l a m b mid s) (t:Ev l l1 s m (mid+m - s)) :
 iA l1 a s/\iA l1 s mid/\iA l1 mid (mid+m - s)/\iA l1 (mid+m - s) b:=by
 obtain ⟨lo,hi,vt,ge,le,cl,cr⟩:=p
 refine ⟨λk g1 g2=>?_,λk g1 g2=>?_,λk g1 g2=>?_,λk g1 g2=>?_⟩
 .rw [t,t,az (by omega),az (by omega)]
  exact h1 k g1 (by omega)
 .rw [t,t,aE (by omega),aE (by omega),aE (by omega),aE (by omega),show k - 1+(m - s)=k+(m - s) - 1 by omega]
  exact h2 _ (by omega) (by omega)
 .rw [t,t,aE (by omega),az (by omega),aE (by omega),az (by omega),show k - 1 - (mid+m - s - m)=k - (mid+m - s - m) - 1 by omega]
  exact h1 _ (by omega) (by omega)
 .rw [t,t,az (by omega),az (by omega)]
  exact h2 k (by omega) g2
theorem zrt (h1:iA l a m) (h2:iA l m b) (p:pG l a m b mid s) (t:Ev l l1 s m (mid+m - s)) (hi:a<=i) (vt:i < mid) (hj:mid<=j) (hjb:j < b) :
 aX (l1.getD i ae) (l1.getD j ae)<=0:=by
 obtain ⟨lo,wL,amI,ge,le,cl,cr⟩:=p
 rw [t,t]
 by_cases c1:s<=i
 .-- from behind m
  rw [aE (by omega),aE (by omega)]
  by_cases c2:j < mid+m - s
  .rw [aE (by omega),az (by omega)]
   rcases cr with cr|cr|cr
   .omega
   .omega
   .exact Hk (zo h2 (i:=i+(m - s)) (j:=mid+m - 1 - s) (by omega) (by omega) (by omega)) (Hk (Int.le_of_lt cr) (zo h1 (i:=s) (by omega) (by omega) (by omega)))
  .rw [az (by omega)]
   exact zo h2 (by omega) (by omega) hjb
 .rw [az (by omega)]
  by_cases c2:j < mid+m - s
  .rw [aE (by omega),az (by omega)]
   exact zo h1 hi (by omega) (by omega)
  .rw [az (by omega)]
   rcases cl with cl|cl|cl
   .omega
   .omega
   .exact Hk (zo h1 (i:=i) (j:=s - 1) hi (by omega) (by omega)) (Hk cl (zo h2 (i:=mid+m - s) (by omega) (by omega) hjb))
theorem zoX {l2 l3:aS} (hc:∀ i j,a<=i->i < mid->mid<=j->j < b->aX (l1.getD i ae) (l1.getD j ae)<=0) (x:Mv l1 l2 a mid) (y:Mv l2 l3 mid b) (h2:iA l2 a mid) (h3:iA l3 mid b):iA l3 a b:=by
 intro p h4 h5
 by_cases c1:p < mid
 .rw [y.out _ (.inl (by omega)),y.out _ (.inl c1)]
  exact h2 p h4 c1
 .by_cases c2:p=mid
  .subst c2
   obtain ⟨j,g1,g2,g3⟩:=y.Om p (by omega) h5
   obtain ⟨i,f1,f2,f3⟩:=x.Om (p - 1) (by omega) (by omega)
   rw [y.out _ (.inl (by omega)),g3,x.out j (.inr (by omega)),f3]
   exact hc i j f1 f2 g1 g2
  .exact h3 p (by omega) h5
def xE (l l1:aS) (a k:Nat):Prop:=∀ x,l1.getD x ae=if a<=x/\x < k then l.getD (x+1) ae else if x=k then l.getD a ae else l.getD x ae
theorem zu8 (l:aS) (a:Nat):xE l l a a:=by
 intro x
 repeat' split
 all_goals first|rfl|(exfalso;omega)|(congr 1;done)|(subst x;rfl)
theorem zxU (h:xE l l1 a k) (hak:a<=k) (hk:k+1 < l1.length):xE l (lA l1 k (k+1)) a (k+1):=by
 intro x
 rw [D8 (by omega) (by omega),h x,h k,h (k+1)]
 repeat' split
 all_goals first|rfl|(exfalso;omega)|(congr 1;omega)
def QY (l l1:aS) (m k:Nat):Prop:=∀ x,l1.getD x ae=if x=k then l.getD m ae else if k < x/\x<=m then l.getD (x - 1) ae else l.getD x ae
theorem zop (l:aS) (m:Nat):QY l l m m:=by
 intro x
 repeat' split
 all_goals first|rfl|(exfalso;omega)|(subst x;rfl)
theorem zqH (h:QY l l1 m k) (wM:0 < k) (hkm:k<=m) (hm:m < l1.length):QY l (lA l1 k (k - 1)) m (k - 1):=by
 intro x
 rw [D8 (by omega) (by omega),h x,h k,h (k - 1)]
 repeat' split
 all_goals first|rfl|(exfalso;omega)|(congr 1;omega)
structure iJ (l:aS) (a m b mid s r:Nat):Prop where
 sr:s<=r
 IW:m<=mid->a<=s/\r<=m
 IX:mid < m->mid+m - b<=s/\r<=mid
 cl:(s=a/\m<=mid)\/(mid < m/\s=mid+m - b)\/aX (l.getD (s - 1) ae) (l.getD (mid+m - s) ae)<=0
 cr:(r=m/\m<=mid)\/(mid < m/\r=mid)\/aX (l.getD (mid+m - 1 - r) ae) (l.getD r ae) < 0
theorem zzw (Bv:a < m) (h:m<=mid):iJ l a m b mid a m:=⟨by omega,λ_=>by omega,λ_=>by omega,.inl ⟨rfl,h⟩,.inl ⟨rfl,h⟩⟩
theorem zzx (BE:m < b) (h:mid < m):iJ l a m b mid (mid+m - b) mid:=⟨by omega,λ_=>by omega,λ_=>by omega,.inr (.inl ⟨h,rfl⟩),.inr (.inl ⟨h,rfl⟩)⟩
theorem zxB (h:iJ l a m b mid s r) (h1:s<=c) (h2:c < r) (hc:¬ aX (l.getD (mid+m - 1 - c) ae) (l.getD c ae) < 0):iJ l a m b mid (c+1) r:=by
 refine ⟨by omega,λg=>?_,λg=>?_,.inr (.inr ?_),h.cr⟩
 .have:=h.IW g;omega
 .have:=h.IX g;omega
 .rw [CL,show mid+m - (c+1)=mid+m - 1 - c by omega]
  exact Jy hc
theorem zrD (h:iJ l a m b mid s r) (h1:s<=c) (h2:c < r) (hc:aX (l.getD (mid+m - 1 - c) ae) (l.getD c ae) < 0):iJ l a m b mid s c:=by
 refine ⟨h1,λg=>?_,λg=>?_,h.cl,.inr (.inr hc)⟩
 .have:=h.IW g;omega
 .have:=h.IX g;omega
theorem zlQ (h:iJ l a m b mid s s) (Bv:a < m) (BE:m < b) (il:2*mid<=a+b) (kc:a+b<=2*mid+1):pG l a m b mid s:=by
 obtain ⟨sr,IW,IX,cl,cr⟩:=h
 rcases lM mid m with g|g
 .obtain ⟨f1,f2⟩:=IX g
  refine ⟨by omega,by omega,f2,by omega,by omega,?_,?_⟩
  .rcases cl with ⟨e,_⟩|⟨_,e⟩|e
   .exact .inl e
   .exact .inr (.inl (by omega))
   .exact .inr (.inr e)
  .rcases cr with ⟨e,_⟩|⟨_,e⟩|e
   .exact .inl e
   .exact .inr (.inl e)
   .exact .inr (.inr e)
 .obtain ⟨f1,f2⟩:=IW g
  refine ⟨f1,f2,by omega,by omega,by omega,?_,?_⟩
  .rcases cl with ⟨e,_⟩|⟨_,e⟩|e
   .exact .inl e
   .exact .inr (.inl (by omega))
   .exact .inr (.inr e)
  .rcases cr with ⟨e,_⟩|⟨_,e⟩|e
   .exact .inl e
   .exact .inr (.inl e)
   .exact .inr (.inr e)
theorem zxA (h:iJ l a m b mid s r) (h1:s<=c) (h2:c < r) (Bv:a < m) (BE:m < b) (il:2*mid<=a+b) (kc:a+b<=2*mid+1):c+1<=m/\m<=mid+m - 1 - c/\mid+m - 1 - c < b/\c+1<=mid+m:=by
 rcases lM mid m with g|g
 .obtain ⟨f1,f2⟩:=h.IX g
  omega
 .obtain ⟨f1,f2⟩:=h.IW g
  omega
theorem SQ (h:iA l a b) (he:∀ k,a<=k->k < b->l'.getD k ae=l.getD k ae):iA l' a b:=by
 intro k h1 h2
 rw [he k (by omega) h2,he (k - 1) (by omega) (by omega)]
 exact h k h1 h2
theorem zzb (hs:s<=m) (he:m<=e) (hl:e<=l.length):l=l.take s++((l.take m).drop s++((l.take e).drop m++l.drop e)):=by
 apply qN
 intro k
 simp only [xw,gh,kP,mi,lL]
 repeat' split
 all_goals first|rfl|(exfalso;omega)|(congr 1;omega)
theorem zBM (t:Ev l l1 s m e) (hs:s<=m) (he:m<=e) (hl:e<=l.length) (hlen:l1.length=l.length):l1=l.take s++((l.take e).drop m++((l.take m).drop s++l.drop e)):=by
 refine zmF (by simp only [dy,gh,kP];omega) (λk=>?_)
 rw [t k]
 simp only [lB,xw,gh,kP,mi,lL]
 repeat' split
 all_goals first|rfl|(exfalso;omega)|(congr 2;omega)
theorem zxQ (t:Ev l l1 s m e) (hs:s<=m) (he:m<=e) (hl:e<=l.length) (hlen:l1.length=l.length) (aQ:∀ i j,s<=i->i < m->m<=j->j < e->cL (l.getD i ae)≠cL (l.getD j ae)):fb l l1:=by
 intro x
 rw [zBM t hs he hl hlen]
 conv=>rhs;rw [zzb hs he hl]
 simp only [AO]
 by_cases hu:((l.take m).drop s).filter (λy=>cL y == x)=[]
 .rw [hu]
  simp
 .have hv:((l.take e).drop m).filter (λy=>cL y == x)=[]:=by
   rw [JB]
   intro y hy y5
   apply hu
   rw [JB]
   intro z hz hzx
   obtain ⟨j,hj⟩:=uL hy
   obtain ⟨i,hi⟩:=uL hz
   rw [lL,mi] at hj hi
   split at hj
   .split at hi
    .rename_i g1 g2
     refine aQ (s+i) (m+j) (by omega) g2 (by omega) g1 ?_
     rw [lB,lB,hj,hi]
     simp only [JX]
     rw [beq_iff_eq] at y5 hzx
     rw [y5,hzx]
    .cases hi
   .cases hj
  rw [hv]
  simp
theorem zuK (h1:iA l a m) (h2:iA l m b) (p:pG l a m b mid s) (t:Ev l l1 s m (mid+m - s)) (hb:b<=l.length) (hlen:l1.length=l.length):fb l l1:=by
 obtain ⟨lo,hi,vt,ge,le,cl,cr⟩:=p
 refine zxQ t hi ge (by omega) hlen (λi j g1 g2 g3 g4 e=>?_)
 rcases cr with cr|cr|cr
 .omega
 .omega
 .have f1:=zo h2 (i:=j) (j:=mid+m - 1 - s) g3 (by omega) (by omega)
  have f2:=zo h1 (i:=s) (j:=i) lo g1 g2
  exact Jt (P8 (zhn f1 cr) f2) e.symm
theorem zxV (h2:iA l (a+1) b) (Sc:i<=b) (hl:i=a+1\/aX (l.getD (i - 1) ae) (l.getD a ae) < 0) (hak:a<=k) (hk:k < i - 1) (u:xE l l1 a k):aX (l1.getD (k+1) ae) (l1.getD k ae) < 0:=by
 rw [u,u,az (by omega),az (by omega),az (by omega),aE rfl]
 rcases hl with hl|hl
 .omega
 .exact zhn (zo h2 (i:=k+1) (j:=i - 1) (by omega) (by omega) (by omega)) hl
theorem zqI (h1:iA l a m) (R1:a<=i) (hr:i=m\/aX (l.getD m ae) (l.getD i ae) < 0) (vq:i < k) (hkm:k<=m) (u:QY l l1 m k):aX (l1.getD k ae) (l1.getD (k - 1) ae) < 0:=by
 rw [u,u,aE rfl,az (by omega),az (by omega)]
 rcases hr with hr|hr
 .omega
 .exact P8 hr (zo h1 (i:=i) (j:=k - 1) R1 (by omega) (by omega))
end Go.Am
namespace Go.Am
variable {a n w:Nat} {l:aS}
theorem TV {P:Program} {T:bI} {t:TypeId} {k:IntKind} {a b:Int}:cz P T .mul t (.int k a) (.int k b)=some (.int k (k.wrap (a*b))):=by
 have h1:((T.desc t).bind λd=>EB d (.int k a) (.int k b))=none:=by
  cases T.desc t with
  |none=>rfl
  |some d=>cases d <;> rfl
 have h2:jh P (binOp .mul t (.int k a) (.int k b))=some (.int k (k.wrap (a*b))):=by
  simp [binOp,Op.intArith,AE]
 unfold cz
 have hf:sk .mul (.int k a) (.int k b)=none:=rfl
 rw [hf]
 simp [h1,h2]
 exact ⟨⟨rfl,rfl⟩,rfl⟩
theorem zq1 {s:Nat} (h1:s % w=0) (h2:a % w=0) (h:s < a):s+w<=a:=by
 obtain ⟨i,rfl⟩:=Nat.dvd_of_mod_eq_zero h1
 obtain ⟨j,rfl⟩:=Nat.dvd_of_mod_eq_zero h2
 have dK:i < j:=Nat.lt_of_mul_lt_mul_left h
 rw [show w*i+w=w*(i+1) from (Nat.mul_succ w i).symm]
 exact Nat.mul_le_mul_left w dK
def Bl (l:aS) (w n a:Nat):Prop:=∀ s,s % w=0->s < a->iA l s (min (s+w) n)
theorem zqp {l':aS} (h:Bl l w n a) (ha:a % w=0) (hs:iA l' a (min (a+w) n)) (ho:Hy l l' a (min (a+w) n)) (b:Nat) (hb:b<=a+w):Bl l' w n b:=by
 intro s h1 h2
 rcases JY s a with g|g|g
 .have:=zq1 h1 ha g
  exact SQ (h s h1 g) (λk _ _=>ho k (.inl (by omega)))
 .subst g
  exact hs
 .have:=zq1 ha h1 g
  omega
theorem zCd (h:Bl l w n n) (hw:n<=w):iA l 0 n:=by
 intro k h1 h2
 exact h 0 (Nat.zero_mod _) (by omega) k h1 (by omega)
structure EJ (l:aS) (w n a:Nat):Prop where
 lo:Bl l (2*w) n a
 hi:∀ s,s % w=0->a<=s->s < n->iA l s (min (s+w) n)
theorem zvT (h:Bl l w n n):EJ l w n 0:=⟨λs _ g=>absurd g (by omega),λs h1 _ h2=>h s h1 h2⟩
theorem zwx (h:a % (2*w)=0):a % w=0/\(a+w) % w=0:=by
 obtain ⟨i,rfl⟩:=Nat.dvd_of_mod_eq_zero h
 have h1:2*w*i % w=0:=by rw [show 2*w*i=w*(2*i) by rw [zO 2 w,Nat.mul_assoc]];exact Nat.mul_mod_right _ _
 exact ⟨h1,by rw [Nat.add_mod_right];exact h1⟩
theorem zok (h:EJ l w n a) (hw:0 < w) (ha:a % (2*w)=0) (hn:a+w < n):iA l a (a+w)/\iA l (a+w) (min (a+2*w) n):=by
 have:=zwx ha
 have g1:=h.hi a this.1 (by omega) (by omega)
 have g2:=h.hi (a+w) this.2 (by omega) hn
 rw [show min (a+w) n=a+w by omega] at g1
 rw [show min (a+w+w) n=min (a+2*w) n by omega] at g2
 exact ⟨g1,g2⟩
theorem zsa {l':aS} (h:EJ l w n a) (hw:0 < w) (ha:a % (2*w)=0) (hs:iA l' a (min (a+2*w) n)) (hm:Mv l l' a (min (a+2*w) n)):EJ l' w n (min (a+2*w) n):=by
 refine ⟨zqp h.lo ha hs hm.out _ (by omega),λs h1 h2 h3=>?_⟩
 exact SQ (h.hi s h1 (by omega) h3) (λk _ _=>hm.out k (.inr (by omega)))
theorem zAT (h:EJ l w n a) (hw:0 < w) (ha:a % (2*w)=0) (hn:n<=a+w):Bl l (2*w) n n:=by
 intro s h1 h2
 rcases JY s a with g|g|g
 .exact h.lo s h1 g
 .subst g
  have:=h.hi s (zwx ha).1 (by omega) h2
  rw [show min (s+w) n=min (s+2*w) n by omega] at this
  exact this
 .have:=zq1 ha h1 g
  omega
theorem zAS (h:EJ l w n a) (hn:n<=a):Bl l (2*w) n n:=λs h1 h2=>h.lo s h1 (by omega)
end Go.Am
