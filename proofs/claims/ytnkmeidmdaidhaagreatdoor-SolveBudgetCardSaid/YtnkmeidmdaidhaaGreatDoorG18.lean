/- Merging in place: plain facts. No condition. -/
import Derived.Test.YtnkmeidmdaidhaaGreatDoorG17
set_option linter.unusedSimpArgs false
set_option linter.unusedVariables false
namespace Go.Am
variable {a b c e i j k m mid r s:Nat} {l l' l1:aU}
theorem L6 (a:ae):aZ a a=0:=ME _
theorem TA {a b c:ae} (h1:aZ a b<=0) (h2:aZ b c < 0):aZ a c < 0:=by
 by_cases h:aZ a c < 0
 .exact h
 .have h3:=CL (EG h) h1
  have h4:=El b c
  omega
theorem TB {a b c:ae} (h1:aZ a b < 0) (h2:aZ b c<=0):aZ a c < 0:=by
 by_cases h:aZ a c < 0
 .exact h
 .have h3:=CL h2 (EG h)
  have h4:=El a b
  omega
theorem uH (h:fA l a b) (hi:a<=i) (ej:i<=j) (hj:j < b):aZ (l.getD i ah) (l.getD j ah)<=0:=by
 induction j with
 |zero =>
  have:i=0:=by omega
  subst this
  rw [L6]
  exact Int.le_refl _
 |succ j ih =>
  by_cases e:i=j+1
  .subst e
   rw [L6]
   exact Int.le_refl _
  .exact CL (ih (by omega) (by omega)) (h (j+1) (by omega) hj)
structure Mv (l l':aU) (a b:Nat):Prop where
 perm:l'.Perm l
 out:CW l l' a b
 Iq:∀ i,a<=i->i < b->∃ j,a<=j/\j < b/\l'.getD i ah=l.getD j ah
 uA:dP l l'
theorem Mv.refl (l:aU) (a b:Nat):Mv l l a b:=⟨List.Perm.refl _,λ_ _=>rfl,λi h1 h2=>⟨i,h1,h2,rfl⟩,dP.refl l⟩
theorem Mv.trans {l l1 l2:aU} {a b:Nat} (x:Mv l l1 a b) (y:Mv l1 l2 a b):Mv l l2 a b:=⟨y.perm.trans x.perm,λk hk=>(y.out k hk).trans (x.out k hk),λi h1 h2=>by
 obtain ⟨j,g1,g2,g3⟩:=y.Iq i h1 h2
 obtain ⟨k,f1,f2,f3⟩:=x.Iq j g1 g2
 exact ⟨k,f1,f2,g3.trans f3⟩,x.uA.trans y.uA⟩
theorem Mv.uD {a' b':Nat} (x:Mv l l' a b) (ha:a'<=a) (hb:b<=b'):Mv l l' a' b':=⟨x.perm,λk hk=>x.out k (by omega),λi h1 h2=>by
 by_cases h:a<=i/\i < b
 .obtain ⟨j,g1,g2,g3⟩:=x.Iq i h.1 h.2
  exact ⟨j,by omega,by omega,g3⟩
 .exact ⟨i,h1,h2,x.out i (by omega)⟩,x.uA⟩
theorem Mv.swap (hi:a<=i/\i < b) (hj:a<=j/\j < b) (hb:b<=l.length) (hs:dP l (i3 l i j)):Mv l (i3 l i j) a b:=by
 have g:=λk=>zD (l:=l) (i:=i) (j:=j) (by omega) (by omega) k
 refine ⟨TH (by omega) (by omega),λk hk=>?_,λk h1 h2=>?_,hs⟩
 .rw [g,aA (by omega),aA (by omega)]
 .rw [g]
  split
  .exact ⟨i,by omega,by omega,rfl⟩
  .split
   .exact ⟨j,by omega,by omega,rfl⟩
   .exact ⟨k,h1,h2,rfl⟩
def zY (l l1:aU) (s m e:Nat):Prop:=∀ k,l1.getD k ah=if s<=k/\k < e then (if k < s+(e - m) then l.getD (k+(m - s)) ah else l.getD (k - (e - m)) ah) else l.getD k ah
theorem zxC (hs:s<=m) (he:m<=e) (h:s=m\/m=e):zY l l s m e:=by
 intro k
 repeat' split
 all_goals first|rfl|(exfalso;omega)|(congr 1;omega)
theorem zxB (h:zY l l1 s m e) (hs:s<=m) (he:m<=e) (hp:l1.Perm l) (dh:dP l l1):Mv l l1 s e:=by
 refine ⟨hp,λk hk=>?_,λk h1 h2=>?_,dh⟩
 .rw [h,aA (by omega)]
 .rw [h,aG ⟨h1,h2⟩]
  split
  .exact ⟨k+(m - s),by omega,by omega,rfl⟩
  .exact ⟨k - (e - m),by omega,by omega,rfl⟩
theorem zzb (h2:fA l (a+1) b) (Lh:a+1<=i) (Ld:i<=b) (hl:i=a+1\/aZ (l.getD (i - 1) ah) (l.getD a ah) < 0) (hr:i=b\/¬ aZ (l.getD i ah) (l.getD a ah) < 0)
 (Hx:∀ x,l'.getD x ah=if a<=x/\x < i - 1 then l.getD (x+1) ah else if x=i - 1 then l.getD a ah else l.getD x ah):fA l' a b:=by
 intro p h1 h3
 rw [Hx,Hx]
 by_cases c1:p < i - 1
 .rw [aG (by omega),aG (by omega)]
  have:=h2 (p+1) (by omega) (by omega)
  rw [zW] at this
  rw [show p - 1+1=p by omega]
  exact this
 .by_cases c2:p=i - 1
  .subst c2
   rw [aG (by omega),aA (by omega),aG rfl,show i - 1 - 1+1=i - 1 by omega]
   rcases hl with hl|hl
   .omega
   .exact Int.le_of_lt hl
  .by_cases c3:p=i
   .subst c3
    rw [aA (by omega),aG rfl,aA (by omega),aA (by omega)]
    rcases hr with hr|hr
    .omega
    .exact EG hr
   .rw [aA (by omega),aA (by omega),aA (by omega),aA (by omega)]
    exact h2 p (by omega) h3
theorem zwN (h1:fA l a m) (Qa:a<=i) (qW:i<=m) (hl:i=a\/¬ aZ (l.getD m ah) (l.getD (i - 1) ah) < 0) (hr:i=m\/aZ (l.getD m ah) (l.getD i ah) < 0)
 (Hx:∀ x,l'.getD x ah=if x=i then l.getD m ah else if i < x/\x<=m then l.getD (x - 1) ah else l.getD x ah):fA l' a (m+1):=by
 intro p h2 h3
 rw [Hx,Hx]
 by_cases c1:p < i
 .rw [aA (by omega),aA (by omega),aA (by omega),aA (by omega)]
  exact h1 p h2 (by omega)
 .by_cases c2:p=i
  .subst c2
   rw [aA (by omega),aA (by omega),aG rfl]
   rcases hl with hl|hl
   .omega
   .exact EG hl
  .by_cases c3:p=i+1
   .subst c3
    rw [aG (by omega),aA (by omega),aG (by omega),zW]
    rcases hr with hr|hr
    .omega
    .exact Int.le_of_lt hr
   .rw [aA (by omega),aG (by omega),aA (by omega),aG (by omega)]
    exact h1 (p - 1) (by omega) (by omega)
structure mz (l:aU) (a m b mid s:Nat):Prop where
 lo:a<=s
 hi:s<=m
 qW:s<=mid
 ge:m<=mid+m - s
 le:mid+m - s<=b
 cl:s=a\/mid+m - s=b\/aZ (l.getD (s - 1) ah) (l.getD (mid+m - s) ah)<=0
 cr:s=m\/s=mid\/aZ (l.getD (mid+m - 1 - s) ah) (l.getD s ah) < 0
theorem zp8 (h1:fA l a m) (h2:fA l m b) (p:mz l a m b mid s) (t:zY l l1 s m (mid+m - s)) :
 fA l1 a s/\fA l1 s mid/\fA l1 mid (mid+m - s)/\fA l1 (mid+m - s) b:=by
 obtain ⟨lo,hi,qW,ge,le,cl,cr⟩:=p
 refine ⟨λk g1 g2=>?_,λk g1 g2=>?_,λk g1 g2=>?_,λk g1 g2=>?_⟩
 .rw [t,t,aA (by omega),aA (by omega)]
  exact h1 k g1 (by omega)
 .rw [t,t,aG (by omega),aG (by omega),aG (by omega),aG (by omega),show k - 1+(m - s)=k+(m - s) - 1 by omega]
  exact h2 _ (by omega) (by omega)
 .rw [t,t,aG (by omega),aA (by omega),aG (by omega),aA (by omega),show k - 1 - (mid+m - s - m)=k - (mid+m - s - m) - 1 by omega]
  exact h1 _ (by omega) (by omega)
 .rw [t,t,aA (by omega),aA (by omega)]
  exact h2 k (by omega) g2
theorem zp7 (h1:fA l a m) (h2:fA l m b) (p:mz l a m b mid s) (t:zY l l1 s m (mid+m - s)) (hi:a<=i) (qW:i < mid) (hj:mid<=j) (W8:j < b) :
 aZ (l1.getD i ah) (l1.getD j ah)<=0:=by
 obtain ⟨lo,G0,afm,ge,le,cl,cr⟩:=p
 rw [t,t]
 by_cases c1:s<=i
 .-- from behind m
  rw [aG (by omega),aG (by omega)]
  by_cases c2:j < mid+m - s
  .rw [aG (by omega),aA (by omega)]
   rcases cr with cr|cr|cr
   .omega
   .omega
   .exact CL (uH h2 (i:=i+(m - s)) (j:=mid+m - 1 - s) (by omega) (by omega) (by omega)) (CL (Int.le_of_lt cr) (uH h1 (i:=s) (by omega) (by omega) (by omega)))
  .rw [aA (by omega)]
   exact uH h2 (by omega) (by omega) W8
 .rw [aA (by omega)]
  by_cases c2:j < mid+m - s
  .rw [aG (by omega),aA (by omega)]
   exact uH h1 hi (by omega) (by omega)
  .rw [aA (by omega)]
   rcases cl with cl|cl|cl
   .omega
   .omega
   .exact CL (uH h1 (i:=i) (j:=s - 1) hi (by omega) (by omega)) (CL cl (uH h2 (i:=mid+m - s) (by omega) (by omega) W8))
theorem znL {l2 l3:aU} (hc:∀ i j,a<=i->i < mid->mid<=j->j < b->aZ (l1.getD i ah) (l1.getD j ah)<=0) (x:Mv l1 l2 a mid) (y:Mv l2 l3 mid b) (h2:fA l2 a mid) (h3:fA l3 mid b):fA l3 a b:=by
 intro p h4 h5
 by_cases c1:p < mid
 .rw [y.out _ (.inl (by omega)),y.out _ (.inl c1)]
  exact h2 p h4 c1
 .by_cases c2:p=mid
  .subst c2
   obtain ⟨j,g1,g2,g3⟩:=y.Iq p (by omega) h5
   obtain ⟨i,f1,f2,f3⟩:=x.Iq (p - 1) (by omega) (by omega)
   rw [y.out _ (.inl (by omega)),g3,x.out j (.inr (by omega)),f3]
   exact hc i j f1 f2 g1 g2
  .exact h3 p (by omega) h5
def sG (l l1:aU) (a k:Nat):Prop:=∀ x,l1.getD x ah=if a<=x/\x < k then l.getD (x+1) ah else if x=k then l.getD a ah else l.getD x ah
theorem ztE (l:aU) (a:Nat):sG l l a a:=by
 intro x
 repeat' split
 all_goals first|rfl|(exfalso;omega)|(congr 1;done)|(subst x;rfl)
theorem zv5 (h:sG l l1 a k) (hak:a<=k) (hk:k+1 < l1.length):sG l (i3 l1 k (k+1)) a (k+1):=by
 intro x
 rw [zD (by omega) (by omega),h x,h k,h (k+1)]
 repeat' split
 all_goals first|rfl|(exfalso;omega)|(congr 1;omega)
def J9 (l l1:aU) (m k:Nat):Prop:=∀ x,l1.getD x ah=if x=k then l.getD m ah else if k < x/\x<=m then l.getD (x - 1) ah else l.getD x ah
theorem znk (l:aU) (m:Nat):J9 l l m m:=by
 intro x
 repeat' split
 all_goals first|rfl|(exfalso;omega)|(subst x;rfl)
theorem zph (h:J9 l l1 m k) (qi:0 < k) (Bz:k<=m) (hm:m < l1.length):J9 l (i3 l1 k (k - 1)) m (k - 1):=by
 intro x
 rw [zD (by omega) (by omega),h x,h k,h (k - 1)]
 repeat' split
 all_goals first|rfl|(exfalso;omega)|(congr 1;omega)
structure fG (l:aU) (a m b mid s r:Nat):Prop where
 sr:s<=r
 D4:m<=mid->a<=s/\r<=m
 D5:mid < m->mid+m - b<=s/\r<=mid
 cl:(s=a/\m<=mid)\/(mid < m/\s=mid+m - b)\/aZ (l.getD (s - 1) ah) (l.getD (mid+m - s) ah)<=0
 cr:(r=m/\m<=mid)\/(mid < m/\r=mid)\/aZ (l.getD (mid+m - 1 - r) ah) (l.getD r ah) < 0
theorem zxv (wJ:a < m) (h:m<=mid):fG l a m b mid a m:=⟨by omega,λ_=>by omega,λ_=>by omega,.inl ⟨rfl,h⟩,.inl ⟨rfl,h⟩⟩
theorem zxw (xk:m < b) (h:mid < m):fG l a m b mid (mid+m - b) mid:=⟨by omega,λ_=>by omega,λ_=>by omega,.inr (.inl ⟨h,rfl⟩),.inr (.inl ⟨h,rfl⟩)⟩
theorem zvQ (h:fG l a m b mid s r) (h1:s<=c) (h2:c < r) (hc:¬ aZ (l.getD (mid+m - 1 - c) ah) (l.getD c ah) < 0):fG l a m b mid (c+1) r:=by
 refine ⟨by omega,λg=>?_,λg=>?_,.inr (.inr ?_),h.cr⟩
 .have:=h.D4 g;omega
 .have:=h.D5 g;omega
 .rw [zW,show mid+m - (c+1)=mid+m - 1 - c by omega]
  exact EG hc
theorem zqg (h:fG l a m b mid s r) (h1:s<=c) (h2:c < r) (hc:aZ (l.getD (mid+m - 1 - c) ah) (l.getD c ah) < 0):fG l a m b mid s c:=by
 refine ⟨h1,λg=>?_,λg=>?_,h.cl,.inr (.inr hc)⟩
 .have:=h.D4 g;omega
 .have:=h.D5 g;omega
theorem zkY (h:fG l a m b mid s s) (wJ:a < m) (xk:m < b) (ga:2*mid<=a+b) (iF:a+b<=2*mid+1):mz l a m b mid s:=by
 obtain ⟨sr,D4,D5,cl,cr⟩:=h
 rcases ln mid m with g|g
 .obtain ⟨f1,f2⟩:=D5 g
  refine ⟨by omega,by omega,f2,by omega,by omega,?_,?_⟩
  .rcases cl with ⟨e,_⟩|⟨_,e⟩|e
   .exact .inl e
   .exact .inr (.inl (by omega))
   .exact .inr (.inr e)
  .rcases cr with ⟨e,_⟩|⟨_,e⟩|e
   .exact .inl e
   .exact .inr (.inl e)
   .exact .inr (.inr e)
 .obtain ⟨f1,f2⟩:=D4 g
  refine ⟨f1,f2,by omega,by omega,by omega,?_,?_⟩
  .rcases cl with ⟨e,_⟩|⟨_,e⟩|e
   .exact .inl e
   .exact .inr (.inl (by omega))
   .exact .inr (.inr e)
  .rcases cr with ⟨e,_⟩|⟨_,e⟩|e
   .exact .inl e
   .exact .inr (.inl e)
   .exact .inr (.inr e)
theorem zvP (h:fG l a m b mid s r) (h1:s<=c) (h2:c < r) (wJ:a < m) (xk:m < b) (ga:2*mid<=a+b) (iF:a+b<=2*mid+1):c+1<=m/\m<=mid+m - 1 - c/\mid+m - 1 - c < b/\c+1<=mid+m:=by
 rcases ln mid m with g|g
 .obtain ⟨f1,f2⟩:=h.D5 g
  omega
 .obtain ⟨f1,f2⟩:=h.D4 g
  omega
theorem LR (h:fA l a b) (he:∀ k,a<=k->k < b->l'.getD k ah=l.getD k ah):fA l' a b:=by
 intro k h1 h2
 rw [he k (by omega) h2,he (k - 1) (by omega) (by omega)]
 exact h k h1 h2
theorem zxd (hs:s<=m) (he:m<=e) (hl:e<=l.length):l=l.take s++((l.take m).drop s++((l.take e).drop m++l.drop e)):=by
 apply uY
 intro k
 simp only [Dc,hZ,oe,oG,ka]
 repeat' split
 all_goals first|rfl|(exfalso;omega)|(congr 1;omega)
theorem zzH (t:zY l l1 s m e) (hs:s<=m) (he:m<=e) (hl:e<=l.length) (hlen:l1.length=l.length):l1=l.take s++((l.take e).drop m++((l.take m).drop s++l.drop e)):=by
 refine Ub (by simp only [dx,hZ,oe];omega) (λk=>?_)
 rw [t k]
 simp only [lk,Dc,hZ,oe,oG,ka]
 repeat' split
 all_goals first|rfl|(exfalso;omega)|(congr 2;omega)
theorem zv1 (t:zY l l1 s m e) (hs:s<=m) (he:m<=e) (hl:e<=l.length) (hlen:l1.length=l.length) (aO:∀ i j,s<=i->i < m->m<=j->j < e->gu (l.getD i ah)≠gu (l.getD j ah)):dP l l1:=by
 intro x
 rw [zzH t hs he hl hlen]
 conv=>rhs;rw [zxd hs he hl]
 simp only [J3]
 by_cases hu:((l.take m).drop s).filter (λy=>gu y == x)=[]
 .rw [hu]
  simp
 .have hv:((l.take e).drop m).filter (λy=>gu y == x)=[]:=by
   rw [Mx]
   intro y hy HM
   apply hu
   rw [Mx]
   intro z hz XA
   obtain ⟨j,hj⟩:=Dd hy
   obtain ⟨i,hi⟩:=Dd hz
   rw [ka,oG] at hj hi
   split at hj
   .split at hi
    .rename_i g1 g2
     refine aO (s+i) (m+j) (by omega) g2 (by omega) g1 ?_
     rw [lk,lk,hj,hi]
     simp only [yw]
     rw [beq_iff_eq] at HM XA
     rw [HM,XA]
    .cases hi
   .cases hj
  rw [hv]
  simp
theorem ztm (h1:fA l a m) (h2:fA l m b) (p:mz l a m b mid s) (t:zY l l1 s m (mid+m - s)) (hb:b<=l.length) (hlen:l1.length=l.length):dP l l1:=by
 obtain ⟨lo,hi,qW,ge,le,cl,cr⟩:=p
 refine zv1 t hi ge (by omega) hlen (λi j g1 g2 g3 g4 e=>?_)
 rcases cr with cr|cr|cr
 .omega
 .omega
 .have f1:=uH h2 (i:=j) (j:=mid+m - 1 - s) g3 (by omega) (by omega)
  have f2:=uH h1 (i:=s) (j:=i) lo g1 g2
  exact Mw (TB (TA f1 cr) f2) e.symm
theorem zv6 (h2:fA l (a+1) b) (Ld:i<=b) (hl:i=a+1\/aZ (l.getD (i - 1) ah) (l.getD a ah) < 0) (hak:a<=k) (hk:k < i - 1) (u:sG l l1 a k):aZ (l1.getD (k+1) ah) (l1.getD k ah) < 0:=by
 rw [u,u,aA (by omega),aA (by omega),aA (by omega),aG rfl]
 rcases hl with hl|hl
 .omega
 .exact TA (uH h2 (i:=k+1) (j:=i - 1) (by omega) (by omega) (by omega)) hl
theorem zpi (h1:fA l a m) (Qa:a<=i) (hr:i=m\/aZ (l.getD m ah) (l.getD i ah) < 0) (tt:i < k) (Bz:k<=m) (u:J9 l l1 m k):aZ (l1.getD k ah) (l1.getD (k - 1) ah) < 0:=by
 rw [u,u,aG rfl,aA (by omega),aA (by omega)]
 rcases hr with hr|hr
 .omega
 .exact TB hr (uH h1 (i:=i) (j:=k - 1) Qa (by omega) (by omega))
end Go.Am
namespace Go.Am
variable {a n w:Nat} {l:aU}
theorem MT {P:Program} {T:bx} {t:TypeId} {k:IntKind} {a b:Int}:bZ P T .mul t (.int k a) (.int k b)=some (.int k (k.wrap (a*b))):=by
 have h1:((T.desc t).bind λd=>Ad d (.int k a) (.int k b))=none:=by
  cases T.desc t with
  |none=>rfl
  |some d=>cases d <;> rfl
 have h2:fc P (binOp .mul t (.int k a) (.int k b))=some (.int k (k.wrap (a*b))):=by
  simp [binOp,Op.intArith,zK]
 unfold bZ
 have hf:oB .mul (.int k a) (.int k b)=none:=rfl
 rw [hf]
 simp [h1,h2]
 exact ⟨⟨rfl,rfl⟩,rfl⟩
theorem Uy {s:Nat} (h1:s % w=0) (h2:a % w=0) (h:s < a):s+w<=a:=by
 obtain ⟨i,rfl⟩:=Nat.dvd_of_mod_eq_zero h1
 obtain ⟨j,rfl⟩:=Nat.dvd_of_mod_eq_zero h2
 have ej:i < j:=Nat.lt_of_mul_lt_mul_left h
 rw [show w*i+w=w*(i+1) from (Nat.mul_succ w i).symm]
 exact Nat.mul_le_mul_left w ej
def Bl (l:aU) (w n a:Nat):Prop:=∀ s,s % w=0->s < a->fA l s (min (s+w) n)
theorem Us {l':aU} (h:Bl l w n a) (ha:a % w=0) (hs:fA l' a (min (a+w) n)) (ho:CW l l' a (min (a+w) n)) (b:Nat) (hb:b<=a+w):Bl l' w n b:=by
 intro s h1 h2
 rcases Kd s a with g|g|g
 .have:=Uy h1 ha g
  exact LR (h s h1 g) (λk _ _=>ho k (.inl (by omega)))
 .subst g
  exact hs
 .have:=Uy ha h1 g
  omega
theorem zz2 (h:Bl l w n n) (hw:n<=w):fA l 0 n:=by
 intro k h1 h2
 exact h 0 (Nat.zero_mod _) (by omega) k h1 (by omega)
structure Af (l:aU) (w n a:Nat):Prop where
 lo:Bl l (2*w) n a
 hi:∀ s,s % w=0->a<=s->s < n->fA l s (min (s+w) n)
theorem zuu (h:Bl l w n n):Af l w n 0:=⟨λs _ g=>absurd g (by omega),λs h1 _ h2=>h s h1 h2⟩
theorem zva (h:a % (2*w)=0):a % w=0/\(a+w) % w=0:=by
 obtain ⟨i,rfl⟩:=Nat.dvd_of_mod_eq_zero h
 have h1:2*w*i % w=0:=by rw [show 2*w*i=w*(2*i) by rw [u6 2 w,Nat.mul_assoc]];exact Nat.mul_mod_right _ _
 exact ⟨h1,by rw [Nat.add_mod_right];exact h1⟩
theorem znf (h:Af l w n a) (hw:0 < w) (ha:a % (2*w)=0) (hn:a+w < n):fA l a (a+w)/\fA l (a+w) (min (a+2*w) n):=by
 have:=zva ha
 have g1:=h.hi a this.1 (by omega) (by omega)
 have g2:=h.hi (a+w) this.2 (by omega) hn
 rw [show min (a+w) n=a+w by omega] at g1
 rw [show min (a+w+w) n=min (a+2*w) n by omega] at g2
 exact ⟨g1,g2⟩
theorem zqR {l':aU} (h:Af l w n a) (hw:0 < w) (ha:a % (2*w)=0) (hs:fA l' a (min (a+2*w) n)) (hm:Mv l l' a (min (a+2*w) n)):Af l' w n (min (a+2*w) n):=by
 refine ⟨Us h.lo ha hs hm.out _ (by omega),λs h1 h2 h3=>?_⟩
 exact LR (h.hi s h1 (by omega) h3) (λk _ _=>hm.out k (.inr (by omega)))
theorem zyX (h:Af l w n a) (hw:0 < w) (ha:a % (2*w)=0) (hn:n<=a+w):Bl l (2*w) n n:=by
 intro s h1 h2
 rcases Kd s a with g|g|g
 .exact h.lo s h1 g
 .subst g
  have:=h.hi s (zva ha).1 (by omega) h2
  rw [show min (s+w) n=min (s+2*w) n by omega] at this
  exact this
 .have:=Uy ha h1 g
  omega
theorem zyW (h:Af l w n a) (hn:n<=a):Bl l (2*w) n n:=λs h1 h2=>h.lo s h1 (by omega)
end Go.Am
