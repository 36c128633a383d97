/- Merging in place: plain facts. No condition. -/
import Derived.Test.YtnkmeidmdaidhaaGreatDoorG12
set_option linter.unusedSimpArgs false
set_option linter.unusedVariables false
namespace Go.Am
variable {a b c e i j k m mid r s:Nat} {l l' l1:aN}
theorem FR (a:ae):bj a a=0:=Ql _
theorem XO {a b c:ae} (h1:bj a b<=0) (h2:bj b c < 0):bj a c < 0:=by
 by_cases h:bj a c < 0
 .exact h
 .have h3:=FD (HR h) h1
  have h4:=HA b c
  omega
theorem XP {a b c:ae} (h1:bj a b < 0) (h2:bj b c<=0):bj a c < 0:=by
 by_cases h:bj a c < 0
 .exact h
 .have h3:=FD h2 (HR h)
  have h4:=HA a b
  omega
theorem xK (h:gQ l a b) (hi:a<=i) (fw:i<=j) (hj:j < b):bj (l.getD i ah) (l.getD j ah)<=0:=by
 induction j with
 |zero =>
  have:i=0:=by omega
  subst this
  rw [FR]
  exact Int.le_refl _
 |succ j ih =>
  by_cases e:i=j+1
  .subst e
   rw [FR]
   exact Int.le_refl _
  .exact FD (ih (by omega) (by omega)) (h (j+1) (by omega) hj)
structure Mv (l l':aN) (a b:Nat):Prop where
 perm:l'.Perm l
 out:FZ l l' a b
 LG:∀ i,a<=i->i < b->∃ j,a<=j/\j < b/\l'.getD i ah=l.getD j ah
 xC:eM l l'
theorem Mv.refl (l:aN) (a b:Nat):Mv l l a b:=⟨List.Perm.refl _,λ_ _=>rfl,λi h1 h2=>⟨i,h1,h2,rfl⟩,eM.refl l⟩
theorem Mv.trans {l l1 l2:aN} {a b:Nat} (x:Mv l l1 a b) (y:Mv l1 l2 a b):Mv l l2 a b:=⟨y.perm.trans x.perm,λk hk=>(y.out k hk).trans (x.out k hk),λi h1 h2=>by
 obtain ⟨j,g1,g2,g3⟩:=y.LG i h1 h2
 obtain ⟨k,f1,f2,f3⟩:=x.LG j g1 g2
 exact ⟨k,f1,f2,g3.trans f3⟩,x.xC.trans y.xC⟩
theorem Mv.xF {a' b':Nat} (x:Mv l l' a b) (ha:a'<=a) (hb:b<=b'):Mv l l' a' b':=⟨x.perm,λk hk=>x.out k (by omega),λi h1 h2=>by
 by_cases h:a<=i/\i < b
 .obtain ⟨j,g1,g2,g3⟩:=x.LG i h.1 h.2
  exact ⟨j,by omega,by omega,g3⟩
 .exact ⟨i,h1,h2,x.out i (by omega)⟩,x.xC⟩
theorem Mv.swap (hi:a<=i/\i < b) (hj:a<=j/\j < b) (hb:b<=l.length) (hs:eM l (ky l i j)):Mv l (ky l i j) a b:=by
 have g:=λk=>CV (l:=l) (i:=i) (j:=j) (by omega) (by omega) k
 refine ⟨XJ (by omega) (by omega),λk hk=>?_,λk h1 h2=>?_,hs⟩
 .rw [g,az (by omega),az (by omega)]
 .rw [g]
  split
  .exact ⟨i,by omega,by omega,rfl⟩
  .split
   .exact ⟨j,by omega,by omega,rfl⟩
   .exact ⟨k,h1,h2,rfl⟩
def Di (l l1:aN) (s m e:Nat):Prop:=∀ k,l1.getD k ah=if s<=k/\k < e then (if k < s+(e - m) then l.getD (k+(m - s)) ah else l.getD (k - (e - m)) ah) else l.getD k ah
theorem zzU (hs:s<=m) (he:m<=e) (h:s=m\/m=e):Di l l s m e:=by
 intro k
 repeat' split
 all_goals first|rfl|(exfalso;omega)|(congr 1;omega)
theorem zzT (h:Di l l1 s m e) (hs:s<=m) (he:m<=e) (hp:l1.Perm l) (cZ:eM l l1):Mv l l1 s e:=by
 refine ⟨hp,λk hk=>?_,λk h1 h2=>?_,cZ⟩
 .rw [h,az (by omega)]
 .rw [h,aD ⟨h1,h2⟩]
  split
  .exact ⟨k+(m - s),by omega,by omega,rfl⟩
  .exact ⟨k - (e - m),by omega,by omega,rfl⟩
theorem zBv (h2:gQ l (a+1) b) (O5:a+1<=i) (O1:i<=b) (hl:i=a+1\/bj (l.getD (i - 1) ah) (l.getD a ah) < 0) (hr:i=b\/¬ bj (l.getD i ah) (l.getD a ah) < 0)
 (KV:∀ x,l'.getD x ah=if a<=x/\x < i - 1 then l.getD (x+1) ah else if x=i - 1 then l.getD a ah else l.getD x ah):gQ l' a b:=by
 intro p h1 h3
 rw [KV,KV]
 by_cases c1:p < i - 1
 .rw [aD (by omega),aD (by omega)]
  have:=h2 (p+1) (by omega) (by omega)
  rw [De] at this
  rw [show p - 1+1=p by omega]
  exact this
 .by_cases c2:p=i - 1
  .subst c2
   rw [aD (by omega),az (by omega),aD rfl,show i - 1 - 1+1=i - 1 by omega]
   rcases hl with hl|hl
   .omega
   .exact Int.le_of_lt hl
  .by_cases c3:p=i
   .subst c3
    rw [az (by omega),aD rfl,az (by omega),az (by omega)]
    rcases hr with hr|hr
    .omega
    .exact HR hr
   .rw [az (by omega),az (by omega),az (by omega),az (by omega)]
    exact h2 p (by omega) h3
theorem zy0 (h1:gQ l a m) (Ud:a<=i) (tS:i<=m) (hl:i=a\/¬ bj (l.getD m ah) (l.getD (i - 1) ah) < 0) (hr:i=m\/bj (l.getD m ah) (l.getD i ah) < 0)
 (KV:∀ x,l'.getD x ah=if x=i then l.getD m ah else if i < x/\x<=m then l.getD (x - 1) ah else l.getD x ah):gQ l' a (m+1):=by
 intro p h2 h3
 rw [KV,KV]
 by_cases c1:p < i
 .rw [az (by omega),az (by omega),az (by omega),az (by omega)]
  exact h1 p h2 (by omega)
 .by_cases c2:p=i
  .subst c2
   rw [az (by omega),az (by omega),aD rfl]
   rcases hl with hl|hl
   .omega
   .exact HR hl
  .by_cases c3:p=i+1
   .subst c3
    rw [aD (by omega),az (by omega),aD (by omega),De]
    rcases hr with hr|hr
    .omega
    .exact Int.le_of_lt hr
   .rw [az (by omega),aD (by omega),az (by omega),aD (by omega)]
    exact h1 (p - 1) (by omega) (by omega)
structure oJ (l:aN) (a m b mid s:Nat):Prop where
 lo:a<=s
 hi:s<=m
 tS:s<=mid
 ge:m<=mid+m - s
 le:mid+m - s<=b
 cl:s=a\/mid+m - s=b\/bj (l.getD (s - 1) ah) (l.getD (mid+m - s) ah)<=0
 cr:s=m\/s=mid\/bj (l.getD (mid+m - 1 - s) ah) (l.getD s ah) < 0
theorem zrx (h1:gQ l a m) (h2:gQ l m b) (p:oJ l a m b mid s) (t:Di l l1 s m (mid+m - s)) :
 gQ l1 a s/\gQ l1 s mid/\gQ l1 mid (mid+m - s)/\gQ l1 (mid+m - s) b:=by
 obtain ⟨lo,hi,tS,ge,le,cl,cr⟩:=p
 refine ⟨λk g1 g2=>?_,λk g1 g2=>?_,λk g1 g2=>?_,λk g1 g2=>?_⟩
 .rw [t,t,az (by omega),az (by omega)]
  exact h1 k g1 (by omega)
 .rw [t,t,aD (by omega),aD (by omega),aD (by omega),aD (by omega),show k - 1+(m - s)=k+(m - s) - 1 by omega]
  exact h2 _ (by omega) (by omega)
 .rw [t,t,aD (by omega),az (by omega),aD (by omega),az (by omega),show k - 1 - (mid+m - s - m)=k - (mid+m - s - m) - 1 by omega]
  exact h1 _ (by omega) (by omega)
 .rw [t,t,az (by omega),az (by omega)]
  exact h2 k (by omega) g2
theorem zrw (h1:gQ l a m) (h2:gQ l m b) (p:oJ l a m b mid s) (t:Di l l1 s m (mid+m - s)) (hi:a<=i) (tS:i < mid) (hj:mid<=j) (hjb:j < b) :
 bj (l1.getD i ah) (l1.getD j ah)<=0:=by
 obtain ⟨lo,wF,akC,ge,le,cl,cr⟩:=p
 rw [t,t]
 by_cases c1:s<=i
 .-- from behind m
  rw [aD (by omega),aD (by omega)]
  by_cases c2:j < mid+m - s
  .rw [aD (by omega),az (by omega)]
   rcases cr with cr|cr|cr
   .omega
   .omega
   .exact FD (xK h2 (i:=i+(m - s)) (j:=mid+m - 1 - s) (by omega) (by omega) (by omega)) (FD (Int.le_of_lt cr) (xK h1 (i:=s) (by omega) (by omega) (by omega)))
  .rw [az (by omega)]
   exact xK h2 (by omega) (by omega) hjb
 .rw [az (by omega)]
  by_cases c2:j < mid+m - s
  .rw [aD (by omega),az (by omega)]
   exact xK h1 hi (by omega) (by omega)
  .rw [az (by omega)]
   rcases cl with cl|cl|cl
   .omega
   .omega
   .exact FD (xK h1 (i:=i) (j:=s - 1) hi (by omega) (by omega)) (FD cl (xK h2 (i:=mid+m - s) (by omega) (by omega) hjb))
theorem zoZ {l2 l3:aN} (hc:∀ i j,a<=i->i < mid->mid<=j->j < b->bj (l1.getD i ah) (l1.getD j ah)<=0) (x:Mv l1 l2 a mid) (y:Mv l2 l3 mid b) (h2:gQ l2 a mid) (h3:gQ l3 mid b):gQ l3 a b:=by
 intro p h4 h5
 by_cases c1:p < mid
 .rw [y.out _ (.inl (by omega)),y.out _ (.inl c1)]
  exact h2 p h4 c1
 .by_cases c2:p=mid
  .subst c2
   obtain ⟨j,g1,g2,g3⟩:=y.LG p (by omega) h5
   obtain ⟨i,f1,f2,f3⟩:=x.LG (p - 1) (by omega) (by omega)
   rw [y.out _ (.inl (by omega)),g3,x.out j (.inr (by omega)),f3]
   exact hc i j f1 f2 g1 g2
  .exact h3 p (by omega) h5
def vF (l l1:aN) (a k:Nat):Prop:=∀ x,l1.getD x ah=if a<=x/\x < k then l.getD (x+1) ah else if x=k then l.getD a ah else l.getD x ah
theorem zvq (l:aN) (a:Nat):vF l l a a:=by
 intro x
 repeat' split
 all_goals first|rfl|(exfalso;omega)|(congr 1;done)|(subst x;rfl)
theorem zyb (h:vF l l1 a k) (hak:a<=k) (hk:k+1 < l1.length):vF l (ky l1 k (k+1)) a (k+1):=by
 intro x
 rw [CV (by omega) (by omega),h x,h k,h (k+1)]
 repeat' split
 all_goals first|rfl|(exfalso;omega)|(congr 1;omega)
def NM (l l1:aN) (m k:Nat):Prop:=∀ x,l1.getD x ah=if x=k then l.getD m ah else if k < x/\x<=m then l.getD (x - 1) ah else l.getD x ah
theorem zoB (l:aN) (m:Nat):NM l l m m:=by
 intro x
 repeat' split
 all_goals first|rfl|(exfalso;omega)|(subst x;rfl)
theorem zqJ (h:NM l l1 m k) (uS:0 < k) (En:k<=m) (hm:m < l1.length):NM l (ky l1 k (k - 1)) m (k - 1):=by
 intro x
 rw [CV (by omega) (by omega),h x,h k,h (k - 1)]
 repeat' split
 all_goals first|rfl|(exfalso;omega)|(congr 1;omega)
structure gZ (l:aN) (a m b mid s r:Nat):Prop where
 sr:s<=r
 G6:m<=mid->a<=s/\r<=m
 G7:mid < m->mid+m - b<=s/\r<=mid
 cl:(s=a/\m<=mid)\/(mid < m/\s=mid+m - b)\/bj (l.getD (s - 1) ah) (l.getD (mid+m - s) ah)<=0
 cr:(r=m/\m<=mid)\/(mid < m/\r=mid)\/bj (l.getD (mid+m - 1 - r) ah) (l.getD r ah) < 0
theorem zzO (zL:a < m) (h:m<=mid):gZ l a m b mid a m:=⟨by omega,λ_=>by omega,λ_=>by omega,.inl ⟨rfl,h⟩,.inl ⟨rfl,h⟩⟩
theorem zzP (Ak:m < b) (h:mid < m):gZ l a m b mid (mid+m - b) mid:=⟨by omega,λ_=>by omega,λ_=>by omega,.inr (.inl ⟨h,rfl⟩),.inr (.inl ⟨h,rfl⟩)⟩
theorem zxV (h:gZ l a m b mid s r) (h1:s<=c) (h2:c < r) (hc:¬ bj (l.getD (mid+m - 1 - c) ah) (l.getD c ah) < 0):gZ l a m b mid (c+1) r:=by
 refine ⟨by omega,λg=>?_,λg=>?_,.inr (.inr ?_),h.cr⟩
 .have:=h.G6 g;omega
 .have:=h.G7 g;omega
 .rw [De,show mid+m - (c+1)=mid+m - 1 - c by omega]
  exact HR hc
theorem zrG (h:gZ l a m b mid s r) (h1:s<=c) (h2:c < r) (hc:bj (l.getD (mid+m - 1 - c) ah) (l.getD c ah) < 0):gZ l a m b mid s c:=by
 refine ⟨h1,λg=>?_,λg=>?_,h.cl,.inr (.inr hc)⟩
 .have:=h.G6 g;omega
 .have:=h.G7 g;omega
theorem zlR (h:gZ l a m b mid s s) (zL:a < m) (Ak:m < b) (fW:2*mid<=a+b) (eX:a+b<=2*mid+1):oJ l a m b mid s:=by
 obtain ⟨sr,G6,G7,cl,cr⟩:=h
 rcases mW mid m with g|g
 .obtain ⟨f1,f2⟩:=G7 g
  refine ⟨by omega,by omega,f2,by omega,by omega,?_,?_⟩
  .rcases cl with ⟨e,_⟩|⟨_,e⟩|e
   .exact .inl e
   .exact .inr (.inl (by omega))
   .exact .inr (.inr e)
  .rcases cr with ⟨e,_⟩|⟨_,e⟩|e
   .exact .inl e
   .exact .inr (.inl e)
   .exact .inr (.inr e)
 .obtain ⟨f1,f2⟩:=G6 g
  refine ⟨f1,f2,by omega,by omega,by omega,?_,?_⟩
  .rcases cl with ⟨e,_⟩|⟨_,e⟩|e
   .exact .inl e
   .exact .inr (.inl (by omega))
   .exact .inr (.inr e)
  .rcases cr with ⟨e,_⟩|⟨_,e⟩|e
   .exact .inl e
   .exact .inr (.inl e)
   .exact .inr (.inr e)
theorem zxU (h:gZ l a m b mid s r) (h1:s<=c) (h2:c < r) (zL:a < m) (Ak:m < b) (fW:2*mid<=a+b) (eX:a+b<=2*mid+1):c+1<=m/\m<=mid+m - 1 - c/\mid+m - 1 - c < b/\c+1<=mid+m:=by
 rcases mW mid m with g|g
 .obtain ⟨f1,f2⟩:=h.G7 g
  omega
 .obtain ⟨f1,f2⟩:=h.G6 g
  omega
theorem PD (h:gQ l a b) (he:∀ k,a<=k->k < b->l'.getD k ah=l.getD k ah):gQ l' a b:=by
 intro k h1 h2
 rw [he k (by omega) h2,he (k - 1) (by omega) (by omega)]
 exact h k h1 h2
theorem zzu (hs:s<=m) (he:m<=e) (hl:e<=l.length):l=l.take s++((l.take m).drop s++((l.take e).drop m++l.drop e)):=by
 apply xZ
 intro k
 simp only [BA,gR,mf,qN,lq]
 repeat' split
 all_goals first|rfl|(exfalso;omega)|(congr 1;omega)
theorem zCa (t:Di l l1 s m e) (hs:s<=m) (he:m<=e) (hl:e<=l.length) (hlen:l1.length=l.length):l1=l.take s++((l.take e).drop m++((l.take m).drop s++l.drop e)):=by
 refine Ym (by simp only [cE,gR,mf];omega) (λk=>?_)
 rw [t k]
 simp only [me,BA,gR,mf,qN,lq]
 repeat' split
 all_goals first|rfl|(exfalso;omega)|(congr 2;omega)
theorem zx6 (t:Di l l1 s m e) (hs:s<=m) (he:m<=e) (hl:e<=l.length) (hlen:l1.length=l.length) (aM:∀ i j,s<=i->i < m->m<=j->j < e->iG (l.getD i ah)≠iG (l.getD j ah)):eM l l1:=by
 intro x
 rw [zCa t hs he hl hlen]
 conv=>rhs;rw [zzu hs he hl]
 simp only [NH]
 by_cases hu:((l.take m).drop s).filter (λy=>iG y == x)=[]
 .rw [hu]
  simp
 .have hv:((l.take e).drop m).filter (λy=>iG y == x)=[]:=by
   rw [Qg]
   intro y hy AE
   apply hu
   rw [Qg]
   intro z hz V4
   obtain ⟨j,hj⟩:=Gd hy
   obtain ⟨i,hi⟩:=Gd hz
   rw [lq,qN] at hj hi
   split at hj
   .split at hi
    .rename_i g1 g2
     refine aM (s+i) (m+j) (by omega) g2 (by omega) g1 ?_
     rw [me,me,hj,hi]
     simp only [zh]
     rw [beq_iff_eq] at AE V4
     rw [AE,V4]
    .cases hi
   .cases hj
  rw [hv]
  simp
theorem zu8 (h1:gQ l a m) (h2:gQ l m b) (p:oJ l a m b mid s) (t:Di l l1 s m (mid+m - s)) (hb:b<=l.length) (hlen:l1.length=l.length):eM l l1:=by
 obtain ⟨lo,hi,tS,ge,le,cl,cr⟩:=p
 refine zx6 t hi ge (by omega) hlen (λi j g1 g2 g3 g4 e=>?_)
 rcases cr with cr|cr|cr
 .omega
 .omega
 .have f1:=xK h2 (i:=j) (j:=mid+m - 1 - s) g3 (by omega) (by omega)
  have f2:=xK h1 (i:=s) (j:=i) lo g1 g2
  exact Qx (XP (XO f1 cr) f2) e.symm
theorem zyc (h2:gQ l (a+1) b) (O1:i<=b) (hl:i=a+1\/bj (l.getD (i - 1) ah) (l.getD a ah) < 0) (hak:a<=k) (hk:k < i - 1) (u:vF l l1 a k):bj (l1.getD (k+1) ah) (l1.getD k ah) < 0:=by
 rw [u,u,az (by omega),az (by omega),az (by omega),aD rfl]
 rcases hl with hl|hl
 .omega
 .exact XO (xK h2 (i:=k+1) (j:=i - 1) (by omega) (by omega) (by omega)) hl
theorem zqK (h1:gQ l a m) (Ud:a<=i) (hr:i=m\/bj (l.getD m ah) (l.getD i ah) < 0) (tR:i < k) (En:k<=m) (u:NM l l1 m k):bj (l1.getD k ah) (l1.getD (k - 1) ah) < 0:=by
 rw [u,u,aD rfl,az (by omega),az (by omega)]
 rcases hr with hr|hr
 .omega
 .exact XP hr (xK h1 (i:=i) (j:=k - 1) Ud (by omega) (by omega))
end Go.Am
namespace Go.Am
variable {a n w:Nat} {l:aN}
theorem QI {P:Program} {T:bJ} {t:TypeId} {k:IntKind} {a b:Int}:cA P T .mul t (.int k a) (.int k b)=some (.int k (k.wrap (a*b))):=by
 have h1:((T.desc t).bind λd=>Gn d (.int k a) (.int k b))=none:=by
  cases T.desc t with
  |none=>rfl
  |some d=>cases d <;> rfl
 have h2:gB P (binOp .mul t (.int k a) (.int k b))=some (.int k (k.wrap (a*b))):=by
  simp [binOp,Op.intArith,FX]
 unfold cA
 have hf:r5 .mul (.int k a) (.int k b)=none:=rfl
 rw [hf]
 simp [h1,h2]
 exact ⟨⟨rfl,rfl⟩,rfl⟩
theorem YO {s:Nat} (h1:s % w=0) (h2:a % w=0) (h:s < a):s+w<=a:=by
 obtain ⟨i,rfl⟩:=Nat.dvd_of_mod_eq_zero h1
 obtain ⟨j,rfl⟩:=Nat.dvd_of_mod_eq_zero h2
 have fw:i < j:=Nat.lt_of_mul_lt_mul_left h
 rw [show w*i+w=w*(i+1) from (Nat.mul_succ w i).symm]
 exact Nat.mul_le_mul_left w fw
def Bl (l:aN) (w n a:Nat):Prop:=∀ s,s % w=0->s < a->gQ l s (min (s+w) n)
theorem Y1 {l':aN} (h:Bl l w n a) (ha:a % w=0) (hs:gQ l' a (min (a+w) n)) (ho:FZ l l' a (min (a+w) n)) (b:Nat) (hb:b<=a+w):Bl l' w n b:=by
 intro s h1 h2
 rcases Gh s a with g|g|g
 .have:=YO h1 ha g
  exact PD (h s h1 g) (λk _ _=>ho k (.inl (by omega)))
 .subst g
  exact hs
 .have:=YO ha h1 g
  omega
theorem zCu (h:Bl l w n n) (hw:n<=w):gQ l 0 n:=by
 intro k h1 h2
 exact h 0 (Nat.zero_mod _) (by omega) k h1 (by omega)
structure Dq (l:aN) (w n a:Nat):Prop where
 lo:Bl l (2*w) n a
 hi:∀ s,s % w=0->a<=s->s < n->gQ l s (min (s+w) n)
theorem zwg (h:Bl l w n n):Dq l w n 0:=⟨λs _ g=>absurd g (by omega),λs h1 _ h2=>h s h1 h2⟩
theorem zw7 (h:a % (2*w)=0):a % w=0/\(a+w) % w=0:=by
 obtain ⟨i,rfl⟩:=Nat.dvd_of_mod_eq_zero h
 have h1:2*w*i % w=0:=by rw [show 2*w*i=w*(2*i) by rw [yc 2 w,Nat.mul_assoc]];exact Nat.mul_mod_right _ _
 exact ⟨h1,by rw [Nat.add_mod_right];exact h1⟩
theorem zow (h:Dq l w n a) (hw:0 < w) (ha:a % (2*w)=0) (hn:a+w < n):gQ l a (a+w)/\gQ l (a+w) (min (a+2*w) n):=by
 have:=zw7 ha
 have g1:=h.hi a this.1 (by omega) (by omega)
 have g2:=h.hi (a+w) this.2 (by omega) hn
 rw [show min (a+w) n=a+w by omega] at g1
 rw [show min (a+w+w) n=min (a+2*w) n by omega] at g2
 exact ⟨g1,g2⟩
theorem zsj {l':aN} (h:Dq l w n a) (hw:0 < w) (ha:a % (2*w)=0) (hs:gQ l' a (min (a+2*w) n)) (hm:Mv l l' a (min (a+2*w) n)):Dq l' w n (min (a+2*w) n):=by
 refine ⟨Y1 h.lo ha hs hm.out _ (by omega),λs h1 h2 h3=>?_⟩
 exact PD (h.hi s h1 (by omega) h3) (λk _ _=>hm.out k (.inr (by omega)))
theorem zBg (h:Dq l w n a) (hw:0 < w) (ha:a % (2*w)=0) (hn:n<=a+w):Bl l (2*w) n n:=by
 intro s h1 h2
 rcases Gh s a with g|g|g
 .exact h.lo s h1 g
 .subst g
  have:=h.hi s (zw7 ha).1 (by omega) h2
  rw [show min (s+w) n=min (s+2*w) n by omega] at this
  exact this
 .have:=YO ha h1 g
  omega
theorem zBf (h:Dq l w n a) (hn:n<=a):Bl l (2*w) n n:=λs h1 h2=>h.lo s h1 (by omega)
end Go.Am
